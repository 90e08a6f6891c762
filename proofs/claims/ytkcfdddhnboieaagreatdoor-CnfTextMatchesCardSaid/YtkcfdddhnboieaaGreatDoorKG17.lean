/-
  Part 17 of the proof of cnfTextMatches_card: walks and lemmas.
-/
import Derived.Test.YtkcfdddhnboieaaGreatDoorKG16
import Derived.Lib.RowBridge
import Derived.Test.YtkcfdddhnboieaaGreatDoorKG5
set_option linter.unusedVariables false
set_option linter.unusedSimpArgs false
section
set_option maxRecDepth 100000
namespace Go.Proofs.YtkcfdddhnboieaaGreatDoor.NState
open Go Go.RowKit Go.Shelf Go.Sort QW.PrintWords QW.PrintLast QW.PrintMore NMap
theorem heap_putRow_same {α : Type} [Inhabited α] (enc : α → Value) (w : World) (g off : Nat) (d : Array α) {cs : Array Value} {e : TypeId} {fr : Nat × Nat} (h : w.heap[g]? = some (.cells cs e fr)) : (putRow enc w g off d).heap[g]? = some (.cells (putCells enc off d cs) e fr) := by
 simp [putRow, mapBlock, Array.getElem?_modify, h, onCells]
theorem heap_putRow_other {α : Type} [Inhabited α] (enc : α → Value) (w : World) (g off : Nat) (d : Array α) {k : Nat} (h : k ≠ g) : (putRow enc w g off d).heap[k]? = w.heap[k]? := by
 simp only [putRow, mapBlock, Array.getElem?_modify]
 rw [if_neg (fun e => h e.symm)]
theorem size_putRow' {α : Type} [Inhabited α] (enc : α → Value) (w : World) (g off : Nat) (d : Array α) : (putRow enc w g off d).heap.size = w.heap.size := by
 simp [putRow, mapBlock]
theorem grown_putRow {α : Type} [Inhabited α] (enc : α → Value) (w : World) (g off q : Nat) (d : Array α) (os : Array Obj) : w.grownBy (grow (putRow enc (Sort.ahead w q) g off d) os) (some g) := by
 refine ⟨rfl, rfl, rfl, ?_, fun k hk hne => ?_⟩
 ·rw [size_grow, size_putRow']; exact Nat.le_add_right _ _
 ·have hne' : k ≠ g := fun e => hne (congrArg some e)
  rw [heap_grow_old _ _ (by rw [size_putRow']; exact hk), heap_putRow_other _ _ _ _ _ hne']; rfl
theorem R_putRow {α : Type} [Inhabited α] {enc : α → Value} {h1 : ∀ x, (enc x).oneCell' = true} {base g c q : Nat} {e : Nat} {ok : Nat → Prop} {w : World} {xs ys : List α} {os : Array Obj} (h : (Kd.scalar enc h1).R e w base ok (.slice (some ⟨g, 0, none⟩) xs.length c) xs) (hl : ys.length = xs.length) :
  (Kd.scalar enc h1).R e (grow (putRow enc (Sort.ahead w q) g 0 ys.toArray) os) base ok (.slice (some ⟨g, 0, none⟩) xs.length c) ys := by
 have ho := Kd.own_of_R (enc := enc) h
 refine Kd.R_of_own (enc := enc) ?_ h.1
 rcases ho.2 with ⟨he, _⟩ | ⟨g', cap, cur, he, hg, hh, hnc, hcm, hcs, ht⟩
 ·cases he
 ·cases he
  rw [hl]
  refine ⟨by simp [encs, hl], .inr ⟨g, c, putCells enc 0 ys.toArray cur, rfl, hg, ?_, hnc, hcm, ?_, ?_⟩⟩
  ·have hlt : g < w.heap.size := (Array.getElem?_eq_some_iff.1 hh).1
   rw [heap_grow_old _ _ (by rw [size_putRow']; exact hlt)]
   exact heap_putRow_same _ _ _ _ _ hh
  ·simpa [putCells] using hcs
  ·have hcl : xs.length ≤ cur.size := by
    have := congrArg List.length ht
    rw [List.length_take, Array.length_toList] at this
    simp only [encs, List.length_map] at this
    omega
   refine List.ext_getElem (by simp [encs, putCells]; omega) ?_
   intro i h1 h2
   simp only [encs, List.length_map] at h2
   rw [List.getElem_take, Array.getElem_toList]
   simp only [putCells, Array.getElem_mapIdx, encs, List.getElem_map]
   rw [if_pos (by simp; omega)]
   simp [h2]
theorem holds_of_R {α : Type} [Inhabited α] {enc : α → Value} {h1 : ∀ x, (enc x).oneCell' = true} {base g c e : Nat} {ok : Nat → Prop} {w : World} {xs : List α} (h : (Kd.scalar enc h1).R e w base ok (.slice (some ⟨g, 0, none⟩) xs.length c) xs) : Holds enc w g 0 xs.toArray := by
 intro j hj
 have hj' : j < xs.length := by simpa using hj
 obtain ⟨h1, h2⟩ := Kd.R_cell (default : α) h (j : Int) (Int.natCast_nonneg j) (by omega)
 simp only [Int.toNat_natCast] at h1 h2
 refine ⟨?_, by rw [Nat.zero_add]; exact h2⟩
 rw [Nat.zero_add, h1]
 congr 2
 simp [rdOf, List.getD, hj']
theorem R_block {α : Type} {enc : α → Value} {h1 : ∀ x, (enc x).oneCell' = true} {base e : Nat} {ok : Nat → Prop} {w : World} {v : Value} {xs : List α} (h : (Kd.scalar enc h1).R e w base ok v xs) (hp : 0 < xs.length) : ∃ g c, v = .slice (some ⟨g, 0, none⟩) xs.length c ∧ g < w.heap.size ∧ xs.length ≤ c := by
 obtain ⟨inner, ho⟩ := Kd.R_own h
 rcases ho.2 with ⟨_, h0⟩ | ⟨g, cap, cur, rfl, hg, hh, hnc, _⟩
 ·have hs : (Kd.scalar enc h1).sz = 1 := rfl
  omega
 ·exact ⟨g, cap, rfl, (Array.getElem?_eq_some_iff.1 hh).1, hnc⟩
theorem sortRow_calls {base : Nat} {ok : Nat → Prop} {W : World} {v : Value} {xs : List Int} (h : Kd.R (Kd.int .i64) 92 W base ok v xs) (hlen : xs.length < 4611686018427387904) :
  Calls Tryz.prog 136 #[v, .func (.func 108) #[] #[]] W fun e W' => e = .returned (.tuple #[]) ∧ Kd.R (Kd.int .i64) 92 W' base ok v (xs.mergeSort leI) ∧ W.grownBy W' v.ownBlock := by
 by_cases hp : 0 < xs.length
 ·obtain ⟨g, c, rfl, hg, hc⟩ := R_block h hp
  refine (sortLit_calls g c xs W (holds_of_R h) hg hlen).mono ?_
  rintro e W' ⟨rfl, q, os, rfl⟩
  exact ⟨rfl, R_putRow h (by simp), grown_putRow (Value.int .i64) W g 0 q _ os⟩
 ·obtain ⟨A, c, rfl⟩ := Kd.R_slice h
  have h0 : xs = [] := List.eq_nil_of_length_eq_zero (by omega)
  subst h0
  refine (sortLit_none A c W).mono ?_
  rintro e W' ⟨rfl, rfl⟩
  exact ⟨rfl, by simpa using h, ⟨rfl, rfl, rfl, Nat.le_refl _, fun _ _ _ => rfl⟩⟩
end Go.Proofs.YtkcfdddhnboieaaGreatDoor.NState
end
section
set_option maxHeartbeats 4000000
set_option maxRecDepth 100000
namespace Go.Proofs.YtkcfdddhnboieaaGreatDoor.NState
open Go Go.RowKit Go.Shelf QW.PrintWords QW.PrintLast QW.PrintMore NMap
def clauseS (l : List Int) : List Int := compN 0 (fun x y => cmpI x y == 0) (l.mergeSort leI) (l.mergeSort leI).length
theorem below_grownG {w w1 w2 : World} {v : Value} {T : TypeId} {d : Kd Int} {ok : Nat → Prop} {xs : List Int} (h : Below w.heap.size w w1) (hg : w1.grownBy w2 v.ownBlock) (hr : d.R T w1 w.heap.size ok v xs) : Below w.heap.size w w2 :=
 h.grown hg h.size (fun k hk => ((Kd.R_bound hr).1 k hk).2.1)
theorem below_grow (w : World) (k : Nat) (os : Array Obj) : Below w.heap.size w (Sort.grow (w.drewN k) os) := by
 refine ⟨rfl, rfl, rfl, ?_, fun i hi => ?_⟩
 ·rw [Sort.size_grow]; exact Nat.le_add_right _ _
 ·exact Sort.heap_grow_old (w.drewN k) os hi
theorem sortedEq_calls (B : Nat) (x y : Int) (w : World) (hc : w.cell? ⟨B, 0, none⟩ = some (.func (.func 108) #[] #[])) :
  Calls Tryz.prog 138 #[.int .i64 x, .int .i64 y, .pointer (some ⟨B, 0, none⟩)] w fun e w' => e = .returned (.bool (cmpI x y == 0)) ∧ Below w.heap.size w w' := by
 have hcc := compare_calls x y w
 generalize cmpI x y = r at hcc ⊢
 have he := enters_compare #[.int .i64 x, .int .i64 y] w
 go_enter Tryz.func138, Tryz.ntmps138
 go_wp2_with (refine hcc.mono ?_; rintro e w' ⟨rfl, q, os, rfl⟩)
 go_ret
 exact ⟨rfl, below_grow w q os⟩
theorem enters_sortedEq (args : Array Value) (w : World) : (callFunc 138 args).run Tryz.prog w = .ok (.enter 138 args) w := enters_of Tryz.func138 (by kernel_rfl) rfl args w
theorem enters_wrap (args : Array Value) (w : World) : (callFunc 58 args).run Tryz.prog w = .ok (.enter 58 args) w := enters_of Tryz.func58 (by kernel_rfl) rfl args w
def SortedPost (w : World) (T : TypeId) (r : List Int) (e : Ending) (w' : World) : Prop := ∃ v, e = .returned v ∧ Kd.R (Kd.int .i64) T w' w.heap.size (fun _ => True) v r ∧ Below w.heap.size w w'
theorem sortedLit_calls (A : Option Addr) (c : Nat) (l : List Int) (w : World) (hC : Kd.C (Kd.int .i64) w A l.length l) (hlen : l.length ≤ 35184372088832) :
  Calls Tryz.prog 107 #[.slice A l.length c, .func (.func 58) #[] #[], .func (.func 108) #[] #[]] w (SortedPost w 92 (clauseS l)) := by
 have HC := Az.mk hC
 have HL := Az.mk hlen
 have hn0 : 0 ≤ (l.length : Int) := by omega
 clear hC hlen
 have HB0 : Az (Below w.heap.size w (w.alloc (.cells #[.func (.func 108) #[] #[]] 144))) := ⟨bwa (Below.refl _ _) _⟩
 have BK0 := Az.mk (blk_new w (.cells #[.func (.func 108) #[] #[]] 144))
 go_enter Tryz.func107, Tryz.ntmps107
 go_wp2_with (at_make; refine Kd.R_make (Kd.int .i64) (w0 := w) w.heap.size 92 rfl rfl 83 _ _ rfl (l.length : Int) rfl rfl Tryz.underlying83 (.int .i64 0) 8 compactLit_info rfl (by decide) (by decide) 0 (ok := fun k => w.heap.size + 1 ≤ k) (okp := fun _ => False) ?zero (fun _ h => h.elim) ?fresh ?pos ?len HB0.out HB0.out.size ?_; (case zero => exact rfl); (case fresh => simp); (case pos => exact hn0); (case len => have := HL.out; rw [Int.toNat_natCast]; omega); intro v3 w3 hr hb hg hat; rw [Int.toNat_natCast] at hr; have HV := Az.mk hr; have HB3 := Az.mk hb; have BK3 := Az.mk (bkg BK0.out hg (fun h => by cases h)); clear hr hb hg hat)
 obtain ⟨Av, cv, hv3⟩ := Kd.R_slice HV.out
 rw [List.length_replicate] at hv3
 subst hv3
 clear HB0 BK0
 go_loopw [15] (fun v15 wr => ∃ (j : Nat) (cur : List Int), v15 = .int .i64 j ∧ j ≤ l.length ∧ Az (cur.length = l.length ∧ cur.take j = l.take j) ∧ Az (Kd.R (Kd.int .i64) 92 wr w.heap.size (fun k => w.heap.size + 1 ≤ k) (.slice Av l.length cv) cur) ∧ Az (Below w.heap.size w wr) ∧ Az (wr.heap[w.heap.size]? = some (.cells #[.func (.func 108) #[] #[]] 144 (0, 0)))) (fun v15 _ => l.length - (intOf v15).toNat)
 case atStart => exact ⟨0, _, rfl, Nat.zero_le _, ⟨by simp, by simp⟩, HV, HB3, BK3⟩
 case round =>
  clear HV HB3 BK3
  obtain ⟨j, cur, rfl, hj, HCU, HV, HB, BK⟩ := hrel
  by_cases hlt : j < l.length
  ·obtain ⟨ad, rfl, hc⟩ := Kd.at_int HC.out (j : Int) (by omega) (by omega)
   replace hc := (HB.out.cell (World.block_lt_of_cell? w _ hc)).trans hc
   have HX : Az (rd l j = l[j]) := ⟨by simp [rd, List.getD, hlt]⟩
   generalize rd l j = x at HX hc
   simp only [Int.toNat_natCast] at hc
   obtain ⟨g, cg, eo, hgb, hgl, cl⟩ := Kd.R_form HV.out (by rw [HCU.out.1]; omega)
   injection eo with ea en ec
   subst ea
   clear en ec cl
   have HGB : Az (w.heap.size + 1 ≤ g) := ⟨HV.out.1 g rfl⟩
   obtain ⟨hz, hzf⟩ := Kd.R_celln 0 HV.out (j : Int) (by omega) (by omega)
   simp only [Int.toNat_natCast] at hz hzf
   generalize rdOf 0 cur (j : Int) = old at hz
   have he := enters_wrap #[.int .i64 x] wr
   go_wp2_with (refine (wrap_calls x _).mono ?_; rintro e w' ⟨rfl, q, rfl⟩)
   have HP := Az.mk (Kd.R_putg (Kd.R_drewN HV.out q) (j : Int) x)
   simp only [Int.toNat_natCast] at HP
   go_roundw
   case rel =>
    refine ⟨j + 1, cur.set j x, by rw [wrap_succ hlt (by have := HL.out; omega)], by omega, ⟨by rw [List.length_set]; exact HCU.out.1, ?_⟩, ⟨HP.out.1⟩, ⟨(below_drewN (n := q) HB.out).grown HP.out.2 (by simpa using HB.out.size) (fun k hk => by cases hk; have := HGB.out; omega)⟩, ⟨bkg (bkN BK.out q) HP.out.2 (by intro h; have := HGB.out; injection h; omega)⟩⟩
    rw [List.take_succ_eq_append_getElem (by rw [List.length_set, HCU.out.1]; exact hlt), List.getElem_set_self, List.take_set_of_le (Nat.le_refl _), List.take_succ_eq_append_getElem hlt, HCU.out.2, HX.out]
   case measure => exact meas_x hlt (wrap_succ hlt (by have := HL.out; omega))
  ·have hjl : j = l.length := by omega
   subst hjl
   have hcur : cur = l := by
    have := HCU.out.2
    rwa [List.take_length, ← HCU.out.1, List.take_length] at this
   subst hcur
   have hx0 : wr.cell? ⟨w.heap.size, 0, none⟩ = some (.func (.func 108) #[] #[]) := (bkc BK.out 0).trans rfl
   have HSZ : Az (w.heap.size < wr.heap.size) := ⟨(Array.getElem?_eq_some_iff.1 BK.out).1⟩
   go_wp2_with fail
   refine (sortRow_calls HV.out (by have := HL.out; omega)).mono ?_
   rintro e w4 ⟨rfl, hr4, hg4⟩
   have hne : some w.heap.size ≠ (Value.slice Av cur.length cv).ownBlock := fun h => by have := HV.out.1 _ h.symm; omega
   have BK4 := Az.mk (bkg BK.out hg4 hne)
   have HB4 := Az.mk (below_grownG HB.out hg4 HV.out)
   have HV4 := Az.mk hr4
   have HNE := Az.mk hne
   clear hx0 hr4 hg4 hne HV HB BK HSZ
   have hx0 : w4.cell? ⟨w.heap.size, 0, none⟩ = some (.func (.func 108) #[] #[]) := (bkc BK4.out 0).trans rfl
   have hel : (cur.mergeSort leI).length = cur.length := List.length_mergeSort _
   go_wp2_with fail
   have hcp := compactLit_calls (enc := Value.int .i64) (h1 := fun _ => rfl) (0 : Int) rfl (fun x y => cmpI x y == 0) 138 #[.pointer (some ⟨w.heap.size, 0, none⟩)] enters_sortedEq HV4.out (by rw [hel]; have := HL.out; omega) (fun W' x y hg _ _ => sortedEq_calls w.heap.size x y W' ((bkc (bkg BK4.out hg HNE.out) 0).trans rfl))
   refine hcp.mono ?_
   rintro e w5 ⟨v5, rfl, hr5, hg5⟩
   go_wp2
   go_ret
   exact ⟨_, rfl, Kd.R_mono hr5 (fun _ _ => trivial), below_grownG HB4.out hg5 HV4.out⟩
end Go.Proofs.YtkcfdddhnboieaaGreatDoor.NState
end
section
set_option maxHeartbeats 4000000
set_option maxRecDepth 100000
namespace Go.Proofs.YtkcfdddhnboieaaGreatDoor.NState
open Go Go.RowKit Go.Shelf Go.Sort Go.Lib QW.PrintWords QW.PrintLast QW.PrintMore NMap
theorem clauseOf_calls (A : Option Addr) (c : Nat) (l : List Int) (w : World) (hC : Kd.C (Kd.int .i64) w A l.length l) (hlen : l.length ≤ 35184372088832) :
  Calls Tryz.prog 50 #[.slice A l.length c] w (SortedPost w 92 (clauseS l)) := by
 have hs := sortedLit_calls A c l w hC hlen
 generalize clauseS l = r at hs ⊢
 go_enter Tryz.func50, Tryz.ntmps50
 go_wp2_with fail
 refine hs.mono ?_
 rintro e w1 ⟨v, rfl, hr, hb⟩
 go_wp2
 go_ret
 exact ⟨_, rfl, hr, hb⟩
def cmpL : List Int → List Int → Int
 | [], [] => 0
 | [], _ :: _ => -1
 | _ :: _, [] => 1
 | x :: xs, y :: ys => if cmpI x y ≠ 0 then cmpI x y else cmpL xs ys
theorem grow_drewN (w : World) (a b : Nat) (o1 o2 : Array Obj) : grow ((grow (w.drewN a) o1).drewN b) o2 = grow (w.drewN (a + b)) (o1 ++ o2) := by
 simp [World.drewN, grow, Nat.add_assoc]
theorem compareFunc_calls (A1 : Option Addr) (c1 : Nat) (l1 : List Int) (A2 : Option Addr) (c2 : Nat) (l2 : List Int) (w : World) (h1 : Kd.C (Kd.int .i64) w A1 l1.length l1) (h2 : Kd.C (Kd.int .i64) w A2 l2.length l2) :
  Calls Tryz.prog 109 #[.slice A1 l1.length c1, .slice A2 l2.length c2, .func (.func 108) #[] #[]] w fun e w' => e = .returned (.int .i64 (cmpL l1 l2)) ∧ ∃ q os, w' = grow (w.drewN q) os := by
 have H1 := Az.mk h1
 have H2 := Az.mk h2
 have HL1 := Az.mk (Kd.C_max h1)
 clear h1 h2
 go_enter Tryz.func109, Tryz.ntmps109
 go_wp2
 go_loopw [13] (fun v13 wr => ∃ (j q : Nat) (os : Array Obj), v13 = .int .i64 j ∧ j ≤ l1.length ∧ j ≤ l2.length ∧ Az (cmpL l1 l2 = cmpL (l1.drop j) (l2.drop j)) ∧ Az (wr = grow (w.drewN q) os)) (fun v13 _ => l1.length - (intOf v13).toNat)
 case atStart => exact ⟨0, 0, #[], rfl, Nat.zero_le _, Nat.zero_le _, ⟨rfl⟩, ⟨by rw [grow_empty]; rfl⟩⟩
 case round =>
  obtain ⟨j, q, os, rfl, hj, hj2, HA, HW⟩ := hrel
  by_cases hlt : j < l1.length
  ·obtain ⟨ad1, rfl, hc1⟩ := Kd.at_int H1.out (j : Int) (by omega) (by omega)
   replace hc1 := ((below_grow w q os).cell (World.block_lt_of_cell? w _ hc1)).trans hc1
   rw [← HW.out] at hc1
   rw [drop_rd hlt] at HA
   simp only [Int.toNat_natCast] at hc1
   by_cases hlt2 : j < l2.length
   ·obtain ⟨ad2, rfl, hc2⟩ := Kd.at_int H2.out (j : Int) (by omega) (by omega)
    replace hc2 := ((below_grow w q os).cell (World.block_lt_of_cell? w _ hc2)).trans hc2
    rw [← HW.out] at hc2
    rw [drop_rd hlt2] at HA
    simp only [Int.toNat_natCast] at hc2
    generalize rd l1 j = x at HA hc1
    generalize rd l2 j = y at HA hc2
    have hlb : ¬ l2.length ≤ j := by omega
    have he := enters_compare #[.int .i64 x, .int .i64 y] wr
    have hcc := compare_calls x y wr
    have HD : Az (cmpL l1 l2 = if cmpI x y ≠ 0 then cmpI x y else cmpL (l1.drop (j + 1)) (l2.drop (j + 1))) := ⟨by rw [HA.out, cmpL]⟩
    clear HA
    generalize cmpI x y = r at hcc HD
    by_cases hr : r = 0
    ·subst hr
     rw [if_neg (by simp)] at HD
     go_wp2_with (refine hcc.mono ?_; rintro e w' ⟨rfl, q2, os2, rfl⟩)
     go_roundw
     case rel => exact ⟨j + 1, q + q2, os ++ os2, by rw [wrap_succ hlt HL1.out], by omega, by omega, HD, ⟨by rw [HW.out, grow_drewN]⟩⟩
     case measure => exact meas_x hlt (wrap_succ hlt HL1.out)
    ·rw [if_pos hr] at HD
     have hrb : (r != 0) = true := by simpa using hr
     clear hr
     go_wp2_with (refine hcc.mono ?_; rintro e w' ⟨rfl, q2, os2, rfl⟩)
     go_ret
     exact ⟨by rw [HD.out]; rfl, q + q2, os ++ os2, by rw [HW.out, grow_drewN]⟩
   ·have hjl : j = l2.length := by omega
    have hlb : l2.length ≤ j := by omega
    rw [hjl, List.drop_length, ← hjl] at HA
    have HA2 : Az (cmpL l1 l2 = 1) := ⟨by rw [HA.out, cmpL]⟩
    clear hjl HA
    go_wp2
    go_ret
    exact ⟨by rw [HA2.out]; rfl, q, os, HW.out⟩
  ·have hjl : j = l1.length := by omega
   rw [hjl, List.drop_length, ← hjl] at HA
   by_cases hlt2 : l1.length < l2.length
   ·have HD : Az (cmpL l1 l2 = -1) := ⟨by
     rw [HA.out, drop_rd (by omega), cmpL]⟩
    clear HA
    go_wp2
    go_ret
    exact ⟨by rw [HD.out]; rfl, q, os, HW.out⟩
   ·have HD : Az (cmpL l1 l2 = 0) := ⟨by
     rw [HA.out, List.drop_of_length_le (by omega), cmpL]⟩
    clear HA
    go_wp2
    go_ret
    exact ⟨by rw [HD.out]; rfl, q, os, HW.out⟩
theorem compareC_calls (A1 : Option Addr) (c1 : Nat) (l1 : List Int) (A2 : Option Addr) (c2 : Nat) (l2 : List Int) (w : World) (h1 : Kd.C (Kd.int .i64) w A1 l1.length l1) (h2 : Kd.C (Kd.int .i64) w A2 l2.length l2) :
  Calls Tryz.prog 51 #[.slice A1 l1.length c1, .slice A2 l2.length c2] w fun e w' => e = .returned (.int .i64 (cmpL l1 l2)) ∧ ∃ q os, w' = grow (w.drewN q) os := by
 have hs := compareFunc_calls A1 c1 l1 A2 c2 l2 w h1 h2
 generalize cmpL l1 l2 = r at hs ⊢
 go_enter Tryz.func51, Tryz.ntmps51
 go_wp2_with fail
 refine hs.mono ?_
 rintro e w1 ⟨rfl, q, os, rfl⟩
 go_wp2
 go_ret
 exact ⟨rfl, q, os, rfl⟩
theorem enters_compareC (args : Array Value) (w : World) : (callFunc 51 args).run Tryz.prog w = .ok (.enter 51 args) w := enters_of Tryz.func51 (by kernel_rfl) rfl args w
theorem enters_clauseOf (args : Array Value) (w : World) : (callFunc 50 args).run Tryz.prog w = .ok (.enter 50 args) w := enters_of Tryz.func50 (by kernel_rfl) rfl args w
end Go.Proofs.YtkcfdddhnboieaaGreatDoor.NState
end
section
set_option maxRecDepth 100000
namespace Go.Proofs.YtkcfdddhnboieaaGreatDoor.NState
open Go Go.RowKit Go.Shelf QW.PrintWords QW.PrintLast QW.PrintMore NMap
open Go.Sort (SWO PermIn SortedIn putRow Holds grow)
theorem cmpI_neg (x y : Int) : cmpI y x = -cmpI x y := by
 unfold cmpI
 by_cases h1 : varI x < varI y
 ·have h2 : ¬ varI y < varI x := by omega
  simp [h1, h2]
 ·by_cases h2 : varI y < varI x
  ·simp [h1, h2]
  ·by_cases h3 : y < x
   ·have h4 : ¬ x < y := by omega
    simp [h1, h2, h3, h4]
   ·by_cases h4 : x < y <;> simp [h1, h2, h3, h4]
theorem cmpI_zero {x y : Int} : cmpI x y = 0 ↔ x = y := by
 constructor
 ·intro h
  refine totI x y ?_ ?_
  ·unfold ltOf; simp [h]
  ·unfold ltOf; rw [cmpI_neg, h]; simp
 ·rintro rfl
  unfold cmpI
  simp
theorem cmpI_trans {x y z : Int} (h1 : cmpI x y < 0) (h2 : cmpI y z < 0) : cmpI x z < 0 := by
 have := swoI.trans x y z (by unfold ltOf; simpa using h1) (by unfold ltOf; simpa using h2)
 unfold ltOf at this
 simpa using this
theorem cmpL_neg : ∀ x y : List Int, cmpL y x = -cmpL x y
 | [], [] => by simp [cmpL]
 | [], _ :: _ => by simp [cmpL]
 | _ :: _, [] => by simp [cmpL]
 | a :: x, b :: y => by
  rw [cmpL, cmpL, cmpI_neg a b, cmpL_neg x y]
  by_cases h : cmpI a b = 0
  ·simp [h]
  ·have h' : ¬ -cmpI a b = 0 := by omega
   simp [h, h']
theorem cmpL_zero : ∀ x y : List Int, cmpL x y = 0 ↔ x = y
 | [], [] => by simp [cmpL]
 | [], _ :: _ => by simp [cmpL]
 | _ :: _, [] => by simp [cmpL]
 | a :: x, b :: y => by
  rw [cmpL]
  have ih := cmpL_zero x y
  have h0 := cmpI_zero (x := a) (y := b)
  by_cases h : cmpI a b = 0
  ·rw [if_neg (by simpa using h), ih, h0.1 h]; simp
  ·rw [if_pos h]
   constructor
   ·intro h'; exact absurd h' h
   ·intro h'; injection h' with h1 _; exact absurd (h0.2 h1) h
theorem cmpL_trans : ∀ x y z : List Int, cmpL x y < 0 → cmpL y z < 0 → cmpL x z < 0
 | [], [], _, h1, _ => by simp [cmpL] at h1
 | _ :: _, [], _, h1, _ => by simp [cmpL] at h1
 | _, _ :: _, [], _, h2 => by simp [cmpL] at h2
 | [], _ :: _, _ :: _, _, _ => by simp [cmpL]
 | a :: x, b :: y, c :: z, h1, h2 => by
  rw [cmpL] at h1 h2 ⊢
  have ih := cmpL_trans x y z
  by_cases e1 : cmpI a b = 0
  ·rw [if_neg (by simpa using e1)] at h1
   rw [cmpI_zero.1 e1]
   by_cases e2 : cmpI b c = 0
   ·rw [if_neg (by simpa using e2)] at h2 ⊢
    exact ih h1 h2
   ·rw [if_pos e2] at h2 ⊢
    exact h2
  ·rw [if_pos e1] at h1
   by_cases e2 : cmpI b c = 0
   ·rw [← cmpI_zero.1 e2, if_pos e1]; exact h1
   ·rw [if_pos e2] at h2
    have h3 := cmpI_trans h1 h2
    rw [if_pos (by omega)]; exact h3
structure Cl where
 a : Option Addr
 c : Nat
 l : List Int
instance : Inhabited Cl := ⟨⟨none, 0, []⟩⟩
def encCl (x : Cl) : Value := .slice x.a x.l.length x.c
theorem encCl1 (x : Cl) : (encCl x).oneCell' = true := rfl
def InC (W : World) (base : Nat) (x : Cl) : Prop := Kd.R (Kd.int .i64) 92 W base (fun _ => True) (encCl x) x.l
abbrev kCl : Kd Cl := Kd.scalar encCl encCl1
theorem InC.reads {W : World} {base : Nat} {x : Cl} (h : InC W base x) : Kd.C (Kd.int .i64) W x.a x.l.length x.l := (Kd.R_reads' h).2.2
theorem InC.below {W W' : World} {base : Nat} {x : Cl} (h : InC W base x) (hb : Below W.heap.size W W') : InC W' base x := Kd.R_below h hb
theorem InC.over {W W' : World} {base b' : Nat} {ok : Nat → Prop} {x : Cl} {v : Value} {xs : List Cl} (h : InC W base x) (hr : kCl.R 84 W b' ok v xs) (hg : W.grownBy W' v.ownBlock) : InC W' base x :=
 Kd.R_over' h (Kd.R_typed hr) (by intro q hq; simp only [List.mem_cons] at hq; rcases hq with rfl | hq; decide; cases hq) hg
abbrev ClI (W : World) (base : Nat) := { x : Cl // InC W base x }
theorem InC.zero (W : World) (base : Nat) : InC W base ⟨none, 0, []⟩ := Kd.R_nil _ _ _ _ _
instance (W : World) (base : Nat) : Inhabited (ClI W base) := ⟨⟨⟨none, 0, []⟩, InC.zero W base⟩⟩
def cmpS {W : World} {base : Nat} (x y : ClI W base) : Int := cmpL x.1.l y.1.l
theorem ltS {W : World} {base : Nat} (x y : ClI W base) : ltOf cmpS x y = decide (cmpL x.1.l y.1.l < 0) := rfl
theorem swoS (W : World) (base : Nat) : SWO (ltOf (cmpS (W := W) (base := base))) where
 irrefl x := by rw [ltS, (cmpL_zero _ _).2 rfl]; rfl
 trans x y z h1 h2 := by
  rw [ltS] at *
  exact decide_eq_true (cmpL_trans _ _ _ (of_decide_eq_true h1) (of_decide_eq_true h2))
 ntrans x y z h1 h2 := by
  rw [ltS] at *
  refine decide_eq_false (fun h3 => ?_)
  have k1 : ¬ cmpL x.1.l y.1.l < 0 := of_decide_eq_false h1
  have k2 : ¬ cmpL y.1.l z.1.l < 0 := of_decide_eq_false h2
  have n1 := cmpL_neg x.1.l y.1.l
  have n2 := cmpL_neg y.1.l z.1.l
  by_cases e1 : cmpL x.1.l y.1.l = 0
  ·rw [(cmpL_zero _ _).1 e1] at h3; exact k2 h3
  ·have h4 := cmpL_trans _ _ _ (show cmpL y.1.l x.1.l < 0 by omega) h3
   exact k2 h4
def leC (x y : List Int) : Bool := decide (cmpL x y ≤ 0)
theorem leC_trans (x y z : List Int) (h1 : leC x y = true) (h2 : leC y z = true) : leC x z = true := by
 unfold leC at *
 have k1 : cmpL x y ≤ 0 := of_decide_eq_true h1
 have k2 : cmpL y z ≤ 0 := of_decide_eq_true h2
 refine decide_eq_true ?_
 by_cases e1 : cmpL x y = 0
 ·rw [(cmpL_zero _ _).1 e1]; exact k2
 ·by_cases e2 : cmpL y z = 0
  ·rw [← (cmpL_zero _ _).1 e2]; exact k1
  ·have := cmpL_trans x y z (by omega) (by omega); omega
theorem leC_total (x y : List Int) : (leC x y || leC y x) = true := by
 unfold leC
 have := cmpL_neg x y
 by_cases h : cmpL x y ≤ 0
 ·simp [h]
 ·have : cmpL y x ≤ 0 := by omega
  simp [this]
theorem leC_anti {x y : List Int} (h1 : leC x y = true) (h2 : leC y x = true) : x = y := by
 unfold leC at *
 have k1 : cmpL x y ≤ 0 := of_decide_eq_true h1
 have k2 : cmpL y x ≤ 0 := of_decide_eq_true h2
 have := cmpL_neg x y
 exact (cmpL_zero x y).1 (by omega)
theorem sorted_cls {ls ls' : List (List Int)} (hp : ls'.Perm ls) (hs : ls'.Pairwise fun x y => leC x y = true) : ls' = ls.mergeSort leC :=
 List.Perm.eq_of_pairwise (le := fun x y => leC x y = true) (fun _ _ _ _ h1 h2 => leC_anti h1 h2) hs (List.pairwise_mergeSort leC_trans leC_total ls) (hp.trans (List.mergeSort_perm _ _).symm)
theorem R_encs {α β : Type} {enc : α → Value} {h1 : ∀ x, (enc x).oneCell' = true} {enc' : β → Value} {h1' : ∀ x, (enc' x).oneCell' = true} {e base : Nat} {w : World} {ok : Nat → Prop} {v : Value} {xs : List α} {ys : List β} (h : (Kd.scalar enc h1).R e w base ok v xs) (he : encs enc' ys = encs enc xs) : (Kd.scalar enc' h1').R e w base ok v ys := by
 have hl : ys.length = xs.length := by
  have := congrArg List.length he
  simpa [encs] using this
 have ho := Kd.own_of_R (enc := enc) h
 exact Kd.R_of_own (enc := enc') (by rw [he, hl]; exact ho) h.1
def encI' {W : World} {base : Nat} (x : ClI W base) : Value := encCl x.1
theorem encI1 {W : World} {base : Nat} (x : ClI W base) : (encI' x).oneCell' = true := rfl
theorem sortCls_calls {base b' : Nat} {ok : Nat → Prop} {W : World} {v : Value} {xs : List Cl} (h : kCl.R 84 W b' ok v xs) (hin : ∀ x ∈ xs, InC W base x) (hlen : xs.length < 4611686018427387904) :
  Calls Tryz.prog 104 #[v, .func (.func 51) #[] #[]] W fun e W' => e = .returned (.tuple #[]) ∧ ∃ xs' : List Cl, kCl.R 84 W' b' ok v xs' ∧ xs'.Perm xs ∧ xs'.map Cl.l = (xs.map Cl.l).mergeSort leC ∧ W.grownBy W' v.ownBlock := by
 by_cases hp : 0 < xs.length
 ·obtain ⟨g, c, rfl, hg, hc⟩ := R_block h hp
  obtain ⟨ys, hys⟩ : ∃ ys : List (ClI W base), ys.map Subtype.val = xs := ⟨xs.pmap Subtype.mk hin, by rw [List.map_pmap]; simp⟩
  have hyl : ys.length = xs.length := by rw [← hys, List.length_map]
  have hR : (Kd.scalar encI' encI1).R 84 W b' ok (.slice (some ⟨g, 0, none⟩) ys.length c) ys := by
   rw [hyl]
   refine R_encs h ?_
   rw [← hys]
   simp [encs, encI']
  have hcmp : CmpLays1 Tryz.prog 51 #[] (encI' (W := W) (base := base)) cmpS g 0 ys.toArray.size W := by
   intro m os dk hdk x y
   have hgr := grown_putRow (encI' (W := W) (base := base)) W g 0 m dk os
   have hx := (InC.over x.2 h hgr).reads
   have hy := (InC.over y.2 h hgr).reads
   exact compareC_calls _ _ _ _ _ _ _ hx hy
  have hcall := Any.slices_SortFunc Tryz.sortCls encI' encI1 cmpS (swoS W base) 51 #[] g 0 c ys.toArray W enters_compareC hcmp (holds_of_R hR) hg (by simpa [hyl] using hlen)
  rw [show ys.toArray.size = xs.length by simp [hyl]] at hcall
  refine hcall.mono ?_
  rintro e W' ⟨rfl, d', q, os, hpm, hso, rfl⟩
  obtain ⟨hds, _, hperm⟩ := hpm
  have hds' : d'.size = xs.length := by rw [hds]; simp [hyl]
  have e1 : d'.extract 0 xs.length = d' := by rw [← hds']; exact Array.extract_size
  have e2 : ys.toArray.extract 0 xs.length = ys.toArray := by rw [← hyl]; exact Array.extract_size
  rw [e1, e2] at hperm
  have hperm' : d'.toList.Perm ys := by simpa using hperm
  have hpx : (d'.toList.map Subtype.val).Perm xs := by rw [← hys]; exact hperm'.map _
  refine ⟨rfl, d'.toList.map Subtype.val, ?_, hpx, ?_, grown_putRow (encI' (W := W) (base := base)) W g 0 q d' os⟩
  ·have hr2 := R_putRow (q := q) (os := os) (ys := d'.toList) hR (by simp [hds', hyl])
   rw [hyl] at hr2
   refine R_encs hr2 ?_
   simp [encs, encI']
  ·refine sorted_cls (hpx.map _) ?_
   rw [List.map_map, List.pairwise_map]
   rw [List.pairwise_iff_getElem]
   intro i j hi hj hij
   have hi' : i < d'.size := by simpa using hi
   have hj' : j < d'.size := by simpa using hj
   have := hso i j (Nat.zero_le _) hij (by omega)
   rw [ltS] at this
   have h3 : ¬ cmpL (d'[j]!).1.l (d'[i]!).1.l < 0 := of_decide_eq_false this
   have g1 : d'[j]! = d'.toList[j] := by simp [hj']
   have g2 : d'[i]! = d'.toList[i] := by simp [hi']
   rw [g1, g2] at h3
   unfold leC
   refine decide_eq_true ?_
   have := cmpL_neg (d'.toList[i]).1.l (d'.toList[j]).1.l
   show cmpL (d'.toList[i]).1.l (d'.toList[j]).1.l ≤ 0
   omega
 ·obtain ⟨A, c, rfl⟩ := Kd.R_slice h
  have h0 : xs = [] := List.eq_nil_of_length_eq_zero (by omega)
  subst h0
  refine (AnyF.slices_SortFunc_none { Tryz.sortCls with } A c _ W).mono ?_
  rintro e W' ⟨rfl, rfl⟩
  exact ⟨rfl, [], by simpa using h, List.Perm.refl _, by simp, ⟨rfl, rfl, rfl, Nat.le_refl _, fun _ _ _ => rfl⟩⟩
end Go.Proofs.YtkcfdddhnboieaaGreatDoor.NState
end
section
set_option maxHeartbeats 4000000
set_option maxRecDepth 100000
namespace Go.Proofs.YtkcfdddhnboieaaGreatDoor.NState
open Go Go.RowKit Go.Shelf QW.PrintWords QW.PrintLast QW.PrintMore NMap
open PCheck (rL at_L1)
open Go.Sort (grow)
theorem compN_map {α β : Type} {d : α} {d' : β} {f : α → α → Bool} {f' : β → β → Bool} (m : α → β) (hd : m d = d') (hf : ∀ x y, f x y = f' (m x) (m y)) (xs : List α) : ∀ i, (compN d f xs i).map m = compN d' f' (xs.map m) i
 | 0 => rfl
 | i + 1 => by
  have hr : ∀ k : Int, rdOf d' (xs.map m) k = m (rdOf d xs k) := fun k => by
   simp only [rdOf, List.getD_eq_getElem?_getD, List.getElem?_map]
   cases xs[k.toNat]? <;> simp [hd]
  rw [compN, compN, List.map_append, compN_map m hd hf xs i, hr, hr, hf]
  split <;> simp
theorem compN_mem {α : Type} {d : α} {f : α → α → Bool} {xs : List α} : ∀ i, i ≤ xs.length → ∀ x ∈ compN d f xs i, x ∈ xs
 | 0, _, x, h => by simp [compN] at h
 | i + 1, hi, x, h => by
  rw [compN, List.mem_append] at h
  rcases h with h | h
  ·exact compN_mem i (by omega) x h
  ·split at h
   ·cases h
   ·rw [List.mem_singleton] at h
    rw [h, rdOf_get (by omega)]; exact List.getElem_mem _
def sortedC (ls : List (List Int)) : List (List Int) := compN [] (fun x y => cmpL x y == 0) ((ls.map clauseS).mergeSort leC) ((ls.map clauseS).mergeSort leC).length
theorem sortedEqC_calls (B : Nat) (x y : Cl) (w : World) (hc : w.cell? ⟨B, 0, none⟩ = some (.func (.func 51) #[] #[])) (hx : Kd.C (Kd.int .i64) w x.a x.l.length x.l) (hy : Kd.C (Kd.int .i64) w y.a y.l.length y.l) :
  Calls Tryz.prog 106 #[encCl x, encCl y, .pointer (some ⟨B, 0, none⟩)] w fun e w' => e = .returned (.bool (cmpL x.l y.l == 0)) ∧ Below w.heap.size w w' := by
 have hcc := compareC_calls x.a x.c x.l y.a y.c y.l w hx hy
 clear hx hy
 unfold encCl
 generalize cmpL x.l y.l = r at hcc ⊢
 have he := enters_compareC #[.slice x.a x.l.length x.c, .slice y.a y.l.length y.c] w
 go_enter Tryz.func106, Tryz.ntmps106
 go_wp2_with (refine hcc.mono ?_; rintro e w' ⟨rfl, q, os, rfl⟩)
 go_ret
 exact ⟨rfl, below_grow w q os⟩
theorem enters_sortedEqC (args : Array Value) (w : World) : (callFunc 106 args).run Tryz.prog w = .ok (.enter 106 args) w := enters_of Tryz.func106 (by kernel_rfl) rfl args w
def SortedCPost (w : World) (r : List (List Int)) (e : Ending) (w' : World) : Prop := ∃ v xs, e = .returned v ∧ kCl.R 84 w' w.heap.size (fun _ => True) v xs ∧ (∀ x ∈ xs, InC w' w.heap.size x) ∧ xs.map Cl.l = r ∧ Below w.heap.size w w'
theorem sortedCls_calls (A : Option Addr) (c : Nat) (ls : List (List Int)) (w : World) (hC : Kd.C (Kd.slice 3 (Kd.int .i64)) w A ls.length ls) (hlen : ls.length ≤ 1000000) (hll : ∀ l ∈ ls, l.length ≤ 1000000) :
  Calls Tryz.prog 49 #[.slice A ls.length c, .func (.func 50) #[] #[], .func (.func 51) #[] #[]] w (SortedCPost w (sortedC ls)) := by
 have HC := Az.mk hC
 have HL := Az.mk hlen
 have HLL := Az.mk hll
 have hn0 : 0 ≤ (ls.length : Int) := by omega
 clear hC hlen hll
 have HB0 : Az (Below w.heap.size w (w.alloc (.cells #[.func (.func 51) #[] #[]] 86))) := ⟨bwa (Below.refl _ _) _⟩
 have BK0 := Az.mk (blk_new w (.cells #[.func (.func 51) #[] #[]] 86))
 go_enter Tryz.func49, Tryz.ntmps49
 go_wp2_with (at_make; refine Kd.R_make kCl (w0 := w) w.heap.size 84 rfl rfl 81 _ _ rfl (ls.length : Int) rfl rfl Tryz.underlying81 (.slice none 0 0) 24 compactCls_info rfl (by decide) (by decide) (⟨none, 0, []⟩ : Cl) (ok := fun k => w.heap.size + 1 ≤ k) (okp := fun _ => False) ?zero (fun _ h => h.elim) ?fresh ?pos ?len HB0.out HB0.out.size ?_; (case zero => exact rfl); (case fresh => simp); (case pos => exact hn0); (case len => have := HL.out; rw [Int.toNat_natCast]; omega); intro v3 w3 hr hb hg hat; rw [Int.toNat_natCast] at hr; have HV := Az.mk hr; have HB3 := Az.mk hb; have BK3 := Az.mk (bkg BK0.out hg (fun h => by cases h)); clear hr hb hg hat)
 obtain ⟨Av, cv, hv3⟩ := Kd.R_slice HV.out
 rw [List.length_replicate] at hv3
 subst hv3
 clear HB0 BK0
 go_loopw [15] (fun v15 wr => ∃ (j : Nat) (cur : List Cl), v15 = .int .i64 j ∧ j ≤ ls.length ∧ Az (cur.length = ls.length ∧ (cur.take j).map Cl.l = (ls.take j).map clauseS) ∧ Az (kCl.R 84 wr w.heap.size (fun k => w.heap.size + 1 ≤ k) (.slice Av ls.length cv) cur) ∧ Az (∀ x ∈ cur, InC wr w.heap.size x) ∧ Az (Below w.heap.size w wr) ∧ Az (wr.heap[w.heap.size]? = some (.cells #[.func (.func 51) #[] #[]] 86 (0, 0)))) (fun v15 _ => ls.length - (intOf v15).toNat)
 case atStart => exact ⟨0, _, rfl, Nat.zero_le _, ⟨by simp, by simp⟩, HV, ⟨fun x hx => by rw [List.eq_of_mem_replicate hx]; exact InC.zero _ _⟩, HB3, BK3⟩
 case round =>
  clear HV HB3 BK3
  obtain ⟨j, cur, rfl, hj, HCU, HV, HI, HB, BK⟩ := hrel
  by_cases hlt : j < ls.length
  ·obtain ⟨ad, A', c', rfl, hcc, hl1, hC1⟩ := at_L1 (Kd.C_below HC.out HB.out) (j : Int) (by omega) (by omega)
   have hrd : rL ls j = ls[j] := by simp [rL, List.getD, hlt]
   have HX : Az (rL ls j = ls[j] ∧ rL ls j ∈ ls) := ⟨hrd, by rw [hrd]; exact List.getElem_mem _⟩
   clear hrd
   generalize rL ls j = l at HX hcc hl1 hC1
   simp only [Int.toNat_natCast] at hcc
   obtain ⟨g, cg, eo, hgb, hgl, cl⟩ := Kd.R_form HV.out (by rw [HCU.out.1]; omega)
   injection eo with ea en ec
   subst ea
   clear en ec cl
   have HGB : Az (w.heap.size + 1 ≤ g) := ⟨HV.out.1 g rfl⟩
   have he := enters_clauseOf #[.slice A' l.length c'] wr
   have hct := clauseOf_calls A' c' l wr hC1 (by have := HLL.out l HX.out.2; omega)
   have HSZ := Az.mk HB.out.size
   clear hl1 hC1
   go_wp2_with (refine hct.mono ?_; rintro e w4 ⟨v4, rfl, hr4, hb4⟩; obtain ⟨A4, c4, hv4⟩ := Kd.R_slice hr4; subst hv4; have HI4 : Az (InC w4 w.heap.size ⟨A4, c4, clauseS l⟩) := ⟨Kd.R_lower hr4 HSZ.out⟩; have HV4 := Az.mk (Kd.R_below HV.out hb4); have HIS4 : Az (∀ x ∈ cur, InC w4 w.heap.size x) := ⟨fun x hx => (HI.out x hx).below hb4⟩; have BK4 := Az.mk (blk_below BK.out hb4); have HB4 := Az.mk (bwt HB.out hb4); clear hr4 hb4 HI BK; obtain ⟨hz, hzf⟩ := Kd.R_celln (⟨none, 0, []⟩ : Cl) HV4.out (j : Int) (by omega) (by omega); simp only [Int.toNat_natCast] at hz hzf; generalize rdOf (⟨none, 0, []⟩ : Cl) cur (j : Int) = old at hz)
   have HP := Az.mk (Kd.R_putg HV4.out (j : Int) (⟨A4, c4, clauseS l⟩ : Cl))
   simp only [Int.toNat_natCast] at HP
   go_roundw
   case rel =>
    refine ⟨j + 1, cur.set j ⟨A4, c4, clauseS l⟩, by rw [wrap_succ hlt (by have := HL.out; omega)], by omega, ⟨by rw [List.length_set]; exact HCU.out.1, ?_⟩, ⟨HP.out.1⟩, ⟨fun x hx => ?_⟩, ⟨HB4.out.grown HP.out.2 (by have := HB4.out.size; exact this) (fun k hk => by cases hk; have := HGB.out; omega)⟩, ⟨bkg BK4.out HP.out.2 (by intro h; have := HGB.out; injection h; omega)⟩⟩
    ·rw [List.take_succ_eq_append_getElem (by rw [List.length_set, HCU.out.1]; exact hlt), List.getElem_set_self, List.take_set_of_le (Nat.le_refl _), List.take_succ_eq_append_getElem hlt, List.map_append, List.map_append, HCU.out.2, ← HX.out.1]; rfl
    ·rcases List.mem_or_eq_of_mem_set hx with hx | rfl
     ·exact (HIS4.out x hx).over HV4.out HP.out.2
     ·exact HI4.out.over HV4.out HP.out.2
   case measure => exact meas_x hlt (wrap_succ hlt (by have := HL.out; omega))
  ·have hjl : j = ls.length := by omega
   subst hjl
   have HCM : Az (cur.map Cl.l = ls.map clauseS) := ⟨by
    have := HCU.out.2
    rwa [List.take_length, ← HCU.out.1, List.take_length] at this⟩
   have hx0 : wr.cell? ⟨w.heap.size, 0, none⟩ = some (.func (.func 51) #[] #[]) := (bkc BK.out 0).trans rfl
   go_wp2_with fail
   refine (sortCls_calls HV.out HI.out (by have := HL.out; have := HCU.out.1; omega)).mono ?_
   rintro e w4 ⟨rfl, xs', hr4, hpm, hxm, hg4⟩
   have hne : some w.heap.size ≠ (Value.slice Av ls.length cv).ownBlock := fun h => by have := HV.out.1 _ h.symm; omega
   have BK4 := Az.mk (bkg BK.out hg4 hne)
   have HB4 : Az (Below w.heap.size w w4) := ⟨HB.out.grown hg4 HB.out.size (fun k hk => ((Kd.R_bound HV.out).1 k hk).2.1)⟩
   have HI4 : Az (∀ x ∈ xs', InC w4 w.heap.size x) := ⟨fun x hx => (HI.out x (hpm.mem_iff.1 hx)).over HV.out hg4⟩
   have HV4 := Az.mk hr4
   have HNE := Az.mk hne
   have HXM : Az (xs'.map Cl.l = (ls.map clauseS).mergeSort leC ∧ xs'.length = ls.length) := ⟨by rw [hxm, HCM.out], by rw [hpm.length_eq, HCU.out.1]⟩
   clear hx0 hr4 hg4 hne HV HB BK HI hpm hxm
   have hx0 : w4.cell? ⟨w.heap.size, 0, none⟩ = some (.func (.func 51) #[] #[]) := (bkc BK4.out 0).trans rfl
   go_wp2_with fail
   have hcp := compactCls_calls (enc := encCl) (h1 := encCl1) (⟨none, 0, []⟩ : Cl) rfl (fun x y => cmpL x.l y.l == 0) 106 #[.pointer (some ⟨w.heap.size, 0, none⟩)] enters_sortedEqC HV4.out (by rw [HXM.out.2]; have := HL.out; omega) (fun W' x y hg hx hy => sortedEqC_calls w.heap.size x y W' ((bkc (bkg BK4.out hg HNE.out) 0).trans rfl) ((HI4.out x hx).over HV4.out hg).reads ((HI4.out y hy).over HV4.out hg).reads)
   refine hcp.mono ?_
   rintro e w5 ⟨v5, rfl, hr5, hg5⟩
   have hfin : (compN (⟨none, 0, []⟩ : Cl) (fun x y => cmpL x.l y.l == 0) xs' xs'.length).map Cl.l = sortedC ls := by
    rw [compN_map Cl.l rfl (f' := fun x y => cmpL x y == 0) (fun _ _ => rfl)]
    unfold sortedC
    rw [← HXM.out.1, List.length_map]
   have hin5 : ∀ x ∈ compN (⟨none, 0, []⟩ : Cl) (fun x y => cmpL x.l y.l == 0) xs' xs'.length, InC w5 w.heap.size x := fun x hx => (HI4.out x (compN_mem _ (Nat.le_refl _) x hx)).over HV4.out hg5
   have hb5 : Below w.heap.size w w5 := HB4.out.grown hg5 HB4.out.size (fun k hk => ((Kd.R_bound HV4.out).1 k hk).2.1)
   go_wp2
   go_ret
   exact ⟨_, _, rfl, Kd.R_mono hr5 (fun _ _ => trivial), hin5, hfin, hb5⟩
end Go.Proofs.YtkcfdddhnboieaaGreatDoor.NState
end
section
set_option maxHeartbeats 4000000
set_option maxRecDepth 100000
namespace Go.Proofs.YtkcfdddhnboieaaGreatDoor.NState
open Go Go.RowKit Go.Shelf QW.PrintWords QW.PrintLast QW.PrintMore NMap
open PCheck (rL at_L1 cnf_Check.f cnf_Check.calls)
open PTriv (cnf_clause_trivial.f cnf_clause_trivial.calls)
open PCInts (cnf_clause_ints.f cnf_clause_ints.calls)
def normR9.T : Bool × List (List Nat × List Nat) := (true, [([], []), ([0], [0]), ([], []), ([2], [2]), ([3], [3]), ([1, 4, 3], [1, 4]), ([0, 1, 2, 3, 4, 5], []), ([6, 5, 5, 0, 1, 2, 3, 4, 5], [5, 6])])
def normR9.B : List Nat := [0, 1, 0, 4, 12, 31, 63, 127]
theorem normR9.tab : rtab .any (opsOf Tryz.f15 9) = normR9.T := by kernel_rfl
theorem normR9.bits : waitsOk normR9.T.2 normR9.B = true := by kernel_rfl
theorem C_cls {w : World} {A : Option Addr} {n : Nat} {xs : List Cl} (h : Kd.C kCl w A n xs) (hx : ∀ x ∈ xs, x.l.length ≤ x.c ∧ Kd.C (Kd.int .i64) w x.a x.l.length x.l) (e : Nat) : Kd.C (Kd.slice e (Kd.int .i64)) w A n (xs.map Cl.l) := by
 refine ⟨by rw [List.length_map]; exact h.1, h.2.1, fun hn => ?_⟩
 obtain ⟨ad, he, hc⟩ := h.2.2 hn
 refine ⟨ad, he, fun j p hj => ?_⟩
 rw [List.getElem?_map] at hj
 obtain ⟨x, hx1, rfl⟩ := Option.map_eq_some_iff.1 hj
 obtain ⟨c, hs, hr, hcell⟩ := hc j x hx1
 obtain ⟨q1, q2⟩ := hx x (List.mem_of_getElem? hx1)
 exact ⟨c, hs, ⟨x.a, x.c, hr, q1, q2⟩, hcell⟩
def InI (W : World) (base : Nat) (x : Cl) : Prop := Kd.R (Kd.int .i64) 3 W base (fun _ => True) (encCl x) x.l
theorem InI.below {W W' : World} {base : Nat} {x : Cl} (h : InI W base x) (hb : Below W.heap.size W W') : InI W' base x := Kd.R_below h hb
theorem InI.over {W W' : World} {base b' : Nat} {ok : Nat → Prop} {x : Cl} {v : Value} {xs : List Cl} (h : InI W base x) (hr : kCl.R 26 W b' ok v xs) (hg : W.grownBy W' v.ownBlock) : InI W' base x :=
 Kd.R_over' h (Kd.R_typed hr) (by intro q hq; simp only [List.mem_cons] at hq; rcases hq with rfl | hq; decide; cases hq) hg
theorem InI.reads {W : World} {base : Nat} {x : Cl} (h : InI W base x) : x.l.length ≤ x.c ∧ Kd.C (Kd.int .i64) W x.a x.l.length x.l := (Kd.R_reads' h).2
theorem infoInts : (Tryz.prog.info? 26).map (fun i => (i.zero, i.size, i.bytes)) = some (some (.slice none 0 0), 1, 24) := by kernel_rfl
structure ClsOk (k : Nat) (t : List Int → Bool) (l : List Int) : Prop where
 triv : cnf_clause_trivial.f k l = some (t l)
 ints : cnf_clause_ints.f k l = some l
def normL (t : List Int → Bool) (ls : List (List Int)) : List (List Int) := (sortedC ls).filter fun l => !t l
def NormalPost (w : World) (vars : Int) (r : List (List Int)) (er : Int) (e : Ending) (w' : World) : Prop := ∃ A c, e = .returned (.tuple #[.agg #[.int .i64 vars, .slice A r.length c], .int .i64 er]) ∧ r.length ≤ c ∧ Kd.C (Kd.slice 3 (Kd.int .i64)) w' A r.length r ∧ Below w.heap.size w w'
theorem grown_set (W : World) (g i : Nat) (u : Value) : W.grownBy (W.setCell ⟨g, i, none⟩ u) (some g) := ⟨rfl, rfl, rfl, by simp, fun k _ hne => Below.heap_setCell W ⟨g, i, none⟩ u k (fun h => hne (congrArg some h))⟩
theorem R_setFar {α : Type} {d : Kd α} {e base g i t : Nat} {ok : Nat → Prop} {W : World} {v : Value} {xs : List α} {cs : Array Value} (h : d.R e W base ok v xs) (hb : W.heap[g]? = some (.cells cs t (0, 0))) (ht : ∀ q, q ∈ e :: d.E → q ≠ t) (u : Value) : d.R e (W.setCell ⟨g, i, none⟩ u) base ok v xs :=
 Kd.R_over' (v := .slice (some ⟨g, 0, none⟩) 0 0) h (fun k hk => by simp only [Value.ownBlock, Option.some.injEq] at hk; subst hk; exact ⟨_, hb⟩) ht (grown_set W g i u)
theorem ne_one {a b : Nat} (h : a ≠ b) : ∀ q, q ∈ [a] → q ≠ b := fun q hq => by rw [List.mem_singleton.1 hq]; exact h
theorem normal_calls (k k2 : Nat) (vars : Int) (A1 : Option Addr) (c1 : Nat) (cls : List (List Int)) (t : List Int → Bool) (w : World) (hr1 : Kd.C (Kd.slice 3 (Kd.int .i64)) w A1 cls.length cls) (hc1 : cls.length ≤ c1) (hck : cnf_Check.f k vars cls = some 0) (hlen : cls.length ≤ 1000000) (hll : ∀ l ∈ cls, l.length ≤ 1000000) (hok : ∀ l ∈ sortedC cls, ClsOk k2 t l) :
  Calls Tryz.prog 15 #[.agg #[.int .i64 vars, .slice A1 cls.length c1]] w (NormalPost w vars (normL t cls) 0) := by
 have HR1 := Az.mk hr1
 have HC1 := Az.mk hc1
 have HCK := Az.mk hck
 have HLEN := Az.mk hlen
 have HLL := Az.mk hll
 have HOK := Az.mk hok
 clear hr1 hc1 hck hlen hll hok
 have hu24 := Tryz.underlying24
 go_enter Tryz.func15, Tryz.ntmps15
 go_wp2_with fail
 refine (cnf_Check.calls k vars A1 c1 cls 0 _ (Kd.C_alloc (Kd.C_alloc HR1.out _) _) HC1.out HCK.out).mono ?_
 rintro e w1 ⟨rfl, hb1⟩
 have BC : Az (w1.heap[w.heap.size]? = some (.cells #[.int .i64 vars, .slice A1 cls.length c1] 24 (0, 0))) := ⟨blk_below (bka (blk_new w _) _) hb1⟩
 have BR : Az (w1.heap[w.heap.size + 1]? = some (.cells #[.int .i64 0, .slice none 0 0] 24 (0, 0))) := ⟨blk_below (blk_alloc_at (by simp) _) hb1⟩
 have HB : Az (Below w.heap.size w w1) := ⟨bwt (bwa (bwa (Below.refl _ _) _) _) hb1⟩
 have HS1 : Az (w.heap.size + 2 ≤ w1.heap.size) := ⟨by have := hb1.size; simp at this; omega⟩
 clear hb1
 have hx0 : w1.cell? ⟨w.heap.size, 0, none⟩ = some (.int .i64 vars) := (bkc BC.out 0).trans rfl
 have BC2 := Az.mk (bka BC.out (.cells #[.int .i64 vars, .slice none 0 0] 24))
 have BR2 := Az.mk (bka BR.out (.cells #[.int .i64 vars, .slice none 0 0] 24))
 have BO2 := Az.mk (blk_new w1 (.cells #[.int .i64 vars, .slice none 0 0] 24))
 have HB2 := Az.mk (bwa HB.out (.cells #[.int .i64 vars, .slice none 0 0] 24))
 have hx1 : (w1.alloc (.cells #[.int .i64 vars, .slice none 0 0] 24)).cell? ⟨w.heap.size, 1, none⟩ = some (.slice A1 cls.length c1) := (bkc BC2.out 1).trans rfl
 go_wp2_with fail
 clear hx0 hx1 BC BR HB
 generalize w1.heap.size = BO at BO2 HS1 ⊢
 generalize (w1.alloc (.cells #[.int .i64 vars, .slice none 0 0] 24)) = w2 at BC2 BR2 BO2 HB2 ⊢
 refine (sortedCls_calls A1 c1 cls w2 (Kd.C_below HR1.out HB2.out) HLEN.out HLL.out).mono ?_
 rintro e w3 ⟨v3, xs, rfl, hr3, hi3, hm3, hb3⟩
 obtain ⟨Av, cv, hv3⟩ := Kd.R_slice hr3
 subst hv3
 have BR3 := Az.mk (blk_below BR2.out hb3)
 have BO3 := Az.mk (blk_below BO2.out hb3)
 have HB3 := Az.mk (bwt HB2.out hb3)
 have HS3 : Az (kCl.R 84 w3 w.heap.size (fun _ => True) (.slice Av xs.length cv) xs ∧ ∀ x ∈ xs, InC w3 w.heap.size x) := ⟨Kd.R_lower hr3 HB2.out.size, fun x hx => Kd.R_lower (hi3 x hx) HB2.out.size⟩
 have HM3 := Az.mk hm3
 have HXL : Az (xs.length ≤ 1000000) := ⟨by
  have := congrArg List.length hm3
  rw [List.length_map] at this
  rw [this]
  refine Nat.le_trans (compN_len _ _ _ _) ?_
  rw [List.length_mergeSort, List.length_map]; exact HLEN.out⟩
 clear hr3 hi3 hm3 hb3 BC2 BR2 BO2 HB2
 go_wp2
 go_loopw [21] (fun v21 wr => ∃ (j : Nat) (vo : Value) (outs : List Cl), v21 = .int .i64 j ∧ j ≤ xs.length ∧ Az (outs.map Cl.l = ((xs.map Cl.l).take j).filter (fun l => !t l) ∧ outs.length ≤ j) ∧ Az (wr.heap[BO]? = some (.cells #[.int .i64 vars, vo] 24 (0, 0))) ∧ Az (kCl.R 26 wr w.heap.size (fun _ => True) vo outs ∧ ∀ x ∈ outs, InI wr w.heap.size x) ∧ Az (kCl.R 84 wr w.heap.size (fun _ => True) (.slice Av xs.length cv) xs ∧ ∀ x ∈ xs, InC wr w.heap.size x) ∧ Az (Below w.heap.size w wr) ∧ Az (wr.heap[w.heap.size + 1]? = some (.cells #[.int .i64 0, .slice none 0 0] 24 (0, 0)))) (fun v21 _ => xs.length - (intOf v21).toNat)
 case atStart => exact ⟨0, .slice none 0 0, [], rfl, Nat.zero_le _, ⟨by simp, Nat.le_refl _⟩, BO3, ⟨Kd.R_nil _ _ _ _ _, fun x h => by cases h⟩, HS3, HB3, BR3⟩
 case round =>
  clear BO3 HS3 HB3 BR3
  obtain ⟨j, vo, outs, rfl, hj, HO, BO3, HR, HS, HB, BR⟩ := hrel
  by_cases hlt : j < xs.length
  ·obtain ⟨g, cg, eo, hgb, hgl, cl⟩ := Kd.R_form HS.out.1 (by omega)
   injection eo with ea en ec
   subst ea
   clear en ec cl
   obtain ⟨hz, hzf⟩ := Kd.R_celln (⟨none, 0, []⟩ : Cl) HS.out.1 (j : Int) (by omega) (by omega)
   simp only [Int.toNat_natCast] at hz
   have HX : Az (rdOf (⟨none, 0, []⟩ : Cl) xs (j : Int) = xs[j] ∧ rdOf (⟨none, 0, []⟩ : Cl) xs (j : Int) ∈ xs) := ⟨rdOf_get hlt, by rw [rdOf_get hlt]; exact List.getElem_mem _⟩
   have HTK : Az (((xs.map Cl.l).take (j + 1)).filter (fun l => !t l) = ((xs.map Cl.l).take j).filter (fun l => !t l) ++ if t (rdOf (⟨none, 0, []⟩ : Cl) xs (j : Int)).l = true then [] else [(rdOf (⟨none, 0, []⟩ : Cl) xs (j : Int)).l]) := ⟨by
    rw [List.take_succ_eq_append_getElem (by rw [List.length_map]; exact hlt), List.filter_append, List.getElem_map, ← HX.out.1]
    congr 1
    rw [List.filter_cons]
    by_cases h : t (rdOf (⟨none, 0, []⟩ : Cl) xs (j : Int)).l = true <;> simp [h]⟩
   generalize rdOf (⟨none, 0, []⟩ : Cl) xs (j : Int) = x at HX HTK hz
   have HCO : Az (ClsOk k2 t x.l) := ⟨HOK.out x.l (by rw [← HM3.out]; exact List.mem_map_of_mem HX.out.2)⟩
   have HCR := Az.mk (Kd.R_reads' (HS.out.2 x HX.out.2))
   unfold encCl at hz
   have htr := cnf_clause_trivial.calls k2 x.a x.c x.l (t x.l) wr HCR.out.2.2 HCR.out.2.1 HCO.out.triv
   cases htl : t x.l with
   | true =>
    rw [htl] at htr HTK
    rw [if_pos rfl, List.append_nil] at HTK
    go_wp2_with (go_at_call 52; refine htr.mono ?_; rintro e w4 ⟨rfl, q, rfl⟩)
    go_roundw
    case rel => exact ⟨j + 1, vo, outs, by rw [wrap_succ hlt (by have := HXL.out; omega)], by omega, ⟨by rw [HTK.out]; exact HO.out.1, by have := HO.out.2; omega⟩, ⟨bkN BO3.out q⟩, ⟨Kd.R_drewN HR.out.1 q, fun x hx => Kd.R_drewN (HR.out.2 x hx) q⟩, ⟨Kd.R_drewN HS.out.1 q, fun x hx => Kd.R_drewN (HS.out.2 x hx) q⟩, ⟨below_drewN HB.out⟩, ⟨bkN BR.out q⟩⟩
    case measure => exact meas_x hlt (wrap_succ hlt (by have := HXL.out; omega))
   | false =>
    rw [htl] at htr HTK
    rw [if_neg (by simp)] at HTK
    have hx : ∀ q, (wr.drewN q).cell? ⟨BO, 1, none⟩ = some vo := fun q => (bkc (bkN BO3.out q) 1).trans rfl
    go_wp2_with (go_at_call 52; refine htr.mono ?_; rintro e w4 ⟨rfl, q, rfl⟩; clear htr)
    have BO4 := Az.mk (bkd (bkN BO3.out q))
    have BR4 := Az.mk (bkd (bkN BR.out q))
    have HB4 : Az (Below w.heap.size w (wr.drewN q).drew) := ⟨below_drew (below_drewN HB.out)⟩
    have HR4 : Az (kCl.R 26 (wr.drewN q).drew w.heap.size (fun _ => True) vo outs ∧ ∀ x ∈ outs, InI (wr.drewN q).drew w.heap.size x) := ⟨Kd.R_drew (Kd.R_drewN HR.out.1 q), fun x hx => Kd.R_drew (Kd.R_drewN (HR.out.2 x hx) q)⟩
    have HS4 : Az (kCl.R 84 (wr.drewN q).drew w.heap.size (fun _ => True) (.slice (some ⟨g, 0, none⟩) xs.length cv) xs ∧ ∀ x ∈ xs, InC (wr.drewN q).drew w.heap.size x) := ⟨Kd.R_drew (Kd.R_drewN HS.out.1 q), fun x hx => Kd.R_drew (Kd.R_drewN (HS.out.2 x hx) q)⟩
    have HC4 := Az.mk ((HS4.out.2 x HX.out.2).reads)
    refine start_ (n := 8) (S := fun w' => w'.cell? ⟨BO, 1, none⟩ = some vo) (ds := [7]) (Array.replicate 8 false) (by kernel_rfl) rfl rfl (hx q) (fun hHeld => ?_); refine with_tabW normR9.tab normR9.bits (fun HT_ HW_ => ?_)
    generalize (wr.drewN q).drew = wd at HR4 HS4 HB4 BR4 BO4 HC4 hHeld ⊢
    refine pA 0 (some 28) (bA 8 1) rfl rfl HT_.out (by intro w'; go_simp; with_reducible rfl) (by simp only [Act.put, zq1, zq2, zq3, iw, jw]; rfl) ?_
    refine pT 1 (some 29) (bA 8 3) rfl rfl HT_.out HW_.out hHeld (by rintro w' s0; go_simp; with_reducible rfl) (by simp only [Act.put, zq1, zq2, zq3, iw, jw]; rfl) ?_
    refine pA 2 (some 30) (bA 8 7) rfl rfl HT_.out (by intro w'; go_simp; with_reducible rfl) (by simp only [Act.put, zq1, zq2, zq3, iw, jw]; rfl) ?_
    refine QW.PrintLast.one_ (i := 3) (N := some 31) (bA 8 15) rfl rfl (one_of HT_.out (by kernel_rfl)) (by decide) (fun K hK => ?_)
    refine goes_ Tryz.func53 (by kernel_rfl) rfl #[.slice x.a x.l.length x.c] (by rfl) rfl rfl (by (try simp only [List.map_toArray, List.map_cons, List.map_nil]); first | done | rfl) ?_
    refine (cnf_clause_ints.calls k2 x.a x.c x.l x.l _ HC4.out HCR.out.2.1 HCO.out.ints).mono ?_
    rintro e w5 ⟨v5, rfl, hr5, hb5⟩
    obtain ⟨A5, c5, hv5⟩ := Kd.R_slice hr5
    subst hv5
    refine ⟨_, rfl, ?_⟩
    have HI5 : Az (InI w5 w.heap.size ⟨A5, c5, x.l⟩) := ⟨Kd.R_lower hr5 HB4.out.size⟩
    have HR5 : Az (kCl.R 26 w5 w.heap.size (fun _ => True) vo outs ∧ ∀ x ∈ outs, InI w5 w.heap.size x) := ⟨Kd.R_below HR4.out.1 hb5, fun x hx => (HR4.out.2 x hx).below hb5⟩
    have HS5 : Az (kCl.R 84 w5 w.heap.size (fun _ => True) (.slice (some ⟨g, 0, none⟩) xs.length cv) xs ∧ ∀ x ∈ xs, InC w5 w.heap.size x) := ⟨Kd.R_below HS4.out.1 hb5, fun x hx => (HS4.out.2 x hx).below hb5⟩
    have HB5 := Az.mk (bwt HB4.out hb5)
    have BR5 := Az.mk (blk_below BR4.out hb5)
    have BO5 := Az.mk (blk_below BO4.out hb5)
    refine hK.out _ _ ((bkc BO5.out 1).trans rfl) (fun hHeld => ?_)
    clear hK K hr5 hb5 HR4 HS4 HB4 BR4 BO4 HC4
    refine norm_ (by show Act.put _ (some 31) _ = _; simp only [Act.put, zq1, zq2, zq3, iw, jw]; rfl) ?_
    refine QW.PrintLast.one_ (i := 4) (N := some 32) (bA 8 31) rfl rfl (one_of HT_.out (by kernel_rfl)) (by decide) (fun K hK => ?_)
    refine value_ (w1 := ?_) (v := ?_) (by rfl) rfl ?_ ?_
    rotate_left 2
    ·go_simp
     constructor
     ·rfl
     ·rfl
    refine hK.out _ _ ((bkc (bka BO5.out _) 1).trans rfl) (fun hHeld => ?_)
    clear hK K
    refine norm_ (by show Act.put _ (some 32) _ = _; simp only [Act.put, zq1, zq2, zq3, iw, jw]; rfl) ?_
    refine QW.PrintLast.one_ (i := 5) (N := some 33) (bA 8 63) rfl rfl (one_of HT_.out (by kernel_rfl)) (by decide) (fun K hK => ?_)
    refine Kd.R_append_step kCl (w0 := w) w.heap.size (by rfl) (.tmp 29) (.tmp 32) 22 26 (.slice none 0 0) 24 rfl Tryz.underlying22 infoInts rfl (by decide) (by decide) vo outs ⟨A5, c5, x.l⟩ [.slice A5 x.l.length c5] (fun _ => True) (fun _ => False) rfl rfl ?aP (fun _ hk => hk.elim) ?aF ?aO ?aB ?aS ?aL ?_
    (case aP => exact rfl)
    (case aF => exact fun _ _ => trivial)
    (case aO => exact HR5.out.1)
    (case aB => exact HB5.out)
    (case aS => exact HB5.out.size)
    (case aL => have := HO.out.2; have := HXL.out; omega)
    intro v6 w6 ho hb hg hat
    obtain ⟨A6, c6, hv6⟩ := Kd.R_slice ho
    subst hv6
    have HR6 := Az.mk ho
    have HI6 : Az (∀ y ∈ outs ++ [(⟨A5, c5, x.l⟩ : Cl)], InI w6 w.heap.size y) := ⟨fun y hy => by rcases List.mem_append.1 hy with hy | hy; exact (HR5.out.2 y hy).over HR5.out.1 hg; rw [List.mem_singleton.1 hy]; exact HI5.out.over HR5.out.1 hg⟩
    have HS6 : Az (kCl.R 84 w6 w.heap.size (fun _ => True) (.slice (some ⟨g, 0, none⟩) xs.length cv) xs ∧ ∀ x ∈ xs, InC w6 w.heap.size x) := ⟨Kd.R_over' HS5.out.1 (Kd.R_typed HR5.out.1) (ne_one (by decide)) hg, fun y hy => Kd.R_over' (HS5.out.2 y hy) (Kd.R_typed HR5.out.1) (ne_one (by decide)) hg⟩
    have HB6 := Az.mk hb
    have BR6 := Az.mk (bkg BR5.out hg (Kd.R_ne HR5.out.1 BR5.out (by decide)))
    have BO6 := Az.mk (bkg BO5.out hg (Kd.R_ne HR5.out.1 BO5.out (by decide)))
    refine hK.out _ _ ((bkc BO6.out 1).trans rfl) (fun hHeld => ?_)
    clear hK K ho hb hg hat HR5 HS5 HB5 BR5 BO5 HI5
    refine norm_ (by show Act.put _ (some 33) _ = _; simp only [Act.put, zq1, zq2, zq3, iw, jw]; rfl) ?_
    refine pA 6 (some 34) (bA 8 127) rfl rfl HT_.out (by intro w'; go_simp; with_reducible rfl) (by simp only [Act.put, zq1, zq2, zq3, iw, jw]; rfl) ?_
    refine last_ (i := 7) (N := none) (bA 8 255) rfl rfl (one_of HT_.out (by kernel_rfl)) (by decide) (fun K hK => ?_)
    have hs28 : w6.cell? ⟨BO, 1, none⟩ = some vo := (bkc BO6.out 1).trans rfl
    have hfs28 := bkf BO6.out 1
    refine skip_ (w1 := ?_) (by rfl) rfl ?_ ?_
    rotate_left
    ·go_simp
     rfl
    refine hK.out _ _ ?_
    clear hK K
    refine done_ (done_of HT_.out (by kernel_rfl)) ?_
    clear hHeld HT_ HW_ hx hz hzf
    go_wp2
    go_roundw
    case rel =>
     have hln : (outs ++ [(⟨A5, c5, x.l⟩ : Cl)]).length = outs.length + 1 := by simp
     have HR7 := HR6.out
     rw [hln] at HR7
     refine ⟨j + 1, .slice A6 (outs.length + 1) c6, outs ++ [(⟨A5, c5, x.l⟩ : Cl)], by rw [wrap_succ hlt (by have := HXL.out; omega)], by omega, ⟨?_, by have := HO.out.2; simp; omega⟩, ⟨blk_set BO6.out 1 _⟩, ⟨R_setFar HR7 BO6.out (ne_one (by decide)) _, fun y hy => R_setFar (HI6.out y hy) BO6.out (ne_one (by decide)) _⟩, ⟨R_setFar HS6.out.1 BO6.out (ne_one (by decide)) _, fun y hy => R_setFar (HS6.out.2 y hy) BO6.out (ne_one (by decide)) _⟩, ⟨bws HB6.out (by have := HS1.out; omega)⟩, ⟨blk_far BR6.out (p := ⟨BO, 1, none⟩) (by have := HS1.out; show w.heap.size + 1 ≠ BO; omega) _⟩⟩
     rw [List.map_append, HTK.out, HO.out.1]; rfl
    case measure => exact meas_x hlt (wrap_succ hlt (by have := HXL.out; omega))
  ·have hjl : j = xs.length := by omega
   subst hjl
   rw [← List.length_map (f := Cl.l), List.take_length, HM3.out] at HO
   have hc0 : wr.cell? ⟨BO, 0, none⟩ = some (.int .i64 vars) := (bkc BO3.out 0).trans rfl
   have hc1 : wr.cell? ⟨BO, 1, none⟩ = some vo := (bkc BO3.out 1).trans rfl
   obtain ⟨Ao, co, hvo⟩ := Kd.R_slice HR.out.1
   subst hvo
   have hr0 : wr.cell? ⟨w.heap.size + 1, 0, none⟩ = some (.int .i64 0) := (bkc BR.out 0).trans rfl
   have hr1 : wr.cell? ⟨w.heap.size + 1, 1, none⟩ = some (.slice none 0 0) := (bkc BR.out 1).trans rfl
   have hf0 : wr.frozen? ⟨w.heap.size + 1, 0, none⟩ = false := bkf BR.out 0
   have hf1 : wr.frozen? ⟨w.heap.size + 1, 1, none⟩ = false := bkf BR.out 1
   go_wp2
   refine bodyPost_ret (results_ct rfl _ _ (w.heap.size + 1) 24 #[.int .i64 vars, .slice Ao outs.length co] (0, 0) _ rfl (blk_set (blk_set BR.out 0 _) 1 _) hu24 rfl (by kernel_rfl)) rfl ?_
   have hno : outs.length = (normL t cls).length := by
    have := congrArg List.length HO.out.1
    rwa [List.length_map] at this
   have hrr := Kd.R_reads' HR.out.1
   refine ⟨Ao, co, by rw [hno]; rfl, by rw [← hno]; exact hrr.2.1, ?_, bws (bws HB.out (by omega)) (by omega)⟩
   rw [← hno]
   have hR2 := R_setFar (i := 1) (R_setFar (i := 0) HR.out.1 BR.out (ne_one (by decide)) (.int .i64 vars)) (blk_set BR.out 0 (.int .i64 vars)) (ne_one (by decide)) (.slice Ao outs.length co)
   have hI2 : ∀ x ∈ outs, InI _ w.heap.size x := fun x hx => R_setFar (i := 1) (R_setFar (i := 0) (HR.out.2 x hx) BR.out (ne_one (by decide)) (.int .i64 vars)) (blk_set BR.out 0 (.int .i64 vars)) (ne_one (by decide)) (.slice Ao outs.length co)
   have hC2 := C_cls (Kd.R_reads' hR2).2.2 (fun x hx => (hI2 x hx).reads) 3
   rw [show outs.map Cl.l = normL t cls from HO.out.1] at hC2
   exact hC2
end Go.Proofs.YtkcfdddhnboieaaGreatDoor.NState
end
