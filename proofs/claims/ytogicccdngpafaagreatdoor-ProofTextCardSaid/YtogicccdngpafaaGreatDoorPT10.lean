/-
  Part 10 of the proof of proofText_card: walks and lemmas, packed by the session's own wip/pack.py out of its texts and of what the kit's print.sh printed.
-/
import Derived.Test.YtogicccdngpafaaGreatDoorPT9
import Derived.Shelf.Abstract
import Derived.Test.YtogicccdngpafaaGreatDoorPT8
set_option linter.unusedVariables false
set_option linter.unusedSimpArgs false
section
set_option maxHeartbeats 1000000
set_option maxRecDepth 100000
namespace Go.Proofs.YtogicccdngpafaaGreatDoor.NState
open Go Go.RowKit Go.Shelf QW.PrintWords QW.PrintLast QW.PrintMore NMap
def idxL (p : Int → Bool) : Int → List Int → Int
 | _, [] => -1
 | i, x :: xs => if p x then i else idxL p (i + 1) xs
theorem indexFunc_calls (g : FuncId) (lb : Array Value) (p : Int → Bool) (A0 : Option Addr) (c0 : Nat) (l0 : List Int) (w : World) (hr0 : Kd.C (Kd.int .i64) w A0 l0.length l0)
  (eg : ∀ args w, (callFunc g args).run Tryz.prog w = .ok (.enter g args) w) (hp : ∀ x, Calls Tryz.prog g (#[.int .i64 x] ++ lb) w fun e w' => e = .returned (.bool (p x)) ∧ w = w') :
  Calls Tryz.prog 56 #[.slice A0 l0.length c0, .func (.func g) #[] lb] w fun e w' => e = .returned (.int .i64 (idxL p 0 l0)) ∧ w = w' := by
 have HR0 := Az.mk hr0
 have HL := Az.mk (Kd.C_max hr0)
 have HP := Az.mk hp
 have EG := Az.mk eg
 clear hr0 hp eg
 go_enter Tryz.func56, Tryz.ntmps56
 go_wp2
 go_loop [5, 8, 9, 10, 11, 12, 13, 14, 15, 16, 18] (fun v5 v8 v9 v10 v11 v12 v13 v14 v15 v16 v18 => ∃ (k : Nat), v8 = .int .i64 k ∧ k ≤ l0.length ∧ Az (idxL p 0 l0 = idxL p k (l0.drop k))) (fun _ v8 _ _ _ _ _ _ _ _ _ => l0.length - (intOf v8).toNat)
 case atStart => exact ⟨0, rfl, Nat.zero_le _, ⟨by simp⟩⟩
 case round =>
  obtain ⟨k, rfl, hk, HA⟩ := hrel
  by_cases hlt : k < l0.length
  ·obtain ⟨ad, rfl, hc⟩ := Kd.at_int HR0.out (k : Int) (by omega) (by omega)
   rw [drop_rd hlt] at HA
   generalize rd l0 k = x at HA hc
   simp only [Int.toNat_natCast] at hc
   have he := EG.out (#[.int .i64 x] ++ lb) w
   by_cases hpx : p x = true
   ·have hpc := HP.out x
    rw [hpx] at hpc
    go_wp2_with (refine hpc.mono ?_; rintro e w' ⟨rfl, rfl⟩)
    go_ret
    refine ⟨?_, rfl⟩
    rw [HA.out, idxL, if_pos hpx]; rfl
   ·have hpc := HP.out x
    rw [Bool.not_eq_true] at hpx
    have HX := Az.mk hpx
    rw [hpx] at hpc
    clear hpx
    go_wp2_with (refine hpc.mono ?_; rintro e w' ⟨rfl, rfl⟩)
    go_round
    case rel =>
     refine ⟨k + 1, by rw [wrap_succ hlt HL.out], by omega, ⟨?_⟩⟩
     rw [HA.out, idxL, HX.out]; simp
    case measure => exact meas_x hlt (wrap_succ hlt HL.out)
  ·go_wp2
   go_ret
   refine ⟨?_, rfl⟩
   rw [HA.out, List.drop_of_length_le (by omega)]; rfl
theorem idxL_any (p : Int → Bool) (l : List Int) : ∀ i : Int, 0 ≤ i → (decide (idxL p i l ≥ 0) = l.any p) ∧ (idxL p i l ≥ 0 → i ≤ idxL p i l) := by
 induction l with
 | nil => intro i hi; simp [idxL]
 | cons x xs ih =>
  intro i hi
  unfold idxL
  by_cases h : p x = true
  ·rw [if_pos h]; simp [h, hi]
  ·rw [if_neg h]
   have := ih (i + 1) (by omega)
   simp only [Bool.not_eq_true] at h
   refine ⟨by simp [h, this.1], fun hh => ?_⟩
   have := this.2 hh
   omega
theorem containsFunc_calls (g : FuncId) (lb : Array Value) (p : Int → Bool) (A0 : Option Addr) (c0 : Nat) (l0 : List Int) (w : World) (hr0 : Kd.C (Kd.int .i64) w A0 l0.length l0)
  (eg : ∀ args w, (callFunc g args).run Tryz.prog w = .ok (.enter g args) w) (hp : ∀ x, Calls Tryz.prog g (#[.int .i64 x] ++ lb) w fun e w' => e = .returned (.bool (p x)) ∧ w = w') :
  Calls Tryz.prog 52 #[.slice A0 l0.length c0, .func (.func g) #[] lb] w fun e w' => e = .returned (.bool (l0.any p)) ∧ w = w' := by
 have hc := indexFunc_calls g lb p A0 c0 l0 w hr0 eg hp
 have hi := Az.mk (idxL_any p l0 0 (Int.le_refl _)).1
 clear eg hp hr0
 generalize idxL p 0 l0 = q at hc hi
 go_enter Tryz.func52, Tryz.ntmps52
 go_wp2_with (go_at_call 56; refine hc.mono ?_; rintro e w' ⟨rfl, rfl⟩)
 go_ret
 exact ⟨by rw [← hi.out]; rfl, rfl⟩
def badLit (vars x : Int) : Bool := x == 0 || decide (x < wrap64 (-vars)) || decide (x > vars)
theorem exist1_calls (b : Nat) (vars x : Int) (w : World) (hc : w.cell? ⟨b, 0, none⟩ = some (.int .i64 vars)) :
  Calls Tryz.prog 108 #[.int .i64 x, .pointer (some ⟨b, 0, none⟩)] w fun e w' => e = .returned (.bool (badLit vars x)) ∧ w = w' := by
 by_cases h0 : (x == 0) = true
 ·have hb := Az.mk (show badLit vars x = true by simp [badLit, h0])
  go_enter Tryz.func108, Tryz.ntmps108
  go_wp2
  go_ret
  exact ⟨by rw [hb.out]; rfl, rfl⟩
 ·simp only [Bool.not_eq_true] at h0
  by_cases h1 : x < wrap64 (-vars)
  ·have hb := Az.mk (show badLit vars x = true by simp [badLit, h1])
   go_enter Tryz.func108, Tryz.ntmps108
   go_wp2
   go_ret
   exact ⟨by rw [hb.out]; rfl, rfl⟩
  ·have hb := Az.mk (show badLit vars x = decide (x > vars) by simp [badLit, h0, h1])
   have h1' : decide (x < wrap64 (-vars)) = false := by simpa using h1
   clear h1
   go_enter Tryz.func108, Tryz.ntmps108
   go_wp2
   go_ret
   exact ⟨by rw [hb.out]; rfl, rfl⟩
theorem enters_exist1 (args : Array Value) (w : World) : (callFunc 108 args).run Tryz.prog w = .ok (.enter 108 args) w := enters_of Tryz.func108 (by kernel_rfl) rfl args w
theorem exist_calls (vars : Int) (v1 : Value) (A0 : Option Addr) (c0 : Nat) (l0 : List Int) (w : World) (hr0 : Kd.C (Kd.int .i64) w A0 l0.length l0) :
  Calls Tryz.prog 78 #[.agg #[.int .i64 vars, v1], .slice A0 l0.length c0] w fun e w' => e = .returned (.bool (!l0.any (badLit vars))) ∧ Below w.heap.size w w' := by
 have hc := containsFunc_calls 108 #[.pointer (some ⟨w.heap.size, 0, none⟩)] (badLit vars) A0 c0 l0 (w.alloc (.cells #[.int .i64 vars, v1] 24)) (Kd.C_alloc hr0 _) enters_exist1
  (fun x => exist1_calls w.heap.size vars x _ (by rw [World.cell?_alloc_new]; rfl))
 clear hr0
 generalize l0.any (badLit vars) = q at hc ⊢
 go_enter Tryz.func78, Tryz.ntmps78
 go_wp2_with (go_at_call 52; refine hc.mono ?_; rintro e w' ⟨rfl, rfl⟩)
 go_ret
 exact ⟨rfl, (Below.refl _ _).alloc (Nat.le_refl _) _⟩
end Go.Proofs.YtogicccdngpafaaGreatDoor.NState
end
section
set_option maxHeartbeats 4000000
set_option maxRecDepth 100000
namespace Go.Proofs.YtogicccdngpafaaGreatDoor.NState
open Go Go.RowKit Go.Shelf QW.PrintWords QW.PrintLast QW.PrintMore NMap
open PCheck (cnf_Check.f cnf_Check.calls rL at_L1)
def scanL (S : List Int) : Int → Int → Int → List (List Int) → Int × Int × Int
 | _, unit, only, [] => (0, unit, only)
 | i, unit, only, l :: ls =>
  if (leftL S 0 0 l).2 = 0 then (i + 1, unit, only)
  else if (leftL S 0 0 l).2 = 1 ∧ S.contains (leftL S 0 0 l).1 = false ∧ unit = 0 then scanL S (i + 1) (i + 1) (leftL S 0 0 l).1 ls
  else scanL S (i + 1) unit only ls
def hintL : Nat → List Int → List Int → List (List Int) → Option (List Int × Int)
 | 0, _, _, _ => none
 | k + 1, S, out, cls =>
  if out.length < 17592186044416 then
   (if (scanL S 0 0 0 cls).1 = 0 then
    (if (scanL S 0 0 0 cls).2.1 = 0 then some ([], 8) else hintL k ((scanL S 0 0 0 cls).2.2 :: S) (out ++ [(scanL S 0 0 0 cls).2.1]) cls)
   else some (out ++ [(scanL S 0 0 0 cls).1], 0))
  else none
def hintF (k : Nat) (vars : Int) (cls : List (List Int)) (l0 : List Int) : Option (List Int × Int) :=
 (cnf_Check.f k vars cls).bind fun e => if e = 0 then (if l0.any (badLit vars) then some ([], 1) else match assumeL [] l0 with | none => some ([], 0) | some S => hintL k S [] cls) else some ([], e)
theorem blk_new (w : World) (o : Obj) : (w.alloc o).heap[w.heap.size]? = some o := by show (w.heap.push o)[w.heap.size]? = _; simp
theorem R_turned {α κ : Type} {kv : κ → Value} {d : Kd α} {e : Nat} {w w1 : World} {base b : Nat} {ok : Nat → Prop} {v : Value} {xs : List α} {f : κ → Option Value} (h : Kd.R d e w base ok v xs) (hm : HasMap kv w b f) (ht : Turned w w1 b) : Kd.R d e w1 base ok v xs :=
 Kd.R_mono (Kd.R_step (Kd.R_bound h) (fun k hk hl => by
  obtain ⟨_, _, _, q, _, cells, hc⟩ := hk
  refine ht.1.block k hl (fun he => ?_)
  cases he
  obtain ⟨es, c, hb, _⟩ := hm
  rw [hb] at hc; cases hc)) (fun _ hk => hk.1)
theorem bkg {W w1 : World} {g : Nat} {o : Obj} {row : Option Nat} (h : W.heap[g]? = some o) (hg : W.grownBy w1 row) (hne : some g ≠ row) : w1.heap[g]? = some o :=
 (hg.block g (Array.getElem?_eq_some_iff.1 h).1 hne).trans h
theorem map_grown {κ : Type} {kv : κ → Value} {W w1 : World} {b : Nat} {f : κ → Option Value} {row : Option Nat} (h : HasMap kv W b f) (hg : W.grownBy w1 row) (hne : some b ≠ row) : HasMap kv w1 b f :=
 h.of_block (hg.block b h.lt hne)
theorem map_ne_own {α κ : Type} {kv : κ → Value} {d : Kd α} {e : Nat} {W : World} {base b : Nat} {ok : Nat → Prop} {v : Value} {xs : List α} {f : κ → Option Value} (h : HasMap kv W b f) (hR : Kd.R d e W base ok v xs) : some b ≠ v.ownBlock := fun he => by
 obtain ⟨cells, hc⟩ := Kd.R_typed hR b he.symm
 obtain ⟨es, c, hb, _⟩ := h
 rw [hb] at hc; cases hc
theorem infoInt : (Tryz.prog.info? 3).map (fun i => (i.zero, i.size, i.bytes)) = some (some (.int .i64 0), 1, 8) := by kernel_rfl
def HintPost (w : World) (r1 : List Int) (r2 : Int) (e : Ending) (w' : World) : Prop :=
 ∃ v0_ : Value, e = .returned (.tuple #[v0_, .int .i64 r2]) ∧ Kd.R (Kd.int .i64) 3 w' w.heap.size (fun _ => True) v0_ r1 ∧ Below w.heap.size w w'
theorem hint_calls (k : Nat) (vars : Int) (A1 : Option Addr) (c1 : Nat) (cls : List (List Int)) (A0 : Option Addr) (c0 : Nat) (l0 : List Int) (r1 : List Int) (r2 : Int) (w : World)
  (hr1 : Kd.C (Kd.slice 3 (Kd.int .i64)) w A1 cls.length cls) (hc1 : cls.length ≤ c1) (hr0 : Kd.C (Kd.int .i64) w A0 l0.length l0) (hc0 : l0.length ≤ c0)
  (h : hintF k vars cls l0 = some (r1, r2)) :
  Calls Tryz.prog 33 #[.agg #[.int .i64 vars, .slice A1 cls.length c1], .slice A0 l0.length c0] w (HintPost w r1 r2) := by
 have HR1 := Az.mk hr1
 have HR0 := Az.mk hr0
 have HC1 := Az.mk hc1
 unfold hintF at h
 obtain ⟨e0, he0, h⟩ := Option.bind_eq_some_iff.mp h
 have HE := Az.mk he0
 have H := Az.mk h
 clear hr1 hc1 hr0 hc0 h he0
 have hu24 := Tryz.underlying24
 go_enter Tryz.func33, Tryz.ntmps33
 go_wp2_with fail
 refine (cnf_Check.calls k vars A1 c1 cls e0 _ (Kd.C_alloc HR1.out _) HC1.out HE.out).mono ?_
 rintro e w1 ⟨rfl, hb1⟩
 have BK : Az (w1.heap[w.heap.size]? = some (.cells #[.int .i64 vars, .slice A1 cls.length c1] 24 (0, 0))) := ⟨blk_below (blk_new w _) hb1⟩
 have HB : Az (Below w.heap.size w w1) := ⟨bwt ((Below.refl _ _).alloc (Nat.le_refl _) _) hb1⟩
 have HS : Az (w.heap.size < w1.heap.size) := ⟨by have := hb1.size; simp at this; omega⟩
 clear hb1
 by_cases h0 : e0 = 0
 ·subst h0
  have H1 := Az.mk ((if_pos rfl).symm.trans H.out)
  clear H HE
  have hx0 : w1.cell? ⟨w.heap.size, 0, none⟩ = some (.int .i64 vars) := (bkc BK.out 0).trans rfl
  have hx1 : w1.cell? ⟨w.heap.size, 1, none⟩ = some (.slice A1 cls.length c1) := (bkc BK.out 1).trans rfl
  go_wp2_with fail
  refine (exist_calls vars _ A0 c0 l0 w1 (Kd.C_below HR0.out HB.out)).mono ?_
  rintro e w2 ⟨rfl, hb2⟩
  replace BK := Az.mk (blk_below BK.out hb2)
  replace HB := Az.mk (bwt HB.out hb2)
  replace HS := Az.mk (Nat.lt_of_lt_of_le HS.out hb2.size)
  clear hb2 hx0 hx1
  by_cases hbad : l0.any (badLit vars) = true
  ·have H2 := Az.mk (Option.some.inj ((if_pos hbad).symm.trans H1.out))
   rw [hbad]
   clear H1
   go_wp2
   go_ret2
   refine ⟨_, by rw [← (Prod.mk.inj H2.out).2]; rfl, ?_, HB.out⟩
   rw [← (Prod.mk.inj H2.out).1]
   exact Kd.R_nil _ _ _ _ _
  ·have H2 := Az.mk ((if_neg hbad).symm.trans H1.out)
   rw [Bool.not_eq_true] at hbad
   rw [hbad]
   clear H1
   go_wp2_with fail
   refine (assume_calls A0 c0 l0 w2 (Kd.C_below HR0.out HB.out)).mono ?_
   rintro e w3 ⟨hb3, hr3⟩
   replace BK := Az.mk (blk_below BK.out hb3)
   have HW := Az.mk HS.out
   replace HB := Az.mk (bwt HB.out hb3)
   replace HS := Az.mk (Nat.lt_of_lt_of_le HS.out hb3.size)
   clear hbad
   rcases hr3 with ⟨hr, rfl⟩ | ⟨S, b, hr, hbw, rfl, hm⟩
   ·have H3 := Az.mk H2.out
    rw [hr] at H3
    have H4 := Az.mk (Option.some.inj H3.out)
    clear H2 H3 hr hb3
    go_wp2
    go_ret2
    refine ⟨_, by rw [← (Prod.mk.inj H4.out).2]; rfl, ?_, HB.out⟩
    rw [← (Prod.mk.inj H4.out).1]
    exact Kd.R_nil _ _ _ _ _
   ·rw [hr] at H2
    have H3 : Az (hintL k S [] cls = some (r1, r2)) := ⟨H2.out⟩
    have HM := Az.mk hm
    have HbW : Az (w.heap.size < b) := ⟨Nat.lt_of_lt_of_le HW.out hbw⟩
    clear H2 hr hb3 hbw hm HW
    go_wp2
    go_loopg [9] k (fun kq v9 wr => ∃ (S : List Int) (out : List Int), Az (hintL kq S out cls = some (r1, r2)) ∧ Az (HasMap (Value.int .i64) wr b (setF S)) ∧ Az (Kd.R (Kd.int .i64) 3 wr w.heap.size (fun _ => True) v9 out) ∧ Az (Below w.heap.size w wr) ∧ Az (wr.heap[w.heap.size]? = some (.cells #[.int .i64 vars, .slice A1 cls.length c1] 24 (0, 0))) ∧ Az (w.heap.size < wr.heap.size))
    case atStart => exact ⟨S, [], H3, HM, ⟨Kd.R_nil _ _ _ _ _⟩, HB, BK, HS⟩
    case round =>
     clear H3 HM HB BK HS
     obtain ⟨S, out, HA, HM, HO, HB, BK, HS⟩ := hrel
     cases gk with
     | zero => exact absurd HA.out (by simp [hintL])
     | succ k1 =>
      have H := HA.out
      clear HA
      rw [hintL] at H
      by_cases hlen : out.length < 17592186044416
      ·rw [if_pos hlen] at H
       have HLEN := Az.mk hlen
       have H4 := Az.mk H
       clear H hlen
       have hx1 : wr.cell? ⟨w.heap.size, 1, none⟩ = some (.slice A1 cls.length c1) := (bkc BK.out 1).trans rfl
       have HCL := Az.mk (Kd.C_below HR1.out HB.out)
       obtain ⟨wo, rfl⟩ : ∃ wo : World, wo = wr := ⟨_, rfl⟩
       have HLC := Az.mk (Kd.C_max HCL.out)
       go_wp2
       go_loop [10, 11, 35] (fun v10 v11 v35 => ∃ (j : Nat) (unit only : Int), v10 = .int .i64 unit ∧ v11 = .int .i64 only ∧ v35 = .int .i64 j ∧ j ≤ cls.length ∧ Az (scanL S 0 0 0 cls = scanL S j unit only (cls.drop j))) (fun _ _ v35 => cls.length - (intOf v35).toNat)
       case atStart => exact ⟨0, 0, 0, rfl, rfl, rfl, Nat.zero_le _, ⟨by simp⟩⟩
       case round =>
        obtain ⟨j, unit, only, rfl, rfl, rfl, hj, HA⟩ := hrel
        by_cases hlt : j < cls.length
        ·obtain ⟨ad, A2, c2, rfl, hc, _, hC2⟩ := at_L1 HCL.out (j : Int) (by omega) (by omega)
         have hd : cls.drop j = rL cls j :: cls.drop (j + 1) := by
          rw [List.drop_eq_getElem_cons hlt]; simp [rL, List.getD, hlt]
         rw [hd] at HA
         clear hd
         generalize rL cls j = l at HA hc hC2
         simp only [Int.toNat_natCast] at hc
         have hcall := left_calls b S A2 c2 l wo HM.out hC2
         have HP := Az.mk (show leftL S 0 0 l = ((leftL S 0 0 l).1, (leftL S 0 0 l).2) from rfl)
         generalize (leftL S 0 0 l).1 = x at hcall HP
         generalize (leftL S 0 0 l).2 = n at hcall HP
         clear hC2
         by_cases hn0 : n = 0
         ·subst hn0
          obtain ⟨y, hy⟩ : ∃ y : Int, wrap64 ((j : Int) + 1) = y := ⟨_, rfl⟩
          have HY := Az.mk hy
          go_wp2_with (first | (go_at_call 80; refine hcall.mono ?_; rintro e w' ⟨rfl, rfl⟩) | ((with_reducible refine gate_builtin (b := .append) (xs := #[.tmp 48, .tmp 51]) rfl ?_); at_builtin; refine Kd.R_append (Kd.int .i64) (w0 := w) w.heap.size rfl (.tmp 48) (.tmp 51) 31 3 (.int .i64 0) 8 rfl Tryz.underlying31 infoInt rfl (by decide) (by omega) u9 out y [.int .i64 y] (fun _ => True) (fun _ => False) rfl rfl ?aP (fun _ hk => hk.elim) ?aF ?aO ?aB ?aS ?aL ?_; (case aP => exact rfl); (case aF => exact fun _ _ => trivial); (case aO => exact HO.out); (case aB => exact HB.out); (case aS => exact HB.out.size); (case aL => have := HLEN.out; omega); intro v9n w5 ho hb hg hat; have HO5 := Az.mk ho; have HB5 := Az.mk hb; have HG5 := Az.mk hg; clear ho hb hg hat))
          go_ret2
          rw [HA.out, scanL, HP.out, if_pos rfl, if_neg (by simp only; omega)] at H4
          have H5 := Option.some.inj H4.out
          refine ⟨_, by rw [← (Prod.mk.inj H5).2]; rfl, ?_, HB5.out⟩
          rw [← (Prod.mk.inj H5).1]
          rw [← HY.out, wrap_succ hlt HLC.out] at HO5
          exact HO5.out
         ·have hn0' : (n == 0) = false := by simpa using hn0
          by_cases hn1 : n = 1
          ·subst hn1
           clear hn0 hn0'
           have hl := HM.out.lookup kint Tryz.underlying133 (zeroBool _) false x
           rw [setF_look] at hl
           simp only [Bool.false_eq_true, if_false] at hl
           by_cases hcon : S.contains x = true
           ·rw [hcon] at hl
            have HCON := Az.mk hcon
            clear hcon
            go_wp2_with (go_at_call 80; refine hcall.mono ?_; rintro e w' ⟨rfl, rfl⟩)
            go_round
            case rel =>
             refine ⟨j + 1, unit, only, rfl, rfl, by rw [wrap_succ hlt HLC.out], by omega, ⟨?_⟩⟩
             rw [HA.out, scanL, HP.out, if_neg (by simp), if_neg (by rw [HCON.out]; simp)]; simp
            case measure => exact meas_x hlt (wrap_succ hlt HLC.out)
           ·rw [Bool.not_eq_true] at hcon
            rw [hcon] at hl
            have HCON := Az.mk hcon
            clear hcon
            by_cases hu : unit = 0
            ·subst hu
             go_wp2_with (go_at_call 80; refine hcall.mono ?_; rintro e w' ⟨rfl, rfl⟩)
             go_round
             case rel =>
              refine ⟨j + 1, (j + 1 : Nat), x, by rw [wrap_succ hlt HLC.out], rfl, by rw [wrap_succ hlt HLC.out], by omega, ⟨?_⟩⟩
              rw [HA.out, scanL, HP.out, if_neg (by simp), if_pos ⟨rfl, HCON.out, rfl⟩]; simp
             case measure => exact meas_x hlt (wrap_succ hlt HLC.out)
            ·have HU := Az.mk hu
             have hu' : (unit == 0) = false := by simpa using hu
             clear hu
             go_wp2_with (go_at_call 80; refine hcall.mono ?_; rintro e w' ⟨rfl, rfl⟩)
             go_round
             case rel =>
              refine ⟨j + 1, unit, only, rfl, rfl, by rw [wrap_succ hlt HLC.out], by omega, ⟨?_⟩⟩
              rw [HA.out, scanL, HP.out, if_neg (by simp), if_neg (fun hh => HU.out hh.2.2)]; simp
             case measure => exact meas_x hlt (wrap_succ hlt HLC.out)
          ·have HN0 := Az.mk hn0
           have HN1 := Az.mk hn1
           have hn1' : (n == 1) = false := by simpa using hn1
           clear hn0 hn1
           go_wp2_with (go_at_call 80; refine hcall.mono ?_; rintro e w' ⟨rfl, rfl⟩)
           go_round
           case rel =>
            refine ⟨j + 1, unit, only, rfl, rfl, by rw [wrap_succ hlt HLC.out], by omega, ⟨?_⟩⟩
            rw [HA.out, scanL, HP.out, if_neg HN0.out, if_neg (fun hh => HN1.out hh.1)]; simp
           case measure => exact meas_x hlt (wrap_succ hlt HLC.out)
        ·rw [List.drop_of_length_le (by omega), scanL] at HA
         rw [HA.out] at H4
         by_cases hu : unit = 0
         ·subst hu
          have H5 := Az.mk (Option.some.inj H4.out)
          go_wp2
          go_ret2
          refine ⟨_, by rw [← (Prod.mk.inj H5.out).2]; rfl, ?_, HB.out⟩
          rw [← (Prod.mk.inj H5.out).1]
          exact Kd.R_nil _ _ _ _ _
         ·have hu' : (unit == 0) = false := by simpa using hu
          have H5 : Az (hintL k1 (only :: S) (out ++ [unit]) cls = some (r1, r2)) := ⟨by have := H4.out; rw [if_pos rfl, if_neg hu] at this; exact this⟩
          clear hu H4 HA
          go_wp2_with (first | ((with_reducible refine gate_builtin (b := .append) (xs := #[.tmp 71, .tmp 73]) rfl ?_); at_builtin; refine Kd.R_append (Kd.int .i64) (w0 := w) w.heap.size rfl (.tmp 71) (.tmp 73) 31 3 (.int .i64 0) 8 rfl Tryz.underlying31 infoInt rfl (by decide) (by omega) u9 out (unit) [.int .i64 (unit)] (fun _ => True) (fun _ => False) rfl rfl ?aP (fun _ hk => hk.elim) ?aF ?aO ?aB ?aS ?aL ?_; (case aP => exact rfl); (case aF => exact fun _ _ => trivial); (case aO => exact HO.out); (case aB => exact HB.out); (case aS => exact HB.out.size); (case aL => have := HLEN.out; omega); intro v9n w5 ho hb hg hat; have HO5 := Az.mk ho; have HB5 := Az.mk hb; have HG5 := Az.mk hg; clear ho hb hg hat) | (at_mapUpdate; have hm5 : HasMap (Value.int .i64) w5 b (setF S) := map_grown HM.out HG5.out (map_ne_own HM.out HO.out); refine wp_store _ rfl _ _ _ 133 rfl 3 4 kint Tryz.underlying133 b _ rfl hm5 _ _ rfl rfl ?_; intro w6 hm6 ht6; have HM6 := Az.mk hm6; have HT6 := Az.mk ht6; have HM5 := Az.mk hm5; clear hm6 ht6 hm5))
          have hne := Kd.R_ne (g := w.heap.size) HO.out BK.out (by decide)
          have HbW' := HbW.out
          go_roundg k1
          case rel =>
           refine ⟨only :: S, out ++ [unit], H5, ⟨?_⟩, ⟨?_⟩, ⟨?_⟩, ⟨?_⟩, ⟨?_⟩⟩
           ·rw [← setF_put]; exact HM6.out
           ·exact R_turned HO5.out HM5.out HT6.out
           ·exact turned_below HB5.out HT6.out (by omega) HB5.out.size
           ·exact bkg (bkg BK.out HG5.out hne) HT6.out.1 (by intro he; cases he; omega)
           ·rw [HT6.out.2.1]; exact Nat.lt_of_lt_of_le HS.out HG5.out.size
          case measure => omega
      ·rw [if_neg hlen] at H
       exact absurd H (by simp)
 ·have H1 := Az.mk (Option.some.inj ((if_neg h0).symm.trans H.out))
  have h0' : (e0 != 0) = true := by simpa using h0
  clear H HE
  go_wp2
  go_ret2
  refine ⟨_, by rw [← (Prod.mk.inj H1.out).2]; rfl, ?_, HB.out⟩
  rw [← (Prod.mk.inj H1.out).1]
  exact Kd.R_nil _ _ _ _ _
end Go.Proofs.YtogicccdngpafaaGreatDoor.NState
end
section
set_option maxRecDepth 100000
namespace Go.Proofs.YtogicccdngpafaaGreatDoor.NPlain
open Go Go.RowKit QW.PrintWords QW.PrintLast QW.PrintMore NState
def Ev {α : Type} (f : Nat → Option α) (r : α) : Prop := ∃ K, ∀ k, K ≤ k → f k = some r
theorem Ev.pure {α : Type} (r : α) : Ev (fun _ => some r) r := ⟨0, fun _ _ => rfl⟩
theorem Ev.succ {α : Type} {f : Nat → Option α} {r : α} (h : Ev (fun k => f (k + 1)) r) : Ev f r := by
 obtain ⟨K, h⟩ := h
 refine ⟨K + 1, fun k hk => ?_⟩
 obtain ⟨j, rfl⟩ : ∃ j, k = j + 1 := ⟨k - 1, by omega⟩
 exact h j (by omega)
theorem Ev.bind {α β : Type} {f : Nat → Option α} {g : Nat → α → Option β} {a : α} {r : β} (h1 : Ev f a) (h2 : Ev (fun k => g k a) r) : Ev (fun k => (f k).bind (g k)) r := by
 obtain ⟨K1, h1⟩ := h1
 obtain ⟨K2, h2⟩ := h2
 refine ⟨max K1 K2, fun k hk => ?_⟩
 show (f k).bind (g k) = _
 rw [h1 k (by omega)]; exact h2 k (by omega)
theorem Ev.pos {α : Type} {c : Prop} [Decidable c] {f g : Nat → Option α} {r : α} (hc : c) (h : Ev f r) : Ev (fun k => if c then f k else g k) r := by
 simpa only [if_pos hc] using h
theorem Ev.neg {α : Type} {c : Prop} [Decidable c] {f g : Nat → Option α} {r : α} (hc : ¬ c) (h : Ev g r) : Ev (fun k => if c then f k else g k) r := by
 simpa only [if_neg hc] using h
theorem down {P : Nat → Prop} {n : Nat} (hend : P n) (hstep : ∀ i, i < n → P (i + 1) → P i) : ∀ i, i ≤ n → P i := by
 intro i hi
 obtain ⟨d, hd⟩ : ∃ d, d = n - i := ⟨_, rfl⟩
 induction d generalizing i with
 | zero => rw [show i = n by omega]; exact hend
 | succ d ih => exact hstep i (by omega) (ih (i + 1) (by omega) (by omega))
theorem wneg {x : Int} (h1 : -4611686018427387904 ≤ x) (h2 : x ≤ 4611686018427387904) : wrap64 (-x) = -x := by unfold wrap64; omega
theorem wid {x : Int} (h1 : -4611686018427387904 ≤ x) (h2 : x ≤ 4611686018427387904) : wrap64 x = x := by unfold wrap64; omega
end Go.Proofs.YtogicccdngpafaaGreatDoor.NPlain
end
section
set_option maxRecDepth 100000
namespace Go.Proofs.YtogicccdngpafaaGreatDoor.NPlain
open Go Go.RowKit QW.PrintWords QW.PrintLast QW.PrintMore NState
def free (S : List Int) (L : List Int) : Nat := (L.filter fun x => !S.contains x).length
end Go.Proofs.YtogicccdngpafaaGreatDoor.NPlain
end
