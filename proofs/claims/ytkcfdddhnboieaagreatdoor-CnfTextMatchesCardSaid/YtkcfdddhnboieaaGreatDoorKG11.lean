/-
  Part 11 of the proof of cnfTextMatches_card: walks and lemmas.
-/
import Derived.Test.YtkcfdddhnboieaaGreatDoorKG10
import Derived.Test.YtkcfdddhnboieaaGreatDoorKG6
import Derived.Deep.RegionWith
import Derived.Test.YtkcfdddhnboieaaGreatDoorKG4
import Derived.Test.YtkcfdddhnboieaaGreatDoorKG5
set_option linter.unusedVariables false
set_option linter.unusedSimpArgs false
section
set_option maxHeartbeats 4000000
set_option maxRecDepth 100000
namespace Go.Proofs.YtkcfdddhnboieaaGreatDoor.NState
open Go Go.RowKit Go.Shelf QW.PrintWords QW.PrintLast QW.PrintMore NMap
open PCheck (cnf_Check.f cnf_Check.calls rL at_L1)
open NPlain (LitOk wneg)
attribute [local go_sem] max2_int min2_int max_two min_two
theorem drewN_drewN (w : World) (a b : Nat) : (w.drewN a).drewN b = w.drewN (a + b) := by unfold World.drewN; simp [Nat.add_assoc]
theorem indexFuncD_calls (g : FuncId) (lb : Array Value) (p : Int → Bool) (A0 : Option Addr) (c0 : Nat) (l0 : List Int) (w : World) (hr0 : Kd.C (Kd.int .i64) w A0 l0.length l0)
  (eg : ∀ args w, (callFunc g args).run Tryz.prog w = .ok (.enter g args) w) (hp : ∀ x ∈ l0, ∀ q, Calls Tryz.prog g (#[.int .i64 x] ++ lb) (w.drewN q) fun e w' => e = .returned (.bool (p x)) ∧ ∃ m, w' = w.drewN m) :
  Calls Tryz.prog 74 #[.slice A0 l0.length c0, .func (.func g) #[] lb] w fun e w' => e = .returned (.int .i64 (idxG p 0 l0)) ∧ ∃ m, w' = w.drewN m := by
 have HR0 := Az.mk hr0
 have HL := Az.mk (Kd.C_max hr0)
 have HP := Az.mk hp
 have EG := Az.mk eg
 clear hr0 hp eg
 go_enter Tryz.func74, Tryz.ntmps74
 go_wp2
 go_loopw [5, 8, 9, 10, 11, 12, 13, 14, 15, 16, 18] (fun v5 v8 v9 v10 v11 v12 v13 v14 v15 v16 v18 wr => ∃ (k q : Nat), v8 = .int .i64 k ∧ k ≤ l0.length ∧ Az (idxG p 0 l0 = idxG p k (l0.drop k)) ∧ wr = w.drewN q) (fun _ v8 _ _ _ _ _ _ _ _ _ _ => l0.length - (intOf v8).toNat)
 case atStart => exact ⟨0, 0, rfl, Nat.zero_le _, ⟨by simp⟩, rfl⟩
 case round =>
  obtain ⟨k, q, rfl, hk, HA, rfl⟩ := hrel
  by_cases hlt : k < l0.length
  ·obtain ⟨ad, rfl, hc⟩ := Kd.at_int HR0.out (k : Int) (by omega) (by omega)
   rw [drop_rd hlt] at HA
   have HM : Az (rd l0 k ∈ l0) := ⟨by
    have e : rd l0 k = l0[k] := by simp [rd, List.getD, hlt]
    rw [e]; exact List.getElem_mem _⟩
   generalize rd l0 k = x at HA hc HM
   simp only [Int.toNat_natCast] at hc
   have he := EG.out (#[.int .i64 x] ++ lb) (w.drewN q)
   by_cases hpx : p x = true
   ·have hpc := HP.out x HM.out q
    rw [hpx] at hpc
    go_wp2_with (refine hpc.mono ?_; rintro e w' ⟨rfl, m, rfl⟩)
    go_ret
    refine ⟨?_, _, rfl⟩
    rw [HA.out, idxG, if_pos hpx]; rfl
   ·have hpc := HP.out x HM.out q
    rw [Bool.not_eq_true] at hpx
    have HX := Az.mk hpx
    rw [hpx] at hpc
    clear hpx
    go_wp2_with (refine hpc.mono ?_; rintro e w' ⟨rfl, m, rfl⟩)
    go_roundw
    case rel =>
     refine ⟨k + 1, m, by rw [wrap_succ hlt HL.out], by omega, ⟨?_⟩, rfl⟩
     rw [HA.out, idxG, HX.out]; simp
    case measure => exact meas_x hlt (wrap_succ hlt HL.out)
  ·go_wp2
   go_ret
   refine ⟨?_, _, rfl⟩
   rw [HA.out, List.drop_of_length_le (by omega)]; rfl
theorem containsFuncD_calls (g : FuncId) (lb : Array Value) (p : Int → Bool) (A0 : Option Addr) (c0 : Nat) (l0 : List Int) (w : World) (hr0 : Kd.C (Kd.int .i64) w A0 l0.length l0)
  (eg : ∀ args w, (callFunc g args).run Tryz.prog w = .ok (.enter g args) w) (hp : ∀ x ∈ l0, ∀ q, Calls Tryz.prog g (#[.int .i64 x] ++ lb) (w.drewN q) fun e w' => e = .returned (.bool (p x)) ∧ ∃ m, w' = w.drewN m) :
  Calls Tryz.prog 60 #[.slice A0 l0.length c0, .func (.func g) #[] lb] w fun e w' => e = .returned (.bool (l0.any p)) ∧ ∃ m, w' = w.drewN m := by
 have hc := indexFuncD_calls g lb p A0 c0 l0 w hr0 eg hp
 have hi := Az.mk (idxG_any p l0)
 clear eg hp hr0
 generalize idxG p 0 l0 = q at hc hi
 go_enter Tryz.func60, Tryz.ntmps60
 go_wp2_with (go_at_call 74; refine hc.mono ?_; rintro e w' ⟨rfl, m, rfl⟩)
 go_ret
 exact ⟨by rw [← hi.out]; rfl, _, rfl⟩
def evalR1.T : Bool × List (List Nat × List Nat) := (true, [([], []), ([], []), ([1], [1]), ([2, 2], [2]), ([3], [3]), ([0, 4], [0, 4]), ([5], [5]), ([], []), ([7], [7]), ([6, 8], [6, 8]), ([9, 3, 0, 1, 2, 3, 4, 5, 6, 7, 8, 9], [9])])
def evalR1.B : List Nat := [0, 0, 2, 6, 14, 31, 63, 0, 128, 511, 1023]
theorem evalR1.tab : rtab .any (opsOf Tryz.f57 1) = evalR1.T := by kernel_rfl
theorem evalR1.bits : waitsOk evalR1.T.2 evalR1.B = true := by kernel_rfl
theorem wrap_calls (x : Int) (w : World) : Calls Tryz.prog 58 #[.int .i64 x] w fun e w' => e = .returned (.int .i64 x) ∧ Drawn0 w w' := by
 go_enter Tryz.func58, Tryz.ntmps58
 go_wp2
 go_ret
 exact ⟨rfl, Drawn0.refl _⟩
def varI (x : Int) : Int := max x (wrap64 (-x))
theorem variable_calls (x : Int) (w : World) : Calls Tryz.prog 59 #[.int .i64 x] w fun e w' => e = .returned (.int .i64 (varI x)) ∧ Drawn0 w w' := by
 have hv : varI x = max x (wrap64 (-x)) := rfl
 generalize varI x = y at hv
 go_enter Tryz.func59, Tryz.ntmps59
 go_wp2
 ·go_ret
  refine ⟨?_, Drawn0.refl _⟩
  show Ending.returned (Value.int .i64 (wrap64 (-x))) = _
  rw [Int.max_eq_right (by omega)]
 ·go_ret
  refine ⟨?_, Drawn0.refl _⟩
  show Ending.returned (Value.int .i64 x) = _
  rw [Int.max_eq_left (by omega)]
def trueB (m : List Bool) (x : Int) : Bool := rdOf false m (wrap64 (varI x - 1)) == decide (x > 0)
theorem varI_ok {n : Nat} (hn : n ≤ 100000) {x : Int} (hx : LitOk n x) : 0 ≤ wrap64 (varI x - 1) ∧ wrap64 (varI x - 1) < n := by
 obtain ⟨h0, h1, h2⟩ := hx
 unfold varI
 rw [wneg (by omega) (by omega)]
 unfold wrap64
 omega
theorem holds0_calls {n B : Nat} (hn : n ≤ 100000) {A1 : Option Addr} {c1 : Nat} {m : List Bool} {w : World} (hm : m.length = n) (hc : w.cell? ⟨B, 0, none⟩ = some (.slice A1 m.length c1)) (hC : Kd.C Kd.bool w A1 m.length m) {x : Int} (hx : LitOk n x) :
  Calls Tryz.prog 57 #[.int .i64 x, .pointer (some ⟨B, 0, none⟩)] w fun e w' => e = .returned (.bool (trueB m x)) ∧ Drawn0 w w' := by
 obtain ⟨h1, h2⟩ := varI_ok hn hx
 rw [← hm] at h2
 obtain ⟨ad, e1, hx0⟩ := Kd.at_bool hC _ h1 h2
 subst e1
 have ht : trueB m x = (rdOf false m (wrap64 (varI x - 1)) == decide (x > 0)) := rfl
 have HT := Az.mk ht
 generalize trueB m x = tt at HT ⊢
 have HV := variable_calls x
 generalize varI x = y at HV hx0 h1 h2 HT
 have hji : (IntKind.i64.wrap (y - 1)) = wrap64 (y - 1) := iw _
 generalize wrap64 (y - 1) = j at hx0 h1 h2 hji HT
 have p1 := eq_true h1
 have q1 := eq_true h2
 clear hC hx hm hn h1 h2 ht
 go_enter Tryz.func57, Tryz.ntmps57
 go_wp2_with fail
 obtain ⟨z, hz⟩ : ∃ z, rdOf false m j = z := ⟨_, rfl⟩
 rw [hz] at hx0 HT
 clear hz
 refine start_ (n := 11) (S := fun w' => w'.cell? ⟨B, 0, none⟩ = some (.slice (some ad) m.length c1) ∧ w'.cell? (ad.add j.toNat) = some (.bool z)) (ds := []) (Array.replicate 11 false) (by kernel_rfl) rfl rfl ⟨hc, hx0⟩ (fun hHeld => ?_); refine with_tabW evalR1.tab evalR1.bits (fun HT_ HW_ => ?_)
 refine pT 0 (some 4) (bA 11 1) rfl rfl HT_.out HW_.out hHeld (by rintro w' ⟨s0, s1⟩; go_simp; with_reducible rfl) (by simp only [Act.put, zq1, zq2, zq3, iw, jw]; rfl) ?_
 refine pA 1 (some 5) (bA 11 3) rfl rfl HT_.out (by intro w'; go_simp; with_reducible rfl) (by simp only [Act.put, zq1, zq2, zq3, iw, jw]; rfl) ?_
 refine pA 7 (some 11) (bA 11 131) rfl rfl HT_.out (by intro w'; go_simp; with_reducible rfl) (by simp only [Act.put, zq1, zq2, zq3, iw, jw]; rfl) ?_
 refine pA 8 (some 12) (bA 11 387) rfl rfl HT_.out (by intro w'; go_simp; with_reducible rfl) (by simp only [Act.put, zq1, zq2, zq3, iw, jw]; rfl) ?_
 refine QW.PrintLast.one_ (i := 2) (N := some 6) (bA 11 391) rfl rfl (one_of HT_.out (by kernel_rfl)) (by decide) (fun K hK => ?_)
 refine goes_ Tryz.func58 (by kernel_rfl) rfl #[.int .i64 x] (by rfl) rfl rfl (by (try simp only [List.map_toArray, List.map_cons, List.map_nil]); first | done | rfl) ?_
 refine (wrap_calls x _).mono ?_
 rintro e w1 ⟨rfl, ⟨nd, rfl⟩⟩
 refine ⟨_, rfl, ?_⟩
 refine hK.out _ _ hHeld (fun hHeld => ?_)
 clear hK K
 refine norm_ (by show Act.put _ (some 6) _ = _; simp only [Act.put, zq1, zq2, zq3, iw, jw]; rfl) ?_
 refine QW.PrintLast.one_ (i := 3) (N := some 7) (bA 11 399) rfl rfl (one_of HT_.out (by kernel_rfl)) (by decide) (fun K hK => ?_)
 refine goes_ Tryz.func59 (by kernel_rfl) rfl #[.int .i64 x] (by rfl) rfl rfl (by (try simp only [List.map_toArray, List.map_cons, List.map_nil]); first | done | rfl) ?_
 refine (HV _).mono ?_
 rintro e w1 ⟨rfl, ⟨nd2, rfl⟩⟩
 refine ⟨_, rfl, ?_⟩
 refine hK.out _ _ hHeld (fun hHeld => ?_)
 clear hK K
 refine norm_ (by show Act.put _ (some 7) _ = _; simp only [Act.put, zq1, zq2, zq3, iw, jw]; rfl) ?_
 refine pA 4 (some 8) (bA 11 415) rfl rfl HT_.out (by intro w'; go_simp; with_reducible rfl) (by simp only [Act.put, zq1, zq2, zq3, iw, jw]; rfl) ?_
 refine pA 5 (some 9) (bA 11 447) rfl rfl HT_.out (by intro w'; go_simp; with_reducible rfl) (by simp only [Act.put, zq1, zq2, zq3, iw, jw]; rfl) ?_
 refine pT 6 (some 10) (bA 11 511) rfl rfl HT_.out HW_.out hHeld (by rintro w' ⟨s0, s1⟩; go_simp; with_reducible rfl) (by simp only [Act.put, zq1, zq2, zq3, iw, jw]; rfl) ?_
 refine pA 9 (some 13) (bA 11 1023) rfl rfl HT_.out (by intro w'; go_simp; with_reducible rfl) (by simp only [Act.put, zq1, zq2, zq3, iw, jw]; rfl) ?_
 refine pA 10 (some 3) (bA 11 2047) rfl rfl HT_.out (by intro w'; go_simp; with_reducible rfl) (by simp only [Act.put, zq1, zq2, zq3, iw, jw]; rfl) ?_
 refine done_ (done_of HT_.out (by kernel_rfl)) ?_
 clear hHeld HT_ HW_
 go_wp2
 go_ret
 exact ⟨by rw [HT.out]; rfl, by repeat (first | exact Drawn0.refl _ | apply Drawn0.step)⟩
theorem holds_calls {n B : Nat} (hn : n ≤ 100000) {A1 : Option Addr} {c1 : Nat} {m : List Bool} {w : World} (hm : m.length = n) (hc : w.cell? ⟨B, 0, none⟩ = some (.slice A1 m.length c1)) (hC : Kd.C Kd.bool w A1 m.length m) {x : Int} (hx : LitOk n x) (q : Nat) :
  Calls Tryz.prog 57 #[.int .i64 x, .pointer (some ⟨B, 0, none⟩)] (w.drewN q) fun e w' => e = .returned (.bool (trueB m x)) ∧ ∃ k, w' = w.drewN k :=
 (holds0_calls hn hm (w := w.drewN q) hc (Kd.C_below hC ⟨rfl, rfl, rfl, Nat.le_refl _, fun _ _ => rfl⟩) hx).mono fun _ _ ⟨he, k, hk⟩ => ⟨he, _, hk.trans (drewN_drewN _ _ _)⟩
theorem enters_holds (args : Array Value) (w : World) : (callFunc 57 args).run Tryz.prog w = .ok (.enter 57 args) w := enters_of Tryz.func57 (by kernel_rfl) rfl args w
def evalF (e vars : Int) (cls : List (List Int)) (m : List Bool) : Bool × Int :=
 if e = 0 then (if (m.length : Int) = vars then (cls.all fun l => l.any (trueB m), 0) else (false, 12)) else (false, e)
def EvalPost (w : World) (r : Bool × Int) (e : Ending) (w' : World) : Prop := e = .returned (.tuple #[.bool r.1, .int .i64 r.2]) ∧ Below w.heap.size w w'
theorem below_drewN {B n : Nat} {w w' : World} (h : Below B w w') : Below B w (w'.drewN n) := ⟨h.os, h.tape, h.output, h.size, h.block⟩
theorem eval_calls (k : Nat) (vars : Int) (A1 : Option Addr) (c1 : Nat) (cls : List (List Int)) (A2 : Option Addr) (c2 : Nat) (m : List Bool) (e0 : Int) (w : World) (hr1 : Kd.C (Kd.slice 3 (Kd.int .i64)) w A1 cls.length cls) (hc1 : cls.length ≤ c1) (hr2 : Kd.C Kd.bool w A2 m.length m) (hck : cnf_Check.f k vars cls = some e0)
  (hlit : e0 = 0 → (m.length : Int) = vars → m.length ≤ 100000 ∧ ∀ l ∈ cls, ∀ x ∈ l, LitOk m.length x) :
  Calls Tryz.prog 17 #[.agg #[.int .i64 vars, .slice A1 cls.length c1], .slice A2 m.length c2] w (EvalPost w (evalF e0 vars cls m)) := by
 have HR1 := Az.mk hr1
 have HR2 := Az.mk hr2
 have HC1 := Az.mk hc1
 have HCK := Az.mk hck
 have HLIT := Az.mk hlit
 have HL := Az.mk (Kd.C_max hr1)
 have HEV : Az (evalF e0 vars cls m = if e0 = 0 then (if (m.length : Int) = vars then (cls.all fun l => l.any (trueB m), 0) else (false, 12)) else (false, e0)) := ⟨rfl⟩
 generalize evalF e0 vars cls m = res at HEV ⊢
 clear hr1 hc1 hr2 hck hlit
 have hu24 := Tryz.underlying24
 go_enter Tryz.func17, Tryz.ntmps17
 go_wp2_with fail
 refine (cnf_Check.calls k vars A1 c1 cls e0 _ (Kd.C_alloc (Kd.C_alloc HR1.out _) _) HC1.out HCK.out).mono ?_
 rintro e w1 ⟨rfl, hb1⟩
 have BK : Az (w1.heap[w.heap.size]? = some (.cells #[.int .i64 vars, .slice A1 cls.length c1] 24 (0, 0))) := ⟨blk_below (bka (blk_new w _) _) hb1⟩
 have BM : Az (w1.heap[w.heap.size + 1]? = some (.cells #[.slice A2 m.length c2] 25 (0, 0))) := ⟨blk_below (blk_alloc_at (by simp) _) hb1⟩
 have HB : Az (Below w.heap.size w w1) := ⟨bwt (bwa (bwa (Below.refl _ _) _) _) hb1⟩
 clear hb1
 have hx0 : w1.cell? ⟨w.heap.size, 0, none⟩ = some (.int .i64 vars) := (bkc BK.out 0).trans rfl
 have hx1 : w1.cell? ⟨w.heap.size, 1, none⟩ = some (.slice A1 cls.length c1) := (bkc BK.out 1).trans rfl
 have hxm : w1.cell? ⟨w.heap.size + 1, 0, none⟩ = some (.slice A2 m.length c2) := (bkc BM.out 0).trans rfl
 by_cases he : e0 = 0
 ·subst he
  rw [if_pos rfl] at HEV
  by_cases hl : (m.length : Int) = vars
  ·rw [if_pos hl] at HEV
   obtain ⟨hn, hlo⟩ := HLIT.out rfl hl
   have HN := Az.mk hn
   have HLO := Az.mk hlo
   have hlb : ((m.length : Int) != vars) = false := by simpa using hl
   clear hl HLIT hn hlo HCK
   go_wp2
   go_loopw [24] (fun v24 wr => ∃ j : Nat, v24 = .int .i64 j ∧ j ≤ cls.length ∧ Az ((cls.take j).all (fun l => l.any (trueB m)) = true) ∧ Az (Below w1.heap.size w1 wr)) (fun v24 _ => cls.length - (intOf v24).toNat)
   case atStart => exact ⟨0, rfl, Nat.zero_le _, ⟨by simp⟩, ⟨Below.refl _ _⟩⟩
   case round =>
    obtain ⟨j, rfl, hj, HA, HW⟩ := hrel
    by_cases hlt : j < cls.length
    ·obtain ⟨ad, A', c', rfl, hcc, hl1, hC1⟩ := at_L1 (Kd.C_below (Kd.C_below HR1.out HB.out) HW.out) (j : Int) (by omega) (by omega)
     have hrd : rL cls j = cls[j] := by simp [rL, List.getD, hlt]
     have HM : Az (rL cls j ∈ cls) := ⟨by rw [hrd]; exact List.getElem_mem _⟩
     have HT : Az ((cls.take (j + 1)).all (fun l => l.any (trueB m)) = (rL cls j).any (trueB m)) := ⟨by
      rw [List.take_succ_eq_append_getElem hlt, List.all_append, HA.out, hrd]; simp⟩
     have HTA : Az ((rL cls j).any (trueB m) = false → cls.all (fun l => l.any (trueB m)) = false) := ⟨fun h => List.all_eq_false.2 ⟨_, HM.out, by rw [h]; simp⟩⟩
     clear hrd
     generalize rL cls j = l at hcc hl1 hC1 HM HT HTA
     simp only [Int.toNat_natCast] at hcc
     have hxw : wr.cell? ⟨w.heap.size + 1, 0, none⟩ = some (.slice A2 m.length c2) := (HW.out.cell (World.block_lt_of_cell? w1 _ hxm)).trans hxm
     have hct := containsFuncD_calls 57 #[.pointer (some ⟨w.heap.size + 1, 0, none⟩)] (trueB m) A' c' l wr hC1 enters_holds (fun x hx q => holds_calls HN.out rfl hxw (Kd.C_below (Kd.C_below HR2.out HB.out) HW.out) (HLO.out l HM.out x hx) q)
     clear hl1 hC1
     cases hb : l.any (trueB m) with
     | true =>
      rw [hb] at hct HT
      go_wp2_with (go_at_call 60; refine hct.mono ?_; rintro e w' ⟨rfl, q, rfl⟩)
      go_roundw
      case rel => exact ⟨j + 1, by rw [wrap_succ hlt HL.out], by omega, HT, ⟨below_drewN HW.out⟩⟩
      case measure => exact meas_x hlt (wrap_succ hlt HL.out)
     | false =>
      rw [hb] at hct
      have HF := Az.mk (HTA.out hb)
      go_wp2_with (go_at_call 60; refine hct.mono ?_; rintro e w' ⟨rfl, q, rfl⟩)
      go_ret2
      exact ⟨by rw [HEV.out, HF.out]; rfl, below_drewN (bwt HB.out HW.out)⟩
    ·have hjl : j = cls.length := by omega
     subst hjl
     rw [List.take_length] at HA
     go_wp2
     go_ret2
     exact ⟨by rw [HEV.out, HA.out]; rfl, bwt HB.out HW.out⟩
  ·rw [if_neg hl] at HEV
   have hlb : ((m.length : Int) != vars) = true := by simpa using hl
   clear hl HLIT
   go_wp2
   go_ret2
   exact ⟨by rw [HEV.out]; rfl, HB.out⟩
 ·rw [if_neg he] at HEV
  have heb : (e0 != 0) = true := by simpa using he
  clear he HLIT
  go_wp2
  go_ret2
  exact ⟨by rw [HEV.out]; rfl, HB.out⟩
end Go.Proofs.YtkcfdddhnboieaaGreatDoor.NState
end
section
set_option maxHeartbeats 8000000
set_option maxRecDepth 100000
namespace Go.Proofs.YtkcfdddhnboieaaGreatDoor.NState
open Go Go.RowKit Go.Shelf QW.PrintWords QW.PrintLast QW.PrintMore NMap
open PCheck (cnf_Check.f cnf_Check.calls rL at_L1)
open PPropagate (cnf_values_of.f cnf_values_set.f cnf_values_set.calls cnf_values_propagate.f cnf_values_propagate.calls)
open NPlain
def countR16.T : Bool × List (List Nat × List Nat) := (true, [([], []), ([0], [0]), ([], []), ([2, 1], [2]), ([1, 3, 0, 1], [1]), ([3, 4, 0, 1, 2, 3, 4], [3])])
def countR16.B : List Nat := [0, 1, 0, 7, 15, 31]
theorem countR16.tab : rtab .any (opsOf Tryz.f70 16) = countR16.T := by kernel_rfl
theorem countR16.bits : waitsOk countR16.T.2 countR16.B = true := by kernel_rfl
def countR19.T : Bool × List (List Nat × List Nat) := (true, [([], []), ([], []), ([0, 1], [0, 1]), ([], []), ([], []), ([3, 4, 2], [3, 4]), ([2, 5], [2, 5]), ([6, 5, 0, 1, 2, 3, 4, 5, 6], [6])])
def countR19.B : List Nat := [0, 0, 3, 0, 0, 31, 63, 127]
theorem countR19.tab : rtab .any (opsOf Tryz.f70 19) = countR19.T := by kernel_rfl
theorem countR19.bits : waitsOk countR19.T.2 countR19.B = true := by kernel_rfl
def countR8.T : Bool × List (List Nat × List Nat) := (true, [([], []), ([], []), ([1], [1]), ([2], [2]), ([3, 3], [3]), ([0, 4], [0, 4]), ([5, 5, 0, 1, 2, 3, 4, 5], [5]), ([6, 0, 1, 2, 3, 4, 5, 6], [])])
def countR8.B : List Nat := [0, 0, 2, 6, 14, 31, 63, 127]
theorem countR8.tab : rtab .any (opsOf Tryz.f27 8) = countR8.T := by kernel_rfl
theorem countR8.bits : waitsOk countR8.T.2 countR8.B = true := by kernel_rfl
theorem goesV_ {P : Program} {ops : Array Oper} {Q : Exit → Act → World → Prop} {oi : Oper} {N : Option Tmp} {a : Act} {w : World} {K : Act → World → Prop} {c : Operand} {f : FuncId} {lb : Array Value} {xs : Array Operand} {ts : Array TypeId}
  (he : ∀ args w, (callFunc f args).run P w = .ok (.enter f args) w) (vs args : Array Value) (hw : Region.wanted oi (yielded ops a.tmps) = true) (hN : oi.dst = N) (hop : oi.op = .call { callee := .value c, args := xs, argTypes := ts }) (hc : a.eval c = .func (.func f) #[] lb) (hv : xs.map a.eval = vs) (hargs : vs ++ lb = args)
  (h : Calls P f args w fun e w' => ∃ v, e = .returned v ∧ K (a.put N v) w') : if Region.wanted oi (yielded ops a.tmps) = true then Oper.wp P oi a w K Q else K (a.put N undef) w := by
 refine call_ f args hw hN ?_ h
 have he' := he args w
 subst hargs
 unfold execOp
 simp [hop, resolve, Deferred.ofValue, invoke, hc, hv, he']
structure CntFix (w0 : World) (cB fB n : Nat) (A1 : Option Addr) (c1 : Nat) (cls : List (List Int)) : Prop where
 n20 : n ≤ 20
 rows : Kd.C (Kd.slice 3 (Kd.int .i64)) w0 A1 cls.length cls
 cap : cls.length ≤ c1
 len : cls.length ≤ 1000000000
 lits : ∀ l ∈ cls, l.length ≤ 1000000000 ∧ ∀ x ∈ l, LitOk n x
 cbox : w0.heap[cB]? = some (.cells #[.int .i64 n, .slice A1 cls.length c1] 24 (0, 0))
 fbox : w0.heap[fB]? = some (.cells #[.func (.func 70) #[] #[.pointer (some ⟨cB, 0, none⟩), .pointer (some ⟨fB, 0, none⟩)]] 110 (0, 0))
theorem CntFix.fcell {w0 W : World} {cB fB n : Nat} {A1 : Option Addr} {c1 : Nat} {cls : List (List Int)} (F : CntFix w0 cB fB n A1 c1 cls) (hb : Below w0.heap.size w0 W) : W.cell? ⟨fB, 0, none⟩ = some (.func (.func 70) #[] #[.pointer (some ⟨cB, 0, none⟩), .pointer (some ⟨fB, 0, none⟩)]) := (bkc ((hb.block fB (blk_lt F.fbox)).trans F.fbox) 0).trans rfl
theorem CntFix.cells {w0 W : World} {cB fB n : Nat} {A1 : Option Addr} {c1 : Nat} {cls : List (List Int)} (F : CntFix w0 cB fB n A1 c1 cls) (hb : Below w0.heap.size w0 W) : W.cell? ⟨cB, 0, none⟩ = some (.int .i64 n) ∧ W.cell? ⟨fB, 0, none⟩ = some (.func (.func 70) #[] #[.pointer (some ⟨cB, 0, none⟩), .pointer (some ⟨fB, 0, none⟩)]) := ⟨(bkc ((hb.block cB (blk_lt F.cbox)).trans F.cbox) 0).trans rfl, F.fcell hb⟩
def ownB (v : Value) : Nat → Prop := fun k => some k = v.ownBlock
structure CntAt (w0 W0 W : World) (B : Nat) (vv : Value) (u : List Int) : Prop where
 below : Below w0.heap.size w0 W
 kept : Kept W0 W (ownB vv)
 box : W.heap[B]? = some (.cells #[vv] 100 (0, 0))
 row : Kd.R (Kd.int .i8) 101 W w0.heap.size (ownB vv) vv u
section
variable {w0 W0 W W2 : World} {B : Nat} {vv : Value} {u : List Int}
theorem CntAt.step (h : CntAt w0 W0 W B vv u) (hb : Below W.heap.size W W2) : CntAt w0 W0 W2 B vv u :=
 ⟨bwt h.below hb, h.kept.below hb, blk_below h.box hb, Kd.R_below h.row hb⟩
theorem CntAt.beside (h : CntAt w0 W0 W B vv u) {S : Nat → Prop} (hb : Below w0.heap.size w0 W2) (hk : Kept W W2 S) (h1 : ∀ k, S k → W0.heap.size ≤ k) (h2 : ¬ S B) (h3 : ∀ k, ownB vv k → ¬ S k) : CntAt w0 W0 W2 B vv u :=
 ⟨hb, h.kept.then_ hk (fun k hs => .inr (h1 k hs)), blk_kept h.box hk h2, Kd.R_step h.row (fun k ho hlt => hk.2 k hlt (h3 k ho))⟩
end
theorem CntAt.clone {w0 W0 W : World} {B n : Nat} {Av : Option Addr} {cv : Nat} {u T : List Int} (h : CntAt w0 W0 W B (.slice Av (n + 1) cv) u) (hu : VOk n u T) (hn : n ≤ 20) :
  Calls Tryz.prog 76 #[.slice Av (n + 1) cv] W fun e w' => ∃ v', e = .returned v' ∧ Kd.R (Kd.int .i8) 101 w' W.heap.size (fun _ => True) v' u ∧ Below W.heap.size W w' := by
 obtain ⟨A, c, e, h1, h2⟩ := Kd.R_reads h.row
 rw [hu.len] at e
 cases e
 obtain ⟨ad, rfl, _⟩ := h2.2.2 (by rw [hu.len]; omega)
 have := cloneV_calls W ad cv u h2 (by rw [hu.len]; omega)
 rwa [hu.len] at this
theorem R_besides {d : Kd Int} {e : TypeId} {W W2 : World} {base : Nat} {ok S : Nat → Prop} {v : Value} {xs : List Int} (h : d.R e W base ok v xs) (hk : Kept W W2 S) (h3 : ∀ k, ok k → ¬ S k) : d.R e W2 base ok v xs := Kd.R_step h (fun k ho hlt => hk.2 k hlt (h3 k ho))
def CountPost (w0 W0 : World) (vv : Value) (n : Nat) (cls : List (List Int)) (S : List Int) (e : Ending) (W' : World) : Prop :=
 ∃ c : Nat, e = .returned (.int .u64 c) ∧ CountIs n cls S c ∧ Below w0.heap.size w0 W' ∧ Kept W0 W' (ownB vv)
theorem zeros_und {n : Nat} {u T : List Int} (h : VOk n u T) : (u.drop 1).countP (· == 0) = und T n := by
 have e : u.drop 1 = (List.range n).map (fun i => valS T ((i + 1 : Nat) : Int)) := by
  refine List.ext_getElem (by simp [h.len]) (fun i h1 h2 => ?_)
  have hi : i < n := by simp at h2; exact h2
  have hl := h.len
  have := h.val (i + 1) (by omega) (by omega)
  simp only [List.getElem_drop, List.getElem_map, List.getElem_range]
  rw [← this]
  have hlt : 1 + i < u.length := by omega
  have e2 : ((i + 1 : Nat) : Int).toNat = 1 + i := by omega
  simp only [rd, List.getD, e2, List.getElem?_eq_getElem hlt, Option.getD_some]
 rw [e, und, List.countP_map, List.countP_eq_length_filter]
 rfl
theorem und_le (T : List Int) (n : Nat) : und T n ≤ n := by
 unfold und
 have := List.length_filter_le (fun i : Nat => valS T ((i + 1 : Nat) : Int) == 0) (List.range n)
 simpa using this
def z20 (z : Nat) : Prop := z ≤ 20
theorem wrap_pow {z : Nat} (h : z20 z) : IntKind.u64.wrap ((2 : Int) ^ min z 64) = ((2 ^ z : Nat) : Int) := by
 have h' : z ≤ 20 := h
 have h2 : (2 : Nat) ^ z ≤ 2 ^ 20 := Nat.pow_le_pow_right (by decide) h'
 rw [Nat.min_eq_left (by omega), IntKind.wrap_u64, show ((2 : Int) ^ z) = ((2 ^ z : Nat) : Int) by push_cast; rfl]
 generalize (2 : Nat) ^ z = p at h2
 omega
theorem wrap_add {a b : Nat} (ha : a ≤ 1048576) (hb : b ≤ 1048576) : IntKind.u64.wrap ((a : Int) + (b : Int)) = ((a + b : Nat) : Int) := by
 rw [IntKind.wrap_u64]; omega
theorem valS_neg0 {T : List Int} {x : Int} (h : valS T x = 0) : valS T (-x) = 0 := by
 rw [valS_zero] at h ⊢; rw [Int.neg_neg]; exact ⟨h.2, h.1⟩
theorem pow_small {k : Nat} (h : k ≤ 20) : 2 ^ k ≤ 1048576 := Nat.le_trans (Nat.pow_le_pow_right (by decide) h) (by decide)
theorem open_zero {n : Nat} {cls : List (List Int)} {T l : List Int} (hn : n ≤ 100000) (hc : Cons T) (hg : NPlain.Good cls T) (hl : l ∈ cls) (hlo : ∀ x ∈ l, LitOk n x) (ho : openP T l = true) : ∃ j : Nat, ∃ h : j < l.length, idxG (fun x => valS T x == 0) 0 l = j ∧ valS T l[j] = 0 := by
 rcases idxG_is (fun x => valS T x == 0) l 0 (Int.le_refl _) with ⟨_, h2⟩ | ⟨j, hj, h1, h2⟩
 ·refine absurd (fun y hy => ?_ : allF T l) (hg l hl).1
  have hyo := hlo y hy
  rw [NPlain.wneg (by have := hyo.2.1; omega) (by have := hyo.2.2; omega)]
  have hz := h2 y hy
  have hp : ¬ valS T y > 0 := by
   intro hh
   unfold openP at ho
   have : (l.any fun x => decide (valS T x > 0)) = true := List.any_eq_true.2 ⟨y, hy, decide_eq_true hh⟩
   rw [this] at ho; cases ho
  refine (valS_lt hc).1 ?_
  have hz' : ¬ valS T y = 0 := by simpa using hz
  omega
 ·exact ⟨j, hj, by rw [h1]; omega, by simpa using h2⟩
theorem open_none {T : List Int} {cls : List (List Int)} (h : ∀ l ∈ cls, openP T l = false) : ∀ l ∈ cls, ∃ x ∈ l, T.contains x = true := by
 intro l hl
 have := h l hl
 unfold openP at this
 have h2 : (l.any fun x => decide (valS T x > 0)) = true := by simpa using this
 obtain ⟨x, hx, hh⟩ := List.any_eq_true.1 h2
 exact ⟨x, hx, valS_pos.1 (of_decide_eq_true hh)⟩
theorem count1_calls {w0 : World} {cB fB n : Nat} {A1 : Option Addr} {c1 : Nat} {cls : List (List Int)} (F : CntFix w0 cB fB n A1 c1 cls) :
  ∀ (m : Nat) (S v : List Int) (vv : Value) (W0 : World), VOk n v S → und S n = m → Below w0.heap.size w0 W0 → Kd.R (Kd.int .i8) 101 W0 w0.heap.size (fun _ => True) vv v →
   Calls Tryz.prog 70 #[vv, .pointer (some ⟨cB, 0, none⟩), .pointer (some ⟨fB, 0, none⟩)] W0 (CountPost w0 W0 vv n cls S) := by
 intro m
 induction m using Nat.strongRecOn with
 | ind m ih =>
 intro S v vv W0 hv hm hb hr
 have hn : n ≤ 100000 := Nat.le_trans F.n20 (by decide)
 obtain ⟨⟨b, u⟩, ⟨k, hk⟩, hp⟩ := prop_ev hn cls F.len F.lits hv
 obtain ⟨Av, cv, hvv⟩ := Kd.R_slice hr
 rw [hv.len] at hvv
 subst hvv
 have hown : ∀ k, ownB (.slice Av (n + 1) cv) k → w0.heap.size ≤ k ∧ k < W0.heap.size := fun k hk => by
  have := (Kd.R_bound hr).1 k hk.symm
  exact ⟨this.2.1, this.2.2.1⟩
 have hb1 : Below w0.heap.size w0 (W0.alloc (.cells #[.slice Av (n + 1) cv] 100)) := bwa hb _
 have hprop := cnf_values_propagate.calls k (ownB (.slice Av (n + 1) cv)) (.slice Av (n + 1) cv) v A1 c1 cls b u w0 _ hb1 (Kd.R_alloc (Kd.R_tight rfl hr) _) (Kd.C_kept_came (Kd.heap_slice _ (Kd.heap_int _)) F.rows hb1 (fun k hk => (hown k hk).1)) F.cap (hk k (Nat.le_refl _))
 have HPROP := Az.mk hprop
 have HP := Az.mk hp
 have HF := Az.mk F
 have HV := Az.mk hv
 have HM := Az.mk hm
 have HN := Az.mk hn
 have IH := Az.mk ih
 have HOWN := Az.mk hown
 have hB : Below w0.heap.size w0 W0 := hb
 have HB := Az.mk hB
 have hlc : cB < w0.heap.size := blk_lt F.cbox
 have hlt : cB < W0.heap.size := Nat.lt_of_lt_of_le hlc hb.size
 have hx1 : W0.cell? ⟨cB, 1, none⟩ = some (.slice A1 cls.length c1) := (bkc ((hb.block cB hlc).trans F.cbox) 1).trans rfl
 clear hp hv hm ih hk hb hr hb1 hprop hown hB F hn
 have hu24 := Tryz.underlying24
 go_enter Tryz.func70, Tryz.ntmps70
 go_wp2_with fail
 refine HPROP.out.mono ?_
 rintro e w2 ⟨rfl, hr2, hb2, hk2⟩
 clear HPROP
 have HA2 : Az (CntAt w0 W0 w2 W0.heap.size (.slice Av (n + 1) cv) u) := ⟨⟨hb2, (Kept.alloc (Kept.refl W0 _) _).then_ hk2 (fun k h => .inl h), blk_kept (blk_new W0 _) hk2 (fun h => Nat.lt_irrefl _ (HOWN.out _ h).2), Kd.R_tight rfl hr2⟩⟩
 clear hr2 hb2 hk2 hx1
 have hx1 : w2.cell? ⟨cB, 1, none⟩ = some (.slice A1 cls.length c1) := (bkc ((HA2.out.below.block cB hlc).trans HF.out.cbox) 1).trans rfl
 cases b with
 | false =>
  go_wp2
  go_ret
  exact ⟨0, rfl, count_none (fun M hM hs => HP.out.2 rfl ⟨M, hs, hM.good HN.out (fun l hl => (HF.out.lits l hl).2)⟩), HA2.out.below, HA2.out.kept⟩
 | true =>
  obtain ⟨T, hST, huT, hgT, hmT⟩ := HP.out.1 rfl
  have HU : Az (VOk n u T) := ⟨huT⟩
  have HG : Az (NPlain.Good cls T) := ⟨hgT⟩
  have HST := Az.mk hST
  have HMT : Az (∀ M, Mod n cls M → Sub S M → Sub T M) := ⟨fun M hM hs => hmT M (hM.good HN.out (fun l hl => (HF.out.lits l hl).2)) hs⟩
  clear hST huT hgT hmT HP
  have hbx : w2.cell? ⟨W0.heap.size, 0, none⟩ = some (.slice Av (n + 1) cv) := (bkc HA2.out.box 0).trans rfl
  obtain ⟨hcu, hCu⟩ : u.length ≤ cv ∧ Kd.C (Kd.int .i8) w2 Av u.length u := by
   obtain ⟨A, c, e, h1, h2⟩ := Kd.R_reads HA2.out.row
   rw [HU.out.len] at e
   cases e
   exact ⟨h1, h2⟩
  have HVB : Az (ValBox w2 W0.heap.size n Av cv u T) := ⟨⟨hbx, hCu, hcu, HU.out⟩⟩
  have HIX := Az.mk (indexFuncL_calls 71 #[.pointer (some ⟨W0.heap.size, 0, none⟩)] (openP T) A1 c1 cls w2 (Kd.C_below HF.out.rows HA2.out.below) enters_open (fun l hl A c hC _ => open_calls HN.out HVB.out (HF.out.lits l hl).2 A c hC))
  clear hCu hcu
  rcases idxG_is (openP T) cls 0 (Int.le_refl _) with ⟨hi, hall⟩ | ⟨i, hilt, hi, hopen⟩
  ·rw [hi] at HIX
   have HALL := Az.mk hall
   clear hall hi
   obtain ⟨i0, hi0, hz0⟩ := Option.map_eq_some_iff.1 infoI8
   simp only [Prod.mk.injEq] at hz0
   have hcut := cut_from (P := Tryz.prog) 100 101 .i64 Tryz.underlying100 hi0 1 hz0.2.1 Av (n + 1) cv 1 (by omega) (by omega)
   have hdr := Kd.C_drop (m := 1) HVB.out.row (by have := HU.out.len; omega) HVB.out.cap
   obtain ⟨A', hA'⟩ : ∃ A', A' = (if cv = (1 : Int).toNat then Av else Av.map (·.add ((1 : Int).toNat * 1))) := ⟨_, rfl⟩
   have e1 : (u.drop 1).length = n := by simp [HU.out.len]
   rw [e1] at hdr
   have HDR : Az (Kd.C (Kd.int .i8) w2 A' n (u.drop 1)) := ⟨by rw [hA']; exact hdr⟩
   rw [← hA'] at hcut
   have hs1 : (n + 1) - (1 : Int).toNat = n := by omega
   rw [hs1] at hcut
   obtain ⟨c', hc'⟩ : ∃ c', c' = cv - (1 : Int).toNat := ⟨_, rfl⟩
   rw [← hc'] at hcut
   clear hdr hA' hs1 hc' hz0 hi0 e1
   have HDL : Az ((u.drop 1).length = n) := ⟨by simp [HU.out.len]⟩
   go_wp2_with (first | (go_at_call 73; refine HIX.out.mono ?_; rintro e w' ⟨rfl, rfl⟩; clear HIX))
   go_loopw [7, 29] (fun v7 v29 wr => ∃ k : Nat, v29 = .int .i64 k ∧ k ≤ n ∧ v7 = .int .i64 (((u.drop 1).take k).countP (· == 0) : Nat) ∧ wr = w2) (fun _ v29 _ => n - (intOf v29).toNat)
   case atStart => exact ⟨0, rfl, Nat.zero_le _, by simp, rfl⟩
   case round =>
    obtain ⟨k, rfl, hkn, rfl, rfl⟩ := hrel
    have hcnt : ((u.drop 1).take k).countP (· == 0) ≤ k := Nat.le_trans List.countP_le_length (by simp; omega)
    by_cases hlt2 : k < n
    ·obtain ⟨ad, rfl, hce⟩ := Kd.at_int HDR.out (k : Int) (by omega) (by omega)
     simp only [Int.toNat_natCast] at hce
     have HTK : Az (((u.drop 1).take (k + 1)).countP (· == 0) = ((u.drop 1).take k).countP (· == 0) + if rd (u.drop 1) k == 0 then 1 else 0) := ⟨by
      have hl : k < (u.drop 1).length := by rw [HDL.out]; exact hlt2
      rw [List.take_succ_eq_append_getElem hl, List.countP_append]
      have e : rd (u.drop 1) k = (u.drop 1)[k] := by simp only [rd, List.getD, Int.toNat_natCast, List.getElem?_eq_getElem hl, Option.getD_some]
      rw [e]
      simp [List.countP_cons]⟩
     generalize rd (u.drop 1) k = x at hce HTK
     generalize ((u.drop 1).take k).countP (· == 0) = z at hcnt HTK ⊢
     by_cases hz : (x == 0) = true
     ·rw [if_pos hz] at HTK
      go_wp2
      go_roundw
      case rel => exact ⟨k + 1, by rw [wrap_succ hlt2 (by have := HF.out.n20; omega)], by omega, by rw [HTK.out, wrap_succ (show z < n by omega) (by have := HF.out.n20; omega)], trivial⟩
      case measure => exact meas_x hlt2 (wrap_succ hlt2 (by have := HF.out.n20; omega))
     ·rw [Bool.not_eq_true] at hz
      rw [hz, if_neg (by simp), Nat.add_zero] at HTK
      go_wp2
      go_roundw
      case rel => exact ⟨k + 1, by rw [wrap_succ hlt2 (by have := HF.out.n20; omega)], by omega, by rw [HTK.out, Nat.add_zero], trivial⟩
      case measure => exact meas_x hlt2 (wrap_succ hlt2 (by have := HF.out.n20; omega))
    ·have hkn' : k = n := by omega
     subst hkn'
     rw [List.take_of_length_le (by rw [HDL.out]; exact Nat.le_refl _), zeros_und HU.out]
     have hund := und_le T k
     have HCF := Az.mk (count_full HU.out.cons HU.out.lits HMT.out HST.out (open_none HALL.out))
     have HPW : Az (z20 (und T k)) := ⟨Nat.le_trans hund HF.out.n20⟩
     generalize und T k = z at hund HCF HPW ⊢
     go_wp2
     go_ret
     refine ⟨2 ^ z, ?_, HCF.out, HA2.out.below, HA2.out.kept⟩
     show Ending.returned (Value.int IntKind.u64 (IntKind.u64.wrap (2 ^ min z 64))) = _
     rw [wrap_pow HPW.out]
  ·rw [hi, Int.zero_add] at HIX
   have hlm : cls[i] ∈ cls := List.getElem_mem _
   obtain ⟨j, hj, hij, hvz⟩ := open_zero HN.out HU.out.cons HG.out hlm (HF.out.lits _ hlm).2 hopen
   have hrd : rL cls i = cls[i] := by simp [rL, List.getD, hilt]
   obtain ⟨ad1, A2, c2, hA1, hcl, hl2, hC2⟩ := at_L1 (Kd.C_below HF.out.rows HA2.out.below) (i : Int) (by omega) (by omega)
   rw [hrd] at hcl hl2 hC2
   have hlo := (HF.out.lits _ hlm).2
   have HLX : Az (LitOk n (cls[i])[j]) := ⟨hlo _ (List.getElem_mem _)⟩
   have hrx : rd cls[i] j = (cls[i])[j] := by simp [rd, List.getD, hj]
   obtain ⟨ad2, hA2, hcx⟩ := Kd.at_int hC2 (j : Int) (by omega) (by omega)
   rw [hrx] at hcx
   have HIZ := Az.mk (indexFuncM_calls 75 #[.pointer (some ⟨W0.heap.size, 0, none⟩)] (fun x => valS T x == 0) A2 c2 cls[i] w2 hC2 enters_zero (fun x hx => zero_calls HN.out HVB.out (hlo x hx)))
   rw [hij] at HIZ
   clear hlo hij hopen hlm hrd hrx hC2 hi
   subst hA1 hA2
   have HLI : Az (i < cls.length) := ⟨hilt⟩
   generalize hgx : (cls[i])[j] = x at hvz hcx HLX
   clear hgx
   generalize hgl : cls[i] = l at hj hcl hl2 hcx HIZ
   clear hgl
   have HVZ := Az.mk hvz
   clear hvz
   simp only [Int.toNat_natCast] at hcl hcx
   have hnl : decide ((i : Int) < 0) = false := decide_eq_false (by omega)
   obtain ⟨y, hy, hvy⟩ := set_ok HN.out HU.out HLX.out (valS_zero.1 HVZ.out).2
   have HLX' : Az (LitOk n (-x)) := ⟨⟨by have := HLX.out.1; omega, by have := HLX.out.2.2; omega, by have := HLX.out.2.1; omega⟩⟩
   obtain ⟨z, hz, hvz⟩ := set_ok HN.out HU.out HLX'.out (by rw [Int.neg_neg]; exact (valS_zero.1 HVZ.out).1)
   have hw : wrap64 (-x) = -x := NPlain.wneg (by have := HLX.out.2.1; have := HN.out; omega) (by have := HLX.out.2.2; have := HN.out; omega)
   have HY := Az.mk hy
   have HZ := Az.mk hz
   have HVY := Az.mk hvy
   have HVZ' := Az.mk hvz
   have HWX := Az.mk hw
   clear hy hz hvy hvz hw
   go_wp2_with (first | (go_at_call 73; refine HIX.out.mono ?_; rintro e w' ⟨rfl, rfl⟩; clear HIX) | (go_at_call 74; refine HIZ.out.mono ?_; rintro e w' ⟨rfl, rfl⟩; clear HIZ))
   have HWD0 : Az (W0.heap.size < w2.drew.heap.size) := ⟨blk_lt (bkd HA2.out.box)⟩
   have HAd := Az.mk (HA2.out.step (below_drew (Below.refl _ _)))
   clear HVB HA2 hcl hcx hl2
   refine start_ (n := 6) (S := fun w' => w'.cell? ⟨W0.heap.size, 0, none⟩ = some (.slice Av (n + 1) cv)) (ds := []) (Array.replicate 6 false) (by kernel_rfl) rfl rfl ((bkc HAd.out.box 0).trans rfl) (fun hHeld => ?_); refine with_tabW countR16.tab countR16.bits (fun HT_ HW_ => ?_)
   generalize w2.drew = wd at HAd HWD0 hHeld ⊢
   refine pT 0 (some 55) (bA 6 1) rfl rfl HT_.out HW_.out hHeld (by rintro w' s0; go_simp; with_reducible rfl) (by simp only [Act.put, zq1, zq2, zq3, iw, jw]; rfl) ?_
   refine pT 2 (some 57) (bA 6 5) rfl rfl HT_.out HW_.out hHeld (by rintro w' s0; go_simp; with_reducible rfl) (by simp only [Act.put, zq1, zq2, zq3, iw, jw]; rfl) ?_
   refine QW.PrintLast.one_ (i := 1) (N := some 56) (bA 6 7) rfl rfl (one_of HT_.out (by kernel_rfl)) (by decide) (fun K hK => ?_)
   refine goes_ Tryz.func76 (by kernel_rfl) rfl #[.slice Av (n + 1) cv] (by rfl) rfl rfl (by (try simp only [List.map_toArray, List.map_cons, List.map_nil]); first | done | rfl) ?_
   refine (HAd.out.clone HU.out HF.out.n20).mono ?_
   rintro e w3 ⟨v3, rfl, hr3, hb3⟩
   refine ⟨_, rfl, ?_⟩
   have HA3 := Az.mk (HAd.out.step hb3)
   have HR3 := Az.mk (Kd.R_lower (Kd.R_mono (Kd.R_bound hr3) (ok' := fun k => wd.heap.size ≤ k ∧ k < w3.heap.size) (fun k hk => ⟨hk.2.1, hk.2.2.1⟩)) HAd.out.below.size)
   have HW3s := Az.mk hb3.size
   clear hr3 hb3
   refine hK.out _ _ ((bkc HA3.out.box 0).trans rfl) (fun hHeld => ?_)
   clear hK K HAd
   refine norm_ (by show Act.put _ (some 56) _ = _; simp only [Act.put, zq1, zq2, zq3, iw, jw]; rfl) ?_
   refine QW.PrintLast.one_ (i := 3) (N := some 58) (bA 6 15) rfl rfl (one_of HT_.out (by kernel_rfl)) (by decide) (fun K hK => ?_)
   refine goes_ Tryz.func76 (by kernel_rfl) rfl #[.slice Av (n + 1) cv] (by rfl) rfl rfl (by (try simp only [List.map_toArray, List.map_cons, List.map_nil]); first | done | rfl) ?_
   refine (HA3.out.clone HU.out HF.out.n20).mono ?_
   rintro e w4 ⟨v4, rfl, hr4, hb4⟩
   refine ⟨_, rfl, ?_⟩
   have HA4 := Az.mk (HA3.out.step hb4)
   have HR4 := Az.mk (Kd.R_lower (Kd.R_mono (Kd.R_bound hr4) (ok' := fun k => w3.heap.size ≤ k ∧ k < w4.heap.size) (fun k hk => ⟨hk.2.1, hk.2.2.1⟩)) HA3.out.below.size)
   have HR34 := Az.mk (Kd.R_below HR3.out hb4)
   have HW3 : Az (wd.heap.size ≤ w3.heap.size) := ⟨HW3s.out⟩
   clear hr4 hb4 HR3
   refine hK.out _ _ ((bkc HA4.out.box 0).trans rfl) (fun hHeld => ?_)
   clear hK K HA3
   refine norm_ (by show Act.put _ (some 58) _ = _; simp only [Act.put, zq1, zq2, zq3, iw, jw]; rfl) ?_
   refine pA 4 (some 12) (bA 6 31) rfl rfl HT_.out (by intro w'; go_simp; with_reducible rfl) (by simp only [Act.put, zq1, zq2, zq3, iw, jw]; rfl) ?_
   refine pA 5 (some 13) (bA 6 63) rfl rfl HT_.out (by intro w'; go_simp; with_reducible rfl) (by simp only [Act.put, zq1, zq2, zq3, iw, jw]; rfl) ?_
   refine done_ (done_of HT_.out (by kernel_rfl)) ?_
   clear hHeld HT_ HW_
   have hlo3 : ∀ k, ownB v3 k → wd.heap.size ≤ k ∧ k < w3.heap.size := fun k hk => HR34.out.1 k hk.symm
   have hlo4 : ∀ k, ownB v4 k → w3.heap.size ≤ k ∧ k < w4.heap.size := fun k hk => HR4.out.1 k hk.symm
   have HLO3 := Az.mk hlo3
   have HLO4 := Az.mk hlo4
   have HWD : Az (W0.heap.size < wd.heap.size) := HWD0
   have HS1 := Az.mk (cnf_values_set.calls (ownB v3) v3 u x y w0 w4 HA4.out.below (Kd.R_tight rfl HR34.out) HY.out)
   have hwx : IntKind.i64.wrap (-x) = -x := (iw _).trans HWX.out
   clear hlo3 hlo4 HWD0
   go_wp2_with fail
   refine HS1.out.mono ?_
   rintro e w5 ⟨rfl, hr5, hb5, hk5⟩
   have HA5 := Az.mk (HA4.out.beside hb5 hk5 (fun k hk => Nat.le_trans (Nat.le_of_lt HWD.out) (HLO3.out k hk).1) (fun h => Nat.lt_irrefl _ (Nat.lt_of_lt_of_le HWD.out (HLO3.out _ h).1)) (fun k hv hk => Nat.lt_irrefl _ (Nat.lt_trans (Nat.lt_of_lt_of_le HWD.out (HLO3.out _ hk).1) (HOWN.out k hv).2)))
   have HRN5 := Az.mk (R_besides HR4.out hk5 (fun k hk hs => Nat.lt_irrefl _ (Nat.lt_of_lt_of_le (HLO3.out k hs).2 hk.1)))
   have HRY5 := Az.mk (Kd.R_tight rfl hr5)
   clear hr5 hb5 hk5 HS1 HR4 HR34 HA4
   have HS2 := Az.mk (cnf_values_set.calls (ownB v4) v4 u (-x) z w0 w5 HA5.out.below (Kd.R_tight rfl HRN5.out) HZ.out)
   go_wp2_with fail
   refine HS2.out.mono ?_
   rintro e w6 ⟨rfl, hr6, hb6, hk6⟩
   have HA6 := Az.mk (HA5.out.beside hb6 hk6 (fun k hk => by have h1 := (HLO4.out k hk).1; have h2 := HWD.out; have h3 := HW3.out; omega) (fun h => by have h1 := (HLO4.out _ h).1; have h2 := HWD.out; have h3 := HW3.out; omega) (fun k hv hk => by have h1 := (HLO4.out _ hk).1; have h2 := HWD.out; have h3 := HW3.out; have h4 := (HOWN.out k hv).2; omega))
   have HRY6 := Az.mk (R_besides HRY5.out hk6 (fun k hk hs => Nat.lt_irrefl _ (Nat.lt_of_lt_of_le (HLO3.out k hk).2 (HLO4.out k hs).1)))
   have HRN6 := Az.mk (Kd.R_tight rfl hr6)
   clear hr6 hb6 hk6 HS2 HRN5 HRY5 HA5
   go_wp2_with fail
   have HLTY : Az (und (x :: T) n < m) := ⟨by have h1 := und_lt HLX.out HVZ.out; have h2 := und_mono HST.out n; have h3 := HM.out; omega⟩
   have HLTN : Az (und (-x :: T) n < m) := ⟨by have h1 := und_lt HLX'.out (valS_neg0 HVZ.out); have h2 := und_mono HST.out n; have h3 := HM.out; omega⟩
   have HAe := Az.mk (HA6.out.step (below_drew (Below.refl _ _)))
   have HYe := Az.mk (Kd.R_drew HRY6.out)
   have HNe := Az.mk (Kd.R_drew HRN6.out)
   clear HA6 HRY6 HRN6 hwx
   refine start_ (n := 8) (S := fun w' => w'.cell? ⟨fB, 0, none⟩ = some (.func (.func 70) #[] #[.pointer (some ⟨cB, 0, none⟩), .pointer (some ⟨fB, 0, none⟩)])) (ds := []) (Array.replicate 8 false) (by kernel_rfl) rfl rfl (HF.out.fcell HAe.out.below) (fun hHeld => ?_); refine with_tabW countR19.tab countR19.bits (fun HT_ HW_ => ?_)
   generalize w6.drew = we at HAe HYe HNe hHeld ⊢
   refine pA 1 (some 67) (bA 8 2) rfl rfl HT_.out (by intro w'; go_simp; with_reducible rfl) (by simp only [Act.put, zq1, zq2, zq3, iw, jw]; rfl) ?_
   refine pA 4 (some 70) (bA 8 18) rfl rfl HT_.out (by intro w'; go_simp; with_reducible rfl) (by simp only [Act.put, zq1, zq2, zq3, iw, jw]; rfl) ?_
   refine pT 0 (some 66) (bA 8 19) rfl rfl HT_.out HW_.out hHeld (by rintro w' s0; go_simp; with_reducible rfl) (by simp only [Act.put, zq1, zq2, zq3, iw, jw]; rfl) ?_
   refine pT 3 (some 69) (bA 8 27) rfl rfl HT_.out HW_.out hHeld (by rintro w' s0; go_simp; with_reducible rfl) (by simp only [Act.put, zq1, zq2, zq3, iw, jw]; rfl) ?_
   refine QW.PrintLast.one_ (i := 2) (N := some 68) (bA 8 31) rfl rfl (one_of HT_.out (by kernel_rfl)) (by decide) (fun K hK => ?_)
   refine goesV_ enters_count #[v3] #[v3, .pointer (some ⟨cB, 0, none⟩), .pointer (some ⟨fB, 0, none⟩)] (by rfl) rfl rfl rfl (by (try simp only [List.map_toArray, List.map_cons, List.map_nil]); first | done | rfl) (by first | rfl | simp) ?_
   refine (IH.out (und (x :: T) n) HLTY.out (x :: T) y v3 we HVY.out rfl HAe.out.below (Kd.R_mono HYe.out (fun _ _ => trivial))).mono ?_
   rintro e w7 ⟨ca, rfl, hca, hb7, hk7⟩
   refine ⟨_, rfl, ?_⟩
   have HCA := Az.mk hca
   have HA7 := Az.mk (HAe.out.beside hb7 hk7 (fun k hk => by have h1 := (HLO3.out _ hk).1; have h2 := HWD.out; have h3 := HW3.out; omega) (fun h => by have h1 := (HLO3.out _ h).1; have h2 := HWD.out; have h3 := HW3.out; omega) (fun k hv hk => by have h1 := (HLO3.out _ hk).1; have h2 := HWD.out; have h3 := HW3.out; have h4 := (HOWN.out k hv).2; omega))
   have HN7 := Az.mk (R_besides HNe.out hk7 (fun k hk hs => Nat.lt_irrefl _ (Nat.lt_of_lt_of_le (HLO3.out k hs).2 (HLO4.out k hk).1)))
   refine hK.out _ _ (HF.out.fcell hb7) (fun hHeld => ?_)
   clear hK K hb7 hk7 hca HAe
   refine norm_ (by show Act.put _ (some 68) _ = _; simp only [Act.put, zq1, zq2, zq3, iw, jw]; rfl) ?_
   refine QW.PrintLast.one_ (i := 5) (N := some 71) (bA 8 63) rfl rfl (one_of HT_.out (by kernel_rfl)) (by decide) (fun K hK => ?_)
   refine goesV_ enters_count #[v4] #[v4, .pointer (some ⟨cB, 0, none⟩), .pointer (some ⟨fB, 0, none⟩)] (by rfl) rfl rfl rfl (by (try simp only [List.map_toArray, List.map_cons, List.map_nil]); first | done | rfl) (by first | rfl | simp) ?_
   refine (IH.out (und (-x :: T) n) HLTN.out (-x :: T) z v4 w7 HVZ'.out rfl HA7.out.below (Kd.R_mono HN7.out (fun _ _ => trivial))).mono ?_
   rintro e w8 ⟨cb, rfl, hcb, hb8, hk8⟩
   refine ⟨_, rfl, ?_⟩
   have HCB := Az.mk hcb
   have HA8 := Az.mk (HA7.out.beside hb8 hk8 (fun k hk => by have h1 := (HLO4.out _ hk).1; have h2 := HWD.out; have h3 := HW3.out; omega) (fun h => by have h1 := (HLO4.out _ h).1; have h2 := HWD.out; have h3 := HW3.out; omega) (fun k hv hk => by have h1 := (HLO4.out _ hk).1; have h2 := HWD.out; have h3 := HW3.out; have h4 := (HOWN.out k hv).2; omega))
   refine hK.out _ _ (HF.out.fcell hb8) (fun hHeld => ?_)
   clear hK K hb8 hk8 hcb HA7
   refine norm_ (by show Act.put _ (some 71) _ = _; simp only [Act.put, zq1, zq2, zq3, iw, jw]; rfl) ?_
   refine pA 6 (some 72) (bA 8 127) rfl rfl HT_.out (by intro w'; go_simp; with_reducible rfl) (by simp only [Act.put, zq1, zq2, zq3, iw, jw]; rfl) ?_
   refine pA 7 (some 4) (bA 8 255) rfl rfl HT_.out (by intro w'; go_simp; with_reducible rfl) (by simp only [Act.put, zq1, zq2, zq3, iw, jw]; rfl) ?_
   refine done_ (done_of HT_.out (by kernel_rfl)) ?_
   clear hHeld HT_ HW_
   go_wp2
   go_ret
   refine ⟨ca + cb, ?_, count_split HST.out HMT.out HLX.out HVZ.out HCA.out HCB.out, HA8.out.below, HA8.out.kept⟩
   show Ending.returned (Value.int IntKind.u64 (IntKind.u64.wrap ((ca : Int) + (cb : Int)))) = _
   rw [wrap_add (Nat.le_trans HCA.out.le (pow_small (Nat.le_trans (und_le _ _) HF.out.n20))) (Nat.le_trans HCB.out.le (pow_small (Nat.le_trans (und_le _ _) HF.out.n20)))]
theorem count_calls (k n : Nat) (A1 : Option Addr) (c1 : Nat) (cls : List (List Int)) (w : World) (hn : n ≤ 20) (hr : Kd.C (Kd.slice 3 (Kd.int .i64)) w A1 cls.length cls) (hc : cls.length ≤ c1) (hlen : cls.length ≤ 1000000000) (hlits : ∀ l ∈ cls, l.length ≤ 1000000000 ∧ ∀ x ∈ l, LitOk n x) (hck : cnf_Check.f k n cls = some 0) :
  Calls Tryz.prog 27 #[.agg #[.int .i64 n, .slice A1 cls.length c1]] w fun e w' => ∃ c : Nat, e = .returned (.tuple #[.int .u64 c, .int .i64 0]) ∧ CountIs n cls [] c ∧ Below w.heap.size w w' := by
 have HN := Az.mk hn
 have HR := Az.mk hr
 have HC := Az.mk hc
 have HLEN := Az.mk hlen
 have HLI := Az.mk hlits
 have HCK := Az.mk hck
 have hnl : decide ((n : Int) > 20) = false := decide_eq_false (by omega)
 clear hn hr hc hlen hlits hck
 have hu24 := Tryz.underlying24
 go_enter Tryz.func27, Tryz.ntmps27
 go_wp2_with fail
 refine (cnf_Check.calls k n A1 c1 cls 0 _ (Kd.C_alloc HR.out _) HC.out HCK.out).mono ?_
 rintro e w1 ⟨rfl, hb1⟩
 have BK1 : Az (w1.heap[w.heap.size]? = some (.cells #[.int .i64 n, .slice A1 cls.length c1] 24 (0, 0))) := ⟨blk_below (blk_new w _) hb1⟩
 have HB1 : Az (Below w.heap.size w w1) := ⟨bwt (bwa (Below.refl _ _) _) hb1⟩
 clear hb1
 have hx0 : w1.cell? ⟨w.heap.size, 0, none⟩ = some (.int .i64 n) := (bkc BK1.out 0).trans rfl
 have hf2 : (w1.alloc (.cells #[.nilFunc] 110)).frozen? ⟨w1.heap.size, 0, none⟩ = false := bkf (blk_new w1 _) 0
 have hc2 : (w1.alloc (.cells #[.nilFunc] 110)).cell? ⟨w1.heap.size, 0, none⟩ = some .nilFunc := (bkc (blk_new w1 _) 0).trans rfl
 have hst : (store ⟨w1.heap.size, 0, none⟩ (.func (.func 70) #[] #[.pointer (some ⟨w.heap.size, 0, none⟩), .pointer (some ⟨w1.heap.size, 0, none⟩)])).run Tryz.prog (w1.alloc (.cells #[.nilFunc] 110)) = .ok () ((w1.alloc (.cells #[.nilFunc] 110)).setCell ⟨w1.heap.size, 0, none⟩ (.func (.func 70) #[] #[.pointer (some ⟨w.heap.size, 0, none⟩), .pointer (some ⟨w1.heap.size, 0, none⟩)])) := by
  rw [run_store _ _ _ _ _ rfl, hc2, hf2]; rfl
 have HBX : Az (Below w.heap.size w ((w1.alloc (.cells #[.func (.func 70) #[] #[.pointer (some ⟨w.heap.size, 0, none⟩), .pointer (some ⟨w1.heap.size, 0, none⟩)]] 110)).drew)) := ⟨below_drew (bwa HB1.out _)⟩
 have HFX : Az (CntFix ((w1.alloc (.cells #[.func (.func 70) #[] #[.pointer (some ⟨w.heap.size, 0, none⟩), .pointer (some ⟨w1.heap.size, 0, none⟩)]] 110)).drew) w.heap.size w1.heap.size n A1 c1 cls) :=
  ⟨⟨HN.out, Kd.C_below HR.out HBX.out, HC.out, HLEN.out, HLI.out, bkd (bka BK1.out _), bkd (blk_new w1 _)⟩⟩
 have HW1 : Az ((wrap64 ((n : Int) + 1)).toNat = n + 1 ∧ 0 ≤ wrap64 ((n : Int) + 1)) := ⟨by have := HN.out; unfold wrap64; omega⟩
 clear HR HC HLEN HLI HCK
 go_wp2_with fail
 clear hst hf2 hc2 hx0 hnl
 refine start_ (n := 8) (S := fun w' => w'.cell? ⟨w.heap.size, 0, none⟩ = some (.int .i64 n) ∧ w'.cell? ⟨w1.heap.size, 0, none⟩ = some (.func (.func 70) #[] #[.pointer (some ⟨w.heap.size, 0, none⟩), .pointer (some ⟨w1.heap.size, 0, none⟩)])) (ds := []) (Array.replicate 8 false) (by kernel_rfl) rfl rfl (HFX.out.cells (Below.refl _ _)) (fun hHeld => ?_); refine with_tabW countR8.tab countR8.bits (fun HT_ HW_ => ?_)
 generalize (w1.alloc (.cells #[.func (.func 70) #[] #[.pointer (some ⟨w.heap.size, 0, none⟩), .pointer (some ⟨w1.heap.size, 0, none⟩)]] 110)).drew = wd at HFX HBX hHeld ⊢
 refine pT 0 (some 15) (bA 8 1) rfl rfl HT_.out HW_.out hHeld (by rintro w' ⟨s0, s1⟩; go_simp; with_reducible rfl) (by simp only [Act.put, zq1, zq2, zq3, iw, jw]; rfl) ?_
 refine pA 1 (some 16) (bA 8 3) rfl rfl HT_.out (by intro w'; go_simp; with_reducible rfl) (by simp only [Act.put, zq1, zq2, zq3, iw, jw]; rfl) ?_
 refine pT 2 (some 17) (bA 8 7) rfl rfl HT_.out HW_.out hHeld (by rintro w' ⟨s0, s1⟩; go_simp; with_reducible rfl) (by simp only [Act.put, zq1, zq2, zq3, iw, jw]; rfl) ?_
 refine pA 3 (some 18) (bA 8 15) rfl rfl HT_.out (by intro w'; go_simp; with_reducible rfl) (by simp only [Act.put, zq1, zq2, zq3, iw, jw]; rfl) ?_
 refine QW.PrintLast.one_ (i := 4) (N := some 19) (bA 8 31) rfl rfl (one_of HT_.out (by kernel_rfl)) (by decide) (fun K hK => ?_)
 refine Kd.R_make_step (Kd.int .i8) (w0 := wd) wd.heap.size 101 (by rfl) rfl 100 (.tmp 18) (.tmp 18) rfl (wrap64 ((n : Int) + 1)) rfl rfl Tryz.underlying100 (.int .i8 0) 1 infoI8 rfl (by decide) (by decide) 0 (ok := fun _ => True) (okp := fun _ => False) ?zero (fun _ h => h.elim) trivial ?pos ?len (Below.refl _ _) (Nat.le_refl _) ?_
 (case zero => exact rfl)
 (case pos => exact HW1.out.2)
 (case len => have := HW1.out.1; have := HN.out; omega)
 intro v3 w3 hr hb hg hat
 rw [HW1.out.1] at hr
 have HR3 := Az.mk hr
 have HB3 := Az.mk hb
 refine hK.out _ _ (HFX.out.cells hb) (fun hHeld => ?_)
 clear hK K hr hb hg hat
 refine norm_ (by show Act.put _ (some 19) _ = _; simp only [Act.put, zq1, zq2, zq3, iw, jw]; rfl) ?_
 refine QW.PrintLast.one_ (i := 5) (N := some 20) (bA 8 63) rfl rfl (one_of HT_.out (by kernel_rfl)) (by decide) (fun K hK => ?_)
 refine goesV_ enters_count #[v3] #[v3, .pointer (some ⟨w.heap.size, 0, none⟩), .pointer (some ⟨w1.heap.size, 0, none⟩)] (by rfl) rfl rfl rfl (by (try simp only [List.map_toArray, List.map_cons, List.map_nil]); first | done | rfl) (by first | rfl | simp) ?_
 refine (count1_calls HFX.out (und [] n) [] (List.replicate (n + 1) 0) v3 w3 (VOk.start n) rfl HB3.out HR3.out).mono ?_
 rintro e w4 ⟨cc, rfl, hcc, hb4, hk4⟩
 refine ⟨_, rfl, ?_⟩
 have HCC := Az.mk hcc
 have HB5 := Az.mk (bwt HBX.out hb4)
 refine hK.out _ _ (HFX.out.cells hb4) (fun hHeld => ?_)
 clear hK K hcc hb4 hk4
 refine norm_ (by show Act.put _ (some 20) _ = _; simp only [Act.put, zq1, zq2, zq3, iw, jw]; rfl) ?_
 refine pA 6 (some 2) (bA 8 127) rfl rfl HT_.out (by intro w'; go_simp; with_reducible rfl) (by simp only [Act.put, zq1, zq2, zq3, iw, jw]; rfl) ?_
 refine pA 7 (some 3) (bA 8 255) rfl rfl HT_.out (by intro w'; go_simp; with_reducible rfl) (by simp only [Act.put, zq1, zq2, zq3, iw, jw]; rfl) ?_
 refine done_ (done_of HT_.out (by kernel_rfl)) ?_
 clear hHeld HT_ HW_
 go_wp2
 go_ret2
 exact ⟨cc, rfl, HCC.out, HB5.out⟩
end Go.Proofs.YtkcfdddhnboieaaGreatDoor.NState
end
