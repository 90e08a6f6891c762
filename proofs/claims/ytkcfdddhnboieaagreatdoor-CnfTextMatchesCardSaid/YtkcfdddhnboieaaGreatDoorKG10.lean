/-
  Part 10 of the proof of cnfTextMatches_card: walks and lemmas.
-/
import Derived.Test.YtkcfdddhnboieaaGreatDoorKG6
import Derived.Lib.SliceRun
import Derived.OwnWalk
set_option linter.unusedVariables false
set_option linter.unusedSimpArgs false
section
set_option maxHeartbeats 8000000
set_option maxRecDepth 100000
namespace Go.Proofs.YtkcfdddhnboieaaGreatDoor.NState
open Go Go.RowKit Go.Shelf QW.PrintWords QW.PrintLast QW.PrintMore NMap
open PCheck (rL at_L1)
open PPropagate (cnf_values_of.f)
open NPlain
theorem of_calls (A0 : Option Addr) (c0 : Nat) (l0 : List Int) (a1 : Int) (r : Int) (w : World) (hr0 : Kd.C (Kd.int .i8) w A0 l0.length l0) (hc0 : l0.length ≤ c0) (h : cnf_values_of.f l0 a1 = some r) :
  Calls Tryz.prog 64 #[.slice A0 l0.length c0, .int .i64 a1] w fun e w' => e = .returned (.int .i8 r) ∧ w = w' := by
 have HR0 := Az.mk hr0
 have HC0 := Az.mk hc0
 clear hr0 hc0
 have H : (if a1 < 0 then (if 0 ≤ (wrap64 (-a1)) then (if (wrap64 (-a1)) < (l0.length : Int) then (some (IntKind.i8.wrap (-(rd l0 (wrap64 (-a1)))))) else (none)) else (none)) else (if 0 ≤ a1 then (if a1 < (l0.length : Int) then (some (rd l0 a1)) else (none)) else (none))) = some r := h
 clear h
 by_cases c3 : a1 < 0
 ·rw [if_pos c3] at H
  have c3b0 : decide (a1 < 0) = true := decide_eq_true c3
  clear c3
  obtain ⟨ji4, hji4⟩ : ∃ j_ : Int, (wrap64 (-a1)) = j_ := ⟨_, rfl⟩
  replace H : (if 0 ≤ (ji4) then (if (ji4) < (l0.length : Int) then (some (IntKind.i8.wrap (-(rd l0 (ji4))))) else (none)) else (none)) = some r := by first | (rw [hji4] at H; exact H) | (simp only [hji4] at H ⊢; exact H)
  have hji4w : (IntKind.i64.wrap (-a1)) = ji4 := (iw _).trans hji4
  by_cases c5 : 0 ≤ (ji4)
  ·rw [if_pos c5] at H
   have c5b0 : decide (0 ≤ (ji4)) = true := decide_eq_true c5
   clear c5
   by_cases c6 : (ji4) < (l0.length : Int)
   ·rw [if_pos c6] at H
    have c6b0 : decide ((ji4) < (l0.length : Int)) = true := decide_eq_true c6
    clear c6
    obtain rfl := Option.some.inj H
    have p103 : 0 ≤ ((ji4) : Int) := of_decide_eq_true (by assumption)
    have q103 : (ji4) < (l0.length : Int) := of_decide_eq_true (by assumption)
    obtain ⟨ad103, e103, hx103_0⟩ := Kd.at_int HR0.out (ji4) p103 q103
    cases e103
    replace p103 := eq_true p103
    replace q103 := eq_true q103
    go_enter Tryz.func64, Tryz.ntmps64
    go_wp2
    go_ret
    exact ⟨by first | rfl | (simp; done) | (simp only [← hji4] <;> (first | rfl | simp)) | (simp [*]; done), rfl⟩
   ·rw [if_neg c6] at H
    exact absurd H (by simp)
  ·rw [if_neg c5] at H
   exact absurd H (by simp)
 ·rw [if_neg c3] at H
  have c3b0 : decide (a1 < 0) = false := decide_eq_false c3
  clear c3
  by_cases c7 : 0 ≤ a1
  ·rw [if_pos c7] at H
   have c7b0 : decide (0 ≤ a1) = true := decide_eq_true c7
   clear c7
   by_cases c8 : a1 < (l0.length : Int)
   ·rw [if_pos c8] at H
    have c8b0 : decide (a1 < (l0.length : Int)) = true := decide_eq_true c8
    clear c8
    obtain rfl := Option.some.inj H
    have p104 : 0 ≤ (a1 : Int) := of_decide_eq_true (by assumption)
    have q104 : a1 < (l0.length : Int) := of_decide_eq_true (by assumption)
    obtain ⟨ad104, e104, hx104_0⟩ := Kd.at_int HR0.out a1 p104 q104
    cases e104
    replace p104 := eq_true p104
    replace q104 := eq_true q104
    go_enter Tryz.func64, Tryz.ntmps64
    go_wp2
    go_ret
    exact ⟨by first | rfl | (simp; done) | (simp [*]; done), rfl⟩
   ·rw [if_neg c8] at H
    exact absurd H (by simp)
  ·rw [if_neg c7] at H
   exact absurd H (by simp)
def idxG {α : Type} (p : α → Bool) : Int → List α → Int
 | _, [] => -1
 | i, x :: xs => if p x then i else idxG p (i + 1) xs
theorem idxG_is {α : Type} (p : α → Bool) (l : List α) : ∀ i : Int, 0 ≤ i → (idxG p i l = -1 ∧ ∀ x ∈ l, p x = false) ∨ ∃ k : Nat, ∃ h : k < l.length, idxG p i l = i + k ∧ p l[k] = true := by
 induction l with
 | nil => intro i hi; exact .inl ⟨rfl, fun x h => by cases h⟩
 | cons x xs ih =>
  intro i hi
  unfold idxG
  by_cases h : p x = true
  ·rw [if_pos h]
   exact .inr ⟨0, by simp, by simp, h⟩
  ·rw [if_neg h]
   rcases ih (i + 1) (by omega) with ⟨h1, h2⟩ | ⟨k, hk, h1, h2⟩
   ·refine .inl ⟨h1, fun y hy => ?_⟩
    rcases List.mem_cons.1 hy with e | e
    ·subst e; simpa using h
    ·exact h2 y e
   ·exact .inr ⟨k + 1, by simp; omega, by rw [h1]; omega, by simpa using h2⟩
theorem indexFuncM_calls (g : FuncId) (lb : Array Value) (p : Int → Bool) (A0 : Option Addr) (c0 : Nat) (l0 : List Int) (w : World) (hr0 : Kd.C (Kd.int .i64) w A0 l0.length l0)
  (eg : ∀ args w, (callFunc g args).run Tryz.prog w = .ok (.enter g args) w) (hp : ∀ x ∈ l0, Calls Tryz.prog g (#[.int .i64 x] ++ lb) w fun e w' => e = .returned (.bool (p x)) ∧ w = w') :
  Calls Tryz.prog 74 #[.slice A0 l0.length c0, .func (.func g) #[] lb] w fun e w' => e = .returned (.int .i64 (idxG p 0 l0)) ∧ w = w' := by
 have HR0 := Az.mk hr0
 have HL := Az.mk (Kd.C_max hr0)
 have HP := Az.mk hp
 have EG := Az.mk eg
 clear hr0 hp eg
 go_enter Tryz.func74, Tryz.ntmps74
 go_wp2
 go_loop [5, 8, 9, 10, 11, 12, 13, 14, 15, 16, 18] (fun v5 v8 v9 v10 v11 v12 v13 v14 v15 v16 v18 => ∃ (k : Nat), v8 = .int .i64 k ∧ k ≤ l0.length ∧ Az (idxG p 0 l0 = idxG p k (l0.drop k))) (fun _ v8 _ _ _ _ _ _ _ _ _ => l0.length - (intOf v8).toNat)
 case atStart => exact ⟨0, rfl, Nat.zero_le _, ⟨by simp⟩⟩
 case round =>
  obtain ⟨k, rfl, hk, HA⟩ := hrel
  by_cases hlt : k < l0.length
  ·obtain ⟨ad, rfl, hc⟩ := Kd.at_int HR0.out (k : Int) (by omega) (by omega)
   rw [drop_rd hlt] at HA
   have HM : Az (rd l0 k ∈ l0) := ⟨by
    have e : rd l0 k = l0[k] := by simp [rd, List.getD, hlt]
    rw [e]; exact List.getElem_mem _⟩
   generalize rd l0 k = x at HA hc HM
   simp only [Int.toNat_natCast] at hc
   have he := EG.out (#[.int .i64 x] ++ lb) w
   by_cases hpx : p x = true
   ·have hpc := HP.out x HM.out
    rw [hpx] at hpc
    go_wp2_with (refine hpc.mono ?_; rintro e w' ⟨rfl, rfl⟩)
    go_ret
    refine ⟨?_, rfl⟩
    rw [HA.out, idxG, if_pos hpx]; rfl
   ·have hpc := HP.out x HM.out
    rw [Bool.not_eq_true] at hpx
    have HX := Az.mk hpx
    rw [hpx] at hpc
    clear hpx
    go_wp2_with (refine hpc.mono ?_; rintro e w' ⟨rfl, rfl⟩)
    go_round
    case rel =>
     refine ⟨k + 1, by rw [wrap_succ hlt HL.out], by omega, ⟨?_⟩⟩
     rw [HA.out, idxG, HX.out]; simp
    case measure => exact meas_x hlt (wrap_succ hlt HL.out)
  ·go_wp2
   go_ret
   refine ⟨?_, rfl⟩
   rw [HA.out, List.drop_of_length_le (by omega)]; rfl
theorem idxG_any (p : Int → Bool) (l : List Int) : decide (idxG p 0 l ≥ 0) = l.any p := by
 rcases idxG_is p l 0 (Int.le_refl _) with ⟨h1, h2⟩ | ⟨k, hk, h1, h2⟩
 ·rw [h1]
  have : l.any p = false := List.any_eq_false.2 (fun x hx => by rw [h2 x hx]; simp)
  rw [this]; rfl
 ·rw [h1]
  have : l.any p = true := List.any_eq_true.2 ⟨l[k], List.getElem_mem _, h2⟩
  rw [this]
  exact decide_eq_true (by omega)
theorem containsFuncM_calls (g : FuncId) (lb : Array Value) (p : Int → Bool) (A0 : Option Addr) (c0 : Nat) (l0 : List Int) (w : World) (hr0 : Kd.C (Kd.int .i64) w A0 l0.length l0)
  (eg : ∀ args w, (callFunc g args).run Tryz.prog w = .ok (.enter g args) w) (hp : ∀ x ∈ l0, Calls Tryz.prog g (#[.int .i64 x] ++ lb) w fun e w' => e = .returned (.bool (p x)) ∧ w = w') :
  Calls Tryz.prog 60 #[.slice A0 l0.length c0, .func (.func g) #[] lb] w fun e w' => e = .returned (.bool (l0.any p)) ∧ w = w' := by
 have hc := indexFuncM_calls g lb p A0 c0 l0 w hr0 eg hp
 have hi := Az.mk (idxG_any p l0)
 clear eg hp hr0
 generalize idxG p 0 l0 = q at hc hi
 go_enter Tryz.func60, Tryz.ntmps60
 go_wp2_with (go_at_call 74; refine hc.mono ?_; rintro e w' ⟨rfl, rfl⟩)
 go_ret
 exact ⟨by rw [← hi.out]; rfl, rfl⟩
theorem indexFuncL_calls (g : FuncId) (lb : Array Value) (p : List Int → Bool) (A0 : Option Addr) (c0 : Nat) (l0 : List (List Int)) (w : World) (hr0 : Kd.C (Kd.slice 3 (Kd.int .i64)) w A0 l0.length l0)
  (eg : ∀ args w, (callFunc g args).run Tryz.prog w = .ok (.enter g args) w) (hp : ∀ x ∈ l0, ∀ A c, Kd.C (Kd.int .i64) w A x.length x → x.length ≤ c → Calls Tryz.prog g (#[.slice A x.length c] ++ lb) w fun e w' => e = .returned (.bool (p x)) ∧ w = w') :
  Calls Tryz.prog 73 #[.slice A0 l0.length c0, .func (.func g) #[] lb] w fun e w' => e = .returned (.int .i64 (idxG p 0 l0)) ∧ w = w' := by
 have HR0 := Az.mk hr0
 have HL := Az.mk (Kd.C_max hr0)
 have HP := Az.mk hp
 have EG := Az.mk eg
 clear hr0 hp eg
 go_enter Tryz.func73, Tryz.ntmps73
 go_wp2
 go_loop [5, 8, 9, 10, 11, 12, 13, 14, 15, 16, 18] (fun v5 v8 v9 v10 v11 v12 v13 v14 v15 v16 v18 => ∃ (k : Nat), v8 = .int .i64 k ∧ k ≤ l0.length ∧ Az (idxG p 0 l0 = idxG p k (l0.drop k))) (fun _ v8 _ _ _ _ _ _ _ _ _ => l0.length - (intOf v8).toNat)
 case atStart => exact ⟨0, rfl, Nat.zero_le _, ⟨by simp⟩⟩
 case round =>
  obtain ⟨k, rfl, hk, HA⟩ := hrel
  by_cases hlt : k < l0.length
  ·obtain ⟨ad, A1, c1, rfl, hc, hl1, hC1⟩ := at_L1 HR0.out (k : Int) (by omega) (by omega)
   have hrd : rL l0 k = l0[k] := by simp [rL, List.getD, hlt]
   have HD : Az (l0.drop k = rL l0 k :: l0.drop (k + 1)) := ⟨by rw [hrd]; exact List.drop_eq_getElem_cons hlt⟩
   rw [HD.out] at HA
   have HM : Az (rL l0 k ∈ l0) := ⟨by rw [hrd]; exact List.getElem_mem _⟩
   clear hrd HD
   generalize rL l0 k = x at HA hc HM hl1 hC1
   simp only [Int.toNat_natCast] at hc
   have he := EG.out (#[.slice A1 x.length c1] ++ lb) w
   have hpc := HP.out x HM.out A1 c1 hC1 hl1
   clear hl1 hC1
   by_cases hpx : p x = true
   ·rw [hpx] at hpc
    go_wp2_with (refine hpc.mono ?_; rintro e w' ⟨rfl, rfl⟩)
    go_ret
    refine ⟨?_, rfl⟩
    rw [HA.out, idxG, if_pos hpx]; rfl
   ·rw [Bool.not_eq_true] at hpx
    have HX := Az.mk hpx
    rw [hpx] at hpc
    clear hpx
    go_wp2_with (refine hpc.mono ?_; rintro e w' ⟨rfl, rfl⟩)
    go_round
    case rel =>
     refine ⟨k + 1, by rw [wrap_succ hlt HL.out], by omega, ⟨?_⟩⟩
     rw [HA.out, idxG, HX.out]; simp
    case measure => exact meas_x hlt (wrap_succ hlt HL.out)
  ·go_wp2
   go_ret
   refine ⟨?_, rfl⟩
   rw [HA.out, List.drop_of_length_le (by omega)]; rfl
structure ValBox (w : World) (B n : Nat) (Av : Option Addr) (cv : Nat) (v T : List Int) : Prop where
 cell : w.cell? ⟨B, 0, none⟩ = some (.slice Av (n + 1) cv)
 row : Kd.C (Kd.int .i8) w Av v.length v
 cap : v.length ≤ cv
 ok : VOk n v T
theorem enters_pos (args : Array Value) (w : World) : (callFunc 72 args).run Tryz.prog w = .ok (.enter 72 args) w := enters_of Tryz.func72 (by kernel_rfl) rfl args w
theorem enters_zero (args : Array Value) (w : World) : (callFunc 75 args).run Tryz.prog w = .ok (.enter 75 args) w := enters_of Tryz.func75 (by kernel_rfl) rfl args w
theorem enters_open (args : Array Value) (w : World) : (callFunc 71 args).run Tryz.prog w = .ok (.enter 71 args) w := enters_of Tryz.func71 (by kernel_rfl) rfl args w
theorem enters_count (args : Array Value) (w : World) : (callFunc 70 args).run Tryz.prog w = .ok (.enter 70 args) w := enters_of Tryz.func70 (by kernel_rfl) rfl args w
theorem pos_calls {B n : Nat} {Av : Option Addr} {cv : Nat} {v T : List Int} {w : World} (hn : n ≤ 100000) (h : ValBox w B n Av cv v T) {x : Int} (hx : LitOk n x) :
  Calls Tryz.prog 72 #[.int .i64 x, .pointer (some ⟨B, 0, none⟩)] w fun e w' => e = .returned (.bool (decide (valS T x > 0))) ∧ w = w' := by
 have hof := of_calls Av cv v x (valS T x) w h.row h.cap (of_ok hn h.ok hx)
 rw [h.ok.len] at hof
 have hc := h.cell
 clear h hx hn
 generalize valS T x = r at hof ⊢
 go_enter Tryz.func72, Tryz.ntmps72
 go_wp2_with (go_at_call 64; refine hof.mono ?_; rintro e w' ⟨rfl, rfl⟩)
 go_ret
 exact ⟨rfl, rfl⟩
theorem zero_calls {B n : Nat} {Av : Option Addr} {cv : Nat} {v T : List Int} {w : World} (hn : n ≤ 100000) (h : ValBox w B n Av cv v T) {x : Int} (hx : LitOk n x) :
  Calls Tryz.prog 75 #[.int .i64 x, .pointer (some ⟨B, 0, none⟩)] w fun e w' => e = .returned (.bool (valS T x == 0)) ∧ w = w' := by
 have hof := of_calls Av cv v x (valS T x) w h.row h.cap (of_ok hn h.ok hx)
 rw [h.ok.len] at hof
 have hc := h.cell
 clear h hx hn
 generalize valS T x = r at hof ⊢
 go_enter Tryz.func75, Tryz.ntmps75
 go_wp2_with (go_at_call 64; refine hof.mono ?_; rintro e w' ⟨rfl, rfl⟩)
 go_ret
 exact ⟨rfl, rfl⟩
def openP (T l : List Int) : Bool := !l.any fun x => decide (valS T x > 0)
theorem open_calls {B n : Nat} {Av : Option Addr} {cv : Nat} {v T : List Int} {w : World} (hn : n ≤ 100000) (h : ValBox w B n Av cv v T) {l : List Int} (hl : ∀ x ∈ l, LitOk n x) (A : Option Addr) (c : Nat) (hC : Kd.C (Kd.int .i64) w A l.length l) :
  Calls Tryz.prog 71 #[.slice A l.length c, .pointer (some ⟨B, 0, none⟩)] w fun e w' => e = .returned (.bool (openP T l)) ∧ w = w' := by
 have hcf := containsFuncM_calls 72 #[.pointer (some ⟨B, 0, none⟩)] (fun x => decide (valS T x > 0)) A c l w hC enters_pos (fun x hx => pos_calls hn h (hl x hx))
 unfold openP
 clear h hn hl hC
 generalize (l.any fun x => decide (valS T x > 0)) = r at hcf ⊢
 go_enter Tryz.func71, Tryz.ntmps71
 go_wp2_with (go_at_call 60; refine hcf.mono ?_; rintro e w' ⟨rfl, rfl⟩)
 go_ret
 exact ⟨rfl, rfl⟩
theorem infoI8 : (Tryz.prog.info? 101).map (fun i => (i.zero, i.size, i.bytes)) = some (some (.int .i8 0), 1, 1) := by kernel_rfl
theorem cloneV_calls (w : World) (ad : Addr) (c : Nat) (xs : List Int) (hC : Kd.C (Kd.int .i8) w (some ad) xs.length xs) (hl : xs.length ≤ 1000000) :
  Calls Tryz.prog 76 #[.slice (some ad) xs.length c] w fun e w' => ∃ v', e = .returned v' ∧ Kd.R (Kd.int .i8) 101 w' w.heap.size (fun _ => True) v' xs ∧ Below w.heap.size w w' := by
 have HC := Az.mk hC
 have HL := Az.mk hl
 clear hC hl
 have q92 : ∀ (w : World) (a : Option Addr) (n c n' c' : Nat), (binOp .eql 100 (.slice a n c) (.slice none n' c')).run Tryz.prog w = .ok (.bool a.isNone) w := fun w a n c n' c' => Lib.run_eql_slice_nil w _ _ a n c n' c' Tryz.underlying100
 go_enter Tryz.func76, Tryz.ntmps76
 go_wp2_with ((with_reducible refine gate_builtin (b := .append) (xs := #[.tmp 5, .tmp 6]) rfl ?_); at_builtin; refine Kd.R_append_rows (Kd.int .i8) (w0 := w) w.heap.size rfl (.tmp 5) (.tmp 6) 100 101 (.int .i8 0) 1 rfl Tryz.underlying100 infoI8 rfl (by decide) (by omega) (.slice (some ⟨w.heap.size, 0, none⟩) 0 0) ([] : List Int) xs _ _ _ (fun _ => True) (fun _ => False) rfl rfl ?aO ?aR (fun _ _ h => h) (fun _ h => h.elim) ?aF ?aB ?aS ?aL ?_; (case aR => exact Kd.C_alloc HC.out _); (case aB => exact bwa (Below.refl _ _) _); (case aF => exact fun _ _ => trivial); (case aO => exact ⟨fun _ _ => trivial, OwnRow.lit w w.heap.size (Kd.reps_scalar ([] : List Int)) (Nat.le_refl _) (by decide)⟩); (case aS => simp); (case aL => have := HL.out; simp only [List.length_nil]; omega); intro v1 w1 ho hb hg hat; simp only [List.nil_append] at ho; have HO := Az.mk ho; have HB := Az.mk hb; clear ho hb hg hat)
 go_ret
 exact ⟨_, rfl, HO.out, HB.out⟩
end Go.Proofs.YtkcfdddhnboieaaGreatDoor.NState
end
section
set_option maxHeartbeats 4000000
set_option maxRecDepth 100000
namespace Go.Proofs.YtkcfdddhnboieaaGreatDoor.NState
open Go Go.RowKit Go.Shelf QW.PrintWords QW.PrintLast QW.PrintMore NMap
open PCheck (cnf_Check.f cnf_Check.calls rL at_L1)
open PPropagate (cnf_values_of.f cnf_values_of.calls cnf_values_set.f cnf_values_set.calls cnf_values_propagate.f cnf_values_propagate.calls)
open NPlain (LitOk wneg)
theorem cnfExists_calls (x v : Int) (w : World) : Calls Tryz.prog 63 #[.int .i64 x, .int .i64 v] w fun e w' => e = .returned (.bool (!badLit v x)) ∧ w = w' := by
 by_cases h0 : (x == 0) = true
 ·have hb := Az.mk (show badLit v x = true by simp [badLit, h0])
  have h0' : (x != 0) = false := by simpa using h0
  go_enter Tryz.func63, Tryz.ntmps63
  go_wp2
  go_ret
  exact ⟨by rw [hb.out]; rfl, rfl⟩
 ·simp only [Bool.not_eq_true] at h0
  have h0' : (x != 0) = true := by simpa using h0
  by_cases h1 : wrap64 (-v) ≤ x
  ·have hb := Az.mk (show (!badLit v x) = decide (x ≤ v) by
    have e : decide (x < wrap64 (-v)) = false := by simpa using h1
    simp only [badLit, h0, e, Bool.false_or]
    by_cases h : x ≤ v
    ·simp [h]
    ·simp [h]; omega)
   have h1' : decide (wrap64 (-v) ≤ x) = true := decide_eq_true h1
   clear h1
   go_enter Tryz.func63, Tryz.ntmps63
   go_wp2
   go_ret
   exact ⟨by rw [hb.out]; rfl, rfl⟩
  ·have hb := Az.mk (show badLit v x = true by
    have e : decide (x < wrap64 (-v)) = true := by simpa using h1
    simp [badLit, e])
   have h1' : decide (wrap64 (-v) ≤ x) = false := decide_eq_false h1
   clear h1
   go_enter Tryz.func63, Tryz.ntmps63
   go_wp2
   go_ret
   exact ⟨by rw [hb.out]; rfl, rfl⟩
theorem propagate1_calls (b : Nat) (vars x : Int) (w : World) (hc : w.cell? ⟨b, 0, none⟩ = some (.int .i64 vars)) :
  Calls Tryz.prog 62 #[.int .i64 x, .pointer (some ⟨b, 0, none⟩)] w fun e w' => e = .returned (.bool (badLit vars x)) ∧ w = w' := by
 go_enter Tryz.func62, Tryz.ntmps62
 go_wp2_with (go_at_call 63; refine (cnfExists_calls _ _ _).mono ?_; rintro e w' ⟨rfl, rfl⟩)
 go_ret
 exact ⟨rfl, rfl⟩
theorem enters_propagate1 (args : Array Value) (w : World) : (callFunc 62 args).run Tryz.prog w = .ok (.enter 62 args) w := enters_of Tryz.func62 (by kernel_rfl) rfl args w
def assumeV : List Int → List Int → Option (List Int)
 | v, [] => some v
 | v, y :: ys => (cnf_values_of.f v y).bind fun t => if t < 0 then none else (cnf_values_set.f v y).bind fun v' => assumeV v' ys
def outL (u : List Int) : Nat → List Int
 | 0 => []
 | i + 1 => outL u i ++ (if i = 0 ∨ rd u (i : Int) = 0 then [] else [wrap64 ((i : Int) * wrap64 (rd u (i : Int)))])
theorem outL_len (u : List Int) : ∀ i, (outL u i).length ≤ i
 | 0 => Nat.le_refl _
 | i + 1 => by
  have := outL_len u i
  rw [outL, List.length_append]
  split <;> simp <;> omega
def PropagatePost (w : World) (r : List Int) (c : Bool) (e : Ending) (w' : World) : Prop := ∃ v, e = .returned (.tuple #[v, .bool c, .int .i64 0]) ∧ Kd.R (Kd.int .i64) 3 w' w.heap.size (fun _ => True) v r ∧ Below w.heap.size w w'
def PropIs (k n : Nat) (cls : List (List Int)) (l0 : List Int) (r : List Int) (c : Bool) : Prop :=
 (assumeV (List.replicate (n + 1) 0) l0 = none ∧ c = true ∧ r = []) ∨ ∃ v' b u, assumeV (List.replicate (n + 1) 0) l0 = some v' ∧ cnf_values_propagate.f k v' cls = some (b, u) ∧ u.length = n + 1 ∧ c = !b ∧ r = if b then outL u (n + 1) else []
theorem of_total {n : Nat} {v : List Int} {x : Int} (hn : n ≤ 4096) (hl : v.length = n + 1) (hx : LitOk n x) : ∃ t, cnf_values_of.f v x = some t := by
 obtain ⟨h0, h1, h2⟩ := hx
 unfold cnf_values_of.f
 by_cases h : x < 0
 ·rw [if_pos h, wneg (by omega) (by omega), if_pos (by omega), if_pos (by omega)]; exact ⟨_, rfl⟩
 ·rw [if_neg h, if_pos (by omega), if_pos (by omega)]; exact ⟨_, rfl⟩
theorem set_total {n : Nat} {v : List Int} {x : Int} (hn : n ≤ 4096) (hl : v.length = n + 1) (hx : LitOk n x) : ∃ v', cnf_values_set.f v x = some v' ∧ v'.length = n + 1 := by
 obtain ⟨h0, h1, h2⟩ := hx
 unfold cnf_values_set.f
 by_cases h : x < 0
 ·rw [if_pos h, wneg (by omega) (by omega), if_pos (by omega), if_pos (by omega)]; exact ⟨_, rfl, by simp [hl]⟩
 ·rw [if_neg h, if_pos (by omega), if_pos (by omega)]; exact ⟨_, rfl, by simp [hl]⟩
theorem propagate_calls (k n : Nat) (A1 : Option Addr) (c1 : Nat) (cls : List (List Int)) (A0 : Option Addr) (c0 : Nat) (l0 : List Int) (r : List Int) (c : Bool) (w : World) (hn : n ≤ 4096)
  (hr1 : Kd.C (Kd.slice 3 (Kd.int .i64)) w A1 cls.length cls) (hc1 : cls.length ≤ c1) (hr0 : Kd.C (Kd.int .i64) w A0 l0.length l0) (hck : cnf_Check.f k n cls = some 0) (hbad : l0.any (badLit n) = false) (hlit : ∀ x ∈ l0, LitOk n x) (hres : PropIs k n cls l0 r c) :
  Calls Tryz.prog 19 #[.agg #[.int .i64 n, .slice A1 cls.length c1], .slice A0 l0.length c0] w (PropagatePost w r c) := by
 have HR1 := Az.mk hr1
 have HR0 := Az.mk hr0
 have HC1 := Az.mk hc1
 have HCK := Az.mk hck
 have HBAD := Az.mk hbad
 have HRES := Az.mk hres
 have HLIT := Az.mk hlit
 have HN := Az.mk hn
 have HL := Az.mk (Kd.C_max hr0)
 have HW1 : Az ((wrap64 ((n : Int) + 1)).toNat = n + 1 ∧ 0 ≤ wrap64 ((n : Int) + 1)) := ⟨by unfold wrap64; omega⟩
 clear hr1 hc1 hr0 hck hbad hres hn hlit
 have hu24 := Tryz.underlying24
 go_enter Tryz.func19, Tryz.ntmps19
 go_wp2_with fail
 refine (cnf_Check.calls k n A1 c1 cls 0 _ (Kd.C_alloc HR1.out _) HC1.out HCK.out).mono ?_
 rintro e w1 ⟨rfl, hb1⟩
 have BK : Az (w1.heap[w.heap.size]? = some (.cells #[.int .i64 n, .slice A1 cls.length c1] 24 (0, 0))) := ⟨blk_below (blk_new w _) hb1⟩
 have HB : Az (Below w.heap.size w w1) := ⟨bwt ((Below.refl _ _).alloc (Nat.le_refl _) _) hb1⟩
 have HS : Az (w.heap.size + 1 ≤ w1.heap.size) := ⟨by have := hb1.size; simp at this; omega⟩
 clear hb1
 have hx0 : w1.cell? ⟨w.heap.size, 0, none⟩ = some (.int .i64 n) := (bkc BK.out 0).trans rfl
 go_wp2_with fail
 refine (containsFunc_calls 62 #[.pointer (some ⟨w.heap.size, 0, none⟩)] (badLit n) A0 c0 l0 w1 (Kd.C_below HR0.out HB.out) enters_propagate1 (fun x => propagate1_calls w.heap.size n x w1 hx0)).mono ?_
 rintro e w2 ⟨rfl, rfl⟩
 rw [HBAD.out]
 go_wp2_with (at_make; refine Kd.R_make (Kd.int .i8) (w0 := w) w.heap.size 101 rfl rfl 100 _ _ rfl (wrap64 ((n : Int) + 1)) rfl rfl Tryz.underlying100 (.int .i8 0) 1 infoI8 rfl (by decide) (by decide) 0 (ok := fun k => w.heap.size + 1 ≤ k) (okp := fun _ => False) ?zero (fun _ h => h.elim) ?fresh ?pos ?len HB.out HB.out.size ?_; (case zero => exact rfl); (case fresh => exact HS.out); (case pos => exact HW1.out.2); (case len => have := HW1.out.1; have := HN.out; omega); intro v3 w3 hr hb hg hat; rw [HW1.out.1] at hr; have HV := Az.mk hr; have HB3 := Az.mk hb; have BK3 := Az.mk (bkg BK.out hg (fun h => by cases h)); have HS3 : Az (w.heap.size + 1 ≤ w3.heap.size) := ⟨by have := (Array.getElem?_eq_some_iff.1 BK3.out).1; omega⟩; clear hr hb hg hat)
 obtain ⟨Av, cv, hv3⟩ := Kd.R_slice HV.out
 have hrl : (List.replicate (n + 1) (0 : Int)).length = n + 1 := by simp
 rw [hrl] at hv3
 subst hv3
 have HVL := Az.mk hrl
 clear hrl hx0 HB BK HS
 go_loopw [4, 26] (fun v4 v26 wr => ∃ (j : Nat) (v : List Int), v4 = .slice none 0 0 ∧ v26 = .int .i64 j ∧ j ≤ l0.length ∧ Az (Kd.R (Kd.int .i8) 101 wr w.heap.size (fun k => w.heap.size + 1 ≤ k) (.slice Av (n + 1) cv) v) ∧ Az (v.length = n + 1) ∧ Az (assumeV (List.replicate (n + 1) 0) l0 = assumeV v (l0.drop j)) ∧ Az (Below w.heap.size w wr) ∧ Az (wr.heap[w.heap.size]? = some (.cells #[.int .i64 n, .slice A1 cls.length c1] 24 (0, 0)))) (fun _ v26 _ => l0.length - (intOf v26).toNat)
 case atStart => exact ⟨0, _, rfl, rfl, Nat.zero_le _, HV, HVL, ⟨by simp⟩, HB3, BK3⟩
 case round =>
  clear HV HVL HB3 BK3 HS3
  obtain ⟨j, v, rfl, rfl, hj, HV, HVL, HA, HB, BK⟩ := hrel
  have HSZ : Az (w.heap.size + 1 ≤ wr.heap.size) := ⟨by have := (Array.getElem?_eq_some_iff.1 BK.out).1; omega⟩
  by_cases hlt : j < l0.length
  ·obtain ⟨ad, rfl, hc⟩ := Kd.at_int HR0.out (j : Int) (by omega) (by omega)
   replace hc := (HB.out.cell (World.block_lt_of_cell? w _ hc)).trans hc
   have hxo : LitOk n (rd l0 j) := by
    have e : rd l0 j = l0[j] := by simp [rd, List.getD, hlt]
    rw [e]; exact HLIT.out _ (List.getElem_mem _)
   have HX := Az.mk hxo
   rw [drop_rd hlt] at HA
   generalize rd l0 j = x at HA hc hxo HX
   simp only [Int.toNat_natCast] at hc
   obtain ⟨t, ht⟩ := of_total HN.out HVL.out hxo
   obtain ⟨v', hv', hvl'⟩ := set_total HN.out HVL.out hxo
   obtain ⟨Av', cv', he, hcv, hC⟩ := Kd.R_reads HV.out
   rw [HVL.out] at he
   cases he
   have hof := cnf_values_of.calls Av cv v x t wr hC hcv ht
   rw [HVL.out] at hof
   have hset := cnf_values_set.calls (fun k => w.heap.size + 1 ≤ k) (.slice Av (n + 1) cv) v x v' w
   have HA2 : Az (assumeV (List.replicate (n + 1) 0) l0 = if t < 0 then none else assumeV v' (l0.drop (j + 1))) := ⟨by rw [HA.out, assumeV, ht, Option.bind_some, hv', Option.bind_some]⟩
   have HSET := Az.mk hset
   have HV' := Az.mk hv'
   have HVL' := Az.mk hvl'
   clear hxo ht hv' hvl' hC hcv hset HA
   by_cases ht0 : t < 0
   ·have htb : decide (t < 0) = true := decide_eq_true ht0
    have HT := Az.mk ht0
    clear ht0
    go_wp2_with (go_at_call 64; refine hof.mono ?_; rintro e w' ⟨rfl, ⟨nd, rfl⟩⟩)
    go_ret3
    rw [if_pos HT.out] at HA2
    rcases HRES.out with ⟨_, hc, hr⟩ | ⟨v2, b2, u2, h2, _⟩
    ·subst hr
     exact ⟨_, by rw [hc]; rfl, Kd.R_nil _ _ _ _ _, pwN HB.out nd⟩
    ·rw [HA2.out] at h2; cases h2
   ·have htb : decide (t < 0) = false := decide_eq_false ht0
    have HT := Az.mk ht0
    clear ht0
    go_wp2_with (go_at_call 64; refine hof.mono ?_; rintro e w' ⟨rfl, ⟨nd, rfl⟩⟩)
    rw [if_neg (by have := HT.out; omega)] at HA2
    refine (HSET.out (wr.drewN nd) (pwN HB.out nd) (Kd.R_drewN HV.out nd) HV'.out).mono ?_
    rintro e w4 ⟨rfl, hr4, hb4, hk4⟩
    have HV4 := Az.mk (Kd.R_mono hr4 (ok' := fun k => w.heap.size + 1 ≤ k) (fun k hk => by rcases hk with hk | hk; exact hk; exact Nat.le_trans HSZ.out hk))
    have HB4 := Az.mk hb4
    have BK4 := Az.mk (blk_kept (S := fun k => w.heap.size + 1 ≤ k) (W := wr.drewN nd) (bkN BK.out nd) hk4 (by omega))
    clear hr4 hb4 hk4
    go_wp2
    go_roundw
    case rel => exact ⟨j + 1, v', rfl, by rw [wrap_succ hlt HL.out], by omega, HV4, HVL', HA2, HB4, BK4⟩
    case measure => exact meas_x hlt (wrap_succ hlt HL.out)
  ·have hjl : j = l0.length := by omega
   subst hjl
   rw [List.drop_length, assumeV] at HA
   clear hlt hj
   have HP : Az (∃ b u, cnf_values_propagate.f k v cls = some (b, u) ∧ u.length = n + 1 ∧ c = !b ∧ r = if b then outL u (n + 1) else []) := ⟨by
    rcases HRES.out with ⟨h1, _⟩ | ⟨v2, b2, u2, h2, h3, h4, h5, h6⟩
    ·rw [HA.out] at h1; cases h1
    ·rw [HA.out] at h2; cases h2; exact ⟨b2, u2, h3, h4, h5, h6⟩⟩
   obtain ⟨b, u, hp1, hp2, hp3, hp4⟩ := HP.out
   have HU1 := Az.mk hp1
   have HU2 := Az.mk hp2
   have HU3 := Az.mk hp3
   have HU4 := Az.mk hp4
   clear hp1 hp2 hp3 hp4 HP HA
   have hx1 : wr.cell? ⟨w.heap.size, 1, none⟩ = some (.slice A1 cls.length c1) := (bkc BK.out 1).trans rfl
   go_wp2_with fail
   refine (cnf_values_propagate.calls k (fun k => w.heap.size + 1 ≤ k) (.slice Av (n + 1) cv) v A1 c1 cls b u w wr HB.out HV.out (Kd.C_kept_came (Kd.heap_slice _ (Kd.heap_int _)) HR1.out HB.out (fun k hk => by omega)) HC1.out HU1.out).mono ?_
   rintro e w5 ⟨rfl, hr5, hb5, hk5⟩
   have HV5 := Az.mk hr5
   have HB5 := Az.mk hb5
   clear hr5 hb5 hk5 hx1
   cases b with
   | false =>
    go_wp2
    go_ret3
    have hr : r = [] := by simpa using HU4.out
    rw [hr]
    exact ⟨_, by rw [HU3.out]; rfl, Kd.R_nil _ _ _ _ _, HB5.out⟩
   | true =>
    have HR5 := Az.mk (Kd.R_mono HV5.out (ok' := fun _ => True) (fun _ _ => trivial))
    clear HV5 HV HB BK HSZ HVL HRES HBAD HCK
    go_wp2
    go_loopw [4, 11] (fun v4 v11 wr => ∃ (i : Nat) (out : List Int), v11 = .int .i64 i ∧ 1 ≤ i ∧ i ≤ n + 1 ∧ Az (out = outL u i) ∧ Az (Kd.R (Kd.int .i64) 3 wr w.heap.size (fun _ => True) v4 out) ∧ Az (Kd.R (Kd.int .i8) 101 wr w.heap.size (fun _ => True) (.slice Av (n + 1) cv) u) ∧ Az (Below w.heap.size w wr)) (fun _ v11 _ => n + 1 - (intOf v11).toNat)
    case atStart => exact ⟨1, [], rfl, Nat.le_refl _, by omega, ⟨by simp [outL]⟩, ⟨Kd.R_nil _ _ _ _ _⟩, HR5, HB5⟩
    case round =>
     clear HR5 HB5
     obtain ⟨i, out, rfl, hi1, hi2, HOL, HO, HV, HB⟩ := hrel
     by_cases hlt : i < n + 1
     ·obtain ⟨g, cg, eo, hgb, hgl, _, _⟩ := Kd.R_form HV.out (by rw [HU2.out]; omega)
      injection eo with ea en ec
      subst ea
      clear en ec
      obtain ⟨hz, hzf⟩ := Kd.R_celln 0 HV.out (i : Int) (by omega) (by omega)
      have HZ : Az (outL u (i + 1) = outL u i ++ if rdOf 0 u (i : Int) = 0 then [] else [wrap64 ((i : Int) * wrap64 (rdOf 0 u (i : Int)))]) := ⟨by
       have e : rdOf 0 u (i : Int) = rd u (i : Int) := rfl
       have hi0 : i ≠ 0 := by omega
       simp only [outL, e, hi0, false_or]⟩
      generalize rdOf 0 u (i : Int) = z at hz HZ
      simp only [Int.toNat_natCast] at hz
      by_cases hz0 : z = 0
      ·subst hz0
       go_wp2
       go_roundw
       case rel => exact ⟨i + 1, out, by rw [wrap_succ hlt (by have := HN.out; omega)], by omega, by omega, ⟨by rw [HZ.out, if_pos rfl, List.append_nil]; exact HOL.out⟩, HO, HV, HB⟩
       case measure => exact meas_x hlt (wrap_succ hlt (by have := HN.out; omega))
      ·have hzn : (z != 0) = true := by simpa using hz0
       rw [if_neg hz0] at HZ
       clear hz0
       go_wp2_with ((with_reducible refine gate_builtin (b := .append) (xs := #[.tmp 54, .tmp 62]) rfl ?_); at_builtin; refine Kd.R_append (Kd.int .i64) (w0 := w) w.heap.size rfl (.tmp 54) (.tmp 62) 26 3 (.int .i64 0) 8 rfl Tryz.underlying26 infoInt rfl (by decide) (by omega) u4 out (wrap64 ((i : Int) * wrap64 z)) [.int .i64 (wrap64 ((i : Int) * wrap64 z))] (fun _ => True) (fun _ => False) rfl rfl ?aP (fun _ hk => hk.elim) ?aF ?aO ?aB ?aS ?aL ?_; (case aP => exact rfl); (case aF => exact fun _ _ => trivial); (case aO => exact HO.out); (case aB => exact HB.out); (case aS => exact HB.out.size); (case aL => have h1 := HOL.out; have h2 := outL_len u i; rw [← h1] at h2; have := HN.out; omega); intro v9n w6 ho hb hg hat; have HO6 := Az.mk ho; have HB6 := Az.mk hb; have HV6 := Az.mk (Kd.R_mono (Kd.R_grown (R_apart_of HV.out HO.out (by decide)) hg (fun k hk => hk.2)) (ok' := fun _ => True) (fun _ _ => trivial)); clear ho hb hg hat)
       go_roundw
       case rel => exact ⟨i + 1, out ++ [wrap64 ((i : Int) * wrap64 z)], by rw [wrap_succ hlt (by have := HN.out; omega)], by omega, by omega, ⟨by rw [HZ.out, HOL.out]⟩, HO6, HV6, HB6⟩
       case measure => exact meas_x hlt (wrap_succ hlt (by have := HN.out; omega))
     ·go_wp2
      go_ret3
      have hin : i = n + 1 := by omega
      subst hin
      have hr : r = outL u (n + 1) := by simpa using HU4.out
      rw [hr, ← HOL.out]
      exact ⟨_, by rw [HU3.out]; rfl, HO.out, HB.out⟩
end Go.Proofs.YtkcfdddhnboieaaGreatDoor.NState
end
