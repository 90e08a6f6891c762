/-
  Part 20 of the proof of proofMatches_card: walks and lemmas, packed by the session's own wip/pack.py out of its texts and of what the kit's print.sh printed.
-/
import Derived.Test.YtogicccdngpafaaGreatDoorMA18
import Derived.Test.YtogicccdngpafaaGreatDoorMA19
section
namespace Go.Proofs.YtogicccdngpafaaGreatDoor.NState
open Go Go.RowKit Go.Shelf Go.Proofs.YtogicccdngpafaaGreatDoorW.PrintWords Go.Proofs.YtogicccdngpafaaGreatDoorW.PrintLast Go.Proofs.YtogicccdngpafaaGreatDoorW.PrintMore Go.Proofs.YtogicccdngpafaaGreatDoor.NMap
open Go.Proofs.YtogicccdngpafaaGreatDoor.PRef (netlabref33_open.calls netlabref33_trivial.calls netlabref33_negated.calls netlabref32_Has.calls)
open Go.Proofs.YtogicccdngpafaaGreatDoor.NPlain
def followsR9.T : Bool × List (List Nat × List Nat) := (true, [([], []), ([0], [0]), ([1], [1]), ([2], [2]), ([], []), ([], []), ([4, 5], [4, 5]), ([6], [6]), ([7], [7]), ([3, 8], [3, 8]), ([9], [9]), ([], []), ([10, 11], [10, 11]), ([12, 12, 0, 1, 2, 3, 4, 5, 6, 7, 8, 9, 10, 11, 12], [12])])
def followsR9.B : List Nat := [0, 1, 3, 7, 0, 0, 48, 112, 240, 511, 1023, 0, 4095, 8191]
theorem followsR9.tab : rtab .any (opsOf Tryz.f88 9) = followsR9.T := by kernel_rfl
theorem followsR9.bits : waitsOk followsR9.T.2 followsR9.B = true := by kernel_rfl
theorem openL_le (A : List Int) : ∀ (l out : List Int), (openL A out l).length ≤ out.length + l.length
 | [], out => by simp [openL]
 | x :: xs, out => by
  rw [openL]
  split
  ·have := openL_le A xs out; simp; omega
  split
  ·have := openL_le A xs out; simp; omega
  ·have := openL_le A xs (out ++ [x]); simp at this ⊢; omega
set_option maxHeartbeats 4000000 in
set_option maxRecDepth 100000 in
theorem follows_calls (w0 W : World) (base B : Nat) (vC vP : Value) (svs : List SV) (cl : List (List Int)) (pr : List Bool) (A0 : Option Addr) (c0 : Nat) (l : List Int) (A1 : Option Addr) (c1 : Nat) (hs : List Int)
  (hb : RefB w0 W base B vC vP svs cl pr) (hW : Below w0.heap.size w0 W) (hcl : cl.length ≤ 1000000000) (hsz : ∀ c ∈ cl, c.length ≤ 1000000) (hC0 : Kd.C (Kd.int .i64) w0 A0 l.length l) (hc0 : l.length ≤ c0) (hl : l.length ≤ 1000000) (hok : ∀ x ∈ l, x ≠ 0 ∧ wrap64 (-x) = -x)
  (hC1 : Kd.C (Kd.int .i64) w0 A1 hs.length hs) (hhl : hs.length ≤ 1000000) :
  Calls Tryz.prog 88 #[.pointer (some ⟨B, 0, none⟩), .slice A0 l.length c0, .slice A1 hs.length c1] W fun e w' => e = .returned (.tuple #[.int .i64 (deriveF (prP cl pr) l hs).1, .bool (deriveF (prP cl pr) l hs).2]) ∧ Below W.heap.size W w' := by
 have HRB := Aside0.mk hb
 have HW := Aside0.mk hW
 have HCL := Aside0.mk hcl
 have HSZ := Aside0.mk hsz
 have HC0 := Aside0.mk hC0
 have HC1 := Aside0.mk hC1
 have HL := Aside0.mk hl
 have HHL := Aside0.mk hhl
 have HCC := Aside0.mk hc0
 obtain ⟨kt, hkt⟩ := trivial_ev l (by omega)
 have HKT := Aside0.mk (hkt kt (Nat.le_refl _))
 obtain ⟨kn, hkn⟩ := negated_ev l (by omega)
 have HKN := Aside0.mk (hkn kn (Nat.le_refl _))
 have has := assume_eq l [] hok
 have hn : (l.any fun x => ([] : List Int).contains x) = false := by simp
 rw [hn, Bool.false_or] at has
 have HAS := Aside0.mk has
 clear hb hW hcl hsz hC0 hC1 hl hhl hc0 hkt hkn has hn hok
 have hu151 := Tryz.underlying151
 go_enter Tryz.func88, Tryz.ntmps88
 go_wp2_with fail
 refine (netlabref33_trivial.calls kt A0 c0 l _ W (Kd.C_below HC0.out HW.out) HCC.out HKT.out).mono ?_
 rintro e w1 ⟨rfl, hd1⟩
 have HB1 := Aside0.mk hd1.below
 clear hd1
 cases ht : (l.any fun x => l.contains (wrap64 (-x))) with
 | true =>
  go_wp2
  go_ret2
  refine ⟨?_, HB1.out⟩
  unfold deriveF
  rw [HAS.out, if_pos ht]
  rfl
 | false =>
  have HAS2 : Aside0 (assumeL [] l = some ((l.map fun x => wrap64 (-x)).reverse ++ [])) := ⟨by rw [HAS.out, if_neg (by rw [ht]; simp)]⟩
  clear ht HAS HKT
  go_wp2_with fail
  refine (netlabref33_negated.calls kn A0 c0 l _ w1 (Kd.C_below (Kd.C_below HC0.out HW.out) HB1.out) HCC.out HKN.out).mono ?_
  rintro e w2 ⟨v2, rfl, hr2, hb2⟩
  have HO2 := Aside0.mk (Kd.R_lower hr2 HB1.out.size)
  have HB2 := Aside0.mk (below_step HB1.out hb2)
  clear hr2 hb2 HB1 HKN HC0 HCC
  have HD : Aside0 (deriveF (prP cl pr) l hs = deriveL (prP cl pr) ((l.map fun x => wrap64 (-x)).reverse ++ []) 0 hs) := ⟨by unfold deriveF; rw [HAS2.out]⟩
  go_wp2
  go_loopw [8, 9] (fun v8 v9 wr => ∃ (i : Nat) (A S : List Int), v9 = .int .i64 i ∧ i ≤ hs.length ∧ Aside0 (∀ x, S.contains x = A.contains x) ∧ Aside0 (A.length ≤ l.length + i) ∧ Aside0 (Kd.R (Kd.int .i64) 3 wr W.heap.size (fun _ => True) v8 A) ∧ Aside0 (deriveF (prP cl pr) l hs = deriveL (prP cl pr) S i (hs.drop i)) ∧ Aside0 (Below W.heap.size W wr)) (fun _ v9 _ => hs.length - (intOf v9).toNat)
  case atStart => exact ⟨0, l.map (fun x => wrap64 (-x)), (l.map fun x => wrap64 (-x)).reverse ++ [], rfl, Nat.zero_le _, ⟨by intro x; rw [Bool.eq_iff_iff]; simp only [List.append_nil, List.contains_iff_mem, List.mem_reverse]⟩, ⟨by simp⟩, HO2, ⟨by rw [HD.out]; simp⟩, HB2⟩
  case round =>
   clear HO2 HB2 HD HAS2
   obtain ⟨i, A, S, rfl, hi, HS, HAL, HO, HD, HB⟩ := hrel
   by_cases hlt : i < hs.length
   ·obtain ⟨ad, rfl, hcw⟩ := Kd.at_int HC1.out (i : Int) (by omega) (by omega)
    simp only [Int.toNat_natCast] at hcw
    have hd1 := pw_cell_below HB.out (pw_cell_below HW.out hcw)
    rw [drop_rd hlt] at HD
    generalize rd hs i = h at hcw hd1 HD
    have HCW := Aside0.mk hcw
    clear hcw
    have hhas := has_calls w0 wr base B vC vP svs cl pr h (HRB.out.below HB.out) HCL.out
    obtain ⟨A8, c8, e8, hl8, hC8⟩ := Kd.R_reads HO.out
    subst e8
    cases hlk : lookP (prP cl pr) h with
    | none =>
     rw [hlk] at hhas
     have HLK := Aside0.mk hlk
     clear hlk
     go_wp2_with (go_at_call 86; refine hhas.mono ?_; rintro e w' ⟨rfl, rfl⟩)
     go_ret2
     refine ⟨?_, HB.out⟩
     rw [HD.out, deriveL, HLK.out]
     rfl
    | some l' =>
     rw [hlk] at hhas
     have hll := look_prP HRB.out.lp h
     rw [hlk] at hll
     have HLK := Aside0.mk hlk
     clear hlk
     by_cases hcond : 1 ≤ h ∧ h ≤ (cl.length : Int) ∧ rdOf false pr (h - 1) = true
     ·rw [if_pos hcond] at hll
      obtain ⟨h1, h2, _⟩ := hcond
      have hll := Option.some.inj hll
      have hi2 : (h - 1).toNat < cl.length := by omega
      have hi3 : (h - 1).toNat < svs.length := by rw [HRB.out.lc]; exact hi2
      obtain ⟨g, cc, eo, _, _, _, _⟩ := Kd.R_form (HRB.out.below HB.out).rc (by rw [HRB.out.lc]; omega)
      rw [HRB.out.lc] at eo
      have hrc := (HRB.out.below HB.out).rc
      rw [eo] at hrc
      have hz := (Kd.R_celln (none, 0, 0) (enc := encS) (h1 := fun _ => rfl) hrc (h - 1) (by omega) (by omega)).1
      have hsv : svs[(h - 1).toNat]? = some svs[(h - 1).toNat] := List.getElem?_eq_getElem hi3
      have hclv : cl[(h - 1).toNat]? = some l' := by rw [hll]; generalize (h - 1).toNat = m at hi2; rw [List.getElem?_eq_getElem hi2]; simp [List.getD, hi2]
      have hrdv : rdOf (none, 0, 0) svs (h - 1) = svs[(h - 1).toNat] := by simp only [rdOf, List.getD, hsv, Option.getD_some]
      rw [hrdv] at hz
      have hso := HRB.out.at_ _ _ _ hsv hclv
      obtain ⟨A2, c2, e2, hl2, hC2⟩ := hso
      rw [e2] at hz
      rw [show (h - 1).toNat = h.toNat - 1 by omega] at hz
      have HSZL : Aside0 (l'.length ≤ 1000000) := ⟨HSZ.out _ (List.mem_of_getElem? hclv)⟩
      have hw : wrap64 (h - 1) = h - 1 := by unfold wrap64; have := HCL.out; omega
      have q1 : 0 ≤ h - 1 := by omega
      have q2 : h - 1 < (cl.length : Int) := by omega
      have hd0 : wr.cell? ⟨B, 0, none⟩ = some (.slice (some ⟨g, 0, none⟩) cl.length cc) := by rw [← eo]; exact (blk_cell (HRB.out.below HB.out).blk 0).trans rfl
      have hd2 := hz
      have h1' : decide (1 ≤ h) = true := decide_eq_true h1
      clear hz hsv hclv hrdv e2 hrc hll h2 hi2 hi3 eo
      obtain ⟨ko, hko⟩ := open_ev l' A (by have := HSZL.out; omega) (by have := HAL.out; have := HL.out; have := HHL.out; omega)
      have HKO := Aside0.mk (hko ko (Nat.le_refl _))
      clear hko
      go_wp2_with (go_at_call 86; refine hhas.mono ?_; rintro e w' ⟨rfl, rfl⟩)
      clear hhas
      replace HB := Aside0.mk (below_drew HB.out)
      replace HO := Aside0.mk (Kd.R_drew HO.out)
      replace hC8 := Kd.C_drew hC8
      replace hd0 := pw_cell_below (below_drew (Below.refl _ _)) hd0
      replace hd1 := pw_cell_below (below_drew (Below.refl _ _)) hd1
      replace hd2 := pw_cell_below (below_drew (Below.refl _ _)) hd2
      refine start_ (n := 14) (S := fun w' => w'.cell? ⟨B, 0, none⟩ = some (.slice (some ⟨g, 0, none⟩) cl.length cc) ∧ w'.cell? (ad.add i) = some (.int .i64 h) ∧ w'.cell? ⟨g, h.toNat - 1, none⟩ = some (.slice A2 l'.length c2)) (ds := []) #[false, false, false, false, false, false, false, false, false, false, false, false, false, false] (by kernel_rfl) rfl rfl ⟨hd0, hd1, hd2⟩ (fun hHeld => ?_); refine with_tabW followsR9.tab followsR9.bits (fun HT_ HW_ => ?_)
      generalize wr.drew = wd at HB HO hd0 hd1 hd2 hC8 hHeld ⊢
      refine pure_ (i := 0) (N := some 28) (v := ?_) (a' := ?_) #[true, false, false, false, false, false, false, false, false, false, false, false, false, false] rfl rfl (any_of HT_.out (by kernel_rfl)) (fun _ _ _ h => h) (Or.inl ⟨by rfl, ?_⟩) ?_ ?_
      rotate_left
      ·intro w'
       go_simp
       with_reducible rfl
      rotate_left
      ·simp only [Act.put, List.setIfInBounds_toArray, List.set_cons_zero, List.set_cons_succ, i64_w, i32_w]
       rfl
      refine pure_ (i := 4) (N := some 32) (v := ?_) (a' := ?_) #[true, false, false, false, true, false, false, false, false, false, false, false, false, false] rfl rfl (any_of HT_.out (by kernel_rfl)) (fun _ _ _ h => h) (Or.inl ⟨by rfl, ?_⟩) ?_ ?_
      rotate_left
      ·intro w'
       go_simp
       with_reducible rfl
      rotate_left
      ·simp only [Act.put, List.setIfInBounds_toArray, List.set_cons_zero, List.set_cons_succ, i64_w, i32_w]
       rfl
      refine pure_ (i := 5) (N := some 33) (v := ?_) (a' := ?_) #[true, false, false, false, true, true, false, false, false, false, false, false, false, false] rfl rfl (any_of HT_.out (by kernel_rfl)) (fun _ _ _ h => h) (Or.inl ⟨by rfl, ?_⟩) ?_ ?_
      rotate_left
      ·intro w'
       go_simp
       with_reducible rfl
      rotate_left
      ·simp only [Act.put, List.setIfInBounds_toArray, List.set_cons_zero, List.set_cons_succ, i64_w, i32_w]
       rfl
      refine pure_ (i := 11) (N := some 39) (v := ?_) (a' := ?_) #[true, false, false, false, true, true, false, false, false, false, false, true, false, false] rfl rfl (any_of HT_.out (by kernel_rfl)) (fun _ _ _ h => h) (Or.inl ⟨by rfl, ?_⟩) ?_ ?_
      rotate_left
      ·intro w'
       go_simp
       with_reducible rfl
      rotate_left
      ·simp only [Act.put, List.setIfInBounds_toArray, List.set_cons_zero, List.set_cons_succ, i64_w, i32_w]
       rfl
      refine pure_ (i := 1) (N := some 29) (v := ?_) (a' := ?_) #[true, true, false, false, true, true, false, false, false, false, false, true, false, false] rfl rfl (any_of HT_.out (by kernel_rfl)) (fun _ _ _ h => h) (Or.inl ⟨by rfl, ?_⟩) ?_ ?_
      rotate_left
      ·intro w'
       go_simp
       with_reducible rfl
      rotate_left
      ·simp only [Act.put, List.setIfInBounds_toArray, List.set_cons_zero, List.set_cons_succ, i64_w, i32_w]
       rfl
      refine pure_ (i := 2) (N := some 30) (v := ?_) (a' := ?_) #[true, true, true, false, true, true, false, false, false, false, false, true, false, false] rfl rfl (any_of HT_.out (by kernel_rfl)) (fun _ _ _ h => h) (Or.inl ⟨by rfl, ?_⟩) ?_ ?_
      rotate_left
      ·intro w'
       go_simp
       with_reducible rfl
      rotate_left
      ·simp only [Act.put, List.setIfInBounds_toArray, List.set_cons_zero, List.set_cons_succ, i64_w, i32_w]
       rfl
      refine pure_ (i := 6) (N := some 34) (v := ?_) (a' := ?_) #[true, true, true, false, true, true, true, false, false, false, false, true, false, false] rfl rfl (any_of HT_.out (by kernel_rfl)) (fun _ _ _ h => h) (Or.inl ⟨by rfl, ?_⟩) ?_ ?_
      rotate_left
      ·intro w'
       go_simp
       with_reducible rfl
      rotate_left
      ·simp only [Act.put, List.setIfInBounds_toArray, List.set_cons_zero, List.set_cons_succ, i64_w, i32_w]
       rfl
      refine take_ (i := 3) (N := some 31) (v := ?_) (a' := ?_) #[true, true, true, true, true, true, true, false, false, false, false, true, false, false] rfl rfl (take_ofW HT_.out HW_.out (by kernel_rfl)) (fun _ _ _ h => h) (Or.inl ⟨by rfl, ?_⟩) hHeld ?_ ?_
      rotate_left
      ·rintro w' ⟨s0, s1, s2⟩
       go_simp
       with_reducible rfl
      rotate_left
      ·simp only [Act.put, List.setIfInBounds_toArray, List.set_cons_zero, List.set_cons_succ, i64_w, i32_w]
       rfl
      refine take_ (i := 7) (N := some 35) (v := ?_) (a' := ?_) #[true, true, true, true, true, true, true, true, false, false, false, true, false, false] rfl rfl (take_ofW HT_.out HW_.out (by kernel_rfl)) (fun _ _ _ h => h) (Or.inl ⟨by rfl, ?_⟩) hHeld ?_ ?_
      rotate_left
      ·rintro w' ⟨s0, s1, s2⟩
       go_simp
       with_reducible rfl
      rotate_left
      ·simp only [Act.put, List.setIfInBounds_toArray, List.set_cons_zero, List.set_cons_succ, i64_w, i32_w]
       rfl
      refine pure_ (i := 8) (N := some 36) (v := ?_) (a' := ?_) #[true, true, true, true, true, true, true, true, true, false, false, true, false, false] rfl rfl (any_of HT_.out (by kernel_rfl)) (fun _ _ _ h => h) (Or.inl ⟨by rfl, ?_⟩) ?_ ?_
      rotate_left
      ·intro w'
       go_simp
       with_reducible rfl
      rotate_left
      ·simp only [Act.put, List.setIfInBounds_toArray, List.set_cons_zero, List.set_cons_succ, i64_w, i32_w]
       rfl
      refine pure_ (i := 9) (N := some 37) (v := ?_) (a' := ?_) #[true, true, true, true, true, true, true, true, true, true, false, true, false, false] rfl rfl (any_of HT_.out (by kernel_rfl)) (fun _ _ _ h => h) (Or.inl ⟨by rfl, ?_⟩) ?_ ?_
      rotate_left
      ·intro w'
       go_simp
       with_reducible rfl
      rotate_left
      ·simp only [Act.put, List.setIfInBounds_toArray, List.set_cons_zero, List.set_cons_succ, i64_w, i32_w]
       rfl
      refine take_ (i := 10) (N := some 38) (v := ?_) (a' := ?_) #[true, true, true, true, true, true, true, true, true, true, true, true, false, false] rfl rfl (take_ofW HT_.out HW_.out (by kernel_rfl)) (fun _ _ _ h => h) (Or.inl ⟨by rfl, ?_⟩) hHeld ?_ ?_
      rotate_left
      ·rintro w' ⟨s0, s1, s2⟩
       go_simp
       with_reducible rfl
      rotate_left
      ·simp only [Act.put, List.setIfInBounds_toArray, List.set_cons_zero, List.set_cons_succ, i64_w, i32_w]
       rfl
      refine one_ (i := 12) (N := some 40) #[true, true, true, true, true, true, true, true, true, true, true, true, true, false] rfl rfl (one_of HT_.out (by kernel_rfl)) (by decide) (fun K hK => ?_)
      refine goes_ Tryz.func113 (by kernel_rfl) rfl #[.slice A2 l'.length c2, .slice A8 A.length c8] (by rfl) rfl rfl (by (try simp only [List.map_toArray, List.map_cons, List.map_nil]); first | done | rfl) ?_
      refine (netlabref33_open.calls ko A2 c2 l' A8 c8 A (openL A [] l') wd (Kd.C_below (Kd.C_below hC2 HW.out) HB.out) hl2 hC8 hl8 HKO.out).mono ?_
      rintro e w3 ⟨v3, rfl, hr3, hb3⟩
      obtain ⟨A3, c3, e3⟩ := Kd.R_slice hr3
      subst e3
      refine ⟨_, rfl, ?_⟩
      refine hK.out _ _ ⟨pw_cell_below hb3 hd0, pw_cell_below hb3 hd1, pw_cell_below hb3 hd2⟩ (fun hHeld => ?_)
      clear hK K
      have HR3 := Aside0.mk hr3
      have HB3 := Aside0.mk (below_step HB.out hb3)
      have HO3 := Aside0.mk (Kd.R_below HO.out hb3)
      clear hr3 hb3
      refine norm_ (a' := ?_) ?_ ?_
      rotate_left
      ·show Act.put _ (some 40) _ = _
       simp only [Act.put, List.setIfInBounds_toArray, List.set_cons_zero, List.set_cons_succ, i64_w, i32_w]
       rfl
      refine pure_ (i := 13) (N := some 10) (v := ?_) (a' := ?_) #[true, true, true, true, true, true, true, true, true, true, true, true, true, true] rfl rfl (any_of HT_.out (by kernel_rfl)) (fun _ _ _ h => h) (Or.inl ⟨by rfl, ?_⟩) ?_ ?_
      rotate_left
      ·intro w'
       go_simp
       with_reducible rfl
      rotate_left
      ·simp only [Act.put, List.setIfInBounds_toArray, List.set_cons_zero, List.set_cons_succ, i64_w, i32_w]
       rfl
      refine done_ (done_of HT_.out (by kernel_rfl)) ?_
      have hlo := left_open (S := S) (A := A) HS.out l'
      have HOL : Aside0 ((openL A [] l').length ≤ 1000001) := ⟨Nat.le_trans (openL_le A l' []) (by have := HSZL.out; simp; omega)⟩
      obtain ⟨A3', c3', e3', hl3, hC3⟩ := Kd.R_reads HR3.out
      cases e3'
      have HLO := Aside0.mk hlo
      clear hlo hHeld hd0 hd1 hd2 hC8
      match hop : openL A [] l' with
      | [] =>
       rw [hop] at hC3 HLO
       go_wp2
       go_ret2
       refine ⟨?_, HB3.out⟩
       rw [HD.out, deriveL, HLK.out]
       dsimp only
       rw [if_pos (by rw [HLO.out]; rfl), wrap_succ hlt (by have := HHL.out; omega)]
       rfl
      | y :: z :: q =>
       rw [hop] at hC3 HLO HOL
       have hgt : decide (((y :: z :: q).length : Int) > 1) = true := decide_eq_true (by simp; omega)
       have hne : (((y :: z :: q).length : Int) == 0) = false := by simp; omega
       go_wp2
       go_ret2
       refine ⟨?_, HB3.out⟩
       rw [HD.out, deriveL, HLK.out]
       dsimp only
       rw [HLO.out, if_neg (by simp [codeL]), if_pos (.inl (by simp [codeL]))]
       rfl
      | [y] =>
       rw [hop] at hC3 HLO HOL
       have hr3 := HR3.out
       rw [hop] at hr3
       obtain ⟨g3, cg3, eg3, _, _, _, _⟩ := Kd.R_form hr3 (by simp)
       injection eg3 with ea3 _ ec3
       subst ea3
       have hy := (Kd.R_celln 0 hr3 0 (by omega) (by simp)).1
       replace hy : w3.cell? ⟨g3, 0, none⟩ = some (.int .i64 y) := hy
       clear hr3 ec3
       obtain ⟨A8', c8', e8', hl8', hC83⟩ := Kd.R_reads HO3.out
       cases e8'
       obtain ⟨kh, hkh⟩ := has_ev A y (by have := HAL.out; have := HL.out; have := HHL.out; omega)
       have HKH := Aside0.mk (hkh kh (Nat.le_refl _))
       clear hkh
       go_wp2_with fail
       refine (netlabref32_Has.calls kh A8 c8 A y (A.contains y) w3 hC83 hl8' HKH.out).mono ?_
       rintro e w4 ⟨rfl, hd4⟩
       have HO4 := Aside0.mk (Kd.R_below HO3.out hd4.below)
       have HB4 := Aside0.mk (below_step HB3.out hd4.below)
       have hy4 := pw_cell_below hd4.below hy
       have HSY := HS.out y
       clear hd4 hC83 hy HKH
       cases hcy : A.contains y with
       | true =>
        go_wp2
        go_ret2
        refine ⟨?_, HB4.out⟩
        rw [HD.out, deriveL, HLK.out]
        dsimp only
        rw [HLO.out, if_neg (by simp [codeL]), if_pos (.inr (by show S.contains y = true; rw [HSY, hcy]))]
        rfl
       | false =>
        go_wp2_with ((with_reducible refine gate_builtin (b := .append) (xs := #[.tmp 56, .tmp 60]) rfl ?_); at_builtin; refine Kd.R_append (Kd.int .i64) (w0 := W) W.heap.size rfl (.tmp 56) (.tmp 60) 31 3 (.int .i64 0) 8 rfl Tryz.underlying31 infoInt rfl (by decide) (by omega) (.slice A8 A.length c8) A y [.int .i64 y] (fun _ => True) (fun _ => False) rfl rfl ?aP (fun _ hk => hk.elim) ?aF ?aO ?aB ?aS ?aL ?_; (case aP => exact rfl); (case aF => exact fun _ _ => trivial); (case aO => exact HO4.out); (case aB => exact HB4.out); (case aS => exact HB4.out.size); (case aL => have := HAL.out; have := HL.out; have := HHL.out; omega); intro v5 w5 ho hb hg hat; have HO5 := Aside0.mk ho; have HB5 := Aside0.mk hb; clear ho hb hg hat)
        go_roundw
        case rel =>
         refine ⟨i + 1, A ++ [y], y :: S, by rw [wrap_succ hlt (by have := HHL.out; omega)], by omega, ⟨fun x => ?_⟩, ⟨by have := HAL.out; simp; omega⟩, HO5, ⟨?_⟩, HB5⟩
         ·rw [List.contains_cons, HS.out x, Bool.eq_iff_iff]
          simp [or_comm]
         ·rw [HD.out, deriveL, HLK.out]
          dsimp only
          rw [HLO.out, if_neg (by simp [codeL]), if_neg (by
           rintro (h | h)
           ·simp [codeL] at h
           ·have h' : S.contains y = true := h
            rw [HSY, hcy] at h'; cases h')]
          rfl
        case measure => exact meas_x hlt (wrap_succ hlt (by have := HHL.out; omega))
     ·rw [if_neg hcond] at hll
      cases hll
   ·go_wp2
    go_ret2
    refine ⟨?_, HB.out⟩
    rw [HD.out, List.drop_of_length_le (by omega)]; rfl
end Go.Proofs.YtogicccdngpafaaGreatDoor.NState
end
