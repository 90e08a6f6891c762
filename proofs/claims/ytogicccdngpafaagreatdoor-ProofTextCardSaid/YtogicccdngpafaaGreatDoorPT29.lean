/-
  Part 29 of the proof of proofText_card: walks and lemmas, packed by the session's own wip/pack.py out of its texts and of what the kit's print.sh printed.
-/
import Derived.Test.YtogicccdngpafaaGreatDoorPT21
import Derived.Test.YtogicccdngpafaaGreatDoorPT22
import Derived.Test.YtogicccdngpafaaGreatDoorPT25
import Derived.Test.YtogicccdngpafaaGreatDoorPT27
import Derived.Test.YtogicccdngpafaaGreatDoorPT28
import Derived.Test.YtogicccdngpafaaGreatDoorPT26
set_option linter.unusedVariables false
set_option linter.unusedSimpArgs false
section
set_option maxHeartbeats 1000000
set_option maxRecDepth 100000
namespace Go.Proofs.YtogicccdngpafaaGreatDoor.NText
open Go Go.RowKit Go.Shelf Go.Lib QW.PrintWords QW.PrintLast QW.PrintMore
open NState (Stp kStp format_calls formatF fmtL fmtX fmtN FormatPost wrong_calls awake_calls ItoaAt numL)
open NPlain (Ev Fits FitsP sT C_sT C_ofT fewS fewS_len fewS_sizes fewS_ev same_ev itoa_len numL_len)
open PSame (netlabref33_Same.calls)
theorem fmtL_len : ∀ (p : List Stp) (n : Int), FitsP p → 0 ≤ n → n + p.length ≤ 1000000000 → (fmtL n p).length ≤ 100000 * p.length
 | [], n, _, _, _ => by simp [fmtL]
 | x :: p, n, hf, h0, h1 => by
  obtain ⟨f0, f2, l0, l2⟩ := hf x List.mem_cons_self
  have k0 := numL_len _ f0
  have k2 := numL_len _ f2
  simp only [List.length_cons] at h1 ⊢
  have hm : 0 ≤ fmtN n x ∧ fmtN n x ≤ n + 1 := by unfold fmtN; split <;> omega
  have hi := itoa_len (x := fmtN n x) ⟨by omega, by omega⟩
  have ih := fmtL_len p (fmtN n x) (fun y hy => hf y (List.mem_cons_of_mem _ hy)) hm.1 (by omega)
  rw [fmtL, List.length_append]
  have hx : (fmtX n x).length ≤ 50000 := by
   unfold fmtX
   simp only [List.length_append, List.length_singleton]
   split
   ·simp only [List.length_singleton]; omega
   ·omega
  omega
theorem format_wrong (n : Int) (A2 : Option Addr) (c2 : Nat) (p : List Stp) (w : World) (hw : n < 0 ∨ 16384 < n) :
  Calls Tryz.prog 25 #[.int .i64 n, .slice A2 p.length c2] w (FormatPost w (formatF n p)) := by
 have HF : Az (formatF n p = ([], 1)) := ⟨by unfold formatF; rw [if_pos hw]⟩
 have hw' : (decide (n < 0) || decide (16384 < n)) = true := by simpa using hw
 clear hw
 go_enter Tryz.func25, Tryz.ntmps25
 go_wp2_with fail
 refine (wrong_calls n w).mono ?_
 rintro e w0 ⟨rfl, rfl⟩
 rw [hw']
 clear hw'
 go_wp2
 go_ret2
 exact ⟨by rw [HF.out]; rfl, Below.refl _ _⟩
theorem format_fits (n : Int) (A2 : Option Addr) (c2 : Nat) (p : List Stp) (w : World) (hr2 : Kd.C kStp w A2 p.length p) (hc2 : p.length ≤ c2) (hpl : p.length ≤ 100000) (hf : FitsP p) (ht : TabOK w) :
  Calls Tryz.prog 25 #[.int .i64 n, .slice A2 p.length c2] w (FormatPost w (formatF n p)) := by
 by_cases hw : n < 0 ∨ 16384 < n
 ·exact format_wrong n A2 c2 p w hw
 ·refine format_calls n A2 c2 p w hr2 hc2 (by omega) ?_ (fun m h1 h2 => itoa_at w ht m (by omega) (by omega)) (fun x hx => ?_)
  ·have := fmtL_len p n hf (by omega) (by omega); omega
  ·obtain ⟨f0, f2, _, _⟩ := hf x hx
   exact ⟨fun y hy => itoa_at w ht y (f0 y hy).1 (f0 y hy).2, fun y hy => itoa_at w ht y (f2 y hy).1 (f2 y hy).2⟩
end Go.Proofs.YtogicccdngpafaaGreatDoor.NText
end
section
set_option maxHeartbeats 8000000
set_option maxRecDepth 100000
namespace Go.Proofs.YtogicccdngpafaaGreatDoor.NText
open Go Go.RowKit Go.Shelf Go.Lib QW.PrintWords QW.PrintLast QW.PrintMore
open NState (Stp kStp formatF fmtL FormatPost awake_calls meas_x wrap_succ)
open NPlain (FitsP sT C_sT C_ofT fewS fewS_len fewS_sizes fewS_ev same_ev bring_ok)
open PSame (netlabref33_Same.calls)
open PFit (nBr.calls)
open PFewT (S42 rd_T42 kSep k42 few_sep sep_at sep_f0 sep_f2 sep_gone kSep_C)
def ptxtR9.T : Bool × List (List Nat × List Nat) := (true, [([], []), ([], []), ([0, 1], [0, 1]), ([2], [2]), ([3], [3]), ([], []), ([], []), ([], []), ([6, 7], [6, 7]), ([8], [8]), ([9], [9]), ([], []), ([10, 11], [10, 11]), ([12], [12]), ([13], [13]), ([14], [14]), ([4, 5, 0, 1, 2, 3, 4, 5, 6, 7, 8, 9, 10, 11, 12, 13, 14, 15], [4, 5]), ([16, 15, 14, 0, 1, 2, 3, 4, 5, 6, 7, 8, 9, 10, 11, 12, 13, 14, 15], [15, 16])])
def ptxtR9.B : List Nat := [0, 0, 3, 7, 15, 0, 0, 0, 192, 448, 960, 0, 4032, 8128, 16320, 32704, 65535, 131071]
theorem ptxtR9.tab : rtab .any (opsOf Tryz.f7 9) = ptxtR9.T := by kernel_rfl
theorem ptxtR9.bits : waitsOk ptxtR9.T.2 ptxtR9.B = true := by kernel_rfl
def ptxtR11.T : Bool × List (List Nat × List Nat) := (true, [([], []), ([], []), ([0, 1], [0, 1]), ([2], [2]), ([3], [3]), ([], []), ([], []), ([], []), ([6, 7], [6, 7]), ([8], [8]), ([9], [9]), ([], []), ([10, 11], [10, 11]), ([12], [12]), ([13], [13]), ([4, 5, 0, 1, 2, 3, 4, 5, 6, 7, 8, 9, 10, 11, 12, 13, 14], [4, 5]), ([15, 14, 0, 1, 2, 3, 4, 5, 6, 7, 8, 9, 10, 11, 12, 13, 14], [14, 15])])
def ptxtR11.B : List Nat := [0, 0, 3, 7, 15, 0, 0, 0, 192, 448, 960, 0, 4032, 8128, 16320, 32767, 65535]
theorem ptxtR11.tab : rtab .any (opsOf Tryz.f7 11) = ptxtR11.T := by kernel_rfl
theorem ptxtR11.bits : waitsOk ptxtR11.T.2 ptxtR11.B = true := by kernel_rfl
def ptxtR15.T : Bool × List (List Nat × List Nat) := (true, [([], []), ([], []), ([0, 1], [0, 1]), ([2], [2]), ([3], [3]), ([], []), ([], []), ([], []), ([6, 7], [6, 7]), ([8], [8]), ([9], [9]), ([], []), ([10, 11], [10, 11]), ([12], [12]), ([13], [13]), ([14], [14]), ([4, 5, 0, 1, 2, 3, 4, 5, 6, 7, 8, 9, 10, 11, 12, 13, 14, 15], [4, 5]), ([16, 15, 14, 0, 1, 2, 3, 4, 5, 6, 7, 8, 9, 10, 11, 12, 13, 14, 15], [15, 16])])
def ptxtR15.B : List Nat := [0, 0, 3, 7, 15, 0, 0, 0, 192, 448, 960, 0, 4032, 8128, 16320, 32704, 65535, 131071]
theorem ptxtR15.tab : rtab .any (opsOf Tryz.f7 15) = ptxtR15.T := by kernel_rfl
theorem ptxtR15.bits : waitsOk ptxtR15.T.2 ptxtR15.B = true := by kernel_rfl
theorem add_block (ad : Addr) (m : Nat) : (ad.add m).block = ad.block := by unfold Addr.add; split <;> rfl
theorem fits_good {p : List Stp} (h : ∀ x ∈ p, Good x) : FitsP p := fun x hx => by
 obtain ⟨g0, g2, l0, l2⟩ := h x hx
 exact ⟨fun y hy => ⟨by have := (g0 y hy).2.1; omega, by have := (g0 y hy).2.2; omega⟩, fun y hy => ⟨by have := (g2 y hy).2.1; omega, by have := (g2 y hy).2.2; omega⟩, by omega, by omega⟩
theorem good_strip {p : List Stp} (h : ∀ x ∈ p, Good x) : ∀ x ∈ p.map stripS, x.f0.length ≤ 12 ∧ x.f2.length ≤ 40 := fun x hx => by
 obtain ⟨y, hy, rfl⟩ := List.mem_map.1 hx
 obtain ⟨_, _, l0, l2⟩ := h y hy
 refine ⟨?_, l2⟩
 show (if y.f1 = true then [] else y.f0).length ≤ 12
 split
 ·exact Nat.zero_le _
 ·exact l0
theorem law_calls (n0 : Int) (A1 : Option Addr) (c1 : Nat) (p : List Stp) (w : World) (hC : Kd.C kStp w A1 p.length p) (hc : p.length ≤ c1) (htab : TabOK w) (hgok : GOK w) :
  Calls Tryz.prog 7 #[.int .i64 n0, .slice A1 p.length c1] w fun e W' => e = .returned (.bool true) ∧ Below w.heap.size w W' := by
 obtain ⟨k0, hk0⟩ := fewS_ev 80 (by decide) p
 have hk0' := hk0 k0 (Nat.le_refl _)
 have hst := Inv.start 80 p
 have hql := fewS_len 80 p
 generalize fewS 80 p = q at hk0' hst hql
 obtain ⟨n, hn, hn0, hn1⟩ := bring_ok n0 (m := 16385) (by decide) (by decide)
 have HN := Az.mk hn
 have HN0 := Az.mk hn0
 have HN1 := Az.mk hn1
 have HF := Az.mk hk0'
 have HST := Az.mk hst
 have HC := Az.mk hC
 have HCC := Az.mk hc
 have HTAB := Az.mk htab
 have HGOK := Az.mk hgok
 obtain ⟨L, hL⟩ : ∃ L, q.length = L := ⟨_, rfl⟩
 have HQL : Az (L ≤ 80) := ⟨by rw [← hL]; exact hql⟩
 clear hk0 hk0' hst hql hn hn0 hn1 hC hc htab hgok
 rw [hL] at HST
 have HL := Az.mk hL
 clear hL
 go_enter Tryz.func7, Tryz.ntmps7
 go_wp2_with fail
 refine (nBr.calls n0 16385 n w HN.out).mono ?_
 rintro e w1 ⟨rfl, hd1⟩
 have HB0 := Az.mk (hd1.below)
 clear hd1
 go_wp2_with fail
 have hft := few_sep k0 A1 c1 (p.map sT) 80 (q.map sT) w1 (by rw [List.length_map]; exact C_sT (Kd.C_below HC.out HB0.out)) (by rw [List.length_map]; exact HCC.out) HF.out
 rw [List.length_map] at hft
 refine hft.mono ?_
 clear hft
 rintro e w2 ⟨v1, rfl, hs1, hb1⟩
 obtain ⟨Aq, cq, hv1, hl1, hC1⟩ := Kd.S_reads hs1
 rw [List.length_map, HL.out] at hv1
 subst hv1
 have HS := Az.mk hs1
 have HB := Az.mk hb1
 clear hs1 hb1 hl1 hC1
 go_wp2
 go_loopw [6] (fun v6 wr => ∃ (i : Nat) (xs : List S42), v6 = .int .i64 i ∧ i ≤ L ∧ Az (Inv xs L i 0 0) ∧ Az (Kd.S kSep 42 wr w1.heap.size (fun _ => True) (.slice Aq L cq) xs) ∧ Az (Below w1.heap.size w1 wr)) (fun v6 _ => L - (intOf v6).toNat)
 case atStart => exact ⟨0, q.map sT, rfl, Nat.zero_le _, HST, HS, HB⟩
 case round =>
  clear HS HB HST HF
  obtain ⟨i, xs, rfl, hi, HI, HS, HB⟩ := hrel
  by_cases hlt : i < L
  ·obtain ⟨ad, rfl⟩ : ∃ ad, Aq = some ad := by
    obtain ⟨g, cap, eo, _⟩ := Kd.S_form HS.out (by have := HI.out.1; omega)
    injection eo with e1 _ _
    exact ⟨_, e1⟩
   have hiL : (i : Int) < (L : Int) := by omega
   have HIL := Az.mk hlt
   go_wp2
   go_loopw [7] (fun v7 wr => ∃ (k : Nat) (xs : List S42), v7 = .int .i64 k ∧ k ≤ 12 ∧ Az (Inv xs L i k 0) ∧ Az (Kd.S kSep 42 wr w1.heap.size (fun _ => True) (.slice (some ad) L cq) xs) ∧ Az (Below w1.heap.size w1 wr)) (fun v7 _ => 13 - (intOf v7).toNat)
   case atStart => exact ⟨0, xs, rfl, Nat.zero_le _, HI, HS, HB⟩
   case round =>
    clear HS HB HI
    obtain ⟨k, xs, rfl, hk12, HI, HS, HB⟩ := hrel
    obtain ⟨oki, v0, v2, hc0, hc2, hr0, hr2, _, _⟩ := sep_at HS.out (i : Int) (by omega) hiL
    obtain ⟨A0, cc0, rfl⟩ := Kd.R_slice hr0
    simp only [Int.toNat_natCast] at hc0 hc2
    clear hr0 hr2
    have hlen := HI.out.len hlt
    by_cases hkl : k < (rd_T42 xs (i : Int)).f0.length
    ·have HK12 : Az (k < 12) := ⟨by omega⟩
     have HKL := Az.mk hkl
     clear hlen hc2
     obtain ⟨m, hm⟩ : ∃ m, (rd_T42 xs (i : Int)).f0.length = m := ⟨_, rfl⟩
     rw [hm] at hc0 hkl
     have hkm : (k : Int) < (m : Int) := by omega
     have HM := Az.mk hm
     clear hm
     go_wp2_with fail
     have HSd := Az.mk (Kd.S_drew HS.out)
     have HBd := Az.mk (below_drew HB.out)
     clear HS HB hc0
     obtain ⟨g, c, y, hcA, hcY, hy, hst⟩ := sep_f0 HSd.out HBd.out (i : Int) (k : Int) (by omega) hiL (by omega) (by rw [HM.out]; exact hkm)
     simp only [Int.toNat_natCast, HM.out] at hcA hcY hy hst
     have HSTO := Az.mk hst
     clear hst hy
     obtain ⟨t, ht, ht0, ht1⟩ := bring_ok y (m := 999999999) (by decide) (by decide)
     have HT := Az.mk ht
     have HU := Az.mk (lit_up ht0 ht1)
     clear ht ht0 ht1
     refine start_ (n := 18) (S := fun w' => w'.cell? (ad.add (i * 3)) = some (.slice (some ⟨g, 0, none⟩) m c) ∧ w'.cell? ⟨g, k, none⟩ = some (.int .i64 y)) (ds := [17]) #[false, false, false, false, false, false, false, false, false, false, false, false, false, false, false, false, false, false] (by kernel_rfl) rfl rfl ⟨hcA, hcY⟩ (fun hHeld => ?_); refine with_tabW ptxtR9.tab ptxtR9.bits (fun HT_ HW_ => ?_)
     generalize wr.drew = wd at HSd HBd HSTO hcA hcY hHeld ⊢
     refine pure_ (i := 0) (N := some 35) (v := ?_) (a' := ?_) (bA 18 1) rfl rfl (aof HT_.out (by kernel_rfl)) (fun _ _ _ h => h) (Or.inl ⟨by rfl, ?_⟩) ?_ ?_
     rotate_left
     ·intro w'
      go_simp
      with_reducible rfl
     rotate_left
     ·simp only [Act.put, zq1, zq2, zq3, iw, jw]
      rfl
     refine pure_ (i := 1) (N := some 36) (v := ?_) (a' := ?_) (bA 18 3) rfl rfl (aof HT_.out (by kernel_rfl)) (fun _ _ _ h => h) (Or.inl ⟨by rfl, ?_⟩) ?_ ?_
     rotate_left
     ·intro w'
      go_simp
      with_reducible rfl
     rotate_left
     ·simp only [Act.put, zq1, zq2, zq3, iw, jw]
      rfl
     refine pure_ (i := 2) (N := some 37) (v := ?_) (a' := ?_) (bA 18 7) rfl rfl (aof HT_.out (by kernel_rfl)) (fun _ _ _ h => h) (Or.inl ⟨by rfl, ?_⟩) ?_ ?_
     rotate_left
     ·intro w'
      go_simp
      with_reducible rfl
     rotate_left
     ·simp only [Act.put, zq1, zq2, zq3, iw, jw]
      rfl
     refine pure_ (i := 3) (N := some 38) (v := ?_) (a' := ?_) (bA 18 15) rfl rfl (aof HT_.out (by kernel_rfl)) (fun _ _ _ h => h) (Or.inl ⟨by rfl, ?_⟩) ?_ ?_
     rotate_left
     ·intro w'
      go_simp
      with_reducible rfl
     rotate_left
     ·simp only [Act.put, zq1, zq2, zq3, iw, jw]
      rfl
     refine take_ (i := 4) (N := some 39) (v := ?_) (a' := ?_) (bA 18 31) rfl rfl (tof HT_.out HW_.out (by kernel_rfl)) (fun _ _ _ h => h) (Or.inl ⟨by rfl, ?_⟩) hHeld ?_ ?_
     rotate_left
     ·rintro w' ⟨s0, s1⟩
      go_simp
      with_reducible rfl
     rotate_left
     ·simp only [Act.put, zq1, zq2, zq3, iw, jw]
      rfl
     refine pure_ (i := 5) (N := some 40) (v := ?_) (a' := ?_) (bA 18 63) rfl rfl (aof HT_.out (by kernel_rfl)) (fun _ _ _ h => h) (Or.inl ⟨by rfl, ?_⟩) ?_ ?_
     rotate_left
     ·intro w'
      go_simp
      with_reducible rfl
     rotate_left
     ·simp only [Act.put, zq1, zq2, zq3, iw, jw]
      rfl
     refine pure_ (i := 6) (N := some 41) (v := ?_) (a' := ?_) (bA 18 127) rfl rfl (aof HT_.out (by kernel_rfl)) (fun _ _ _ h => h) (Or.inl ⟨by rfl, ?_⟩) ?_ ?_
     rotate_left
     ·intro w'
      go_simp
      with_reducible rfl
     rotate_left
     ·simp only [Act.put, zq1, zq2, zq3, iw, jw]
      rfl
     refine pure_ (i := 7) (N := some 42) (v := ?_) (a' := ?_) (bA 18 255) rfl rfl (aof HT_.out (by kernel_rfl)) (fun _ _ _ h => h) (Or.inl ⟨by rfl, ?_⟩) ?_ ?_
     rotate_left
     ·intro w'
      go_simp
      with_reducible rfl
     rotate_left
     ·simp only [Act.put, zq1, zq2, zq3, iw, jw]
      rfl
     refine pure_ (i := 8) (N := some 43) (v := ?_) (a' := ?_) (bA 18 511) rfl rfl (aof HT_.out (by kernel_rfl)) (fun _ _ _ h => h) (Or.inl ⟨by rfl, ?_⟩) ?_ ?_
     rotate_left
     ·intro w'
      go_simp
      with_reducible rfl
     rotate_left
     ·simp only [Act.put, zq1, zq2, zq3, iw, jw]
      rfl
     refine pure_ (i := 9) (N := some 44) (v := ?_) (a' := ?_) (bA 18 1023) rfl rfl (aof HT_.out (by kernel_rfl)) (fun _ _ _ h => h) (Or.inl ⟨by rfl, ?_⟩) ?_ ?_
     rotate_left
     ·intro w'
      go_simp
      with_reducible rfl
     rotate_left
     ·simp only [Act.put, zq1, zq2, zq3, iw, jw]
      rfl
     refine take_ (i := 10) (N := some 45) (v := ?_) (a' := ?_) (bA 18 2047) rfl rfl (tof HT_.out HW_.out (by kernel_rfl)) (fun _ _ _ h => h) (Or.inl ⟨by rfl, ?_⟩) hHeld ?_ ?_
     rotate_left
     ·rintro w' ⟨s0, s1⟩
      go_simp
      with_reducible rfl
     rotate_left
     ·simp only [Act.put, zq1, zq2, zq3, iw, jw]
      rfl
     refine pure_ (i := 11) (N := some 46) (v := ?_) (a' := ?_) (bA 18 4095) rfl rfl (aof HT_.out (by kernel_rfl)) (fun _ _ _ h => h) (Or.inl ⟨by rfl, ?_⟩) ?_ ?_
     rotate_left
     ·intro w'
      go_simp
      with_reducible rfl
     rotate_left
     ·simp only [Act.put, zq1, zq2, zq3, iw, jw]
      rfl
     refine pure_ (i := 12) (N := some 47) (v := ?_) (a' := ?_) (bA 18 8191) rfl rfl (aof HT_.out (by kernel_rfl)) (fun _ _ _ h => h) (Or.inl ⟨by rfl, ?_⟩) ?_ ?_
     rotate_left
     ·intro w'
      go_simp
      with_reducible rfl
     rotate_left
     ·simp only [Act.put, zq1, zq2, zq3, iw, jw]
      rfl
     refine take_ (i := 13) (N := some 48) (v := ?_) (a' := ?_) (bA 18 16383) rfl rfl (tof HT_.out HW_.out (by kernel_rfl)) (fun _ _ _ h => h) (Or.inl ⟨by rfl, ?_⟩) hHeld ?_ ?_
     rotate_left
     ·rintro w' ⟨s0, s1⟩
      go_simp
      with_reducible rfl
     rotate_left
     ·simp only [Act.put, zq1, zq2, zq3, iw, jw]
      rfl
     refine QW.PrintLast.one_ (i := 14) (N := some 49) (bA 18 32767) rfl rfl (one_of HT_.out (by kernel_rfl)) (by decide) (fun K hK => ?_)
     refine goes_ Tryz.func23 (by kernel_rfl) rfl #[.int .i64 y, .int .i64 999999999] (by rfl) rfl rfl (by (try simp only [List.map_toArray, List.map_cons, List.map_nil]); first | done | rfl) ?_
     refine (nBr.calls y 999999999 t wd HT.out).mono ?_
     rintro e we ⟨rfl, hd⟩
     have HDB := Az.mk hd.below
     refine ⟨_, rfl, ?_⟩
     refine hK.out _ _ ⟨pwc HDB.out hcA, pwc HDB.out hcY⟩ (fun hHeld => ?_)
     clear hK K hd
     refine norm_ (a' := ?_) ?_ ?_
     rotate_left
     ·show Act.put _ (some 49) _ = _
      simp only [Act.put, zq1, zq2, zq3, iw, jw]
      rfl
     refine pure_ (i := 15) (N := some 50) (v := ?_) (a' := ?_) (bA 18 65535) rfl rfl (aof HT_.out (by kernel_rfl)) (fun _ _ _ h => h) (Or.inl ⟨by rfl, ?_⟩) ?_ ?_
     rotate_left
     ·intro w'
      go_simp
      with_reducible rfl
     rotate_left
     ·simp only [Act.put, zq1, zq2, zq3, iw, jw]
      rfl
     refine pure_ (i := 16) (N := some 51) (v := ?_) (a' := ?_) (bA 18 131071) rfl rfl (aof HT_.out (by kernel_rfl)) (fun _ _ _ h => h) (Or.inl ⟨by rfl, ?_⟩) ?_ ?_
     rotate_left
     ·intro w'
      go_simp
      with_reducible rfl
     rotate_left
     ·simp only [Act.put, zq1, zq2, zq3, iw, jw]
      rfl
     refine last_ (i := 17) (N := none) (bA 18 262143) rfl rfl (one_of HT_.out (by kernel_rfl)) (by decide) (fun K hK => ?_)
     have hs : we.cell? ⟨g, k, none⟩ = some (.int .i64 y) := pwc HDB.out hcY
     have hfs := (HSTO.out we HDB.out).1
     refine skip_ (w1 := ?_) (by rfl) rfl ?_ ?_
     rotate_left
     ·go_simp
      rfl
     refine hK.out _ _ ?_
     clear hK K hs hfs
     refine done_ (done_of HT_.out (by kernel_rfl)) ?_
     clear HT_ HW_
     obtain ⟨hS3, hB3⟩ := (HSTO.out we HDB.out).2 (wrap64 (1 + t))
     have HI3 := Az.mk (HI.out.set0 (k := k) (a' := k + 1) hlt HU.out (fun m h => by omega))
     have HS3 := Az.mk hS3
     have HB3 := Az.mk hB3
     clear hS3 hB3 HI HSd HBd HSTO hcA hcY HU HT HDB
     have hm3 : (rd_T42 (xs.set i ⟨(rd_T42 xs (i : Int)).f0.set k (wrap64 (1 + t)), (rd_T42 xs (i : Int)).f1, (rd_T42 xs (i : Int)).f2⟩) (i : Int)).f0.length = m := by
      have e := rd_at (xs := xs.set i ⟨(rd_T42 xs (i : Int)).f0.set k (wrap64 (1 + t)), (rd_T42 xs (i : Int)).f1, (rd_T42 xs (i : Int)).f2⟩) (i := i) (by have := HI3.out.1; omega)
      rw [List.getElem?_set_self (by have := HI3.out.1; rw [List.length_set] at this; omega)] at e
      injection e with e
      rw [← e]; simp only [List.length_set]; exact HM.out
     have HM3 := Az.mk hm3
     clear hm3 HM HKL
     generalize xs.set i ⟨(rd_T42 xs (i : Int)).f0.set k (wrap64 (1 + t)), (rd_T42 xs (i : Int)).f1, (rd_T42 xs (i : Int)).f2⟩ = ys at HI3 HS3 HM3
     generalize we.setCell ⟨g, k, none⟩ (.int .i64 (wrap64 (1 + t))) = wf at HS3 HB3 ⊢
     clear hHeld
     by_cases hodd : (k : Int) % 2 = 1
     ·have hodd' : ((k : Int) % 2 == 1) = true := beq_iff_eq.2 hodd
      go_wp2_with fail
      have HSd := Az.mk (Kd.S_drew HS3.out)
      have HBd := Az.mk (below_drew HB3.out)
      clear HS3 HB3
      obtain ⟨g, c, y, hcA, hcY, hy, hst⟩ := sep_f0 HSd.out HBd.out (i : Int) (k : Int) (by omega) hiL (by omega) (by rw [HM3.out]; exact hkm)
      simp only [Int.toNat_natCast, HM3.out] at hcA hcY hy hst
      have HSTO := Az.mk hst
      have HU := Az.mk (lit_neg (HI3.out.lit hlt hy (Nat.lt_succ_self k)))
      clear hst hy
      refine start_ (n := 17) (S := fun w' => w'.cell? (ad.add (i * 3)) = some (.slice (some ⟨g, 0, none⟩) m c) ∧ w'.cell? ⟨g, k, none⟩ = some (.int .i64 y)) (ds := [16]) #[false, false, false, false, false, false, false, false, false, false, false, false, false, false, false, false, false] (by kernel_rfl) rfl rfl ⟨hcA, hcY⟩ (fun hHeld => ?_); refine with_tabW ptxtR11.tab ptxtR11.bits (fun HT_ HW_ => ?_)
      generalize wf.drew = wd at HSd HBd HSTO hcA hcY hHeld ⊢
      refine pure_ (i := 0) (N := some 55) (v := ?_) (a' := ?_) (bA 17 1) rfl rfl (aof HT_.out (by kernel_rfl)) (fun _ _ _ h => h) (Or.inl ⟨by rfl, ?_⟩) ?_ ?_
      rotate_left
      ·intro w'
       go_simp
       with_reducible rfl
      rotate_left
      ·simp only [Act.put, zq1, zq2, zq3, iw, jw]
       rfl
      refine pure_ (i := 1) (N := some 56) (v := ?_) (a' := ?_) (bA 17 3) rfl rfl (aof HT_.out (by kernel_rfl)) (fun _ _ _ h => h) (Or.inl ⟨by rfl, ?_⟩) ?_ ?_
      rotate_left
      ·intro w'
       go_simp
       with_reducible rfl
      rotate_left
      ·simp only [Act.put, zq1, zq2, zq3, iw, jw]
       rfl
      refine pure_ (i := 2) (N := some 57) (v := ?_) (a' := ?_) (bA 17 7) rfl rfl (aof HT_.out (by kernel_rfl)) (fun _ _ _ h => h) (Or.inl ⟨by rfl, ?_⟩) ?_ ?_
      rotate_left
      ·intro w'
       go_simp
       with_reducible rfl
      rotate_left
      ·simp only [Act.put, zq1, zq2, zq3, iw, jw]
       rfl
      refine pure_ (i := 3) (N := some 58) (v := ?_) (a' := ?_) (bA 17 15) rfl rfl (aof HT_.out (by kernel_rfl)) (fun _ _ _ h => h) (Or.inl ⟨by rfl, ?_⟩) ?_ ?_
      rotate_left
      ·intro w'
       go_simp
       with_reducible rfl
      rotate_left
      ·simp only [Act.put, zq1, zq2, zq3, iw, jw]
       rfl
      refine take_ (i := 4) (N := some 59) (v := ?_) (a' := ?_) (bA 17 31) rfl rfl (tof HT_.out HW_.out (by kernel_rfl)) (fun _ _ _ h => h) (Or.inl ⟨by rfl, ?_⟩) hHeld ?_ ?_
      rotate_left
      ·rintro w' ⟨s0, s1⟩
       go_simp
       with_reducible rfl
      rotate_left
      ·simp only [Act.put, zq1, zq2, zq3, iw, jw]
       rfl
      refine pure_ (i := 5) (N := some 60) (v := ?_) (a' := ?_) (bA 17 63) rfl rfl (aof HT_.out (by kernel_rfl)) (fun _ _ _ h => h) (Or.inl ⟨by rfl, ?_⟩) ?_ ?_
      rotate_left
      ·intro w'
       go_simp
       with_reducible rfl
      rotate_left
      ·simp only [Act.put, zq1, zq2, zq3, iw, jw]
       rfl
      refine pure_ (i := 6) (N := some 61) (v := ?_) (a' := ?_) (bA 17 127) rfl rfl (aof HT_.out (by kernel_rfl)) (fun _ _ _ h => h) (Or.inl ⟨by rfl, ?_⟩) ?_ ?_
      rotate_left
      ·intro w'
       go_simp
       with_reducible rfl
      rotate_left
      ·simp only [Act.put, zq1, zq2, zq3, iw, jw]
       rfl
      refine pure_ (i := 7) (N := some 62) (v := ?_) (a' := ?_) (bA 17 255) rfl rfl (aof HT_.out (by kernel_rfl)) (fun _ _ _ h => h) (Or.inl ⟨by rfl, ?_⟩) ?_ ?_
      rotate_left
      ·intro w'
       go_simp
       with_reducible rfl
      rotate_left
      ·simp only [Act.put, zq1, zq2, zq3, iw, jw]
       rfl
      refine pure_ (i := 8) (N := some 63) (v := ?_) (a' := ?_) (bA 17 511) rfl rfl (aof HT_.out (by kernel_rfl)) (fun _ _ _ h => h) (Or.inl ⟨by rfl, ?_⟩) ?_ ?_
      rotate_left
      ·intro w'
       go_simp
       with_reducible rfl
      rotate_left
      ·simp only [Act.put, zq1, zq2, zq3, iw, jw]
       rfl
      refine pure_ (i := 9) (N := some 64) (v := ?_) (a' := ?_) (bA 17 1023) rfl rfl (aof HT_.out (by kernel_rfl)) (fun _ _ _ h => h) (Or.inl ⟨by rfl, ?_⟩) ?_ ?_
      rotate_left
      ·intro w'
       go_simp
       with_reducible rfl
      rotate_left
      ·simp only [Act.put, zq1, zq2, zq3, iw, jw]
       rfl
      refine take_ (i := 10) (N := some 65) (v := ?_) (a' := ?_) (bA 17 2047) rfl rfl (tof HT_.out HW_.out (by kernel_rfl)) (fun _ _ _ h => h) (Or.inl ⟨by rfl, ?_⟩) hHeld ?_ ?_
      rotate_left
      ·rintro w' ⟨s0, s1⟩
       go_simp
       with_reducible rfl
      rotate_left
      ·simp only [Act.put, zq1, zq2, zq3, iw, jw]
       rfl
      refine pure_ (i := 11) (N := some 66) (v := ?_) (a' := ?_) (bA 17 4095) rfl rfl (aof HT_.out (by kernel_rfl)) (fun _ _ _ h => h) (Or.inl ⟨by rfl, ?_⟩) ?_ ?_
      rotate_left
      ·intro w'
       go_simp
       with_reducible rfl
      rotate_left
      ·simp only [Act.put, zq1, zq2, zq3, iw, jw]
       rfl
      refine pure_ (i := 12) (N := some 67) (v := ?_) (a' := ?_) (bA 17 8191) rfl rfl (aof HT_.out (by kernel_rfl)) (fun _ _ _ h => h) (Or.inl ⟨by rfl, ?_⟩) ?_ ?_
      rotate_left
      ·intro w'
       go_simp
       with_reducible rfl
      rotate_left
      ·simp only [Act.put, zq1, zq2, zq3, iw, jw]
       rfl
      refine take_ (i := 13) (N := some 68) (v := ?_) (a' := ?_) (bA 17 16383) rfl rfl (tof HT_.out HW_.out (by kernel_rfl)) (fun _ _ _ h => h) (Or.inl ⟨by rfl, ?_⟩) hHeld ?_ ?_
      rotate_left
      ·rintro w' ⟨s0, s1⟩
       go_simp
       with_reducible rfl
      rotate_left
      ·simp only [Act.put, zq1, zq2, zq3, iw, jw]
       rfl
      refine pure_ (i := 14) (N := some 69) (v := ?_) (a' := ?_) (bA 17 32767) rfl rfl (aof HT_.out (by kernel_rfl)) (fun _ _ _ h => h) (Or.inl ⟨by rfl, ?_⟩) ?_ ?_
      rotate_left
      ·intro w'
       go_simp
       with_reducible rfl
      rotate_left
      ·simp only [Act.put, zq1, zq2, zq3, iw, jw]
       rfl
      refine pure_ (i := 15) (N := some 70) (v := ?_) (a' := ?_) (bA 17 65535) rfl rfl (aof HT_.out (by kernel_rfl)) (fun _ _ _ h => h) (Or.inl ⟨by rfl, ?_⟩) ?_ ?_
      rotate_left
      ·intro w'
       go_simp
       with_reducible rfl
      rotate_left
      ·simp only [Act.put, zq1, zq2, zq3, iw, jw]
       rfl
      refine last_ (i := 16) (N := none) (bA 17 131071) rfl rfl (one_of HT_.out (by kernel_rfl)) (by decide) (fun K hK => ?_)
      have hs : wd.cell? ⟨g, k, none⟩ = some (.int .i64 y) := hcY
      have hfs := (HSTO.out wd (Below.refl _ _)).1
      refine skip_ (w1 := ?_) (by rfl) rfl ?_ ?_
      rotate_left
      ·go_simp
       rfl
      refine hK.out _ _ ?_
      clear hK K hs hfs
      refine done_ (done_of HT_.out (by kernel_rfl)) ?_
      clear HT_ HW_
      obtain ⟨hS4, hB4⟩ := (HSTO.out wd (Below.refl _ _)).2 (wrap64 (-y))
      have HI4 := Az.mk (HI3.out.set0 (k := k) (a' := k + 1) hlt HU.out (fun m h => .inl h))
      have HS4 := Az.mk hS4
      have HB4 := Az.mk hB4
      clear hS4 hB4 HI3 HSd HBd HSTO hcA hcY HU hHeld HM3
      go_wp2
      go_roundw
      case rel => exact ⟨k + 1, _, by first | rfl | rw [wrap_succ (show k < 12 from HK12.out) (by omega)], HK12.out, HI4, HS4, HB4⟩
      case measure => exact meas_x (show k < 13 by have := HK12.out; omega) (by first | rfl | exact wrap_succ (show k < 12 from HK12.out) (by omega))
     ·have hodd' : ((k : Int) % 2 == 1) = false := beq_eq_false_iff_ne.2 hodd
      clear HM3
      go_wp2
      go_roundw
      case rel => exact ⟨k + 1, _, by first | rfl | rw [wrap_succ (show k < 12 from HK12.out) (by omega)], HK12.out, HI3, HS3, HB3⟩
      case measure => exact meas_x (show k < 13 by have := HK12.out; omega) (by first | rfl | exact wrap_succ (show k < 12 from HK12.out) (by omega))
    ·have HI2 := Az.mk (HI.out.full0 hlt (by omega))
     clear HI hlen
     obtain ⟨m, hm⟩ : ∃ m, (rd_T42 xs (i : Int)).f0.length = m := ⟨_, rfl⟩
     rw [hm] at hc0 hkl
     clear hm
     have hkm : ¬ (k : Int) < (m : Int) := by omega
     go_wp2
     clear hkl hkm hc0 hc2
     go_loopw [8] (fun v8 wr => ∃ (k : Nat) (xs : List S42), v8 = .int .i64 k ∧ k ≤ 40 ∧ Az (Inv xs L i 12 k) ∧ Az (Kd.S kSep 42 wr w1.heap.size (fun _ => True) (.slice (some ad) L cq) xs) ∧ Az (Below w1.heap.size w1 wr)) (fun v8 _ => 41 - (intOf v8).toNat)
     case atStart => exact ⟨0, xs, rfl, Nat.zero_le _, HI2, HS, HB⟩
     case round =>
      clear HS HB HI2
      obtain ⟨k, xs, rfl, hk40, HI, HS, HB⟩ := hrel
      obtain ⟨oki, v0, v2, hc0, hc2, hr0, hr2, _, _⟩ := sep_at HS.out (i : Int) (by omega) hiL
      obtain ⟨A2, cc2, rfl⟩ := Kd.R_slice hr2
      simp only [Int.toNat_natCast] at hc0 hc2
      clear hr0 hr2
      have hlen := HI.out.len hlt
      by_cases hkl : k < (rd_T42 xs (i : Int)).f2.length
      ·have HK40 : Az (k < 40) := ⟨by omega⟩
       clear hlen hc0
       obtain ⟨m, hm⟩ : ∃ m, (rd_T42 xs (i : Int)).f2.length = m := ⟨_, rfl⟩
       rw [hm] at hc2 hkl
       have hkm : (k : Int) < (m : Int) := by omega
       have HM := Az.mk hm
       clear hm
       go_wp2_with fail
       have HSd := Az.mk (Kd.S_drew HS.out)
       have HBd := Az.mk (below_drew HB.out)
       clear HS HB hc2
       obtain ⟨g, c, y, hcA, hcY, hy, hst⟩ := sep_f2 HSd.out HBd.out (i : Int) (k : Int) (by omega) hiL (by omega) (by rw [HM.out]; exact hkm)
       simp only [Int.toNat_natCast, HM.out] at hcA hcY hy hst
       have HSTO := Az.mk hst
       clear hst hy
       obtain ⟨t, ht, ht0, ht1⟩ := bring_ok y (m := 999999999) (by decide) (by decide)
       have HT := Az.mk ht
       have HU := Az.mk (lit_up ht0 ht1)
       clear ht ht0 ht1
       refine start_ (n := 18) (S := fun w' => w'.cell? ⟨(ad.add (i * 3)).block, (ad.add (i * 3)).off + 2, none⟩ = some (.slice (some ⟨g, 0, none⟩) m c) ∧ w'.cell? ⟨g, k, none⟩ = some (.int .i64 y)) (ds := [17]) #[false, false, false, false, false, false, false, false, false, false, false, false, false, false, false, false, false, false] (by kernel_rfl) rfl rfl ⟨hcA, hcY⟩ (fun hHeld => ?_); refine with_tabW ptxtR15.tab ptxtR15.bits (fun HT_ HW_ => ?_)
       generalize wr.drew = wd at HSd HBd HSTO hcA hcY hHeld ⊢
       refine pure_ (i := 0) (N := some 81) (v := ?_) (a' := ?_) (bA 18 1) rfl rfl (aof HT_.out (by kernel_rfl)) (fun _ _ _ h => h) (Or.inl ⟨by rfl, ?_⟩) ?_ ?_
       rotate_left
       ·intro w'
        go_simp
        with_reducible rfl
       rotate_left
       ·simp only [Act.put, zq1, zq2, zq3, iw, jw]
        rfl
       refine pure_ (i := 1) (N := some 82) (v := ?_) (a' := ?_) (bA 18 3) rfl rfl (aof HT_.out (by kernel_rfl)) (fun _ _ _ h => h) (Or.inl ⟨by rfl, ?_⟩) ?_ ?_
       rotate_left
       ·intro w'
        go_simp
        with_reducible rfl
       rotate_left
       ·simp only [Act.put, zq1, zq2, zq3, iw, jw]
        rfl
       refine pure_ (i := 2) (N := some 83) (v := ?_) (a' := ?_) (bA 18 7) rfl rfl (aof HT_.out (by kernel_rfl)) (fun _ _ _ h => h) (Or.inl ⟨by rfl, ?_⟩) ?_ ?_
       rotate_left
       ·intro w'
        go_simp
        with_reducible rfl
       rotate_left
       ·simp only [Act.put, zq1, zq2, zq3, iw, jw]
        rfl
       refine pure_ (i := 3) (N := some 84) (v := ?_) (a' := ?_) (bA 18 15) rfl rfl (aof HT_.out (by kernel_rfl)) (fun _ _ _ h => h) (Or.inl ⟨by rfl, ?_⟩) ?_ ?_
       rotate_left
       ·intro w'
        go_simp
        with_reducible rfl
       rotate_left
       ·simp only [Act.put, zq1, zq2, zq3, iw, jw]
        rfl
       refine take_ (i := 4) (N := some 85) (v := ?_) (a' := ?_) (bA 18 31) rfl rfl (tof HT_.out HW_.out (by kernel_rfl)) (fun _ _ _ h => h) (Or.inl ⟨by rfl, ?_⟩) hHeld ?_ ?_
       rotate_left
       ·rintro w' ⟨s0, s1⟩
        go_simp
        with_reducible rfl
       rotate_left
       ·simp only [Act.put, zq1, zq2, zq3, iw, jw]
        rfl
       refine pure_ (i := 5) (N := some 86) (v := ?_) (a' := ?_) (bA 18 63) rfl rfl (aof HT_.out (by kernel_rfl)) (fun _ _ _ h => h) (Or.inl ⟨by rfl, ?_⟩) ?_ ?_
       rotate_left
       ·intro w'
        go_simp
        with_reducible rfl
       rotate_left
       ·simp only [Act.put, zq1, zq2, zq3, iw, jw]
        rfl
       refine pure_ (i := 6) (N := some 87) (v := ?_) (a' := ?_) (bA 18 127) rfl rfl (aof HT_.out (by kernel_rfl)) (fun _ _ _ h => h) (Or.inl ⟨by rfl, ?_⟩) ?_ ?_
       rotate_left
       ·intro w'
        go_simp
        with_reducible rfl
       rotate_left
       ·simp only [Act.put, zq1, zq2, zq3, iw, jw]
        rfl
       refine pure_ (i := 7) (N := some 88) (v := ?_) (a' := ?_) (bA 18 255) rfl rfl (aof HT_.out (by kernel_rfl)) (fun _ _ _ h => h) (Or.inl ⟨by rfl, ?_⟩) ?_ ?_
       rotate_left
       ·intro w'
        go_simp
        with_reducible rfl
       rotate_left
       ·simp only [Act.put, zq1, zq2, zq3, iw, jw]
        rfl
       refine pure_ (i := 8) (N := some 89) (v := ?_) (a' := ?_) (bA 18 511) rfl rfl (aof HT_.out (by kernel_rfl)) (fun _ _ _ h => h) (Or.inl ⟨by rfl, ?_⟩) ?_ ?_
       rotate_left
       ·intro w'
        go_simp
        with_reducible rfl
       rotate_left
       ·simp only [Act.put, zq1, zq2, zq3, iw, jw]
        rfl
       refine pure_ (i := 9) (N := some 90) (v := ?_) (a' := ?_) (bA 18 1023) rfl rfl (aof HT_.out (by kernel_rfl)) (fun _ _ _ h => h) (Or.inl ⟨by rfl, ?_⟩) ?_ ?_
       rotate_left
       ·intro w'
        go_simp
        with_reducible rfl
       rotate_left
       ·simp only [Act.put, zq1, zq2, zq3, iw, jw]
        rfl
       refine take_ (i := 10) (N := some 91) (v := ?_) (a' := ?_) (bA 18 2047) rfl rfl (tof HT_.out HW_.out (by kernel_rfl)) (fun _ _ _ h => h) (Or.inl ⟨by rfl, ?_⟩) hHeld ?_ ?_
       rotate_left
       ·rintro w' ⟨s0, s1⟩
        go_simp
        with_reducible rfl
       rotate_left
       ·simp only [Act.put, zq1, zq2, zq3, iw, jw]
        rfl
       refine pure_ (i := 11) (N := some 92) (v := ?_) (a' := ?_) (bA 18 4095) rfl rfl (aof HT_.out (by kernel_rfl)) (fun _ _ _ h => h) (Or.inl ⟨by rfl, ?_⟩) ?_ ?_
       rotate_left
       ·intro w'
        go_simp
        with_reducible rfl
       rotate_left
       ·simp only [Act.put, zq1, zq2, zq3, iw, jw]
        rfl
       refine pure_ (i := 12) (N := some 93) (v := ?_) (a' := ?_) (bA 18 8191) rfl rfl (aof HT_.out (by kernel_rfl)) (fun _ _ _ h => h) (Or.inl ⟨by rfl, ?_⟩) ?_ ?_
       rotate_left
       ·intro w'
        go_simp
        with_reducible rfl
       rotate_left
       ·simp only [Act.put, zq1, zq2, zq3, iw, jw]
        rfl
       refine take_ (i := 13) (N := some 94) (v := ?_) (a' := ?_) (bA 18 16383) rfl rfl (tof HT_.out HW_.out (by kernel_rfl)) (fun _ _ _ h => h) (Or.inl ⟨by rfl, ?_⟩) hHeld ?_ ?_
       rotate_left
       ·rintro w' ⟨s0, s1⟩
        go_simp
        with_reducible rfl
       rotate_left
       ·simp only [Act.put, zq1, zq2, zq3, iw, jw]
        rfl
       refine QW.PrintLast.one_ (i := 14) (N := some 95) (bA 18 32767) rfl rfl (one_of HT_.out (by kernel_rfl)) (by decide) (fun K hK => ?_)
       refine goes_ Tryz.func23 (by kernel_rfl) rfl #[.int .i64 y, .int .i64 999999999] (by rfl) rfl rfl (by (try simp only [List.map_toArray, List.map_cons, List.map_nil]); first | done | rfl) ?_
       refine (nBr.calls y 999999999 t wd HT.out).mono ?_
       rintro e we ⟨rfl, hd⟩
       have HDB := Az.mk hd.below
       refine ⟨_, rfl, ?_⟩
       refine hK.out _ _ ⟨pwc HDB.out hcA, pwc HDB.out hcY⟩ (fun hHeld => ?_)
       clear hK K hd
       refine norm_ (a' := ?_) ?_ ?_
       rotate_left
       ·show Act.put _ (some 95) _ = _
        simp only [Act.put, zq1, zq2, zq3, iw, jw]
        rfl
       refine pure_ (i := 15) (N := some 96) (v := ?_) (a' := ?_) (bA 18 65535) rfl rfl (aof HT_.out (by kernel_rfl)) (fun _ _ _ h => h) (Or.inl ⟨by rfl, ?_⟩) ?_ ?_
       rotate_left
       ·intro w'
        go_simp
        with_reducible rfl
       rotate_left
       ·simp only [Act.put, zq1, zq2, zq3, iw, jw]
        rfl
       refine pure_ (i := 16) (N := some 97) (v := ?_) (a' := ?_) (bA 18 131071) rfl rfl (aof HT_.out (by kernel_rfl)) (fun _ _ _ h => h) (Or.inl ⟨by rfl, ?_⟩) ?_ ?_
       rotate_left
       ·intro w'
        go_simp
        with_reducible rfl
       rotate_left
       ·simp only [Act.put, zq1, zq2, zq3, iw, jw]
        rfl
       refine last_ (i := 17) (N := none) (bA 18 262143) rfl rfl (one_of HT_.out (by kernel_rfl)) (by decide) (fun K hK => ?_)
       have hs : we.cell? ⟨g, k, none⟩ = some (.int .i64 y) := pwc HDB.out hcY
       have hfs := (HSTO.out we HDB.out).1
       refine skip_ (w1 := ?_) (by rfl) rfl ?_ ?_
       rotate_left
       ·go_simp
        rfl
       refine hK.out _ _ ?_
       clear hK K hs hfs
       refine done_ (done_of HT_.out (by kernel_rfl)) ?_
       clear HT_ HW_
       obtain ⟨hS3, hB3⟩ := (HSTO.out we HDB.out).2 (wrap64 (1 + t))
       have HI3 := Az.mk (HI.out.set2 (k := k) (b' := k + 1) hlt HU.out (fun m h => by omega))
       have HS3 := Az.mk hS3
       have HB3 := Az.mk hB3
       clear hS3 hB3 HI HSd HBd HSTO hcA hcY HU HT HDB HM hHeld
       go_wp2
       go_roundw
       case rel => exact ⟨k + 1, _, by first | rfl | rw [wrap_succ (show k < 40 from HK40.out) (by omega)], HK40.out, HI3, HS3, HB3⟩
       case measure => exact meas_x (show k < 41 by have := HK40.out; omega) (by first | rfl | exact wrap_succ (show k < 40 from HK40.out) (by omega))
      ·have HI2 := Az.mk (HI.out.full2 hlt (by omega))
       clear HI hlen
       obtain ⟨m, hm⟩ : ∃ m, (rd_T42 xs (i : Int)).f2.length = m := ⟨_, rfl⟩
       rw [hm] at hc2 hkl
       clear hm
       have hkm : ¬ (k : Int) < (m : Int) := by omega
       go_wp2
       go_roundw
       case rel => exact ⟨i + 1, xs, by first | rfl | rw [wrap_succ HIL.out (by have := HQL.out; omega)], HIL.out, HI2, HS, HB⟩
       case measure => exact meas_x HIL.out (by first | rfl | exact wrap_succ HIL.out (by have := HQL.out; omega))
  ·have hgd := HI.out.good (show L ≤ i by omega)
   have hln0 := HI.out.1
   obtain ⟨q2, hq2⟩ : ∃ z, xs.map ofT = z := ⟨_, rfl⟩
   have hln : q2.length = L := by rw [← hq2, List.length_map]; exact hln0
   have hxs : xs = q2.map sT := by rw [← hq2]; exact (map_ofT xs).symm
   rw [hq2] at hgd
   clear hq2 hln0 HI
   subst hxs
   have hiL : ¬ (i : Int) < (L : Int) := by omega
   have HGD := Az.mk hgd
   have HLN := Az.mk hln
   clear hgd hln
   obtain ⟨hf, ts, htk, hpt⟩ := parse_format n q2 HN0.out (by have := HN1.out; omega) (by rw [HLN.out]; exact HQL.out) HGD.out
   have HFM := Az.mk hf
   have HTK := Az.mk htk
   have HPT := Az.mk hpt
   clear hf htk hpt
   obtain ⟨hs1, hs2, hs3⟩ := Kd.S_reads' HS.out
   rw [List.length_map] at hs3
   have HQC := Az.mk (C_ofT (kSep_C hs3))
   have HCQ := Az.mk hs2
   clear hs1 hs2 hs3
   have hfc := format_fits n Aq cq q2 wr HQC.out (by rw [HLN.out]; exact HCQ.out) (by have := HLN.out; have := HQL.out; omega) (fits_good HGD.out) (HTAB.out.below (bwt HB0.out HB.out))
   rw [HLN.out, HFM.out] at hfc
   have HFC := Az.mk hfc
   clear hfc
   go_wp2_with fail
   refine HFC.out.mono ?_
   clear HFC
   rintro e w3 ⟨rfl, hb3⟩
   have HS3 := Az.mk (Kd.S_below HS.out hb3)
   have HB3 := Az.mk (bwt HB.out hb3)
   clear hb3 HS HB HQC
   have hpc := parse_calls n ⟨(fmtL n q2).toArray⟩ w3 (HGOK.out.below (bwt HB0.out HB3.out)) ts HTK.out
   have e : parseT (⟨(fmtL n q2).toArray⟩ : ByteArray).size n ts = (q2.map stripS, 0, 0) := HPT.out
   rw [e] at hpc
   have HPC := Az.mk hpc
   clear hpc e
   go_wp2_with fail
   refine HPC.out.mono ?_
   clear HPC
   rintro e w4 ⟨v4, rfl, hr4, hb4⟩
   have HT4 : Az (Kd.R kStp 42 w4 w3.heap.size (fun k => ∀ ad, Aq = some ad → k ≠ ad.block) v4 (q2.map stripS)) := ⟨Kd.R_mono (Kd.R_bound hr4) (fun k hk ad e => by
    subst e
    obtain ⟨g, rfl⟩ := Kd.R_head (Kd.S_R HS3.out)
    have h1 := Kd.S_lt HS3.out g (by simp [Value.ownBlock])
    have h2 := hk.2.1
    show k ≠ g
    omega)⟩
   have HR4 : Az (Kd.R k42 42 w4 w1.heap.size (fun _ => True) (.slice Aq L cq) (q2.map sT)) := ⟨Kd.R_imp (d := kSep) (d' := k42) rfl (fun _ _ _ _ _ h => h.1) (Kd.S_R (Kd.S_below HS3.out hb4))⟩
   have HB4 := Az.mk (bwt HB3.out hb4)
   clear hr4 hb4 HS3 HB3
   go_wp2
   go_loopw [14] (fun v14 wr => ∃ (j : Nat) (ys : List S42), v14 = .int .i64 j ∧ j ≤ L ∧ Az (Off (q2.map sT) ys j) ∧ Az (Kd.R k42 42 wr w1.heap.size (fun _ => True) (.slice Aq L cq) ys) ∧ Az (Kd.R kStp 42 wr w3.heap.size (fun k => ∀ ad, Aq = some ad → k ≠ ad.block) v4 (q2.map stripS)) ∧ Az (Below w1.heap.size w1 wr)) (fun v14 _ => L - (intOf v14).toNat)
   case atStart => exact ⟨0, q2.map sT, rfl, Nat.zero_le _, ⟨Off.start _⟩, HR4, HT4, HB4⟩
   case round =>
    clear HR4 HT4 HB4
    obtain ⟨j, ys, rfl, hj, HO, HR, HT, HB⟩ := hrel
    have HXL : Az ((q2.map sT).length = L) := ⟨by rw [List.length_map]; exact HLN.out⟩
    by_cases hjl : j < L
    ·obtain ⟨ad, rfl⟩ : ∃ ad, Aq = some ad := by
      obtain ⟨g, cap, eo, _⟩ := Kd.R_form HR.out (by have := HO.out.1; have := HXL.out; omega)
      injection eo with e1 _ _
      exact ⟨_, e1⟩
     have hjL : (j : Int) < (L : Int) := by omega
     have HJL := Az.mk hjl
     obtain ⟨v0, hc0, hc1, hfz, hR2, hB2⟩ := sep_gone HR.out HB.out (j : Int) (by omega) hjL
     simp only [Int.toNat_natCast] at hc0 hc1 hfz hR2 hB2
     cases hg : (rd_T42 ys (j : Int)).f1
     ·have HO2 := Az.mk (HO.out.keep (by rw [HXL.out]; exact hjl) hg)
      rw [hg] at hc1
      clear hR2 hB2 hg hfz hc0
      go_wp2
      go_roundw
      case rel => exact ⟨j + 1, ys, by first | rfl | rw [wrap_succ HJL.out (by have := HQL.out; omega)], HJL.out, HO2, HR, HT, HB⟩
      case measure => exact meas_x HJL.out (by first | rfl | exact wrap_succ HJL.out (by have := HQL.out; omega))
     ·have HO2 := Az.mk (HO.out.step (by rw [HXL.out]; exact hjl) hg)
      have HR2 := Az.mk hR2
      have HB2 := Az.mk hB2
      have HT2 := Az.mk (Kd.R_far HT.out (p := ad.add (j * 3)) (fun k hk => by rw [add_block]; exact hk ad rfl) (.slice none 0 0))
      rw [hg] at hc1
      clear hR2 hB2 hg HR HT HB HO
      go_wp2
      go_roundw
      case rel => exact ⟨j + 1, _, by first | rfl | rw [wrap_succ HJL.out (by have := HQL.out; omega)], HJL.out, HO2, HR2, HT2, HB2⟩
      case measure => exact meas_x HJL.out (by first | rfl | exact wrap_succ HJL.out (by have := HQL.out; omega))
    ·have hjL : ¬ (j : Int) < (L : Int) := by omega
     have hys := HO.out.done (by rw [HXL.out]; omega)
     have e0 : (q2.map sT).map ofT = q2 := by
      rw [List.map_map]
      have : (ofT ∘ sT) = (id : Stp → Stp) := by funext x; rfl
      rw [this, List.map_id]
     rw [e0] at hys
     have hsz := good_strip HGD.out
     have htl : (q2.map stripS).length = L := by rw [List.length_map]; exact HLN.out
     have hpm : formatF n q2 = formatF n q2 := rfl
     clear e0 hpm HXL HO HFM HTK HPT HGD HLN
     generalize q2.map stripS = tp at hys hsz htl HT
     obtain ⟨hr1, hr2, hr3⟩ := Kd.R_reads' HR.out
     have hC5 : Kd.C kStp wr Aq tp.length tp := by
      have h := hr3
      rw [← map_ofT ys, List.length_map, hys] at h
      exact C_ofT h
     obtain ⟨A4, c4, hv4, hl4, hC4⟩ := Kd.R_reads HT.out
     obtain ⟨k2, hk2⟩ := same_ev tp (by have := HQL.out; omega) (fun x hx => by have := hsz x hx; omega)
     have hk2' := hk2 k2 (Nat.le_refl _)
     have hsm := netlabref33_Same.calls k2 A4 c4 _ Aq cq _ true wr hC4 hl4 hC5 (by rw [htl]; exact hr2) hk2'
     rw [htl] at hv4
     rw [htl] at hsm
     have HSM := Az.mk hsm
     subst hv4
     clear hsm hk2 hk2' hC4 hC5 hr1 hr2 hr3 hys hsz hl4 HT HR htl
     go_wp2_with (first | (go_at_call 18; refine HSM.out.mono ?_; rintro e w6 ⟨rfl, hb6⟩; have HB6 := Az.mk (bwt HB.out hb6); clear hb6) | (go_at_call 20; refine (awake_calls w6).mono ?_; rintro e w7 ⟨rfl, hb7⟩; have HB7 := Az.mk (bwt HB6.out hb7); clear hb7))
     go_ret
     exact ⟨rfl, bwt HB0.out HB7.out⟩
end Go.Proofs.YtogicccdngpafaaGreatDoor.NText
end
