/-
  Part 29 of the proof of cnfMatches_card: walks and lemmas.
-/
import Derived.Test.YtkcfdddhnboieaaGreatDoorKE27
import Derived.Test.YtkcfdddhnboieaaGreatDoorKE11
import Derived.Deep.CutRange
import Derived.Deep.CutBlock
import Derived.Test.YtkcfdddhnboieaaGreatDoorKE28
set_option linter.unusedVariables false
set_option linter.unusedSimpArgs false
section
set_option maxHeartbeats 8000000
set_option maxRecDepth 100000
namespace Go.Proofs.YtkcfdddhnboieaaGreatDoor.PRPropg
open Go Go.RowKit NMap NState QW.PrintWords QW.PrintLast QW.PrintMore
theorem infoN : (Tryz.prog.info? 3).map (fun i => (i.zero, i.size, i.bytes)) = some (some (.int .i64 0), 1, 8) := by kernel_rfl
theorem ite_some {α : Type} {c : Prop} [Decidable c] {a : Option α} {r : α} (h : (if c then a else none) = some r) : c ∧ a = some r := by
 by_cases hc : c
 ·rw [if_pos hc] at h; exact ⟨hc, h⟩
 ·rw [if_neg hc] at h; cases h
def rsoR7.T : Bool × List (List Nat × List Nat) := (true, [([], []), ([], []), ([1], [1]), ([0, 2], [0, 2]), ([3], [3]), ([4], [4]), ([4], [4]), ([5, 6, 4], [4, 5, 6]), ([7, 4], [4, 7]), ([4], [4]), ([4], [4]), ([9, 10, 4], [4, 9, 10]), ([11, 4], [4, 11]), ([8, 12, 4, 4], [4, 8, 12]), ([4, 13], [4, 13])])
def rsoR7.B : List Nat := [0, 0, 2, 7, 15, 31, 31, 127, 255, 31, 31, 1567, 3615, 8191, 16383]
theorem rsoR7.tab : rtab .any (opsOf Tryz.f54 7) = rsoR7.T := by kernel_rfl
theorem rsoR7.bits : waitsOk rsoR7.T.2 rsoR7.B = true := by kernel_rfl
theorem netlabref32_Sorted.calls (k : Nat) (A0 : Option Addr) (c0 : Nat) (l : List Int) (r : List Int) (w : World) (hr0 : Kd.C (Kd.int .i64) w A0 l.length l) (_hc0 : l.length ≤ c0) (h : netlabref32_Sorted.f k l = some r) :
  Calls Tryz.prog 54 #[.slice A0 l.length c0] w fun e w' => ∃ v0_ : Value, e = .returned (v0_) ∧ Kd.R (Kd.int .i64) 3 w' w.heap.size (fun _ => True) v0_ r ∧ Below w.heap.size w w' := by
 have HR0 := Az.mk hr0
 have HLM := Az.mk (Kd.C_max hr0)
 replace h : netlabref32_Sorted.l0 k l [] 0 = some r := h
 have H0 := Az.mk h
 obtain ⟨i0, hi0, _, hsz, _⟩ := info_parts infoN
 have HI0 := Az.mk hi0
 have HSZ := Az.mk hsz
 clear hr0 h hi0 hsz
 go_enter Tryz.func54, Tryz.ntmps54
 go_wp2
 go_loopg [3, 4] k (fun kq v3 v4 wr => ∃ (out : List Int) (i : Nat), v4 = .int .i64 i ∧ i ≤ l.length ∧ Az (netlabref32_Sorted.l0 kq l out (i : Int) = some r) ∧ Az (kq ≤ k) ∧ Az (Kd.R (Kd.int .i64) 3 wr w.heap.size (fun _ => True) v3 out) ∧ Az (Below w.heap.size w wr))
 case atStart => exact ⟨[], 0, rfl, Nat.zero_le _, H0, ⟨Nat.le_refl _⟩, ⟨Kd.R_nil _ _ _ _ _⟩, ⟨Below.refl _ _⟩⟩
 case round =>
  clear H0
  obtain ⟨out, i, rfl, hi, HA, HK1, HO, HB⟩ := hrel
  cases gk with
  | zero => exact absurd HA.out (by simp [netlabref32_Sorted.l0])
  | succ k1 =>
   have H := HA.out
   clear HA
   simp only [netlabref32_Sorted.l0] at H
   obtain ⟨Ao, co, eo⟩ := Kd.R_slice HO.out
   subst eo
   by_cases hlt : i < l.length
   ·rw [if_pos (by omega), if_pos (by omega)] at H
    obtain ⟨t, ht, H⟩ := Option.bind_eq_some_iff.mp H
    obtain ⟨ad, rfl, hcx⟩ := Kd.at_int HR0.out (i : Int) (by omega) (by omega)
    simp only [Int.toNat_natCast] at hcx
    obtain ⟨x, hx⟩ : ∃ x, rd l (i : Int) = x := ⟨_, rfl⟩
    rw [hx] at ht hcx
    have HX := Az.mk hx
    have HCX := Az.mk hcx
    clear hx
    replace hcx := (HB.out.cell (World.block_lt_of_cell? w _ hcx)).trans hcx
    have hwi : wrap64 ((i : Int) + 1) = ((i + 1 : Nat) : Int) := wrap_succ hlt HLM.out
    go_wp2_with fail
    refine (netlabref32_Has.calls k1 Ao co out x t _ (Kd.R_reads' HO.out).2.2 (Kd.R_reads' HO.out).2.1 ht).mono ?_
    rintro e wv ⟨rfl, hd⟩
    have HOv := Az.mk (Kd.R_below HO.out hd.below)
    have HBv := Az.mk (bwt HB.out hd.below)
    clear hd HO HB hcx ht
    cases t with
    | true =>
     rw [if_pos rfl, hwi] at H
     have H0 := Az.mk H
     clear H
     go_wp2
     go_roundg k1
     case measure => have := HK1.out; omega
     case rel => exact ⟨out, i + 1, by rw [hwi], by omega, H0, ⟨by have := HK1.out; omega⟩, HOv, HBv⟩
    | false =>
     rw [if_neg (by simp)] at H
     have H0 := Az.mk H
     clear H
     go_wp2
     go_loopg [5] k1 (fun kq v5 wr => ∃ j : Nat, v5 = .int .i64 j ∧ j ≤ out.length ∧ Az (netlabref32_Sorted.l1 kq l out (i : Int) (j : Int) = some r) ∧ Az (kq ≤ k1) ∧ Az (Kd.R (Kd.int .i64) 3 wr w.heap.size (fun _ => True) (.slice Ao out.length co) out) ∧ Az (Below w.heap.size w wr))
     case atStart => exact ⟨0, rfl, Nat.zero_le _, H0, ⟨Nat.le_refl _⟩, HOv, HBv⟩
     case round =>
      clear H0 HOv HBv
      obtain ⟨j, rfl, hj, HA, HK2, HO, HB⟩ := hrel
      cases gk with
      | zero => exact absurd HA.out (by simp [netlabref32_Sorted.l1])
      | succ k2 =>
       have H := HA.out
       clear HA
       simp only [netlabref32_Sorted.l1, Option.bind_some, List.nil_append, List.length_nil, HX.out, Int.toNat_natCast, hwi] at H
       have hcx := (HB.out.cell (World.block_lt_of_cell? w _ HCX.out)).trans HCX.out
       have hi1 : ((i : Int) < (l.length : Int)) = True := eq_true (by omega)
       have hi2 : ((0 : Int) ≤ (i : Int)) = True := eq_true (by omega)
       by_cases hjl : j < out.length
       ·rw [if_pos (by omega), if_pos (by omega), if_pos (by omega), if_pos (by omega)] at H
        obtain ⟨t, ht, H⟩ := Option.bind_eq_some_iff.mp H
        obtain ⟨ad2, e2, hcy⟩ := Kd.at_int (Kd.R_reads' HO.out).2.2 (j : Int) (by omega) (by omega)
        subst e2
        simp only [Int.toNat_natCast] at hcy
        generalize rd out (j : Int) = y at ht hcy
        have hj1 : ((j : Int) < (out.length : Int)) = True := eq_true (by omega)
        have hj2 : ((0 : Int) ≤ (j : Int)) = True := eq_true (by omega)
        have hjb : decide ((j : Int) < (out.length : Int)) = true := decide_eq_true (by omega)
        go_upto_region 7 with fail
        refine start_ (n := 15) (S := fun w' => w'.cell? (ad2.add j) = some (.int .i64 y) ∧ w'.cell? (ad.add i) = some (.int .i64 x)) (ds := []) (Array.replicate 15 false) (by kernel_rfl) rfl rfl ⟨hcy, hcx⟩ (fun hHeld => ?_); refine with_tabW rsoR7.tab rsoR7.bits (fun HT_ HW_ => ?_)
        have HO8 := Az.mk (Kd.R_drew HO.out)
        have HB8 := Az.mk (below_drew HB.out)
        generalize wr.drew = w8 at HO8 HB8 hHeld ⊢
        clear HO HB
        refine pA 0 (some 19) (bA 15 1) rfl rfl HT_.out (by intro w'; go_simp; with_reducible rfl) (by simp only [Act.put, zq1, zq2, zq3, iw, jw]; rfl) ?_
        refine pA 1 (some 20) (bA 15 3) rfl rfl HT_.out (by intro w'; go_simp; with_reducible rfl) (by simp only [Act.put, zq1, zq2, zq3, iw, jw]; rfl) ?_
        refine pA 2 (some 21) (bA 15 7) rfl rfl HT_.out (by intro w'; go_simp; with_reducible rfl) (by simp only [Act.put, zq1, zq2, zq3, iw, jw]; rfl) ?_
        refine pA 3 (some 22) (bA 15 15) rfl rfl HT_.out (by intro w'; go_simp; with_reducible rfl) (by simp only [Act.put, zq1, zq2, zq3, iw, jw]; rfl) ?_
        refine pA 4 (some 23) (bA 15 31) rfl rfl HT_.out (by intro w'; go_simp; with_reducible rfl) (by simp only [Act.put, zq1, zq2, zq3, iw, jw]; rfl) ?_
        refine pA 5 (some 24) (bA 15 63) rfl rfl HT_.out (by intro w'; go_simp; with_reducible rfl) (by simp only [Act.put, zq1, zq2, zq3, iw, jw]; rfl) ?_
        refine pA 6 (some 25) (bA 15 127) rfl rfl HT_.out (by intro w'; go_simp; with_reducible rfl) (by simp only [Act.put, zq1, zq2, zq3, iw, jw]; rfl) ?_
        refine pA 7 (some 26) (bA 15 255) rfl rfl HT_.out (by intro w'; go_simp; with_reducible rfl) (by simp only [Act.put, zq1, zq2, zq3, iw, jw]; rfl) ?_
        refine pT 8 (some 27) (bA 15 511) rfl rfl HT_.out HW_.out hHeld (by rintro w' ⟨s0, s1⟩; go_simp; with_reducible rfl) (by simp only [Act.put, zq1, zq2, zq3, iw, jw]; rfl) ?_
        refine pA 9 (some 28) (bA 15 1023) rfl rfl HT_.out (by intro w'; go_simp; with_reducible rfl) (by simp only [Act.put, zq1, zq2, zq3, iw, jw]; rfl) ?_
        refine pA 10 (some 29) (bA 15 2047) rfl rfl HT_.out (by intro w'; go_simp; with_reducible rfl) (by simp only [Act.put, zq1, zq2, zq3, iw, jw]; rfl) ?_
        refine pA 11 (some 30) (bA 15 4095) rfl rfl HT_.out (by intro w'; go_simp; with_reducible rfl) (by simp only [Act.put, zq1, zq2, zq3, iw, jw]; rfl) ?_
        refine pT 12 (some 31) (bA 15 8191) rfl rfl HT_.out HW_.out hHeld (by rintro w' ⟨s0, s1⟩; go_simp; with_reducible rfl) (by simp only [Act.put, zq1, zq2, zq3, iw, jw]; rfl) ?_
        refine QW.PrintLast.one_ (i := 13) (N := some 32) (bA 15 16383) rfl rfl (one_of HT_.out (by kernel_rfl)) (by decide) (fun K hK => ?_)
        refine goes_ Tryz.func111 (by kernel_rfl) rfl #[.int .i64 y, .int .i64 x] (by rfl) rfl rfl (by (try simp only [List.map_toArray, List.map_cons, List.map_nil]); first | done | rfl) ?_
        refine (netlabref32_before.calls y x t _ ht).mono ?_
        rintro e w9 ⟨rfl, hd⟩
        have HO9 := Az.mk (Kd.R_below HO8.out hd.below)
        have HB9 := Az.mk (bwt HB8.out hd.below)
        refine ⟨_, rfl, hK.out _ _ ⟨(hd.below.cell (World.block_lt_of_cell? _ _ hHeld.1)).trans hHeld.1, (hd.below.cell (World.block_lt_of_cell? _ _ hHeld.2)).trans hHeld.2⟩ (fun hHeld => ?_)⟩
        clear hK K hd HO8 HB8 ht
        refine norm_ (by show Act.put _ (some 32) _ = _; simp only [Act.put, zq1, zq2, zq3, iw, jw]; rfl) ?_
        refine pA 14 (some 33) (bA 15 32767) rfl rfl HT_.out (by intro w'; go_simp; with_reducible rfl) (by simp only [Act.put, zq1, zq2, zq3, iw, jw]; rfl) ?_
        refine done_ (done_of HT_.out (by kernel_rfl)) ?_
        have hcx := hHeld.2
        clear hHeld HT_ HW_ hcy
        cases t with
        | true =>
         have hw : wrap64 ((j : Int) + 1) = ((j + 1 : Nat) : Int) := wrap_succ hjl (Kd.C_max (Kd.R_reads' HO9.out).2.2)
         rw [if_pos rfl, hw] at H
         have H0 := Az.mk H
         clear H
         go_wp2
         go_roundg k2
         case measure => have := HK2.out; omega
         case rel => exact ⟨j + 1, by rw [hw], by omega, H0, ⟨by have := HK2.out; omega⟩, HO9, HB9⟩
        | false =>
         rw [if_neg (by simp)] at H
         obtain ⟨_, H⟩ := ite_some H
         obtain ⟨_, H⟩ := ite_some H
         obtain ⟨_, H⟩ := ite_some H
         obtain ⟨hsum, H⟩ := ite_some H
         have HSUM := Az.mk hsum
         clear hsum
         have H0 := Az.mk H
         clear H
         have HPL : Az (j ≤ out.length) := ⟨by omega⟩
         have HOL := Az.mk (Kd.C_max (Kd.R_reads' HO9.out).2.2)
         have hroom := (Kd.R_reads' HO9.out).2.1
         have hcut1 := cut_to (P := Tryz.prog) 26 3 .i64 Tryz.underlying26 HI0.out (some ad2) out.length co (j : Int) (by omega) (by omega) hroom
         have hcut2 := cut_from (P := Tryz.prog) 26 3 .i64 Tryz.underlying26 HI0.out 1 HSZ.out (some ad2) out.length co (j : Int) (by omega) (by omega)
         have q1 : ((j : Int) ≤ (out.length : Int)) = True := eq_true (by omega)
         have q2 : ((0 : Int) ≤ (j : Int)) = True := eq_true (by omega)
         simp only [Int.toNat_natCast] at hcut1 hcut2
         obtain ⟨AD, hAD⟩ : ∃ A1 : Option Addr, A1 = (if co = j then (some ad2) else ((some ad2) : Option Addr).map (·.add (j * 1))) := ⟨_, rfl⟩
         obtain ⟨cd, hcd⟩ : ∃ x, x = co - j := ⟨_, rfl⟩
         obtain ⟨md, hmd⟩ : ∃ x, x = out.length - j := ⟨_, rfl⟩
         rw [← hAD, ← hcd, ← hmd] at hcut2
         have HT1 : Az ((out.take j).length = j) := ⟨by rw [List.length_take]; omega⟩
         have HT2 : Az ((out.drop j).length = md ∧ md = out.length - j) := ⟨by rw [hmd]; exact List.length_drop, hmd⟩
         have HAD := Az.mk hAD
         clear hAD hcd hmd
         have HCT := Az.mk (Kd.C_take (m := j) (Kd.R_reads' HO9.out).2.2 HPL.out)
         have HTL : Az (out.length < 17592186044416) := ⟨by have h1 := HSUM.out; have h2 := HT1.out; have h3 := HT2.out; simp only [List.length_append, List.length_singleton] at h1; omega⟩
         go_wp2_with (first | ((with_reducible refine gate_builtin (b := .append) (xs := #[.tmp 36, .tmp 39]) rfl ?_); at_builtin; go_loud (refine Kd.R_append_rows (Kd.int .i64) (w0 := w) w.heap.size rfl (.tmp 36) (.tmp 39) 26 3 (.int .i64 0) 8 rfl Tryz.underlying26 infoN rfl (by decide) (by decide) (.slice none 0 0) ([] : List Int) (out.take j) (some ad2) j co (fun k_ => some k_ ≠ (Value.slice (some ad2) out.length co).ownBlock) (fun _ => False) rfl rfl ?aO ?aR (fun _ _ h => h) (fun _ h => h.elim) ?aF ?aB ?aS ?aL ?_); (case aO => exact Kd.R_nil _ _ _ _ _); (case aR => have hq := HCT.out; rw [HT1.out] at hq; exact hq); (case aF => exact fun k_ hk => Kd.fresh' (Kd.R_lt HO9.out) k_ hk); (case aB => exact HB9.out); (case aS => exact HB9.out.size); (case aL => have := HTL.out; have := HPL.out; simp; omega); intro v1 wa ho hb hg hat; rw [List.nil_append] at ho; have HOA := Az.mk (Kd.R_after (Kd.R_apart_nil HO9.out) hg hat); have HNA := Az.mk ho; have HBA := Az.mk hb; replace hcx := (hb.cell (World.block_lt_of_cell? w _ HCX.out)).trans HCX.out; clear ho hb hg hat) | ((with_reducible refine gate_builtin (b := .append) (xs := #[.tmp 41, .tmp 46]) rfl ?_); at_builtin; go_loud (refine Kd.R_append (Kd.int .i64) (w0 := w) w.heap.size rfl (.tmp 41) (.tmp 46) 26 3 (.int .i64 0) 8 rfl Tryz.underlying26 infoN rfl (by decide) (by decide) v1 (out.take j) x [.int .i64 x] (fun k_ => some k_ ≠ (Value.slice (some ad2) out.length co).ownBlock) (fun _ => False) rfl rfl ?aP (fun _ hk => hk.elim) ?aF ?aO ?aB ?aS ?aL ?_); (case aP => exact rfl); (case aF => exact fun k_ hk => Kd.fresh' (Kd.R_lt HOA.out) k_ hk); (case aO => exact HNA.out); (case aB => exact HBA.out); (case aS => exact HBA.out.size); (case aL => have := HTL.out; have := HT1.out; have := HPL.out; simp; omega); intro v2 wb ho hb hg hat; have HOB := Az.mk (Kd.R_after (ok := fun _ => True) HOA.out hg hat); have HNB := Az.mk ho; have HBB := Az.mk hb; have HCD : Az (Kd.C (Kd.int .i64) wb AD (out.drop j).length (out.drop j)) := ⟨by rw [HAD.out]; exact Kd.C_drop (m := j) (c := co) (Kd.R_reads' HOB.out).2.2 HPL.out (Kd.R_reads' HOB.out).2.1⟩; clear ho hb hg hat hcx HOA HNA HBA) | ((with_reducible refine gate_builtin (b := .append) (xs := #[.tmp 48, .tmp 51]) rfl ?_); at_builtin; go_loud (refine Kd.R_append_rows (Kd.int .i64) (w0 := w) w.heap.size rfl (.tmp 48) (.tmp 51) 26 3 (.int .i64 0) 8 rfl Tryz.underlying26 infoN rfl (by decide) (by decide) v2 (out.take j ++ [x]) (out.drop j) AD md cd (fun k_ => some k_ ≠ (Value.slice (some ad2) out.length co).ownBlock) (fun _ => False) rfl rfl ?aO ?aR (fun _ _ h => h) (fun _ h => h.elim) ?aF ?aB ?aS ?aL ?_); (case aO => exact HNB.out); (case aR => have hq := HCD.out; rw [HT2.out.1] at hq; exact hq); (case aF => exact fun k_ hk => Kd.fresh' (Kd.R_lt HOB.out) k_ hk); (case aB => exact HBB.out); (case aS => exact HBB.out.size); (case aL => have := HTL.out; have := HT1.out; have := HPL.out; have := HT2.out.2; simp; omega); intro v3 wc ho hb hg hat; have HNC := Az.mk ho; have HBC := Az.mk hb; clear ho hb hg hat HOB HNB HBB))
         go_roundg k2
         case measure => have := HK1.out; have := HK2.out; omega
         case rel => exact ⟨_, i + 1, by rw [hwi], by omega, H0, ⟨by have := HK1.out; have := HK2.out; omega⟩, ⟨Kd.R_mono HNC.out (fun _ _ => trivial)⟩, HBC⟩
       ·obtain rfl : j = out.length := by omega
        rw [if_neg (by omega)] at H
        have hjb : decide ((out.length : Int) < (out.length : Int)) = false := decide_eq_false (by omega)
        go_upto_region 7 with fail
        refine start_ (n := 15) (S := fun w' => True) (ds := []) (Array.replicate 15 false) (by kernel_rfl) rfl rfl trivial (fun hHeld => ?_); refine with_tabW rsoR7.tab rsoR7.bits (fun HT_ HW_ => ?_)
        have HO9 := Az.mk (Kd.R_drew HO.out)
        have HB9 := Az.mk (below_drew HB.out)
        generalize wr.drew = w9 at HO9 HB9 hHeld ⊢
        clear HO HB
        refine pA 0 (some 19) (bA 15 1) rfl rfl HT_.out (by intro w'; go_simp; with_reducible rfl) (by simp only [Act.put, zq1, zq2, zq3, iw, jw]; rfl) ?_
        refine pA 1 (some 20) (bA 15 3) rfl rfl HT_.out (by intro w'; go_simp; with_reducible rfl) (by simp only [Act.put, zq1, zq2, zq3, iw, jw]; rfl) ?_
        refine pA 2 (some 21) (bA 15 7) rfl rfl HT_.out (by intro w'; go_simp; with_reducible rfl) (by simp only [Act.put, zq1, zq2, zq3, iw, jw]; rfl) ?_
        refine pA 3 (some 22) (bA 15 15) rfl rfl HT_.out (by intro w'; go_simp; with_reducible rfl) (by simp only [Act.put, zq1, zq2, zq3, iw, jw]; rfl) ?_
        refine pA 4 (some 23) (bA 15 31) rfl rfl HT_.out (by intro w'; go_simp; with_reducible rfl) (by simp only [Act.put, zq1, zq2, zq3, iw, jw]; rfl) ?_
        refine pure_ (i := 5) (N := some 24) (v := undef) (a' := ?_) (bA 15 63) rfl rfl (aof HT_.out (by kernel_rfl)) (fun _ _ _ h => h) (Or.inr ⟨by rfl, rfl⟩) ?_ ?_
        rotate_left
        ·simp only [Act.put, zq1, zq2, zq3, iw, jw]
         rfl
        refine pure_ (i := 6) (N := some 25) (v := undef) (a' := ?_) (bA 15 127) rfl rfl (aof HT_.out (by kernel_rfl)) (fun _ _ _ h => h) (Or.inr ⟨by rfl, rfl⟩) ?_ ?_
        rotate_left
        ·simp only [Act.put, zq1, zq2, zq3, iw, jw]
         rfl
        refine pure_ (i := 7) (N := some 26) (v := undef) (a' := ?_) (bA 15 255) rfl rfl (aof HT_.out (by kernel_rfl)) (fun _ _ _ h => h) (Or.inr ⟨by rfl, rfl⟩) ?_ ?_
        rotate_left
        ·simp only [Act.put, zq1, zq2, zq3, iw, jw]
         rfl
        refine pure_ (i := 8) (N := some 27) (v := undef) (a' := ?_) (bA 15 511) rfl rfl (aof HT_.out (by kernel_rfl)) (fun _ _ _ h => h) (Or.inr ⟨by rfl, rfl⟩) ?_ ?_
        rotate_left
        ·simp only [Act.put, zq1, zq2, zq3, iw, jw]
         rfl
        refine pure_ (i := 9) (N := some 28) (v := undef) (a' := ?_) (bA 15 1023) rfl rfl (aof HT_.out (by kernel_rfl)) (fun _ _ _ h => h) (Or.inr ⟨by rfl, rfl⟩) ?_ ?_
        rotate_left
        ·simp only [Act.put, zq1, zq2, zq3, iw, jw]
         rfl
        refine pure_ (i := 10) (N := some 29) (v := undef) (a' := ?_) (bA 15 2047) rfl rfl (aof HT_.out (by kernel_rfl)) (fun _ _ _ h => h) (Or.inr ⟨by rfl, rfl⟩) ?_ ?_
        rotate_left
        ·simp only [Act.put, zq1, zq2, zq3, iw, jw]
         rfl
        refine pure_ (i := 11) (N := some 30) (v := undef) (a' := ?_) (bA 15 4095) rfl rfl (aof HT_.out (by kernel_rfl)) (fun _ _ _ h => h) (Or.inr ⟨by rfl, rfl⟩) ?_ ?_
        rotate_left
        ·simp only [Act.put, zq1, zq2, zq3, iw, jw]
         rfl
        refine pure_ (i := 12) (N := some 31) (v := undef) (a' := ?_) (bA 15 8191) rfl rfl (aof HT_.out (by kernel_rfl)) (fun _ _ _ h => h) (Or.inr ⟨by rfl, rfl⟩) ?_ ?_
        rotate_left
        ·simp only [Act.put, zq1, zq2, zq3, iw, jw]
         rfl
        refine pure_ (i := 13) (N := some 32) (v := undef) (a' := ?_) (bA 15 16383) rfl rfl (aof HT_.out (by kernel_rfl)) (fun _ _ _ h => h) (Or.inr ⟨by rfl, rfl⟩) ?_ ?_
        rotate_left
        ·simp only [Act.put, zq1, zq2, zq3, iw, jw]
         rfl
        refine pA 14 (some 33) (bA 15 32767) rfl rfl HT_.out (by intro w'; go_simp; with_reducible rfl) (by simp only [Act.put, zq1, zq2, zq3, iw, jw]; rfl) ?_
        refine done_ (done_of HT_.out (by kernel_rfl)) ?_
        have hcx := (HB9.out.cell (World.block_lt_of_cell? w _ HCX.out)).trans HCX.out
        clear hHeld HT_ HW_
        obtain ⟨_, H⟩ := ite_some H
        obtain ⟨_, H⟩ := ite_some H
        obtain ⟨_, H⟩ := ite_some H
        obtain ⟨_, H⟩ := ite_some H
        obtain ⟨_, H⟩ := ite_some H
        obtain ⟨_, H⟩ := ite_some H
        obtain ⟨hsum, H⟩ := ite_some H
        have HSUM := Az.mk hsum
        clear hsum
        have H0 := Az.mk H
        clear H
        have HPL : Az (out.length ≤ out.length) := ⟨by omega⟩
        have HOL := Az.mk (Kd.C_max (Kd.R_reads' HO9.out).2.2)
        have hroom := (Kd.R_reads' HO9.out).2.1
        have hcut1 := cut_to (P := Tryz.prog) 26 3 .i64 Tryz.underlying26 HI0.out Ao out.length co (out.length : Int) (by omega) (by omega) hroom
        have hcut2 := cut_from (P := Tryz.prog) 26 3 .i64 Tryz.underlying26 HI0.out 1 HSZ.out Ao out.length co (out.length : Int) (by omega) (by omega)
        have q1 : ((out.length : Int) ≤ (out.length : Int)) = True := eq_true (by omega)
        have q2 : ((0 : Int) ≤ (out.length : Int)) = True := eq_true (by omega)
        simp only [Int.toNat_natCast] at hcut1 hcut2
        obtain ⟨AD, hAD⟩ : ∃ A1 : Option Addr, A1 = (if co = out.length then Ao else (Ao : Option Addr).map (·.add (out.length * 1))) := ⟨_, rfl⟩
        obtain ⟨cd, hcd⟩ : ∃ x, x = co - out.length := ⟨_, rfl⟩
        obtain ⟨md, hmd⟩ : ∃ x, x = out.length - out.length := ⟨_, rfl⟩
        rw [← hAD, ← hcd, ← hmd] at hcut2
        have HT1 : Az ((out.take out.length).length = out.length) := ⟨by rw [List.length_take]; omega⟩
        have HT2 : Az ((out.drop out.length).length = md ∧ md = out.length - out.length) := ⟨by rw [hmd]; exact List.length_drop, hmd⟩
        have HAD := Az.mk hAD
        clear hAD hcd hmd
        have HCT := Az.mk (Kd.C_take (m := out.length) (Kd.R_reads' HO9.out).2.2 HPL.out)
        have HTL : Az (out.length < 17592186044416) := ⟨by have h1 := HSUM.out; have h2 := HT1.out; have h3 := HT2.out; simp only [List.length_append, List.length_singleton] at h1; omega⟩
        go_wp2_with (first | ((with_reducible refine gate_builtin (b := .append) (xs := #[.tmp 36, .tmp 39]) rfl ?_); at_builtin; go_loud (refine Kd.R_append_rows (Kd.int .i64) (w0 := w) w.heap.size rfl (.tmp 36) (.tmp 39) 26 3 (.int .i64 0) 8 rfl Tryz.underlying26 infoN rfl (by decide) (by decide) (.slice none 0 0) ([] : List Int) (out.take out.length) Ao out.length co (fun k_ => some k_ ≠ (Value.slice Ao out.length co).ownBlock) (fun _ => False) rfl rfl ?aO ?aR (fun _ _ h => h) (fun _ h => h.elim) ?aF ?aB ?aS ?aL ?_); (case aO => exact Kd.R_nil _ _ _ _ _); (case aR => have hq := HCT.out; rw [HT1.out] at hq; exact hq); (case aF => exact fun k_ hk => Kd.fresh' (Kd.R_lt HO9.out) k_ hk); (case aB => exact HB9.out); (case aS => exact HB9.out.size); (case aL => have := HTL.out; have := HPL.out; simp; omega); intro v1 wa ho hb hg hat; rw [List.nil_append] at ho; have HOA := Az.mk (Kd.R_after (Kd.R_apart_nil HO9.out) hg hat); have HNA := Az.mk ho; have HBA := Az.mk hb; replace hcx := (hb.cell (World.block_lt_of_cell? w _ HCX.out)).trans HCX.out; clear ho hb hg hat) | ((with_reducible refine gate_builtin (b := .append) (xs := #[.tmp 41, .tmp 46]) rfl ?_); at_builtin; go_loud (refine Kd.R_append (Kd.int .i64) (w0 := w) w.heap.size rfl (.tmp 41) (.tmp 46) 26 3 (.int .i64 0) 8 rfl Tryz.underlying26 infoN rfl (by decide) (by decide) v1 (out.take out.length) x [.int .i64 x] (fun k_ => some k_ ≠ (Value.slice Ao out.length co).ownBlock) (fun _ => False) rfl rfl ?aP (fun _ hk => hk.elim) ?aF ?aO ?aB ?aS ?aL ?_); (case aP => exact rfl); (case aF => exact fun k_ hk => Kd.fresh' (Kd.R_lt HOA.out) k_ hk); (case aO => exact HNA.out); (case aB => exact HBA.out); (case aS => exact HBA.out.size); (case aL => have := HTL.out; have := HT1.out; have := HPL.out; simp; omega); intro v2 wb ho hb hg hat; have HOB := Az.mk (Kd.R_after (ok := fun _ => True) HOA.out hg hat); have HNB := Az.mk ho; have HBB := Az.mk hb; have HCD : Az (Kd.C (Kd.int .i64) wb AD (out.drop out.length).length (out.drop out.length)) := ⟨by rw [HAD.out]; exact Kd.C_drop (m := out.length) (c := co) (Kd.R_reads' HOB.out).2.2 HPL.out (Kd.R_reads' HOB.out).2.1⟩; clear ho hb hg hat hcx HOA HNA HBA) | ((with_reducible refine gate_builtin (b := .append) (xs := #[.tmp 48, .tmp 51]) rfl ?_); at_builtin; go_loud (refine Kd.R_append_rows (Kd.int .i64) (w0 := w) w.heap.size rfl (.tmp 48) (.tmp 51) 26 3 (.int .i64 0) 8 rfl Tryz.underlying26 infoN rfl (by decide) (by decide) v2 (out.take out.length ++ [x]) (out.drop out.length) AD md cd (fun k_ => some k_ ≠ (Value.slice Ao out.length co).ownBlock) (fun _ => False) rfl rfl ?aO ?aR (fun _ _ h => h) (fun _ h => h.elim) ?aF ?aB ?aS ?aL ?_); (case aO => exact HNB.out); (case aR => have hq := HCD.out; rw [HT2.out.1] at hq; exact hq); (case aF => exact fun k_ hk => Kd.fresh' (Kd.R_lt HOB.out) k_ hk); (case aB => exact HBB.out); (case aS => exact HBB.out.size); (case aL => have := HTL.out; have := HT1.out; have := HPL.out; have := HT2.out.2; simp; omega); intro v3 wc ho hb hg hat; have HNC := Az.mk ho; have HBC := Az.mk hb; clear ho hb hg hat HOB HNB HBB))
        go_roundg k2
        case measure => have := HK1.out; have := HK2.out; omega
        case rel => exact ⟨_, i + 1, by rw [hwi], by omega, H0, ⟨by have := HK1.out; have := HK2.out; omega⟩, ⟨Kd.R_mono HNC.out (fun _ _ => trivial)⟩, HBC⟩
   ·obtain rfl : i = l.length := by omega
    rw [if_neg (by omega)] at H
    obtain rfl := Option.some.inj H
    clear H
    go_wp2
    first | go_ret | go_ret2 | go_ret3
    exact ⟨_, rfl, HO.out, HB.out⟩
end Go.Proofs.YtkcfdddhnboieaaGreatDoor.PRPropg
end
section
set_option maxHeartbeats 8000000
set_option maxRecDepth 100000
namespace Go.Proofs.YtkcfdddhnboieaaGreatDoor.PRPropg
open Go Go.RowKit NMap NState QW.PrintWords QW.PrintLast QW.PrintMore
structure US (w : World) (vars : Int) (A1 : Option Addr) (c1 n : Nat) (v : Value) (S : List Int) (u : Value) (W : World) : Prop where
 bc : W.heap[w.heap.size]? = some (.cells #[.int .i64 vars, .slice A1 n c1] 24 (0, 0))
 row : Kd.R (Kd.int .i64) 3 W w.heap.size (fun k => True ∧ some k ≠ u.ownBlock) v S
 hb : Below w.heap.size w W
section
variable {w : World} {vars : Int} {A1 : Option Addr} {c1 n : Nat} {v u u' : Value} {S o : List Int} {W W' w1 : World} {ok : Nat → Prop}
theorem US.below (h : US w vars A1 c1 n v S u W) (hb : Below W.heap.size W W') : US w vars A1 c1 n v S u W' := ⟨blk_below h.bc hb, Kd.R_below h.row hb, bwt h.hb hb⟩
theorem US.grown (h : US w vars A1 c1 n v S u W) (hn : Kd.R (Kd.int .i64) 3 W w.heap.size ok u o) (hb : Below w.heap.size w w1) (hg : W.grownBy w1 u.ownBlock) (hat : u'.ownBlock = u.ownBlock ∨ ∃ b, u'.ownBlock = some b ∧ W.heap.size ≤ b) : US w vars A1 c1 n v S u' w1 :=
 ⟨QW.PrintWords.bkg h.bc hg (Kd.R_ne hn h.bc (by decide)), Kd.R_after (ok := fun _ => True) h.row hg hat, hb⟩
theorem US.nil (h : US w vars A1 c1 n v S u W) : US w vars A1 c1 n v S (.slice none 0 0) W := { h with row := Kd.R_mono h.row (fun k _ => ⟨trivial, by simp [Value.ownBlock]⟩) }
end
theorem netlabref32_Units.calls (k : Nat) (vars : Int) (A1 : Option Addr) (c1 : Nat) (cls : List (List Int)) (A0 : Option Addr) (c0 : Nat) (l0 : List Int) (r1 : List Int) (r2 : Bool) (w : World) (hr1 : Kd.C (Kd.slice 3 (Kd.int .i64)) w A1 cls.length cls) (hc1 : cls.length ≤ c1) (hr0 : Kd.C (Kd.int .i64) w A0 l0.length l0) (hc0 : l0.length ≤ c0) (h : netlabref32_Units.f k vars cls l0 = some (r1, r2)) :
  Calls Tryz.prog 68 #[.agg #[.int .i64 vars, .slice A1 cls.length c1], .slice A0 l0.length c0] w fun e w' => ∃ v0_ : Value, e = .returned (.tuple #[v0_, .bool r2]) ∧ Kd.R (Kd.int .i64) 3 w' w.heap.size (fun _ => True) v0_ r1 ∧ Below w.heap.size w w' := by
 have HR1 := Az.mk hr1
 have HR0 := Az.mk hr0
 have HC0 := Az.mk hc0
 have HCM := Az.mk (Kd.C_max hr1)
 obtain ⟨S0, hs0, H⟩ := Option.bind_eq_some_iff.mp h
 replace H : netlabref32_Units.l0 k S0 true vars cls = some (r1, r2) := H
 have H0 := Az.mk H
 clear hr1 hc1 hr0 hc0 h H
 have hu24 := Tryz.underlying24
 go_enter Tryz.func68, Tryz.ntmps68
 go_wp2_with fail
 refine (netlabref32_Sorted.calls k A0 c0 l0 S0 _ (Kd.C_alloc HR0.out _) HC0.out hs0).mono ?_
 rintro e w1 ⟨v1, rfl, hr, hb⟩
 have HU1 : Az (US w vars A1 c1 cls.length v1 S0 (.slice none 0 0) w1) := ⟨⟨blk_below (QW.PrintWords.blk_new w _) hb, Kd.R_mono (Kd.R_lower hr (by simp)) (fun k _ => ⟨trivial, by simp [Value.ownBlock]⟩), bwt ((Below.refl _ _).alloc (Nat.le_refl _) _) hb⟩⟩
 clear hr hb hs0
 go_wp2
 go_loopg [6, 7] k (fun kq v6 v7 wr => ∃ (S : List Int) (ch : Bool), v7 = .bool ch ∧ Az (netlabref32_Units.l0 kq S ch vars cls = some (r1, r2)) ∧ Az (kq ≤ k) ∧ Az (US w vars A1 c1 cls.length v6 S (.slice none 0 0) wr))
 case atStart => exact ⟨S0, true, rfl, H0, ⟨Nat.le_refl _⟩, HU1⟩
 case round =>
  clear H0 HU1
  obtain ⟨S, ch, rfl, HA, HK1, HU⟩ := hrel
  cases gk with
  | zero => exact absurd HA.out (by simp [netlabref32_Units.l0])
  | succ k1 =>
   have H := HA.out
   clear HA
   simp only [netlabref32_Units.l0] at H
   obtain ⟨Av, cv, ev⟩ := Kd.R_slice HU.out.row
   subst ev
   cases ch with
   | false =>
    rw [if_neg (by simp)] at H
    obtain ⟨t, ht, H⟩ := Option.bind_eq_some_iff.mp H
    have e1 : S = r1 := congrArg Prod.fst (Option.some.inj H)
    have e2 : (!t) = r2 := congrArg Prod.snd (Option.some.inj H)
    subst e1
    have HE2 := Az.mk e2
    clear H e2
    go_wp2_with fail
    refine (netlabref32_trivial.calls k1 Av cv S t _ (Kd.R_reads' HU.out.row).2.2 (Kd.R_reads' HU.out.row).2.1 ht).mono ?_
    rintro e wv ⟨rfl, hd⟩
    have HUv := Az.mk (HU.out.below hd.below)
    clear hd ht
    go_wp2
    first | go_ret3 | go_ret2 | go_ret
    exact ⟨_, by rw [← HE2.out]; rfl, Kd.R_mono HUv.out.row (fun _ _ => trivial), HUv.out.hb⟩
   | true =>
    rw [if_pos rfl] at H
    have H0 := Az.mk H
    clear H
    go_wp2
    go_loopg [6, 7, 8] k1 (fun kq v6 v7 v8 wr => ∃ (S : List Int) (ch : Bool) (i : Nat), v7 = .bool ch ∧ v8 = .int .i64 i ∧ i ≤ cls.length ∧ Az (netlabref32_Units.l1 kq S ch (i : Int) vars cls = some (r1, r2)) ∧ Az (kq ≤ k1) ∧ Az (US w vars A1 c1 cls.length v6 S (.slice none 0 0) wr))
    case atStart => exact ⟨S, false, 0, rfl, rfl, Nat.zero_le _, H0, ⟨Nat.le_refl _⟩, HU⟩
    case round =>
     clear H0 HU
     obtain ⟨S, ch, i, rfl, rfl, hi, HA, HK2, HU⟩ := hrel
     cases gk with
     | zero => exact absurd HA.out (by simp [netlabref32_Units.l1])
     | succ k2 =>
      have H := HA.out
      clear HA
      simp only [netlabref32_Units.l1] at H
      have hx1 := (bkc HU.out.bc 1).trans rfl
      obtain ⟨Av, cv, ev⟩ := Kd.R_slice HU.out.row
      subst ev
      by_cases hlt : i < cls.length
      ·rw [if_pos (by omega)] at H
       have H0 := Az.mk H
       clear H
       obtain ⟨ad, A', c', rfl, hcc, hl1, hC1⟩ := at_L1 HR1.out (i : Int) (by omega) (by omega)
       obtain ⟨l, hl⟩ : ∃ l, rL cls (i : Int) = l := ⟨_, rfl⟩
       rw [hl] at hcc hl1 hC1
       simp only [Int.toNat_natCast] at hcc
       have HL := Az.mk hl
       have HCC := Az.mk hcc
       have HCl := Az.mk hC1
       have HLM := Az.mk (Kd.C_max hC1)
       clear hl hcc hl1 hC1
       go_wp2
       clear hx1
       go_loopg [9, 10, 11] k2 (fun kq v9 v10 v11 wr => ∃ (o : List Int) (d : Bool) (j : Nat), v10 = .bool d ∧ v11 = .int .i64 j ∧ j ≤ l.length ∧ Az (netlabref32_Units.l2 kq S ch (i : Int) o d (j : Int) vars cls = some (r1, r2)) ∧ Az (kq ≤ k2) ∧ Az (US w vars (some ad) c1 cls.length (.slice Av S.length cv) S v9 wr) ∧ Az (Kd.R (Kd.int .i64) 3 wr w.heap.size (fun k_ => some k_ ≠ (Value.slice Av S.length cv).ownBlock) v9 o))
       case atStart => exact ⟨[], false, 0, rfl, rfl, Nat.zero_le _, H0, ⟨Nat.le_refl _⟩, HU, ⟨Kd.R_nil _ _ _ _ _⟩⟩
       case round =>
        clear H0 HU
        obtain ⟨o, d, j, rfl, rfl, hj, HA, HK3, HU, HO⟩ := hrel
        cases gk with
        | zero => exact absurd HA.out (by simp [netlabref32_Units.l2])
        | succ k3 =>
         have H := HA.out
         clear HA
         simp only [netlabref32_Units.l2, HL.out] at H
         rw [if_pos (by omega), if_pos (by omega)] at H
         have hx1 := (bkc HU.out.bc 1).trans rfl
         have hcc := (HU.out.hb.cell (World.block_lt_of_cell? w _ HCC.out)).trans HCC.out
         by_cases hjl : j < l.length
         ·rw [if_pos (by omega), if_pos (by omega)] at H
          obtain ⟨ad2, rfl, hcx⟩ := Kd.at_int HCl.out (j : Int) (by omega) (by omega)
          replace hcx := (HU.out.hb.cell (World.block_lt_of_cell? w _ hcx)).trans hcx
          simp only [Int.toNat_natCast] at hcx
          generalize rd l (j : Int) = x at H hcx
          have hw : wrap64 ((j : Int) + 1) = ((j + 1 : Nat) : Int) := wrap_succ hjl HLM.out
          rw [hw] at H
          cases d with
          | true =>
           rw [if_pos rfl] at H
           obtain ⟨t, ht, H⟩ := Option.bind_eq_some_iff.mp H
           cases t with
           | true =>
            rw [if_pos rfl] at H
            have H0 := Az.mk H
            clear H
            go_wp2_with fail
            refine (netlabref32_Has.calls k3 Av cv S (wrap64 (-x)) true _ (Kd.R_reads' HU.out.row).2.2 (Kd.R_reads' HU.out.row).2.1 ht).mono ?_
            rintro e wz ⟨rfl, hd⟩
            have HUv := Az.mk (HU.out.below hd.below)
            have HOv := Az.mk (Kd.R_below HO.out hd.below)
            clear hd ht
            go_wp2
            go_roundg k3
            case measure => have := HK1.out; have := HK2.out; have := HK3.out; omega
            case rel => exact ⟨o, true, j + 1, rfl, by rw [hw], by omega, H0, ⟨by have := HK1.out; have := HK2.out; have := HK3.out; omega⟩, HUv, HOv⟩
           | false =>
            rw [if_neg (by simp)] at H
            by_cases hol : o.length < 17592186044416
            case neg => rw [if_neg hol] at H; cases H
            rw [if_pos hol] at H
            have H0 := Az.mk H
            have HOL := Az.mk hol
            clear H hol
            go_wp2_with fail
            refine (netlabref32_Has.calls k3 Av cv S (wrap64 (-x)) false _ (Kd.R_reads' HU.out.row).2.2 (Kd.R_reads' HU.out.row).2.1 ht).mono ?_
            rintro e wz ⟨rfl, hd⟩
            have HUv := Az.mk (HU.out.below hd.below)
            have HOv := Az.mk (Kd.R_below HO.out hd.below)
            clear hd ht
            go_wp2_with ((with_reducible refine gate_builtin (b := .append) (xs := #[.tmp 52, .tmp 54]) rfl ?_); at_builtin; go_loud (refine Kd.R_append (Kd.int .i64) (w0 := w) w.heap.size rfl (.tmp 52) (.tmp 54) 26 3 (.int .i64 0) 8 rfl Tryz.underlying26 infoN rfl (by decide) (by decide) _ o x [.int .i64 x] (fun k_ => some k_ ≠ (Value.slice Av S.length cv).ownBlock) (fun _ => False) rfl rfl ?aP (fun _ hk => hk.elim) ?aF ?aO ?aB ?aS ?aL ?_; (case aP => exact rfl); (case aF => exact fun k_ hk => Kd.fresh' (Kd.R_lt HUv.out.row) k_ hk); (case aO => exact HOv.out); (case aB => exact HUv.out.hb); (case aS => exact HUv.out.hb.size); (case aL => have := HOL.out; omega); intro v9 w9 ho hb hg hat; have HU9 := Az.mk (HUv.out.grown HOv.out hb hg hat); have HO9 := Az.mk ho; clear ho hb hg hat))
            go_roundg k3
            case measure => have := HK1.out; have := HK2.out; have := HK3.out; omega
            case rel => exact ⟨o ++ [x], true, j + 1, rfl, by rw [hw], by omega, H0, ⟨by have := HK1.out; have := HK2.out; have := HK3.out; omega⟩, HU9, HO9⟩
          | false =>
           rw [if_neg (by simp)] at H
           obtain ⟨t1, ht1, H⟩ := Option.bind_eq_some_iff.mp H
           obtain ⟨t, ht, H⟩ := Option.bind_eq_some_iff.mp H
           go_wp2_with fail
           refine (netlabref32_Has.calls k3 Av cv S x t1 _ (Kd.R_reads' HU.out.row).2.2 (Kd.R_reads' HU.out.row).2.1 ht1).mono ?_
           rintro e wv ⟨rfl, hd⟩
           have HUv := Az.mk (HU.out.below hd.below)
           have HOv := Az.mk (Kd.R_below HO.out hd.below)
           clear hd HU HO ht1 hcc hx1 hcx
           have HU := HUv
           have HO := HOv
           clear HUv HOv
           cases t with
           | true =>
            rw [if_pos rfl] at H
            have H0 := Az.mk H
            clear H
            go_wp2_with fail
            refine (netlabref32_Has.calls k3 Av cv S (wrap64 (-x)) true _ (Kd.R_reads' HU.out.row).2.2 (Kd.R_reads' HU.out.row).2.1 ht).mono ?_
            rintro e wz ⟨rfl, hd⟩
            have HUv := Az.mk (HU.out.below hd.below)
            have HOv := Az.mk (Kd.R_below HO.out hd.below)
            clear hd ht
            go_wp2
            go_roundg k3
            case measure => have := HK1.out; have := HK2.out; have := HK3.out; omega
            case rel => exact ⟨o, t1, j + 1, rfl, by rw [hw], by omega, H0, ⟨by have := HK1.out; have := HK2.out; have := HK3.out; omega⟩, HUv, HOv⟩
           | false =>
            rw [if_neg (by simp)] at H
            by_cases hol : o.length < 17592186044416
            case neg => rw [if_neg hol] at H; cases H
            rw [if_pos hol] at H
            have H0 := Az.mk H
            have HOL := Az.mk hol
            clear H hol
            go_wp2_with fail
            refine (netlabref32_Has.calls k3 Av cv S (wrap64 (-x)) false _ (Kd.R_reads' HU.out.row).2.2 (Kd.R_reads' HU.out.row).2.1 ht).mono ?_
            rintro e wz ⟨rfl, hd⟩
            have HUv := Az.mk (HU.out.below hd.below)
            have HOv := Az.mk (Kd.R_below HO.out hd.below)
            clear hd ht
            go_wp2_with ((with_reducible refine gate_builtin (b := .append) (xs := #[.tmp 52, .tmp 54]) rfl ?_); at_builtin; go_loud (refine Kd.R_append (Kd.int .i64) (w0 := w) w.heap.size rfl (.tmp 52) (.tmp 54) 26 3 (.int .i64 0) 8 rfl Tryz.underlying26 infoN rfl (by decide) (by decide) _ o x [.int .i64 x] (fun k_ => some k_ ≠ (Value.slice Av S.length cv).ownBlock) (fun _ => False) rfl rfl ?aP (fun _ hk => hk.elim) ?aF ?aO ?aB ?aS ?aL ?_; (case aP => exact rfl); (case aF => exact fun k_ hk => Kd.fresh' (Kd.R_lt HUv.out.row) k_ hk); (case aO => exact HOv.out); (case aB => exact HUv.out.hb); (case aS => exact HUv.out.hb.size); (case aL => have := HOL.out; omega); intro v9 w9 ho hb hg hat; have HU9 := Az.mk (HUv.out.grown HOv.out hb hg hat); have HO9 := Az.mk ho; clear ho hb hg hat))
            go_roundg k3
            case measure => have := HK1.out; have := HK2.out; have := HK3.out; omega
            case rel => exact ⟨o ++ [x], t1, j + 1, rfl, by rw [hw], by omega, H0, ⟨by have := HK1.out; have := HK2.out; have := HK3.out; omega⟩, HU9, HO9⟩
         ·obtain rfl : j = l.length := by omega
          rw [if_neg (by omega)] at H
          obtain ⟨T, hT, H⟩ := Option.bind_eq_some_iff.mp H
          obtain ⟨Ao, co, eo⟩ := Kd.R_slice HO.out
          subst eo
          go_wp2_with fail
          refine (netlabref32_Sorted.calls k3 Ao co o T _ (Kd.R_reads' HO.out).2.2 (Kd.R_reads' HO.out).2.1 hT).mono ?_
          rintro e wv ⟨vT, rfl, hr, hb⟩
          have HUv := Az.mk (HU.out.nil.below hb)
          have HTv := Az.mk (Kd.R_lower hr HU.out.hb.size)
          have hx1 := (bkc HUv.out.bc 1).trans rfl
          clear hr hb hT hcc HU HO hjl hj
          obtain ⟨AT, cT, eT⟩ := Kd.R_slice HTv.out
          subst eT
          have hwi : wrap64 ((i : Int) + 1) = ((i + 1 : Nat) : Int) := wrap_succ hlt HCM.out
          rw [hwi] at H
          by_cases hz : T.length = 0
          ·rw [if_pos (by omega)] at H
           have e1 : [] = r1 := congrArg Prod.fst (Option.some.inj H)
           have e2 : false = r2 := congrArg Prod.snd (Option.some.inj H)
           subst e1
           subst e2
           have hz1 : ((T.length : Int) == 0) = true := by rw [beq_iff_eq]; omega
           have hz2 : (T.length == 0) = true := by rw [beq_iff_eq]; exact hz
           clear H
           go_wp2
           first | go_ret3 | go_ret2 | go_ret
           exact ⟨_, rfl, Kd.R_nil _ _ _ _ _, HUv.out.hb⟩
          ·rw [if_neg (by omega)] at H
           have hz1 : ((T.length : Int) == 0) = false := by rw [beq_eq_false_iff_ne]; omega
           have hz2 : (T.length == 0) = false := by rw [beq_eq_false_iff_ne]; exact hz
           cases d with
           | true =>
            rw [if_pos rfl] at H
            have H0 := Az.mk H
            clear H hx1
            go_wp2
            go_roundg k3
            case measure => have := HK1.out; have := HK2.out; have := HK3.out; omega
            case rel => exact ⟨S, ch, i + 1, rfl, by rw [hwi], by omega, H0, ⟨by have := HK1.out; have := HK2.out; have := HK3.out; omega⟩, HUv⟩
           | false =>
            rw [if_neg (by simp)] at H
            by_cases hone : T.length = 1
            ·rw [if_pos (by omega), if_pos (by omega)] at H
             by_cases hsl : S.length < 17592186044416
             case neg => rw [if_neg hsl] at H; cases H
             rw [if_pos hsl] at H
             obtain ⟨T2, hT2, H⟩ := Option.bind_eq_some_iff.mp H
             have H0 := Az.mk H
             have HSL := Az.mk hsl
             have HT2 := Az.mk hT2
             obtain ⟨ad3, e3, hcx⟩ := Kd.at_int (Kd.R_reads' HTv.out).2.2 (0 : Int) (Int.le_refl _) (by omega)
             subst e3
             generalize rd T 0 = x at HT2 hcx
             have hcx2 : wv.cell? (ad3.add 0) = some (.int .i64 x) := hcx
             have e0 : ad3.add 0 = ad3 := Addr.add_zero' ad3
             have hcx3 : wv.cell? ad3 = some (.int .i64 x) := by rw [e0] at hcx2; exact hcx2
             have ho1 : ((T.length : Int) == 1) = true := by rw [beq_iff_eq]; omega
             have ho2 : (T.length == 1) = true := by rw [beq_iff_eq]; exact hone
             have hp1 : ((0 : Int) < (T.length : Int)) = True := eq_true (by omega)
             have hp2 : (0 < T.length) = True := eq_true (by omega)
             clear H hsl hT2 hx1
             go_wp2_with ((with_reducible refine gate_builtin (b := .append) (xs := #[.tmp 68, .tmp 72]) rfl ?_); at_builtin; go_loud (refine Kd.R_append (Kd.int .i64) (w0 := w) w.heap.size rfl (.tmp 68) (.tmp 72) 26 3 (.int .i64 0) 8 rfl Tryz.underlying26 infoN rfl (by decide) (by decide) (.slice Av S.length cv) S x [.int .i64 x] (fun _ => True) (fun _ => False) rfl rfl ?aP (fun _ hk => hk.elim) ?aF ?aO ?aB ?aS ?aL ?_; (case aP => exact rfl); (case aF => exact fun _ _ => trivial); (case aO => exact Kd.R_mono HUv.out.row (fun _ _ => trivial)); (case aB => exact HUv.out.hb); (case aS => exact HUv.out.hb.size); (case aL => have := HSL.out; omega); intro v9 w9 ho hb hg hat; obtain ⟨SX, hSX⟩ : ∃ SX, S ++ [x] = SX := ⟨_, rfl⟩; rw [hSX] at ho; have HT3 : Az (netlabref32_Sorted.f k3 SX = some T2) := ⟨by rw [← hSX]; exact HT2.out⟩; clear hSX; have BC9 := Az.mk (QW.PrintWords.bkg HUv.out.bc hg (Kd.R_ne HUv.out.row HUv.out.bc (by decide))); have HO9 := Az.mk ho; have HB9 := Az.mk hb; obtain ⟨A9, c9, e9⟩ := Kd.R_slice ho; subst e9; clear ho hb hg hat hcx hcx2 hcx3))
             refine (netlabref32_Sorted.calls k3 A9 c9 SX T2 _ (Kd.R_reads' HO9.out).2.2 (Kd.R_reads' HO9.out).2.1 HT3.out).mono ?_
             rintro e wz ⟨vz, rfl, hr, hb⟩
             have HUz : Az (US w vars (some ad) c1 cls.length vz T2 (.slice none 0 0) wz) := ⟨⟨blk_below BC9.out hb, Kd.R_mono (Kd.R_lower hr HB9.out.size) (fun k _ => ⟨trivial, by simp [Value.ownBlock]⟩), bwt HB9.out hb⟩⟩
             clear hr hb
             go_wp2
             go_roundg k3
             case measure => have := HK1.out; have := HK2.out; have := HK3.out; omega
             case rel => exact ⟨T2, true, i + 1, rfl, by rw [hwi], by omega, H0, ⟨by have := HK1.out; have := HK2.out; have := HK3.out; omega⟩, HUz⟩
            ·rw [if_neg (by omega)] at H
             have ho1 : ((T.length : Int) == 1) = false := by rw [beq_eq_false_iff_ne]; omega
             have ho2 : (T.length == 1) = false := by rw [beq_eq_false_iff_ne]; exact hone
             have H0 := Az.mk H
             clear H hx1
             go_wp2
             go_roundg k3
             case measure => have := HK1.out; have := HK2.out; have := HK3.out; omega
             case rel => exact ⟨S, ch, i + 1, rfl, by rw [hwi], by omega, H0, ⟨by have := HK1.out; have := HK2.out; have := HK3.out; omega⟩, HUv⟩
      ·obtain rfl : i = cls.length := by omega
       rw [if_neg (by omega)] at H
       have H0 := Az.mk H
       clear H
       go_wp2
       go_roundg k2
       case measure => have := HK1.out; have := HK2.out; omega
       case rel => exact ⟨S, ch, rfl, H0, ⟨by have := HK1.out; have := HK2.out; omega⟩, HU⟩
end Go.Proofs.YtkcfdddhnboieaaGreatDoor.PRPropg
end
section
set_option maxHeartbeats 8000000
set_option maxRecDepth 100000
namespace Go.Proofs.YtkcfdddhnboieaaGreatDoor.PRPropg
open Go.RowKit QW.PrintWords QW.PrintLast QW.PrintMore
attribute [local go_sem] max2_int min2_int max_two min_two max_three min_three max_four min_four   
def netlabref32_Propagate.l0 : Nat → List Int → Int → Int → List (List Int) → Option (List Int × Bool × Int)
 | 0, _, _, _, _ => none
 | k + 1, x1, x8, x183000, x183001 => if x8 < (x1.length : Int) then (if 0 ≤ x8 then ((netlabref32_legal.f (rd x1 x8) x183000).bind fun t185 => (if t185 = true then (netlabref32_Propagate.l0 k x1 (wrap64 (x8 + 1)) x183000 x183001) else (some (([] : List Int), false, 1)))) else (none)) else ((netlabref32_Units.f k x183000 x183001 x1).bind fun bt186 => (if bt186.2 = true then (some (bt186.1, false, 0)) else (some (([] : List Int), true, 0))))
def netlabref32_Propagate.f (k : Nat) (a0_0 : Int) (l0_1 : List (List Int)) (l1 : List Int) : Option (List Int × Bool × Int) := (netlabref32_Check.f k a0_0 l0_1).bind fun t183 => (if t183 = 0 then (netlabref32_Propagate.l0 k l1 0 a0_0 l0_1) else (some (([] : List Int), false, t183)))
theorem netlabref32_Propagate.calls (k : Nat) (a0_0 : Int) (A0_1 : Option Addr) (c0_1 : Nat) (l0_1 : List (List Int)) (A1 : Option Addr) (c1 : Nat) (l1 : List Int) (r1 : List Int) (r2 : Bool) (r3 : Int) (w : World) (hr0_1 : Kd.C (Kd.slice 3 (Kd.int .i64)) w A0_1 l0_1.length l0_1) (hc0_1 : l0_1.length ≤ c0_1) (hr1 : Kd.C (Kd.int .i64) w A1 l1.length l1) (hc1 : l1.length ≤ c1) (h : netlabref32_Propagate.f k a0_0 l0_1 l1 = some (r1, r2, r3)) :
  Calls Tryz.prog 20 #[.agg #[.int .i64 a0_0, .slice A0_1 l0_1.length c0_1], .slice A1 l1.length c1] w fun e w' => ∃ v0_ : Value, e = .returned (.tuple #[v0_, .bool r2, .int .i64 r3]) ∧ Kd.R (Kd.int .i64) 3 w' w.heap.size (fun _ => True) v0_ r1 ∧ Below w.heap.size w w' := by
 have hu24 := Tryz.underlying24
 have HR0_1 := Az.mk hr0_1
 have HC0_1 := Az.mk hc0_1
 clear hr0_1 hc0_1
 have HR1 := Az.mk hr1
 have HC1 := Az.mk hc1
 clear hr1 hc1
 have HB := Az.mk (Below.refl w.heap.size w)
 have H : ((netlabref32_Check.f k a0_0 l0_1).bind fun t183 => (if t183 = 0 then (netlabref32_Propagate.l0 k l1 0 a0_0 l0_1) else (some (([] : List Int), false, t183)))) = some (r1, r2, r3) := h
 clear h
 replace H := Option.bind_eq_some_iff.mp H
 obtain ⟨t183, A30, H⟩ := H
 replace H : (if t183 = 0 then (netlabref32_Propagate.l0 k l1 0 a0_0 l0_1) else (some (([] : List Int), false, t183))) = some (r1, r2, r3) := H
 have A3 := Az.mk A30
 clear A30
 by_cases c4 : t183 = 0
 ·rw [if_pos c4] at H
  have c4b0 : (t183 == 0) = true := beq_iff_eq.mpr c4
  have c4b1 : (t183 != 0) = false := bne_eq_false_iff_eq.mpr c4
  clear c4
  have H' := Az.mk H
  clear H
  go_enter Tryz.func20, Tryz.ntmps20
  go_wp2_with (first | ((with_reducible refine gate_dst (N := 2) rfl ?_); refine box_event ?hg (N := 2) ?hd (cs := #[.int .i64 a0_0, .slice A0_1 l0_1.length c0_1]) (t := 24) ?hr ?_; (case hd => rfl); (case hg => rfl); (case hr => first | (go_simp; done) | (go_simp; rfl)); intro gb182 hg w5 hbox hb; have n0_ := Az.mk (bwt (by repeat (first | (with_reducible first | exact HB.out | apply bwa | apply pwN | apply bw1) | exact HB.out)) hb); have n1_ := Az.mk (hbox); have n2_ := Az.mk ((by rw [hg]; exact (below_size (by repeat (first | (with_reducible first | exact HB.out | apply bwa | apply pwN | apply bw1) | exact HB.out))) : w.heap.size ≤ gb182)); have n3_ := Az.mk ((by rw [hg]; exact (below_size (by repeat (first | (with_reducible first | exact HB.out | apply bwa | apply pwN | apply bw1) | exact HB.out))) : w.heap.size ≤ gb182)); clear HB; have HB := n0_; have BK182 := n1_; have GW182 := n2_; have GE182 := n3_; clear n0_ n1_ n2_ n3_; clear hb hbox hg; have hcz6_0 : w5.cell? ⟨gb182, 0, none⟩ = some (.int .i64 a0_0) := (bkc BK182.out 0).trans rfl; have hcz6_1 : w5.cell? ⟨gb182, 1, none⟩ = some (.slice A0_1 l0_1.length c0_1) := (bkc BK182.out 1).trans rfl; have hfz6_0 := bkf BK182.out 0; have hfz6_1 := bkf BK182.out 1) | (go_at_call 22; (with_reducible refine (netlabref32_Check.calls k a0_0 _ _ l0_1 t183 _ ?side1 ?side2 A3.out).mono ?_); (case side1 => repeat (first | exact (Kd.C_below HR0_1.out HB.out) | (with_reducible refine Kd.C_alloc ?_ _) | (with_reducible refine Kd.C_drewN ?_ _) | (with_reducible refine Kd.C_drew ?_))); (case side2 => exact HC0_1.out); rintro e w7 ⟨rfl, hb⟩; have n0_ := Az.mk (blk_below (g := gb182) (o := .cells #[.int .i64 a0_0, .slice A0_1 l0_1.length c0_1] 24 (0, 0)) (by (with_reducible repeat (first | refine bkN ?_ _ | refine bkd ?_ | refine bka ?_ _)); exact BK182.out) hb); have n1_ := Az.mk (bwt (by repeat (first | (with_reducible first | exact HB.out | apply bwa | apply pwN | apply bw1 | refine bws ?_ GE182.out) | exact HB.out)) hb); clear BK182; clear HB; have BK182 := n0_; have HB := n1_; clear n0_ n1_; (try clear hb); (try clear hb2); (try clear hk); (try clear hi)))
  repeat (go_quiet (first | ((with_reducible refine gate_dst (N := 2) rfl ?_); refine box_event ?hg (N := 2) ?hd (cs := #[.int .i64 a0_0, .slice A0_1 l0_1.length c0_1]) (t := 24) ?hr ?_; (case hd => rfl); (case hg => rfl); (case hr => first | (go_simp; done) | (go_simp; rfl)); intro gb182 hg w5 hbox hb; have n0_ := Az.mk (bwt (by repeat (first | (with_reducible first | exact HB.out | apply bwa | apply pwN | apply bw1) | exact HB.out)) hb); have n1_ := Az.mk (hbox); have n2_ := Az.mk ((by rw [hg]; exact (below_size (by repeat (first | (with_reducible first | exact HB.out | apply bwa | apply pwN | apply bw1) | exact HB.out))) : w.heap.size ≤ gb182)); have n3_ := Az.mk ((by rw [hg]; exact (below_size (by repeat (first | (with_reducible first | exact HB.out | apply bwa | apply pwN | apply bw1) | exact HB.out))) : w.heap.size ≤ gb182)); clear HB; have HB := n0_; have BK182 := n1_; have GW182 := n2_; have GE182 := n3_; clear n0_ n1_ n2_ n3_; clear hb hbox hg; have hcz6_0 : w5.cell? ⟨gb182, 0, none⟩ = some (.int .i64 a0_0) := (bkc BK182.out 0).trans rfl; have hcz6_1 : w5.cell? ⟨gb182, 1, none⟩ = some (.slice A0_1 l0_1.length c0_1) := (bkc BK182.out 1).trans rfl; have hfz6_0 := bkf BK182.out 0; have hfz6_1 := bkf BK182.out 1) | (go_at_call 22; (with_reducible refine (netlabref32_Check.calls k a0_0 _ _ l0_1 t183 _ ?side1 ?side2 A3.out).mono ?_); (case side1 => repeat (first | exact (Kd.C_below HR0_1.out HB.out) | (with_reducible refine Kd.C_alloc ?_ _) | (with_reducible refine Kd.C_drewN ?_ _) | (with_reducible refine Kd.C_drew ?_))); (case side2 => exact HC0_1.out); rintro e w7 ⟨rfl, hb⟩; have n0_ := Az.mk (blk_below (g := gb182) (o := .cells #[.int .i64 a0_0, .slice A0_1 l0_1.length c0_1] 24 (0, 0)) (by (with_reducible repeat (first | refine bkN ?_ _ | refine bkd ?_ | refine bka ?_ _)); exact BK182.out) hb); have n1_ := Az.mk (bwt (by repeat (first | (with_reducible first | exact HB.out | apply bwa | apply pwN | apply bw1 | refine bws ?_ GE182.out) | exact HB.out)) hb); clear BK182; clear HB; have BK182 := n0_; have HB := n1_; clear n0_ n1_; (try clear hb); (try clear hb2); (try clear hk); (try clear hi))); try go_wp2_with (first | ((with_reducible refine gate_dst (N := 2) rfl ?_); refine box_event ?hg (N := 2) ?hd (cs := #[.int .i64 a0_0, .slice A0_1 l0_1.length c0_1]) (t := 24) ?hr ?_; (case hd => rfl); (case hg => rfl); (case hr => first | (go_simp; done) | (go_simp; rfl)); intro gb182 hg w5 hbox hb; have n0_ := Az.mk (bwt (by repeat (first | (with_reducible first | exact HB.out | apply bwa | apply pwN | apply bw1) | exact HB.out)) hb); have n1_ := Az.mk (hbox); have n2_ := Az.mk ((by rw [hg]; exact (below_size (by repeat (first | (with_reducible first | exact HB.out | apply bwa | apply pwN | apply bw1) | exact HB.out))) : w.heap.size ≤ gb182)); have n3_ := Az.mk ((by rw [hg]; exact (below_size (by repeat (first | (with_reducible first | exact HB.out | apply bwa | apply pwN | apply bw1) | exact HB.out))) : w.heap.size ≤ gb182)); clear HB; have HB := n0_; have BK182 := n1_; have GW182 := n2_; have GE182 := n3_; clear n0_ n1_ n2_ n3_; clear hb hbox hg; have hcz6_0 : w5.cell? ⟨gb182, 0, none⟩ = some (.int .i64 a0_0) := (bkc BK182.out 0).trans rfl; have hcz6_1 : w5.cell? ⟨gb182, 1, none⟩ = some (.slice A0_1 l0_1.length c0_1) := (bkc BK182.out 1).trans rfl; have hfz6_0 := bkf BK182.out 0; have hfz6_1 := bkf BK182.out 1) | (go_at_call 22; (with_reducible refine (netlabref32_Check.calls k a0_0 _ _ l0_1 t183 _ ?side1 ?side2 A3.out).mono ?_); (case side1 => repeat (first | exact (Kd.C_below HR0_1.out HB.out) | (with_reducible refine Kd.C_alloc ?_ _) | (with_reducible refine Kd.C_drewN ?_ _) | (with_reducible refine Kd.C_drew ?_))); (case side2 => exact HC0_1.out); rintro e w7 ⟨rfl, hb⟩; have n0_ := Az.mk (blk_below (g := gb182) (o := .cells #[.int .i64 a0_0, .slice A0_1 l0_1.length c0_1] 24 (0, 0)) (by (with_reducible repeat (first | refine bkN ?_ _ | refine bkd ?_ | refine bka ?_ _)); exact BK182.out) hb); have n1_ := Az.mk (bwt (by repeat (first | (with_reducible first | exact HB.out | apply bwa | apply pwN | apply bw1 | refine bws ?_ GE182.out) | exact HB.out)) hb); clear BK182; clear HB; have BK182 := n0_; have HB := n1_; clear n0_ n1_; (try clear hb); (try clear hb2); (try clear hk); (try clear hi))))
  go_loopg [8] k (fun kq v8 w' => ∃ (x8_1 : Int), v8 = .int .i64 x8_1 ∧ Az (netlabref32_Propagate.l0 kq l1 x8_1 a0_0 l0_1 = some (r1, r2, r3)) ∧ Az (kq ≤ k) ∧ Az (w'.heap[gb182]? = some (.cells #[.int .i64 a0_0, (.slice A0_1 l0_1.length c0_1)] 24 (0, 0))) ∧ Az (Below w.heap.size w w'))
  case atStart => exact ⟨(0), (by first | rfl | (simp; done) | (simp [*]; done)), H', ⟨Nat.le_refl _⟩, ⟨by (with_reducible repeat (first | refine bkN ?_ _ | refine bkd ?_ | refine bka ?_ _)); exact BK182.out⟩, ⟨by repeat (first | (with_reducible first | exact HB.out | apply bwa | apply pwN | apply bw1 | refine bws ?_ GE182.out) | exact HB.out)⟩⟩
  case round =>
   clear H'
   try clear c1
   try clear c2
   try clear p2
   try clear c4
   try clear c4b0
   try clear c4b1
   try clear hcz6_0
   try clear hcz6_1
   try clear hfz6_0
   try clear hfz6_1
   obtain ⟨x8_1, rfl, HA, HK1, BK182, HB⟩ := hrel
   cases gk with
   | zero => exact absurd HA.out (by simp [netlabref32_Propagate.l0])
   | succ k1 =>
    have H := HA.out
    clear HA
    simp only [netlabref32_Propagate.l0] at H
    by_cases c8 : x8_1 < (l1.length : Int)
    ·rw [if_pos c8] at H
     have c8b0 : decide (x8_1 < (l1.length : Int)) = true := decide_eq_true c8
     clear c8
     by_cases c9 : 0 ≤ x8_1
     ·rw [if_pos c9] at H
      have c9b0 : decide (0 ≤ x8_1) = true := decide_eq_true c9
      clear c9
      replace H := Option.bind_eq_some_iff.mp H
      obtain ⟨t185, A100, H⟩ := H
      replace H : (if t185 = true then (netlabref32_Propagate.l0 k1 l1 (wrap64 (x8_1 + 1)) a0_0 l0_1) else (some (([] : List Int), false, 1))) = some (r1, r2, r3) := H
      have A10 := Az.mk A100
      clear A100
      by_cases c11 : t185 = true
      ·subst c11
       have H1 : (netlabref32_Propagate.l0 k1 l1 (wrap64 (x8_1 + 1)) a0_0 l0_1) = some (r1, r2, r3) := by rw [if_pos rfl] at H; exact H
       clear H
       have H := H1
       clear H1
       have H' := Az.mk H
       clear H
       have p184 : 0 ≤ (x8_1 : Int) := of_decide_eq_true (by assumption)
       have q184 : x8_1 < (l1.length : Int) := of_decide_eq_true (by assumption)
       obtain ⟨ad184, e184, hx184_0⟩ := Kd.at_int HR1.out x8_1 p184 q184
       cases e184
       replace hx184_0 := (HB.out.cell (World.block_lt_of_cell? w _ hx184_0)).trans hx184_0
       replace p184 := eq_true p184
       replace q184 := eq_true q184
       have hcz12_0 : wr.cell? ⟨gb182, 0, none⟩ = some (.int .i64 a0_0) := (bkc BK182.out 0).trans rfl
       have hcz12_1 : wr.cell? ⟨gb182, 1, none⟩ = some (.slice A0_1 l0_1.length c0_1) := (bkc BK182.out 1).trans rfl
       have hfz12_0 := bkf BK182.out 0
       have hfz12_1 := bkf BK182.out 1
       go_wp2_with (first | (go_at_call 67; (with_reducible refine (netlabref32_legal.calls (rd l1 x8_1) a0_0 true _ A10.out).mono ?_); rintro e w' ⟨rfl, ⟨nd, rfl⟩⟩; (try first | exact ⟨rfl, _, World.drewN_drewN _ _ _⟩ | exact ⟨rfl, _, Eq.trans (World.drewN_drewN _ _ _) (congrArg (World.drewN _) (Nat.add_assoc _ _ _))⟩)))
       repeat (go_quiet (first | (go_at_call 67; (with_reducible refine (netlabref32_legal.calls (rd l1 x8_1) a0_0 true _ A10.out).mono ?_); rintro e w' ⟨rfl, ⟨nd, rfl⟩⟩; (try first | exact ⟨rfl, _, World.drewN_drewN _ _ _⟩ | exact ⟨rfl, _, Eq.trans (World.drewN_drewN _ _ _) (congrArg (World.drewN _) (Nat.add_assoc _ _ _))⟩))); try go_wp2_with (first | (go_at_call 67; (with_reducible refine (netlabref32_legal.calls (rd l1 x8_1) a0_0 true _ A10.out).mono ?_); rintro e w' ⟨rfl, ⟨nd, rfl⟩⟩; (try first | exact ⟨rfl, _, World.drewN_drewN _ _ _⟩ | exact ⟨rfl, _, Eq.trans (World.drewN_drewN _ _ _) (congrArg (World.drewN _) (Nat.add_assoc _ _ _))⟩))))
       go_roundg k1
       case measure => have := HK1.out; omega
       case rel => exact ⟨(wrap64 (x8_1 + 1)), (by first | rfl | (simp; done) | (simp [*]; done)), H', ⟨by have := HK1.out; omega⟩, ⟨by (with_reducible repeat (first | refine bkN ?_ _ | refine bkd ?_ | refine bka ?_ _)); exact BK182.out⟩, ⟨by repeat (first | (with_reducible first | exact HB.out | apply bwa | apply pwN | apply bw1 | refine bws ?_ GE182.out) | exact HB.out)⟩⟩
      ·replace c11 := Bool.eq_false_iff.mpr c11
       subst c11
       have H1 : (some (([] : List Int), false, 1)) = some (r1, r2, r3) := by rw [if_neg (show ¬ (false = true) by decide)] at H; exact H
       clear H
       have H := H1
       clear H1
       simp only [Option.some.injEq, Prod.mk.injEq] at H
       obtain ⟨rfl, rfl, rfl⟩ := H
       have p184 : 0 ≤ (x8_1 : Int) := of_decide_eq_true (by assumption)
       have q184 : x8_1 < (l1.length : Int) := of_decide_eq_true (by assumption)
       obtain ⟨ad184, e184, hx184_0⟩ := Kd.at_int HR1.out x8_1 p184 q184
       cases e184
       replace hx184_0 := (HB.out.cell (World.block_lt_of_cell? w _ hx184_0)).trans hx184_0
       replace p184 := eq_true p184
       replace q184 := eq_true q184
       have hcz13_0 : wr.cell? ⟨gb182, 0, none⟩ = some (.int .i64 a0_0) := (bkc BK182.out 0).trans rfl
       have hcz13_1 : wr.cell? ⟨gb182, 1, none⟩ = some (.slice A0_1 l0_1.length c0_1) := (bkc BK182.out 1).trans rfl
       have hfz13_0 := bkf BK182.out 0
       have hfz13_1 := bkf BK182.out 1
       go_wp2_with (first | (go_at_call 67; (with_reducible refine (netlabref32_legal.calls (rd l1 x8_1) a0_0 false _ A10.out).mono ?_); rintro e w' ⟨rfl, ⟨nd, rfl⟩⟩; (try first | exact ⟨rfl, _, World.drewN_drewN _ _ _⟩ | exact ⟨rfl, _, Eq.trans (World.drewN_drewN _ _ _) (congrArg (World.drewN _) (Nat.add_assoc _ _ _))⟩)))
       repeat (go_quiet (first | (go_at_call 67; (with_reducible refine (netlabref32_legal.calls (rd l1 x8_1) a0_0 false _ A10.out).mono ?_); rintro e w' ⟨rfl, ⟨nd, rfl⟩⟩; (try first | exact ⟨rfl, _, World.drewN_drewN _ _ _⟩ | exact ⟨rfl, _, Eq.trans (World.drewN_drewN _ _ _) (congrArg (World.drewN _) (Nat.add_assoc _ _ _))⟩))); try go_wp2_with (first | (go_at_call 67; (with_reducible refine (netlabref32_legal.calls (rd l1 x8_1) a0_0 false _ A10.out).mono ?_); rintro e w' ⟨rfl, ⟨nd, rfl⟩⟩; (try first | exact ⟨rfl, _, World.drewN_drewN _ _ _⟩ | exact ⟨rfl, _, Eq.trans (World.drewN_drewN _ _ _) (congrArg (World.drewN _) (Nat.add_assoc _ _ _))⟩))))
       go_ret3
       exact ⟨_, by first | rfl | (simp [errW_none, errW_some] <;> rfl) | (simp [*, errW_none, errW_some] <;> rfl), by first | exact Kd.R_nil _ _ _ _ _ | exact Kd.N_nil _ _ _ _ _ | exact Kd.V_nil _ _ _ _ _ | exact Kd.Q_nil _ _ _ _ _ | exact Kd.S_nil _ _ _ _ _, by repeat (first | (with_reducible first | exact HB.out | apply bwa | apply pwN | apply bw1 | refine bws ?_ GE182.out) | exact HB.out)⟩
     ·rw [if_neg c9] at H
      exact absurd H (by simp)
    ·rw [if_neg c8] at H
     have c8b0 : decide (x8_1 < (l1.length : Int)) = false := decide_eq_false c8
     clear c8
     replace H := Option.bind_eq_some_iff.mp H
     obtain ⟨⟨t186, t189⟩, A140, H⟩ := H
     replace H : (if t189 = true then (some (t186, false, 0)) else (some (([] : List Int), true, 0))) = some (r1, r2, r3) := H
     have A14 := Az.mk A140
     clear A140
     by_cases c15 : t189 = true
     ·subst c15
      have H1 : (some (t186, false, 0)) = some (r1, r2, r3) := by rw [if_pos rfl] at H; exact H
      clear H
      have H := H1
      clear H1
      simp only [Option.some.injEq, Prod.mk.injEq] at H
      obtain ⟨rfl, rfl, rfl⟩ := H
      have hcz16_0 : wr.cell? ⟨gb182, 0, none⟩ = some (.int .i64 a0_0) := (bkc BK182.out 0).trans rfl
      have hcz16_1 : wr.cell? ⟨gb182, 1, none⟩ = some (.slice A0_1 l0_1.length c0_1) := (bkc BK182.out 1).trans rfl
      have hfz16_0 := bkf BK182.out 0
      have hfz16_1 := bkf BK182.out 1
      go_wp2_with (first | (go_at_call 68; (with_reducible refine (netlabref32_Units.calls k1 a0_0 _ _ l0_1 _ _ l1 t186 true _ ?side1 ?side2 ?side3 ?side4 A14.out).mono ?_); (case side1 => repeat (first | exact (Kd.C_below HR0_1.out HB.out) | (with_reducible refine Kd.C_alloc ?_ _) | (with_reducible refine Kd.C_drewN ?_ _) | (with_reducible refine Kd.C_drew ?_))); (case side2 => exact HC0_1.out); (case side3 => repeat (first | exact (Kd.C_below HR1.out HB.out) | (with_reducible refine Kd.C_alloc ?_ _) | (with_reducible refine Kd.C_drewN ?_ _) | (with_reducible refine Kd.C_drew ?_))); (case side4 => exact HC1.out); rintro e w17 ⟨v187, rfl, ho0, hb⟩; have n0_ := Az.mk (Kd.R_lower ho0 (below_size (by repeat (first | (with_reducible first | exact HB.out | apply bwa | apply pwN | apply bw1 | refine bws ?_ GE182.out) | exact HB.out)))); have n1_ := Az.mk (blk_below (g := gb182) (o := .cells #[.int .i64 a0_0, .slice A0_1 l0_1.length c0_1] 24 (0, 0)) (by (with_reducible repeat (first | refine bkN ?_ _ | refine bkd ?_ | refine bka ?_ _)); exact BK182.out) hb); have n2_ := Az.mk (bwt (by repeat (first | (with_reducible first | exact HB.out | apply bwa | apply pwN | apply bw1 | refine bws ?_ GE182.out) | exact HB.out)) hb); clear BK182; clear HB; have HO188 := n0_; have BK182 := n1_; have HB := n2_; clear n0_ n1_ n2_; (try clear hb); (try clear hb2); (try clear hk); (try clear hi); (try clear ho0)))
      repeat (go_quiet (first | (go_at_call 68; (with_reducible refine (netlabref32_Units.calls k1 a0_0 _ _ l0_1 _ _ l1 t186 true _ ?side1 ?side2 ?side3 ?side4 A14.out).mono ?_); (case side1 => repeat (first | exact (Kd.C_below HR0_1.out HB.out) | (with_reducible refine Kd.C_alloc ?_ _) | (with_reducible refine Kd.C_drewN ?_ _) | (with_reducible refine Kd.C_drew ?_))); (case side2 => exact HC0_1.out); (case side3 => repeat (first | exact (Kd.C_below HR1.out HB.out) | (with_reducible refine Kd.C_alloc ?_ _) | (with_reducible refine Kd.C_drewN ?_ _) | (with_reducible refine Kd.C_drew ?_))); (case side4 => exact HC1.out); rintro e w17 ⟨v187, rfl, ho0, hb⟩; have n0_ := Az.mk (Kd.R_lower ho0 (below_size (by repeat (first | (with_reducible first | exact HB.out | apply bwa | apply pwN | apply bw1 | refine bws ?_ GE182.out) | exact HB.out)))); have n1_ := Az.mk (blk_below (g := gb182) (o := .cells #[.int .i64 a0_0, .slice A0_1 l0_1.length c0_1] 24 (0, 0)) (by (with_reducible repeat (first | refine bkN ?_ _ | refine bkd ?_ | refine bka ?_ _)); exact BK182.out) hb); have n2_ := Az.mk (bwt (by repeat (first | (with_reducible first | exact HB.out | apply bwa | apply pwN | apply bw1 | refine bws ?_ GE182.out) | exact HB.out)) hb); clear BK182; clear HB; have HO188 := n0_; have BK182 := n1_; have HB := n2_; clear n0_ n1_ n2_; (try clear hb); (try clear hb2); (try clear hk); (try clear hi); (try clear ho0))); try go_wp2_with (first | (go_at_call 68; (with_reducible refine (netlabref32_Units.calls k1 a0_0 _ _ l0_1 _ _ l1 t186 true _ ?side1 ?side2 ?side3 ?side4 A14.out).mono ?_); (case side1 => repeat (first | exact (Kd.C_below HR0_1.out HB.out) | (with_reducible refine Kd.C_alloc ?_ _) | (with_reducible refine Kd.C_drewN ?_ _) | (with_reducible refine Kd.C_drew ?_))); (case side2 => exact HC0_1.out); (case side3 => repeat (first | exact (Kd.C_below HR1.out HB.out) | (with_reducible refine Kd.C_alloc ?_ _) | (with_reducible refine Kd.C_drewN ?_ _) | (with_reducible refine Kd.C_drew ?_))); (case side4 => exact HC1.out); rintro e w17 ⟨v187, rfl, ho0, hb⟩; have n0_ := Az.mk (Kd.R_lower ho0 (below_size (by repeat (first | (with_reducible first | exact HB.out | apply bwa | apply pwN | apply bw1 | refine bws ?_ GE182.out) | exact HB.out)))); have n1_ := Az.mk (blk_below (g := gb182) (o := .cells #[.int .i64 a0_0, .slice A0_1 l0_1.length c0_1] 24 (0, 0)) (by (with_reducible repeat (first | refine bkN ?_ _ | refine bkd ?_ | refine bka ?_ _)); exact BK182.out) hb); have n2_ := Az.mk (bwt (by repeat (first | (with_reducible first | exact HB.out | apply bwa | apply pwN | apply bw1 | refine bws ?_ GE182.out) | exact HB.out)) hb); clear BK182; clear HB; have HO188 := n0_; have BK182 := n1_; have HB := n2_; clear n0_ n1_ n2_; (try clear hb); (try clear hb2); (try clear hk); (try clear hi); (try clear ho0))))
      go_ret3
      exact ⟨_, by first | rfl | (simp [errW_none, errW_some] <;> rfl) | (simp [*, errW_none, errW_some] <;> rfl), by (with_reducible repeat (first | apply Kd.R_alloc | apply Kd.R_drewN | apply Kd.R_drew)); exact HO188.out, by repeat (first | (with_reducible first | exact HB.out | apply bwa | apply pwN | apply bw1 | refine bws ?_ GE182.out) | exact HB.out)⟩
     ·replace c15 := Bool.eq_false_iff.mpr c15
      subst c15
      have H1 : (some (([] : List Int), true, 0)) = some (r1, r2, r3) := by rw [if_neg (show ¬ (false = true) by decide)] at H; exact H
      clear H
      have H := H1
      clear H1
      simp only [Option.some.injEq, Prod.mk.injEq] at H
      obtain ⟨rfl, rfl, rfl⟩ := H
      have hcz18_0 : wr.cell? ⟨gb182, 0, none⟩ = some (.int .i64 a0_0) := (bkc BK182.out 0).trans rfl
      have hcz18_1 : wr.cell? ⟨gb182, 1, none⟩ = some (.slice A0_1 l0_1.length c0_1) := (bkc BK182.out 1).trans rfl
      have hfz18_0 := bkf BK182.out 0
      have hfz18_1 := bkf BK182.out 1
      go_wp2_with (first | (go_at_call 68; (with_reducible refine (netlabref32_Units.calls k1 a0_0 _ _ l0_1 _ _ l1 t186 false _ ?side1 ?side2 ?side3 ?side4 A14.out).mono ?_); (case side1 => repeat (first | exact (Kd.C_below HR0_1.out HB.out) | (with_reducible refine Kd.C_alloc ?_ _) | (with_reducible refine Kd.C_drewN ?_ _) | (with_reducible refine Kd.C_drew ?_))); (case side2 => exact HC0_1.out); (case side3 => repeat (first | exact (Kd.C_below HR1.out HB.out) | (with_reducible refine Kd.C_alloc ?_ _) | (with_reducible refine Kd.C_drewN ?_ _) | (with_reducible refine Kd.C_drew ?_))); (case side4 => exact HC1.out); rintro e w19 ⟨v187, rfl, ho0, hb⟩; have n0_ := Az.mk (Kd.R_lower ho0 (below_size (by repeat (first | (with_reducible first | exact HB.out | apply bwa | apply pwN | apply bw1 | refine bws ?_ GE182.out) | exact HB.out)))); have n1_ := Az.mk (blk_below (g := gb182) (o := .cells #[.int .i64 a0_0, .slice A0_1 l0_1.length c0_1] 24 (0, 0)) (by (with_reducible repeat (first | refine bkN ?_ _ | refine bkd ?_ | refine bka ?_ _)); exact BK182.out) hb); have n2_ := Az.mk (bwt (by repeat (first | (with_reducible first | exact HB.out | apply bwa | apply pwN | apply bw1 | refine bws ?_ GE182.out) | exact HB.out)) hb); clear BK182; clear HB; have HO188 := n0_; have BK182 := n1_; have HB := n2_; clear n0_ n1_ n2_; (try clear hb); (try clear hb2); (try clear hk); (try clear hi); (try clear ho0)))
      repeat (go_quiet (first | (go_at_call 68; (with_reducible refine (netlabref32_Units.calls k1 a0_0 _ _ l0_1 _ _ l1 t186 false _ ?side1 ?side2 ?side3 ?side4 A14.out).mono ?_); (case side1 => repeat (first | exact (Kd.C_below HR0_1.out HB.out) | (with_reducible refine Kd.C_alloc ?_ _) | (with_reducible refine Kd.C_drewN ?_ _) | (with_reducible refine Kd.C_drew ?_))); (case side2 => exact HC0_1.out); (case side3 => repeat (first | exact (Kd.C_below HR1.out HB.out) | (with_reducible refine Kd.C_alloc ?_ _) | (with_reducible refine Kd.C_drewN ?_ _) | (with_reducible refine Kd.C_drew ?_))); (case side4 => exact HC1.out); rintro e w19 ⟨v187, rfl, ho0, hb⟩; have n0_ := Az.mk (Kd.R_lower ho0 (below_size (by repeat (first | (with_reducible first | exact HB.out | apply bwa | apply pwN | apply bw1 | refine bws ?_ GE182.out) | exact HB.out)))); have n1_ := Az.mk (blk_below (g := gb182) (o := .cells #[.int .i64 a0_0, .slice A0_1 l0_1.length c0_1] 24 (0, 0)) (by (with_reducible repeat (first | refine bkN ?_ _ | refine bkd ?_ | refine bka ?_ _)); exact BK182.out) hb); have n2_ := Az.mk (bwt (by repeat (first | (with_reducible first | exact HB.out | apply bwa | apply pwN | apply bw1 | refine bws ?_ GE182.out) | exact HB.out)) hb); clear BK182; clear HB; have HO188 := n0_; have BK182 := n1_; have HB := n2_; clear n0_ n1_ n2_; (try clear hb); (try clear hb2); (try clear hk); (try clear hi); (try clear ho0))); try go_wp2_with (first | (go_at_call 68; (with_reducible refine (netlabref32_Units.calls k1 a0_0 _ _ l0_1 _ _ l1 t186 false _ ?side1 ?side2 ?side3 ?side4 A14.out).mono ?_); (case side1 => repeat (first | exact (Kd.C_below HR0_1.out HB.out) | (with_reducible refine Kd.C_alloc ?_ _) | (with_reducible refine Kd.C_drewN ?_ _) | (with_reducible refine Kd.C_drew ?_))); (case side2 => exact HC0_1.out); (case side3 => repeat (first | exact (Kd.C_below HR1.out HB.out) | (with_reducible refine Kd.C_alloc ?_ _) | (with_reducible refine Kd.C_drewN ?_ _) | (with_reducible refine Kd.C_drew ?_))); (case side4 => exact HC1.out); rintro e w19 ⟨v187, rfl, ho0, hb⟩; have n0_ := Az.mk (Kd.R_lower ho0 (below_size (by repeat (first | (with_reducible first | exact HB.out | apply bwa | apply pwN | apply bw1 | refine bws ?_ GE182.out) | exact HB.out)))); have n1_ := Az.mk (blk_below (g := gb182) (o := .cells #[.int .i64 a0_0, .slice A0_1 l0_1.length c0_1] 24 (0, 0)) (by (with_reducible repeat (first | refine bkN ?_ _ | refine bkd ?_ | refine bka ?_ _)); exact BK182.out) hb); have n2_ := Az.mk (bwt (by repeat (first | (with_reducible first | exact HB.out | apply bwa | apply pwN | apply bw1 | refine bws ?_ GE182.out) | exact HB.out)) hb); clear BK182; clear HB; have HO188 := n0_; have BK182 := n1_; have HB := n2_; clear n0_ n1_ n2_; (try clear hb); (try clear hb2); (try clear hk); (try clear hi); (try clear ho0))))
      go_ret3
      exact ⟨_, by first | rfl | (simp [errW_none, errW_some] <;> rfl) | (simp [*, errW_none, errW_some] <;> rfl), by first | exact Kd.R_nil _ _ _ _ _ | exact Kd.N_nil _ _ _ _ _ | exact Kd.V_nil _ _ _ _ _ | exact Kd.Q_nil _ _ _ _ _ | exact Kd.S_nil _ _ _ _ _, by repeat (first | (with_reducible first | exact HB.out | apply bwa | apply pwN | apply bw1 | refine bws ?_ GE182.out) | exact HB.out)⟩
 ·rw [if_neg c4] at H
  have c4b0 : (t183 == 0) = false := beq_eq_false_iff_ne.mpr c4
  have c4b1 : (t183 != 0) = true := bne_iff_ne.mpr c4
  simp only [Option.some.injEq, Prod.mk.injEq] at H
  obtain ⟨rfl, rfl, rfl⟩ := H
  go_enter Tryz.func20, Tryz.ntmps20
  go_wp2_with (first | ((with_reducible refine gate_dst (N := 2) rfl ?_); refine box_event ?hg (N := 2) ?hd (cs := #[.int .i64 a0_0, .slice A0_1 l0_1.length c0_1]) (t := 24) ?hr ?_; (case hd => rfl); (case hg => rfl); (case hr => first | (go_simp; done) | (go_simp; rfl)); intro gb182 hg w20 hbox hb; have n0_ := Az.mk (bwt (by repeat (first | (with_reducible first | exact HB.out | apply bwa | apply pwN | apply bw1) | exact HB.out)) hb); have n1_ := Az.mk (hbox); have n2_ := Az.mk ((by rw [hg]; exact (below_size (by repeat (first | (with_reducible first | exact HB.out | apply bwa | apply pwN | apply bw1) | exact HB.out))) : w.heap.size ≤ gb182)); have n3_ := Az.mk ((by rw [hg]; exact (below_size (by repeat (first | (with_reducible first | exact HB.out | apply bwa | apply pwN | apply bw1) | exact HB.out))) : w.heap.size ≤ gb182)); clear HB; have HB := n0_; have BK182 := n1_; have GW182 := n2_; have GE182 := n3_; clear n0_ n1_ n2_ n3_; clear hb hbox hg; have hcz21_0 : w20.cell? ⟨gb182, 0, none⟩ = some (.int .i64 a0_0) := (bkc BK182.out 0).trans rfl; have hcz21_1 : w20.cell? ⟨gb182, 1, none⟩ = some (.slice A0_1 l0_1.length c0_1) := (bkc BK182.out 1).trans rfl; have hfz21_0 := bkf BK182.out 0; have hfz21_1 := bkf BK182.out 1) | (go_at_call 22; (with_reducible refine (netlabref32_Check.calls k a0_0 _ _ l0_1 t183 _ ?side1 ?side2 A3.out).mono ?_); (case side1 => repeat (first | exact (Kd.C_below HR0_1.out HB.out) | (with_reducible refine Kd.C_alloc ?_ _) | (with_reducible refine Kd.C_drewN ?_ _) | (with_reducible refine Kd.C_drew ?_))); (case side2 => exact HC0_1.out); rintro e w22 ⟨rfl, hb⟩; have n0_ := Az.mk (blk_below (g := gb182) (o := .cells #[.int .i64 a0_0, .slice A0_1 l0_1.length c0_1] 24 (0, 0)) (by (with_reducible repeat (first | refine bkN ?_ _ | refine bkd ?_ | refine bka ?_ _)); exact BK182.out) hb); have n1_ := Az.mk (bwt (by repeat (first | (with_reducible first | exact HB.out | apply bwa | apply pwN | apply bw1 | refine bws ?_ GE182.out) | exact HB.out)) hb); clear BK182; clear HB; have BK182 := n0_; have HB := n1_; clear n0_ n1_; (try clear hb); (try clear hb2); (try clear hk); (try clear hi)))
  repeat (go_quiet (first | ((with_reducible refine gate_dst (N := 2) rfl ?_); refine box_event ?hg (N := 2) ?hd (cs := #[.int .i64 a0_0, .slice A0_1 l0_1.length c0_1]) (t := 24) ?hr ?_; (case hd => rfl); (case hg => rfl); (case hr => first | (go_simp; done) | (go_simp; rfl)); intro gb182 hg w20 hbox hb; have n0_ := Az.mk (bwt (by repeat (first | (with_reducible first | exact HB.out | apply bwa | apply pwN | apply bw1) | exact HB.out)) hb); have n1_ := Az.mk (hbox); have n2_ := Az.mk ((by rw [hg]; exact (below_size (by repeat (first | (with_reducible first | exact HB.out | apply bwa | apply pwN | apply bw1) | exact HB.out))) : w.heap.size ≤ gb182)); have n3_ := Az.mk ((by rw [hg]; exact (below_size (by repeat (first | (with_reducible first | exact HB.out | apply bwa | apply pwN | apply bw1) | exact HB.out))) : w.heap.size ≤ gb182)); clear HB; have HB := n0_; have BK182 := n1_; have GW182 := n2_; have GE182 := n3_; clear n0_ n1_ n2_ n3_; clear hb hbox hg; have hcz21_0 : w20.cell? ⟨gb182, 0, none⟩ = some (.int .i64 a0_0) := (bkc BK182.out 0).trans rfl; have hcz21_1 : w20.cell? ⟨gb182, 1, none⟩ = some (.slice A0_1 l0_1.length c0_1) := (bkc BK182.out 1).trans rfl; have hfz21_0 := bkf BK182.out 0; have hfz21_1 := bkf BK182.out 1) | (go_at_call 22; (with_reducible refine (netlabref32_Check.calls k a0_0 _ _ l0_1 t183 _ ?side1 ?side2 A3.out).mono ?_); (case side1 => repeat (first | exact (Kd.C_below HR0_1.out HB.out) | (with_reducible refine Kd.C_alloc ?_ _) | (with_reducible refine Kd.C_drewN ?_ _) | (with_reducible refine Kd.C_drew ?_))); (case side2 => exact HC0_1.out); rintro e w22 ⟨rfl, hb⟩; have n0_ := Az.mk (blk_below (g := gb182) (o := .cells #[.int .i64 a0_0, .slice A0_1 l0_1.length c0_1] 24 (0, 0)) (by (with_reducible repeat (first | refine bkN ?_ _ | refine bkd ?_ | refine bka ?_ _)); exact BK182.out) hb); have n1_ := Az.mk (bwt (by repeat (first | (with_reducible first | exact HB.out | apply bwa | apply pwN | apply bw1 | refine bws ?_ GE182.out) | exact HB.out)) hb); clear BK182; clear HB; have BK182 := n0_; have HB := n1_; clear n0_ n1_; (try clear hb); (try clear hb2); (try clear hk); (try clear hi))); try go_wp2_with (first | ((with_reducible refine gate_dst (N := 2) rfl ?_); refine box_event ?hg (N := 2) ?hd (cs := #[.int .i64 a0_0, .slice A0_1 l0_1.length c0_1]) (t := 24) ?hr ?_; (case hd => rfl); (case hg => rfl); (case hr => first | (go_simp; done) | (go_simp; rfl)); intro gb182 hg w20 hbox hb; have n0_ := Az.mk (bwt (by repeat (first | (with_reducible first | exact HB.out | apply bwa | apply pwN | apply bw1) | exact HB.out)) hb); have n1_ := Az.mk (hbox); have n2_ := Az.mk ((by rw [hg]; exact (below_size (by repeat (first | (with_reducible first | exact HB.out | apply bwa | apply pwN | apply bw1) | exact HB.out))) : w.heap.size ≤ gb182)); have n3_ := Az.mk ((by rw [hg]; exact (below_size (by repeat (first | (with_reducible first | exact HB.out | apply bwa | apply pwN | apply bw1) | exact HB.out))) : w.heap.size ≤ gb182)); clear HB; have HB := n0_; have BK182 := n1_; have GW182 := n2_; have GE182 := n3_; clear n0_ n1_ n2_ n3_; clear hb hbox hg; have hcz21_0 : w20.cell? ⟨gb182, 0, none⟩ = some (.int .i64 a0_0) := (bkc BK182.out 0).trans rfl; have hcz21_1 : w20.cell? ⟨gb182, 1, none⟩ = some (.slice A0_1 l0_1.length c0_1) := (bkc BK182.out 1).trans rfl; have hfz21_0 := bkf BK182.out 0; have hfz21_1 := bkf BK182.out 1) | (go_at_call 22; (with_reducible refine (netlabref32_Check.calls k a0_0 _ _ l0_1 t183 _ ?side1 ?side2 A3.out).mono ?_); (case side1 => repeat (first | exact (Kd.C_below HR0_1.out HB.out) | (with_reducible refine Kd.C_alloc ?_ _) | (with_reducible refine Kd.C_drewN ?_ _) | (with_reducible refine Kd.C_drew ?_))); (case side2 => exact HC0_1.out); rintro e w22 ⟨rfl, hb⟩; have n0_ := Az.mk (blk_below (g := gb182) (o := .cells #[.int .i64 a0_0, .slice A0_1 l0_1.length c0_1] 24 (0, 0)) (by (with_reducible repeat (first | refine bkN ?_ _ | refine bkd ?_ | refine bka ?_ _)); exact BK182.out) hb); have n1_ := Az.mk (bwt (by repeat (first | (with_reducible first | exact HB.out | apply bwa | apply pwN | apply bw1 | refine bws ?_ GE182.out) | exact HB.out)) hb); clear BK182; clear HB; have BK182 := n0_; have HB := n1_; clear n0_ n1_; (try clear hb); (try clear hb2); (try clear hk); (try clear hi))))
  go_ret3
  exact ⟨_, by first | rfl | (simp [errW_none, errW_some] <;> rfl) | (simp [*, errW_none, errW_some] <;> rfl), by first | exact Kd.R_nil _ _ _ _ _ | exact Kd.N_nil _ _ _ _ _ | exact Kd.V_nil _ _ _ _ _ | exact Kd.Q_nil _ _ _ _ _ | exact Kd.S_nil _ _ _ _ _, by repeat (first | (with_reducible first | exact HB.out | apply bwa | apply pwN | apply bw1 | refine bws ?_ GE182.out) | exact HB.out)⟩
end Go.Proofs.YtkcfdddhnboieaaGreatDoor.PRPropg
end
