/-
  Part 30 of the proof of cnfTextMatches_card: walks and lemmas.
-/
import Derived.Test.YtkcfdddhnboieaaGreatDoorKG5
import Derived.Test.YtkcfdddhnboieaaGreatDoorKG6
import Derived.Deep.CutRange
import Derived.Deep.CutBlock
set_option linter.unusedVariables false
set_option linter.unusedSimpArgs false
section
set_option maxHeartbeats 4000000
set_option maxRecDepth 100000
namespace Go.Proofs.YtkcfdddhnboieaaGreatDoor.PRPropg
open Go Go.RowKit Go.Shelf QW.PrintWords QW.PrintLast QW.PrintMore NMap NState
open NPlain (chkL tot tot_le)
def netlabref32_Check.f (_k : Nat) (vars : Int) (cls : List (List Int)) : Option Int := if cls.length ≤ 1000000000 ∧ tot cls ≤ 1000000000 then some (chkL vars cls) else none
theorem netlabref32_Check.mono : ∀ a0 a1 k, LeO (netlabref32_Check.f k a0 a1) (netlabref32_Check.f (k + 1) a0 a1) := fun _ _ _ _ h => h
theorem legal_code (x v : Int) : netlabref32_legal.f x v = some (!badLit v x) := by
 unfold netlabref32_legal.f badLit
 by_cases h0 : x = 0
 ·simp [h0]
 by_cases h1 : x ≥ wrap64 (-v)
 ·rw [if_neg h0, if_pos h1]
  have e1 : (x == 0) = false := by simpa using h0
  have e2 : decide (x < wrap64 (-v)) = false := by simpa using h1
  rw [e1, e2]
  by_cases h2 : x ≤ v
  ·have e3 : decide (x > v) = false := by simpa using h2
   rw [e3]; simp [h2]
  ·have e3 : decide (x > v) = true := by simpa using h2
   rw [e3]; simp [h2]
 ·rw [if_neg h0, if_neg h1]
  have e2 : decide (x < wrap64 (-v)) = true := by simpa using h1
  rw [e2]; simp
theorem tot_take {cls : List (List Int)} {i : Nat} (hi : i < cls.length) : tot (cls.take (i + 1)) = tot (cls.take i) + cls[i].length := by
 unfold tot
 rw [List.take_succ_eq_append_getElem hi, List.map_append, List.sum_append]; simp
theorem tot_mem : ∀ {cls : List (List Int)} {l : List Int}, l ∈ cls → l.length ≤ tot cls
 | c :: t, l, h => by
  rcases List.mem_cons.1 h with rfl | h
  ·simp [tot]
  ·have := tot_mem h
   simp only [tot, List.map_cons, List.sum_cons] at this ⊢
   omega
theorem tot_takele (cls : List (List Int)) (i : Nat) : tot (cls.take i) ≤ tot cls := by
 have h : tot cls = tot (cls.take i) + tot (cls.drop i) := by
  unfold tot
  rw [← List.sum_append, ← List.map_append, List.take_append_drop]
 omega
def rckR16.T : Bool × List (List Nat × List Nat) := (true, [([], []), ([0], [0]), ([], []), ([1, 2], [1, 2]), ([3], [3]), ([], []), ([4, 5], [4, 5]), ([6], [6]), ([], []), ([8], [8]), ([7, 9], [7, 9]), ([10], [10])])
def rckR16.B : List Nat := [0, 1, 0, 7, 15, 0, 63, 127, 0, 256, 1023, 2047]
theorem rckR16.tab : rtab .any (opsOf Tryz.f22 16) = rckR16.T := by kernel_rfl
theorem rckR16.bits : waitsOk rckR16.T.2 rckR16.B = true := by kernel_rfl
theorem netlabref32_Check.calls (k : Nat) (vars : Int) (A1 : Option Addr) (c1 : Nat) (cls : List (List Int)) (r : Int) (w : World) (hr1 : Kd.C (Kd.slice 3 (Kd.int .i64)) w A1 cls.length cls) (hc1 : cls.length ≤ c1) (h : netlabref32_Check.f k vars cls = some r) :
  Calls Tryz.prog 22 #[.agg #[.int .i64 vars, .slice A1 cls.length c1]] w fun e w' => e = .returned (.int .i64 r) ∧ Below w.heap.size w w' := by
 unfold netlabref32_Check.f at h
 by_cases hsz : cls.length ≤ 1000000000 ∧ tot cls ≤ 1000000000
 case neg => rw [if_neg hsz] at h; cases h
 rw [if_pos hsz] at h
 have hr := (Option.some.inj h).symm
 unfold chkL at hr
 have HR := Az.mk hr
 have HSZ := Az.mk hsz
 have HR1 := Az.mk hr1
 clear h hr hsz hr1 hc1
 have hu24 := Tryz.underlying24
 go_enter Tryz.func22, Tryz.ntmps22
 by_cases hv : vars < 0
 ·rw [if_pos hv] at HR
  have hvb : decide (vars < 0) = true := decide_eq_true hv
  clear hv
  go_wp2
  first | go_ret | go_ret2
  exact ⟨by rw [HR.out]; rfl, (Below.refl _ _).alloc (Nat.le_refl _) _⟩
 ·rw [if_neg hv] at HR
  have hvb : decide (vars < 0) = false := decide_eq_false hv
  clear hv
  go_wp2
  have HB := Az.mk ((Below.refl w.heap.size w).alloc (Nat.le_refl _) (.cells #[.int .i64 vars, .slice A1 cls.length c1] 24))
  have BC := Az.mk (QW.PrintWords.blk_new w (.cells #[.int .i64 vars, .slice A1 cls.length c1] 24))
  generalize w.alloc (.cells #[.int .i64 vars, .slice A1 cls.length c1] 24) = w1 at HB BC ⊢
  have HC := Az.mk (Kd.C_below HR1.out HB.out)
  generalize hg : w.heap.size = g at BC ⊢
  go_loopw [3, 4] (fun v3 v4 wr => ∃ i : Nat, v4 = .int .i64 i ∧ i ≤ cls.length ∧ v3 = .int .i64 (tot (cls.take i)) ∧ Az (wr = w1)) (fun _ v4 _ => cls.length - (intOf v4).toNat)
  case atStart => exact ⟨0, rfl, Nat.zero_le _, rfl, ⟨rfl⟩⟩
  case round =>
   obtain ⟨i, rfl, hi, rfl, HW⟩ := hrel
   have hx0 : wr.cell? ⟨g, 0, none⟩ = some (.int .i64 vars) := by rw [HW.out]; exact (bkc BC.out 0).trans rfl
   have hx1 : wr.cell? ⟨g, 1, none⟩ = some (.slice A1 cls.length c1) := by rw [HW.out]; exact (bkc BC.out 1).trans rfl
   by_cases hlt : i < cls.length
   ·obtain ⟨ad, A', c', rfl, hcc, hl1, hC1⟩ := at_L1 HC.out (i : Int) (by omega) (by omega)
    have hrd : rL cls (i : Int) = cls[i] := by simp [rL, List.getD, hlt]
    have HT : Az (tot (cls.take (i + 1)) = tot (cls.take i) + (rL cls (i : Int)).length) := ⟨by rw [hrd]; exact tot_take hlt⟩
    have HTL := Az.mk (tot_takele cls (i + 1))
    clear hrd
    generalize rL cls (i : Int) = l at hcc hl1 hC1 HT
    simp only [Int.toNat_natCast] at hcc
    rw [← HW.out] at hcc
    clear hC1 hl1
    go_wp2
    go_roundw
    case rel => exact ⟨i + 1, by rw [wrap_succ hlt (by have := HSZ.out.1; omega)], by omega, by have h1 := HT.out; have h2 := HTL.out; have h3 := HSZ.out.2; congr 1; unfold wrap64; omega, HW⟩
    case measure => exact meas_x hlt (wrap_succ hlt (by have := HSZ.out.1; omega))
   ·obtain rfl : i = cls.length := by omega
    rw [List.take_length]
    clear hlt hi
    by_cases hbig : vars > 4096 ∨ cls.length > 16384 ∨ tot cls > 65536
    ·rw [if_pos hbig] at HR
     by_cases k1 : vars > 4096
     ·have k1b : decide (vars > 4096) = true := decide_eq_true k1
      clear k1
      go_wp2
      first | go_ret | go_ret2 | go_ret3
      exact ⟨by rw [HR.out]; rfl, by rw [HW.out]; exact HB.out⟩
     ·have k1b : decide (vars > 4096) = false := decide_eq_false k1
      by_cases k2 : cls.length > 16384
      ·have k2b : decide ((cls.length : Int) > 16384) = true := decide_eq_true (by omega)
       have k2c : decide (16384 < cls.length) = true := decide_eq_true (by omega)
       clear k1
       go_wp2
       first | go_ret | go_ret2 | go_ret3
       exact ⟨by rw [HR.out]; rfl, by rw [HW.out]; exact HB.out⟩
      ·have k2b : decide ((cls.length : Int) > 16384) = false := decide_eq_false (by omega)
       have k2c : decide (16384 < cls.length) = false := decide_eq_false (by omega)
       have k3 : tot cls > 65536 := by omega
       generalize tot cls = tt at k3
       have k3b : decide ((tt : Int) > 65536) = true := decide_eq_true (by omega)
       have k3c : decide (65536 < tt) = true := decide_eq_true (by omega)
       clear k1
       go_wp2
       first | go_ret | go_ret2 | go_ret3
       exact ⟨by rw [HR.out]; rfl, by rw [HW.out]; exact HB.out⟩
    ·rw [if_neg hbig] at HR
     have k1b : decide (vars > 4096) = false := decide_eq_false (by omega)
     have k2b : decide ((cls.length : Int) > 16384) = false := decide_eq_false (by omega)
     have k2c : decide (16384 < cls.length) = false := decide_eq_false (by omega)
     obtain ⟨tt, htt⟩ : ∃ tt, tot cls = tt := ⟨_, rfl⟩
     rw [htt] at hbig ⊢
     have k3b : decide ((tt : Int) > 65536) = false := decide_eq_false (by omega)
     have k3c : decide (65536 < tt) = false := decide_eq_false (by omega)
     clear hbig htt
     go_wp2
     clear hx0 hx1 k1b k2b k2c k3b k3c
     go_loopw [5] (fun v5 wr => ∃ i : Nat, v5 = .int .i64 i ∧ i ≤ cls.length ∧ Az ((cls.take i).any (fun l => l.any (badLit vars)) = false) ∧ Az (Below w1.heap.size w1 wr)) (fun v5 _ => cls.length - (intOf v5).toNat)
     case atStart => exact ⟨0, rfl, Nat.zero_le _, ⟨by simp⟩, ⟨by rw [HW.out]; exact Below.refl _ _⟩⟩
     case round =>
      clear HW
      obtain ⟨i, rfl, hi, HA, HD⟩ := hrel
      have hx0 := (bkc (blk_below BC.out HD.out) 0).trans rfl
      have hx1 := (bkc (blk_below BC.out HD.out) 1).trans rfl
      by_cases hlt : i < cls.length
      ·obtain ⟨ad, A', c', rfl, hcc, hl1, hC1⟩ := at_L1 HC.out (i : Int) (by omega) (by omega)
       have hrd : rL cls (i : Int) = cls[i] := by simp [rL, List.getD, hlt]
       have HAN : Az ((cls.take (i + 1)).any (fun l => l.any (badLit vars)) = (rL cls (i : Int)).any (badLit vars)) := ⟨by
        rw [List.take_succ_eq_append_getElem hlt, List.any_append, HA.out, hrd]; simp⟩
       have HAB : Az ((rL cls (i : Int)).any (badLit vars) = true → cls.any (fun l => l.any (badLit vars)) = true) := ⟨fun h => List.any_eq_true.2 ⟨_, by rw [hrd]; exact List.getElem_mem _, h⟩⟩
       have HLL : Az ((rL cls (i : Int)).length ≤ 1000000000) := ⟨by rw [hrd]; exact Nat.le_trans (tot_mem (List.getElem_mem hlt)) HSZ.out.2⟩
       clear hrd
       generalize rL cls (i : Int) = l at hcc hl1 hC1 HAN HAB HLL
       simp only [Int.toNat_natCast] at hcc
       have HCC := Az.mk hcc
       have HC1 := Az.mk hC1
       clear hC1 hl1 hcc
       go_wp2
       clear hx0 hx1
       go_loopw [6] (fun v6 wr => ∃ j : Nat, v6 = .int .i64 j ∧ j ≤ l.length ∧ Az ((l.take j).any (badLit vars) = false) ∧ Az (Below w1.heap.size w1 wr)) (fun v6 _ => l.length - (intOf v6).toNat)
       case atStart => exact ⟨0, rfl, Nat.zero_le _, ⟨by simp⟩, HD⟩
       case round =>
        clear HD
        obtain ⟨j, rfl, hj, HJ, HD⟩ := hrel
        have BCr := Az.mk (blk_below BC.out HD.out)
        have hx0 := (bkc BCr.out 0).trans rfl
        have hx1 := (bkc BCr.out 1).trans rfl
        have hcc := (HD.out.cell (World.block_lt_of_cell? _ _ HCC.out)).trans HCC.out
        have hi0 : (0 : Int) ≤ (i : Int) := Int.natCast_nonneg i
        have hi1 : (i : Int) < (cls.length : Int) := by omega
        by_cases hjl : j < l.length
        ·obtain ⟨ad2, rfl, hcx⟩ := Kd.at_int HC1.out (j : Int) (by omega) (by omega)
         replace hcx := (HD.out.cell (World.block_lt_of_cell? _ _ hcx)).trans hcx
         have hrd : rd l (j : Int) = l[j] := by simp [rd, List.getD, hjl]
         have HJN : Az ((l.take (j + 1)).any (badLit vars) = badLit vars (rd l (j : Int))) := ⟨by
          rw [List.take_succ_eq_append_getElem hjl, List.any_append, HJ.out, hrd]; simp⟩
         have HJB : Az (badLit vars (rd l (j : Int)) = true → l.any (badLit vars) = true) := ⟨fun h => List.any_eq_true.2 ⟨_, by rw [hrd]; exact List.getElem_mem _, h⟩⟩
         clear hrd
         generalize rd l (j : Int) = x at hcx HJN HJB
         simp only [Int.toNat_natCast] at hcx
         have HLC := Az.mk (legal_code x vars)
         obtain ⟨b, hb⟩ : ∃ b, badLit vars x = b := ⟨_, rfl⟩
         rw [hb] at HJN HJB HLC
         clear hb
         have hj0 : (0 : Int) ≤ (j : Int) := Int.natCast_nonneg j
         have hj1 : (j : Int) < (l.length : Int) := by omega
         have p1 := eq_true hi0
         have p2 := eq_true hi1
         have p3 := eq_true hj0
         have p4 := eq_true hj1
         go_upto_region 16 with fail
         have HX8 := Az.mk hx0
         refine start_ (n := 12) (S := fun w' => w'.cell? ⟨g, 0, none⟩ = some (.int .i64 vars) ∧ w'.cell? ⟨g, 1, none⟩ = some (.slice (some ad) cls.length c1) ∧ w'.cell? (ad.add i) = some (.slice (some ad2) l.length c') ∧ w'.cell? (ad2.add j) = some (.int .i64 x)) (ds := []) (Array.replicate 12 false) (by kernel_rfl) rfl rfl ⟨hx0, hx1, hcc, hcx⟩ (fun hHeld => ?_); refine with_tabW rckR16.tab rckR16.bits (fun HT_ HW_ => ?_)
         have HD8 : Az (Below w1.heap.size w1 wr.drew) := ⟨below_drew HD.out⟩
         generalize wr.drew = w8 at HD8 hHeld ⊢
         refine pA 0 (some 55) (bA 12 1) rfl rfl HT_.out (by intro w'; go_simp; with_reducible rfl) (by simp only [Act.put, zq1, zq2, zq3, iw, jw]; rfl) ?_
         refine pT 1 (some 56) (bA 12 3) rfl rfl HT_.out HW_.out hHeld (by rintro w' ⟨s0, s1, s2, s3⟩; go_simp; with_reducible rfl) (by simp only [Act.put, zq1, zq2, zq3, iw, jw]; rfl) ?_
         refine pA 2 (some 57) (bA 12 7) rfl rfl HT_.out (by intro w'; go_simp; with_reducible rfl) (by simp only [Act.put, zq1, zq2, zq3, iw, jw]; rfl) ?_
         refine pA 3 (some 58) (bA 12 15) rfl rfl HT_.out (by intro w'; go_simp; with_reducible rfl) (by simp only [Act.put, zq1, zq2, zq3, iw, jw]; rfl) ?_
         refine pT 4 (some 59) (bA 12 31) rfl rfl HT_.out HW_.out hHeld (by rintro w' ⟨s0, s1, s2, s3⟩; go_simp; with_reducible rfl) (by simp only [Act.put, zq1, zq2, zq3, iw, jw]; rfl) ?_
         refine pA 5 (some 60) (bA 12 63) rfl rfl HT_.out (by intro w'; go_simp; with_reducible rfl) (by simp only [Act.put, zq1, zq2, zq3, iw, jw]; rfl) ?_
         refine pA 6 (some 61) (bA 12 127) rfl rfl HT_.out (by intro w'; go_simp; with_reducible rfl) (by simp only [Act.put, zq1, zq2, zq3, iw, jw]; rfl) ?_
         refine pT 7 (some 62) (bA 12 255) rfl rfl HT_.out HW_.out hHeld (by rintro w' ⟨s0, s1, s2, s3⟩; go_simp; with_reducible rfl) (by simp only [Act.put, zq1, zq2, zq3, iw, jw]; rfl) ?_
         refine pA 8 (some 63) (bA 12 511) rfl rfl HT_.out (by intro w'; go_simp; with_reducible rfl) (by simp only [Act.put, zq1, zq2, zq3, iw, jw]; rfl) ?_
         refine pT 9 (some 64) (bA 12 1023) rfl rfl HT_.out HW_.out hHeld (by rintro w' ⟨s0, s1, s2, s3⟩; go_simp; with_reducible rfl) (by simp only [Act.put, zq1, zq2, zq3, iw, jw]; rfl) ?_
         refine QW.PrintLast.one_ (i := 10) (N := some 65) (bA 12 2047) rfl rfl (one_of HT_.out (by kernel_rfl)) (by decide) (fun K hK => ?_)
         refine goes_ Tryz.func67 (by kernel_rfl) rfl #[.int .i64 x, .int .i64 vars] (by rfl) rfl rfl (by (try simp only [List.map_toArray, List.map_cons, List.map_nil]); first | done | rfl) ?_
         refine (netlabref32_legal.calls x vars (!b) _ HLC.out).mono ?_
         rintro e w9 ⟨rfl, hd⟩
         have HD9 : Az (Below w1.heap.size w1 w9) := ⟨bwt HD8.out hd.below⟩
         refine ⟨_, rfl, hK.out _ _ ⟨(hd.below.cell (World.block_lt_of_cell? _ _ hHeld.1)).trans hHeld.1, (hd.below.cell (World.block_lt_of_cell? _ _ hHeld.2.1)).trans hHeld.2.1, (hd.below.cell (World.block_lt_of_cell? _ _ hHeld.2.2.1)).trans hHeld.2.2.1, (hd.below.cell (World.block_lt_of_cell? _ _ hHeld.2.2.2)).trans hHeld.2.2.2⟩ (fun hHeld => ?_)⟩
         clear hK K hd HD8
         refine norm_ (by show Act.put _ (some 65) _ = _; simp only [Act.put, zq1, zq2, zq3, iw, jw]; rfl) ?_
         refine pA 11 (some 66) (bA 12 4095) rfl rfl HT_.out (by intro w'; go_simp; with_reducible rfl) (by simp only [Act.put, zq1, zq2, zq3, iw, jw]; rfl) ?_
         refine done_ (done_of HT_.out (by kernel_rfl)) ?_
         clear hHeld HT_ HW_
         cases b with
         | true =>
          go_wp2
          first | go_ret | go_ret2 | go_ret3
          exact ⟨by rw [HR.out, if_pos (HAB.out (HJB.out (by first | rfl | trivial)))]; rfl, (by first | exact bwt HB.out HD9.out | (rw [← hg]; exact bwt HB.out HD9.out))⟩
         | false =>
          go_wp2
          go_roundw
          case rel => exact ⟨j + 1, by rw [wrap_succ hjl (by have := HLL.out; omega)], by omega, HJN, HD9⟩
          case measure => exact meas_x hjl (wrap_succ hjl (by have := HLL.out; omega))
        ·obtain rfl : j = l.length := by omega
         rw [List.take_length] at HJ
         go_wp2
         go_roundw
         case rel => exact ⟨i + 1, by rw [wrap_succ hlt (by have := HSZ.out.1; omega)], by omega, ⟨by rw [HAN.out, HJ.out]⟩, HD⟩
         case measure => exact meas_x hlt (wrap_succ hlt (by have := HSZ.out.1; omega))
      ·obtain rfl : i = cls.length := by omega
       rw [List.take_length] at HA
       go_wp2
       first | go_ret | go_ret2 | go_ret3
       exact ⟨by rw [HR.out, if_neg (by rw [HA.out]; simp)]; rfl, bwt HB.out HD.out⟩
end Go.Proofs.YtkcfdddhnboieaaGreatDoor.PRPropg
end
