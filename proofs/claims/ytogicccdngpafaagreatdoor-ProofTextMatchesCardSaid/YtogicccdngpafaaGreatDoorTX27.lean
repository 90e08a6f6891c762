/-
  Part 27 of the proof of proofTextMatches_card: walks and lemmas, packed by the session's own wip/pack.py out of its texts and of what the kit's print.sh printed.
-/
import Derived.Test.YtogicccdngpafaaGreatDoorTX21
import Derived.Test.YtogicccdngpafaaGreatDoorTX22
import Derived.Test.YtogicccdngpafaaGreatDoorTX24
import Derived.Test.YtogicccdngpafaaGreatDoorTX25
import Derived.Test.YtogicccdngpafaaGreatDoorTX26
set_option linter.unusedVariables false
set_option linter.unusedSimpArgs false
section
set_option maxHeartbeats 4000000
set_option maxRecDepth 100000
namespace Go.Proofs.YtogicccdngpafaaGreatDoor.NText
open Go Go.RowKit Go.Shelf Go.Lib QW.PrintWords QW.PrintLast QW.PrintMore
open NState (Stp kStp format_calls formatF fmtL fmtX fmtN FormatPost wrong_calls awake_calls ItoaAt numL)
open NPlain (Ev Fits FitsP refFormat_ev sF C_sF sT C_sT C_ofT fewS fewS_len fewS_sizes fewS_ev same_ev itoa_len numL_len)
open PSame (netlabref33_Same.calls)
open PRFmt (netlabref33_Format.calls)
theorem listS_out (len : Nat) : ∀ (ts : List (Nat × List UInt8)) (r : RS), (listS len r ts).2.1.length ≤ ts.length
 | [], r => by unfold listS; split <;> simp
 | (a, x) :: ts, r => by
  unfold listS
  split
  ·split
   ·split
    ·simp
    ·have := listS_out len ts { r with at_ := a + x.length }
     simp only [List.length_cons]; omega
   ·simp
  ·simp
theorem oneS_sizes (len : Nat) (n : Int) (r : RS) (a : Nat) (x : List UInt8) (ts : List (Nat × List UInt8)) : (oneS len n r a x ts).2.2.1.f0.length ≤ ts.length ∧ (oneS len n r a x ts).2.2.1.f2.length ≤ ts.length ∧ (oneS len n r a x ts).2.2.2.length ≤ ts.length := by
 obtain ⟨⟨own, is⟩, hvb⟩ : ∃ p, valueL x = p := ⟨_, rfl⟩
 obtain ⟨S2, hS2⟩ : ∃ z, (if is = true then ({ r with at_ := a + x.length } : RS) else failS { r with at_ := a + x.length } a 3) = z := ⟨_, rfl⟩
 obtain ⟨sec, hsec⟩ : ∃ z, (peekT len ts).1 = z := ⟨_, rfl⟩
 obtain ⟨S3, hS3⟩ : ∃ z, (if sec = [] then failS S2 len 4 else if sec = [100] then (nextS len S2 ts).1 else S2) = z := ⟨_, rfl⟩
 obtain ⟨ts3, hts3⟩ : ∃ z, (if sec = [100] then (nextS len S2 ts).2 else ts) = z := ⟨_, rfl⟩
 obtain ⟨n1, hn1⟩ : ∃ z, (if sec = [] ∨ sec = [100] then n else n + 1) = z := ⟨_, rfl⟩
 obtain ⟨S4, hS4⟩ : ∃ z, (if own = n1 then S3 else failS S3 a 3) = z := ⟨_, rfl⟩
 obtain ⟨c, hc⟩ : ∃ z, (if decide (sec = [100]) = true then (S4, [], ts3) else listS len S4 ts3) = z := ⟨_, rfl⟩
 rw [oneS_eq hvb hS2 hsec hS3 hts3 hn1 hS4 rfl hc rfl]
 have h3 : ts3.length ≤ ts.length := by rw [← hts3]; split; exact nextS_le _ _ _; exact Nat.le_refl _
 have h1 : c.2.1.length ≤ ts.length ∧ c.2.2.length ≤ ts.length := by
  rw [← hc]
  split
  ·exact ⟨Nat.zero_le _, h3⟩
  ·exact ⟨Nat.le_trans (listS_out _ _ _) h3, Nat.le_trans (listS_le _ _ _) h3⟩
 exact ⟨h1.1, Nat.le_trans (listS_out _ _ _) h1.2, Nat.le_trans (listS_le _ _ _) h1.2⟩
theorem parseS_sizes (len : Nat) : ∀ (f : Nat) (n : Int) (r : RS) (ts : List (Nat × List UInt8)), (parseS len f n r ts).2.length ≤ f ∧ ∀ x ∈ (parseS len f n r ts).2, x.f0.length ≤ ts.length ∧ x.f2.length ≤ ts.length
 | 0, n, r, ts => ⟨Nat.zero_le _, fun x hx => by cases hx⟩
 | f + 1, n, r, [] => ⟨Nat.zero_le _, fun x hx => by cases hx⟩
 | f + 1, n, r, (a, x) :: ts => by
  rw [parseS]
  split
  ·obtain ⟨h0, h2, h3⟩ := oneS_sizes len n r a x ts
   obtain ⟨g1, g2⟩ := parseS_sizes len f (oneS len n r a x ts).2.1 (oneS len n r a x ts).1 (oneS len n r a x ts).2.2.2
   refine ⟨by simp only [List.length_cons]; omega, fun y hy => ?_⟩
   rcases List.mem_cons.1 hy with rfl | hy
   ·simp only [List.length_cons]; omega
   ·have := g2 y hy; simp only [List.length_cons]; omega
  ·exact ⟨Nat.zero_le _, fun y hy => by cases hy⟩
theorem parseT_sizes (len : Nat) (n : Int) (ts : List (Nat × List UInt8)) : (parseT len n ts).1.length ≤ ts.length ∧ ∀ x ∈ (parseT len n ts).1, x.f0.length ≤ ts.length ∧ x.f2.length ≤ ts.length := by
 unfold parseT
 have h := parseS_sizes len ts.length n ⟨0, 0, 0⟩ ts
 split
 ·exact ⟨Nat.zero_le _, fun x hx => by cases hx⟩
 ·split
  ·exact ⟨Nat.zero_le _, fun x hx => by cases hx⟩
  ·split
   ·exact h
   ·exact ⟨Nat.zero_le _, fun x hx => by cases hx⟩
theorem fmtL_len : ∀ (p : List Stp) (n : Int), FitsP p → 0 ≤ n → n + p.length ≤ 1000000000 → (fmtL n p).length ≤ 100000 * p.length
 | [], n, _, _, _ => by simp [fmtL]
 | x :: p, n, hf, h0, h1 => by
  obtain ⟨f0, f2, l0, l2⟩ := hf x List.mem_cons_self
  have k0 := numL_len _ f0
  have k2 := numL_len _ f2
  simp only [List.length_cons] at h1 ⊢
  have hm : 0 ≤ fmtN n x ∧ fmtN n x ≤ n + 1 := by unfold fmtN; split <;> omega
  have hi := itoa_len (x := fmtN n x) ⟨by omega, by omega⟩
  have ih := fmtL_len p (fmtN n x) (fun y hy => hf y (List.mem_cons_of_mem _ hy)) hm.1 (by omega)
  rw [fmtL, List.length_append]
  have hx : (fmtX n x).length ≤ 50000 := by
   unfold fmtX
   simp only [List.length_append, List.length_singleton]
   split
   ·simp only [List.length_singleton]; omega
   ·omega
  omega
theorem format_wrong (n : Int) (A2 : Option Addr) (c2 : Nat) (p : List Stp) (w : World) (hw : n < 0 ∨ 16384 < n) :
  Calls Tryz.prog 25 #[.int .i64 n, .slice A2 p.length c2] w (FormatPost w (formatF n p)) := by
 have HF : Az (formatF n p = ([], 1)) := ⟨by unfold formatF; rw [if_pos hw]⟩
 have hw' : (decide (n < 0) || decide (16384 < n)) = true := by simpa using hw
 clear hw
 go_enter Tryz.func25, Tryz.ntmps25
 go_wp2_with fail
 refine (wrong_calls n w).mono ?_
 rintro e w0 ⟨rfl, rfl⟩
 rw [hw']
 clear hw'
 go_wp2
 go_ret2
 exact ⟨by rw [HF.out]; rfl, Below.refl _ _⟩
theorem format_fits (n : Int) (A2 : Option Addr) (c2 : Nat) (p : List Stp) (w : World) (hr2 : Kd.C kStp w A2 p.length p) (hc2 : p.length ≤ c2) (hpl : p.length ≤ 100000) (hf : FitsP p) (ht : TabOK w) :
  Calls Tryz.prog 25 #[.int .i64 n, .slice A2 p.length c2] w (FormatPost w (formatF n p)) := by
 by_cases hw : n < 0 ∨ 16384 < n
 ·exact format_wrong n A2 c2 p w hw
 ·refine format_calls n A2 c2 p w hr2 hc2 (by omega) ?_ (fun m h1 h2 => itoa_at w ht m (by omega) (by omega)) (fun x hx => ?_)
  ·have := fmtL_len p n hf (by omega) (by omega); omega
  ·obtain ⟨f0, f2, _, _⟩ := hf x hx
   exact ⟨fun y hy => itoa_at w ht y (f0 y hy).1 (f0 y hy).2, fun y hy => itoa_at w ht y (f2 y hy).1 (f2 y hy).2⟩
theorem fits_few {p : List Stp} {most : Nat} (hf : ∀ x ∈ p, (∀ y ∈ x.f0, Fits y) ∧ (∀ y ∈ x.f2, Fits y)) : FitsP (fewS most p) := by
 intro x hx
 have hl := fewS_sizes hx
 unfold fewS at hx
 obtain ⟨y, hy, rfl⟩ := List.mem_map.1 hx
 obtain ⟨f0, f2⟩ := hf y (List.mem_of_mem_take hy)
 exact ⟨fun z hz => f0 z (List.mem_of_mem_take hz), fun z hz => f2 z (List.mem_of_mem_take hz), by omega, by omega⟩
theorem ptext_calls (n : Int) (A1 : Option Addr) (c1 : Nat) (p : List Stp) (s : ByteArray) (w : World) (hC : Kd.C kStp w A1 p.length p) (hc : p.length ≤ c1) (hfit : ∀ x ∈ p, (∀ y ∈ x.f0, Fits y) ∧ (∀ y ∈ x.f2, Fits y)) (htab : TabOK w) (hgok : GOK w) :
  Calls Tryz.prog 6 #[.int .i64 n, .slice A1 p.length c1, .string s] w fun e W' => e = .returned (.bool true) ∧ Below w.heap.size w W' := by
 obtain ⟨k0, hk0⟩ := fewS_ev 80 (by decide) p
 have hk0' := hk0 k0 (Nat.le_refl _)
 have hFP := fits_few (most := 80) hfit
 have hql := fewS_len 80 p
 generalize fewS 80 p = q at hk0' hFP hql
 obtain ⟨k1, hk1⟩ := refFormat_ev n q hFP (by omega)
 have hk1' := hk1 k1 (Nat.le_refl _)
 obtain ⟨s2, hs2⟩ : ∃ z, s.extract 0 (min (s.size : Int) 3000).toNat = z := ⟨_, rfl⟩
 have hs2l : s2.size ≤ 3000 := by rw [← hs2, extract_upto, size_eq, List.toList_toArray, List.length_take]; omega
 obtain ⟨ts, hts⟩ := tk_all s2.data.toList s2.data.toList.length 0 (Nat.zero_le _) (by omega)
 have htl := tk_count hts
 rw [← size_eq] at htl
 obtain ⟨z1, z2⟩ := parseT_sizes s2.size n ts
 obtain ⟨k2, hk2⟩ := same_ev (parseT s2.size n ts).1 (by omega) (fun x hx => by have := z2 x hx; omega)
 have hk2' := hk2 k2 (Nat.le_refl _)
 have HF := Az.mk hk0'
 have HRF := Az.mk hk1'
 have HSM := Az.mk hk2'
 have HFP := Az.mk hFP
 have HQL := Az.mk hql
 have HTS := Az.mk hts
 have HC := Az.mk hC
 have HCC := Az.mk hc
 have HTAB := Az.mk htab
 have HGOK := Az.mk hgok
 have HS2 := Az.mk hs2
 have H3 := Az.mk hs2l
 clear hk0 hk0' hk1 hk1' hk2 hk2' hFP hql hts htl z1 z2 hC hc htab hgok hfit hs2l hs2
 go_enter Tryz.func6, Tryz.ntmps6
 go_wp2_with fail
 have hft := PFewT.nfT.calls k0 A1 c1 (p.map sT) 80 (q.map sT) w (by rw [List.length_map]; exact C_sT HC.out) (by rw [List.length_map]; exact HCC.out) HF.out
 rw [List.length_map] at hft
 refine hft.mono ?_
 clear hft
 rintro e w1 ⟨v1, rfl, hs1, hb1⟩
 obtain ⟨Aq, cq, hv1, hl1, hC1⟩ := Kd.S_reads hs1
 rw [List.length_map] at hv1 hl1 hC1
 subst hv1
 have HQC := Az.mk (C_ofT hC1)
 have HQL1 := Az.mk hl1
 have HB1 := Az.mk hb1
 clear hs1 hb1 hl1 hC1
 go_wp2_with fail
 refine (format_fits n Aq cq q w1 HQC.out HQL1.out (by have := HQL.out; omega) HFP.out (HTAB.out.below HB1.out)).mono ?_
 rintro e w2 ⟨rfl, hb2⟩
 have HQC2 := Az.mk (Kd.C_below HQC.out hb2)
 have HB2 := Az.mk (bwt HB1.out hb2)
 clear hb2
 go_wp2_with fail
 have hrf := netlabref33_Format.calls k1 n Aq cq (q.map sF) _ _ w2 (by rw [List.length_map]; exact C_sF HQC2.out) (by rw [List.length_map]; exact HQL1.out) HRF.out
 rw [List.length_map] at hrf
 refine hrf.mono ?_
 clear hrf
 rintro e w3 ⟨rfl, hb3⟩
 have HB3 := Az.mk (bwt HB2.out hb3.below)
 clear hb3
 go_wp2_with fail
 rw [HS2.out]
 refine (parse_calls n s2 w3 (HGOK.out.below HB3.out) ts HTS.out).mono ?_
 rintro e w4 ⟨v4, rfl, hr4, hb4⟩
 obtain ⟨A4, c4, hv4, hl4, hC4⟩ := Kd.R_reads hr4
 subst hv4
 have HB4 := Az.mk (bwt HB3.out hb4)
 have HC4 := Az.mk hC4
 have HL4 := Az.mk hl4
 clear hr4 hb4 hl4 hC4
 go_wp2_with fail
 refine (refParse_calls n s2 w4 ts HTS.out).mono ?_
 rintro e w5 ⟨v5, rfl, hr5, hb5⟩
 obtain ⟨A5, c5, hv5, hl5, hC5⟩ := Kd.R_reads hr5
 subst hv5
 have HB5 := Az.mk (bwt HB4.out hb5)
 have HC5 := Az.mk hC5
 have HC45 := Az.mk (Kd.C_below HC4.out hb5)
 have HL5 := Az.mk hl5
 clear hr5 hb5 hl5 hC5
 have hsb : (({ data := (formatF n q).1.toArray } : ByteArray).toList == (sb (formatF n q).1).toList) = true := beq_self_eq_true _
 have HSM2 := HSM
 generalize ({ data := (formatF n q).1.toArray } : ByteArray) = b1 at hsb ⊢
 generalize sb (formatF n q).1 = b2 at hsb ⊢
 generalize (formatF n q).2 = fe at ⊢
 generalize parseT s2.size n ts = pr at HSM2 HC45 HC5 HL4 HL5 ⊢
 clear HSM HRF
 go_wp2_with (first | (go_at_call 18; refine (netlabref33_Same.calls k2 A4 c4 _ A5 c5 _ true w5 HC45.out HL4.out HC5.out HL5.out HSM2.out).mono ?_; rintro e w6 ⟨rfl, hb6⟩; have HB6 := Az.mk (bwt HB5.out hb6); clear hb6) | (go_at_call 20; refine (awake_calls w6).mono ?_; rintro e w7 ⟨rfl, hb7⟩; have HB7 := Az.mk (bwt HB6.out hb7); clear hb7))
 go_ret
 exact ⟨rfl, HB7.out⟩
end Go.Proofs.YtogicccdngpafaaGreatDoor.NText
end
