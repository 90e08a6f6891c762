/-
  Part 29 of the proof of cnfText_card: walks and lemmas.
-/
import Derived.Test.YtkcfdddhnboieaaGreatDoorKF28
import Derived.Test.YtkcfdddhnboieaaGreatDoorKF15
import Derived.Test.YtkcfdddhnboieaaGreatDoorKF19
import Derived.Test.YtkcfdddhnboieaaGreatDoorKF26
import Derived.Test.YtkcfdddhnboieaaGreatDoorKF5
import Derived.Test.YtkcfdddhnboieaaGreatDoorKF10
import Derived.Lib.ConvBytes
import Derived.Laws.IdiomStrings
import Derived.Deep.CutRange
import Derived.Deep.CutBlock
set_option linter.unusedVariables false
set_option linter.unusedSimpArgs false
section
set_option maxHeartbeats 4000000
set_option maxRecDepth 100000
namespace Go.Proofs.YtkcfdddhnboieaaGreatDoor.NState
open Go Go.RowKit Go.Shelf Go.Lib QW.PrintWords QW.PrintLast QW.PrintMore NMap
open PCheck (cnf_Check.f)
open PFit (nFt.calls)
open PSameC (netlabref32_Same.calls netlabref32_Same.f netlabref32_EqClauses.f netlabref32_EqClauses.l0 netlabref32_EqInts.f netlabref32_EqInts.l0)
open NPlain (LitOk fit_ev Ev.both tot tot_le chkL check_code any_ok)
open NText (parseC parseC_calls ParseCPost commL preC modW modW_len mod_step mod_low parse_ok tk1 text2 fmt_len fmt_head mod_head comm_p comm_pre wordsC fst_words placeW)
theorem eqInts_selfN (l : List Int) (hl : l.length ≤ 1000000000) : NPlain.Ev (fun k => netlabref32_EqInts.f k l l) true := by
 have h : ∀ i, i ≤ l.length → NPlain.Ev (fun k => netlabref32_EqInts.l0 k l l (i : Int)) true := by
  refine NPlain.down (P := fun i => NPlain.Ev (fun k => netlabref32_EqInts.l0 k l l (i : Int)) true) ?_ ?_
  ·refine NPlain.Ev.succ ?_
   simp only [netlabref32_EqInts.l0]
   exact NPlain.Ev.neg (by omega) (NPlain.Ev.pure _)
  ·intro i hi ih
   refine NPlain.Ev.succ ?_
   simp only [netlabref32_EqInts.l0]
   refine NPlain.Ev.pos (by omega) (NPlain.Ev.pos (by omega) (NPlain.Ev.pos (by omega) (NPlain.Ev.pos trivial ?_)))
   rw [show wrap64 ((i : Int) + 1) = ((i + 1 : Nat) : Int) by unfold wrap64; omega]
   exact ih
 unfold netlabref32_EqInts.f
 exact NPlain.Ev.pos rfl (h 0 (Nat.zero_le _))
theorem same_self (v : Int) (L : List (List Int)) (hL : L.length ≤ 1000000000) (hl : ∀ l ∈ L, l.length ≤ 1000000000) : NPlain.Ev (fun k => netlabref32_Same.f k v L v L) true := by
 have h : ∀ i, i ≤ L.length → NPlain.Ev (fun k => netlabref32_EqClauses.l0 k L L (i : Int)) true := by
  refine NPlain.down (P := fun i => NPlain.Ev (fun k => netlabref32_EqClauses.l0 k L L (i : Int)) true) ?_ ?_
  ·refine NPlain.Ev.succ ?_
   simp only [netlabref32_EqClauses.l0]
   exact NPlain.Ev.neg (by omega) (NPlain.Ev.pure _)
  ·intro i hi ih
   refine NPlain.Ev.succ ?_
   simp only [netlabref32_EqClauses.l0]
   have e : PSameC.rL L (i : Int) = L[i] := by simp [PSameC.rL, hi]
   rw [e]
   refine NPlain.Ev.pos (by omega) (NPlain.Ev.pos (by omega) (NPlain.Ev.pos (by omega) (NPlain.Ev.bind (eqInts_selfN L[i] (hl _ (List.getElem_mem hi))) (NPlain.Ev.pos rfl ?_))))
   rw [show wrap64 ((i : Int) + 1) = ((i + 1 : Nat) : Int) by unfold wrap64; omega]
   exact ih
 unfold netlabref32_Same.f netlabref32_EqClauses.f
 refine NPlain.Ev.pos rfl (NPlain.Ev.bind ?_ (NPlain.Ev.pure _))
 exact NPlain.Ev.pos rfl (h 0 (Nat.zero_le _))
structure TOwed (k n : Nat) (L : List (List Int)) : Prop where
 ck : cnf_Check.f k n L = some 0
 z : chkL n L = 0
 same : netlabref32_Same.f k n L n L = some true
theorem towed {n : Nat} (hn : n ≤ 4096) {L : List (List Int)} (hL : L.length ≤ 60) (h : ∀ l ∈ L, l.length ≤ 12 ∧ ∀ x ∈ l, LitOk n x) : ∃ k, TOwed k n L := by
 have ht := tot_le 12 L (fun l hl => (h l hl).1)
 have hz : chkL n L = 0 := by
  unfold chkL
  rw [if_neg (by omega), if_neg (by omega), if_neg]
  rw [Bool.not_eq_true, List.any_eq_false]
  intro l hl
  rw [any_ok (by omega) (h l hl).2]; simp
 have h1 := check_code n L (by omega) (by omega) (fun l hl => by have := (h l hl).1; omega)
 rw [hz] at h1
 obtain ⟨K, hK⟩ := Ev.both h1 (same_self n L (by omega) (fun l hl => by have := (h l hl).1; omega))
 exact ⟨K, (hK K (Nat.le_refl _)).1, hz, (hK K (Nat.le_refl _)).2⟩
structure BR (W0 : World) (g : Nat) (A B : List UInt8) (i : Nat) (W : World) : Prop where
 blk : ∃ cells sz, W.heap[g]? = some (.cells cells 5 (sz, sz + 1)) ∧ B.length ≤ sz ∧ B.length ≤ cells.size
 cell : ∀ j, j < B.length → W.cell? ⟨g, j, none⟩ = some (.int .u8 (((if j < i then A else B).getD j 0).toNat : Int))
 hb : Below W0.heap.size W0 W
theorem BR.frozen {W0 W : World} {g i : Nat} {A B : List UInt8} (h : BR W0 g A B i W) (j : Nat) (hj : j < B.length) : W.frozen? ⟨g, j, none⟩ = false := by
 obtain ⟨cells, sz, h1, h2, _⟩ := h.blk
 simp only [World.frozen?, h1]
 simp
 omega
theorem BR.skip {W0 W : World} {g i : Nat} {A B : List UInt8} (h : BR W0 g A B i W) (he : A.getD i 0 = B.getD i 0) : BR W0 g A B (i + 1) W := by
 refine ⟨h.blk, fun j hj => ?_, h.hb⟩
 rw [h.cell j hj]
 by_cases hji : j < i
 ·rw [if_pos hji, if_pos (by omega)]
 ·rw [if_neg hji]
  by_cases hje : j = i
  ·subst hje; rw [if_pos (by omega), he]
  ·rw [if_neg (by omega)]
theorem BR.store {W0 W : World} {g i : Nat} {A B : List UInt8} (h : BR W0 g A B i W) (hg : W0.heap.size ≤ g) (hi : i < B.length) (ha : A.getD i 0 = 9) : BR W0 g A B (i + 1) (W.setCell ⟨g, i, none⟩ (.int .u8 9)) := by
 obtain ⟨cells, sz, h1, h2, h3⟩ := h.blk
 have hs : (W.setCell ⟨g, i, none⟩ (.int .u8 9)).heap[g]? = some (.cells (cells.setIfInBounds i (.int .u8 9)) 5 (sz, sz + 1)) := by simp [World.setCell, Array.getElem?_modify, h1]
 refine ⟨⟨_, sz, hs, h2, by simpa using h3⟩, fun j hj => ?_, bws h.hb hg⟩
 by_cases hji : j = i
 ·subst hji
  rw [if_pos (by omega), ha]
  simp only [World.cell?, hs]
  simp [show j < cells.size by omega]
 ·have hc := h.cell j hj
  simp only [World.cell?, h1] at hc
  simp only [World.cell?, hs]
  rw [Array.getElem?_setIfInBounds_ne (fun e => hji e.symm), hc]
  by_cases hlt : j < i
  ·rw [if_pos hlt, if_pos (by omega)]
  ·rw [if_neg hlt, if_neg (by omega)]
theorem bytesCells_ge (w : World) (e : TypeId) (s : ByteArray) : s.size ≤ (bytesCells w e s).size := by
 unfold bytesCells
 rw [Array.size_append, Array.size_map]
 exact Nat.le_add_right _ _
theorem parse_text (T : List UInt8) (p : Nat) (ts : List (Nat × List UInt8)) (o : Int × List (List Int) × Int × Int) (w : World) (hg : NText.GOK w) (hm : NText.MOK w) (hp : T.length - (commL T.length T).length = p) (ht : NText.Tk T p ts) (ho : parseC T.length p ts = o) : Calls Tryz.prog 31 #[.string ⟨T.toArray⟩] w (ParseCPost w o) := by
 have hsz : (⟨T.toArray⟩ : ByteArray).size = T.length := by simp [ByteArray.size]
 have h := parseC_calls ⟨T.toArray⟩ w hg hm ts (by rw [hsz]; show NText.Tk T (T.length - (commL T.length T).length) ts; rw [hp]; exact ht)
 rw [hsz] at h
 change Calls Tryz.prog 31 #[.string ⟨T.toArray⟩] w (ParseCPost w (parseC T.length (T.length - (commL T.length T).length) ts)) at h
 rw [hp, ho] at h
 exact h
theorem textw_calls (vars : Int) (A1 : Option Addr) (c1 : Nat) (cls : List (List Int)) (w : World) (hr1 : Kd.C (Kd.slice 3 (Kd.int .i64)) w A1 cls.length cls) (hc1 : cls.length ≤ c1) (hg : NText.GOK w) (hm : NText.MOK w) (ht : TabOK w) :
  Calls Tryz.prog 9 #[.agg #[.int .i64 vars, .slice A1 cls.length c1]] w (AwakePost w) := by
 obtain ⟨n, L, hn, hLl, hLok, kf, hkf⟩ := fit_ev 4096 60 (by decide) (by decide) vars cls
 obtain ⟨k, hk⟩ := towed hn hLl hLok
 have h9 : ∀ l ∈ L, ∀ x ∈ l, x ≠ 0 ∧ -999999999 ≤ x ∧ x ≤ 999999999 := fun l hl x hx => by obtain ⟨a, b, c⟩ := (hLok l hl).2 x hx; exact ⟨a, by omega, by omega⟩
 have hfl := fmt_len n hn L hLl (fun l hl => (hLok l hl).1) (fun l hl x hx => (h9 l hl x hx).2)
 have hp1 := parse_ok (fmtT n L).length 0 (by omega) n L (wordsC n L) (fst_words _ _) hn (by omega) h9 hk.z
 obtain ⟨us, hu1, hu2⟩ := text2 n L
 have hlen2 : (preC ++ modW 8 (fmtT n L)).length = 8 + (fmtT n L).length := by rw [List.length_append, modW_len]; rfl
 have hp2 := parse_ok (preC ++ modW 8 (fmtT n L)).length 8 (by omega) n L us hu1 hn (by omega) h9 hk.z
 have hF : formatC n L 0 = (fmtT n L, 0) := by unfold formatC; rw [if_pos rfl, if_pos (by omega)]
 have hOK : FmtOk n L := ⟨by omega, fun l hl x hx => by have := h9 l hl x hx; omega, by omega⟩
 have htk := tk1 n L
 have hlow := mod_low n L
 obtain ⟨t0, ht0⟩ := fmt_head n L
 have hstep := mod_step (fmtT n L)
 have hc1' : commL (fmtT n L).length (fmtT n L) = fmtT n L := by rw [ht0]; exact comm_p _ 112 (by decide) _
 have hc2' : (commL (preC ++ modW 8 (fmtT n L)).length (preC ++ modW 8 (fmtT n L))).length = (fmtT n L).length := by
  obtain ⟨t', ht'⟩ := mod_head t0
  obtain ⟨f, hf⟩ : ∃ f, (preC ++ modW 8 (fmtT n L)).length = f + 2 := ⟨(preC ++ modW 8 (fmtT n L)).length - 2, by omega⟩
  rw [hf, ht0, ht', comm_pre, ← ht', modW_len]
 have hT9 : 9 ≤ 8 + (fmtT n L).length := by rw [ht0]; simp; omega
 clear ht0
 generalize fmtT n L = T at hfl hp1 hu2 hlen2 hp2 hF htk hlow hstep hc1' hc2' hT9
 have HFIT := Az.mk (hkf kf (Nat.le_refl _))
 have HO := Az.mk hk
 have HN := Az.mk hn
 have HLL := Az.mk hLl
 have HFL := Az.mk hfl
 have HP1 := Az.mk hp1
 have HP2 := Az.mk hp2
 have HF := Az.mk hF
 have HOK := Az.mk hOK
 have HTK1 := Az.mk htk
 have HTK2 := Az.mk hu2
 have HLEN2 := Az.mk hlen2
 have HLOW := Az.mk hlow
 have HSTEP := Az.mk hstep
 have HCM1 := Az.mk hc1'
 have HCM2 := Az.mk hc2'
 have HT9 := Az.mk hT9
 have HR1 := Az.mk hr1
 have HC1 := Az.mk hc1
 have HG := Az.mk hg
 have HM := Az.mk hm
 have HT := Az.mk ht
 clear hn hLl hLok hkf hk h9 hfl hp1 hu1 hu2 hlen2 hp2 hF hOK htk hlow hstep hc1' hc2' hT9 hr1 hc1 hg hm ht
 have hu24 := Tryz.underlying24
 go_enter Tryz.func9, Tryz.ntmps9
 go_wp2_with fail
 refine (nFt.calls kf vars A1 c1 cls 4096 60 n L _ (Kd.C_alloc HR1.out _) HC1.out HFIT.out).mono ?_
 rintro e w1 ⟨v1, rfl, hs1, hb1⟩
 obtain ⟨Ax, cx, hvx, hlx, hCx⟩ := Kd.S_reads hs1
 subst hvx
 have HX := Az.mk hCx
 have HLX := Az.mk hlx
 have HB : Az (Below w.heap.size w w1) := ⟨bwt (below_new w _) hb1⟩
 clear hs1 hb1 hCx hlx HFIT HR1 HC1
 go_wp2_with fail
 have hba := below_new w1 (.cells #[.int .i64 n, .slice Ax L.length cx] 24)
 have BX := Az.mk (blk_new w1 (.cells #[.int .i64 n, .slice Ax L.length cx] 24))
 replace HX := Az.mk (Kd.C_below HX.out hba)
 replace HB := Az.mk (bwt HB.out hba)
 clear hba
 generalize w1.alloc (.cells #[.int .i64 n, .slice Ax L.length cx] 24) = u1 at BX HX HB ⊢
 generalize w1.heap.size = gx at BX ⊢
 have hfc := formatC_calls k n Ax cx L 0 u1 HX.out HLX.out HO.out.ck (HT.out.below HB.out) (fun _ => HOK.out) (fun _ => ⟨n, rfl, HN.out⟩)
 rw [HF.out] at hfc
 refine hfc.mono ?_
 clear hfc
 rintro e w2 ⟨rfl, hb⟩
 replace BX := Az.mk (blk_below BX.out hb)
 replace HX := Az.mk (Kd.C_below HX.out hb)
 replace HB := Az.mk (bwt HB.out hb)
 clear hb
 go_wp2_with fail
 refine (parse_text T 0 (placeW 0 (wordsC n L)) _ w2 (HG.out.below HB.out) (HM.out.below HB.out) (by rw [HCM1.out]; omega) HTK1.out HP1.out).mono ?_
 rintro e w3 ⟨v3, rfl, hr3, hb⟩
 obtain ⟨Ad, cd, ed, hld, hCd⟩ := Kd.R_reads hr3
 subst ed
 replace BX := Az.mk (blk_below BX.out hb)
 replace HX := Az.mk (Kd.C_below HX.out hb)
 replace HB := Az.mk (bwt HB.out hb)
 have HD := Az.mk hCd
 have HLD := Az.mk hld
 clear hb hr3 hCd hld
 have hcv : ∀ W : World, (convert 9 58 (.string (⟨#[99, 32, 111, 110, 101, 10, 99, 10]⟩ ++ ⟨T.toArray⟩))).run Tryz.prog W = .ok (.slice (some ⟨W.heap.size, 0, none⟩) (⟨#[99, 32, 111, 110, 101, 10, 99, 10]⟩ ++ ⟨T.toArray⟩ : ByteArray).size (grownCap W (⟨#[99, 32, 111, 110, 101, 10, 99, 10]⟩ ++ ⟨T.toArray⟩ : ByteArray).size 0 5)) (bytesWorld W 5 (⟨#[99, 32, 111, 110, 101, 10, 99, 10]⟩ ++ ⟨T.toArray⟩)) := fun W => Lib.run_convert_string_bytes W 9 58 5 _ Tryz.underlying9 Tryz.underlying58 Tryz.underlying5
 have hlim : ¬ (9223372036854775807 < 8 + T.length) := by have := HFL.out; omega
 go_wp2_with fail
 clear hcv hlim
 have hba := below_new w3 (.cells #[.int .i64 n, .slice Ad L.length cd] 24)
 have BD := Az.mk (blk_new w3 (.cells #[.int .i64 n, .slice Ad L.length cd] 24))
 have hgB : (w3.alloc (.cells #[.int .i64 n, .slice Ad L.length cd] 24)).heap.size = w3.heap.size + 1 := World.size_alloc _ _
 replace BX := Az.mk (blk_below BX.out hba)
 replace HX := Az.mk (Kd.C_below HX.out hba)
 replace HD := Az.mk (Kd.C_below HD.out hba)
 replace HB := Az.mk (bwt HB.out hba)
 clear hba
 generalize w3.alloc (.cells #[.int .i64 n, .slice Ad L.length cd] 24) = u3 at BD BX HX HD HB hgB ⊢
 generalize w3.heap.size + 1 = gB at hgB ⊢
 generalize w3.heap.size = gd at BD ⊢
 have HGB := Az.mk hgB
 obtain ⟨S2, hS2⟩ : ∃ S2 : ByteArray, (⟨#[99, 32, 111, 110, 101, 10, 99, 10]⟩ ++ ⟨T.toArray⟩ : ByteArray) = S2 := ⟨_, rfl⟩
 have hdl : S2.data.toList = preC ++ T := by rw [← hS2]; simp [preC]
 have hsz2 : S2.size = (preC ++ T).length := by rw [← hdl]; exact Array.length_toList.symm
 rw [hS2]
 clear hS2
 have hBl : (preC ++ T).length = 8 + T.length := by rw [List.length_append]; rfl
 obtain ⟨N, hN⟩ : ∃ N, 8 + T.length = N := ⟨_, rfl⟩
 have HNL : Az (9 ≤ N ∧ N ≤ 60008) := ⟨by have := HT9.out; have := HFL.out; omega⟩
 rw [hN] at hBl HLEN2 HSTEP ⊢
 obtain ⟨A, hA⟩ : ∃ A, preC ++ modW 8 T = A := ⟨_, rfl⟩
 obtain ⟨B, hB⟩ : ∃ B, preC ++ T = B := ⟨_, rfl⟩
 have HCM3 : Az (A.length - (commL A.length A).length = 8) := ⟨by
  have h1 := HCM2.out
  have h2 := HLEN2.out
  rw [hA] at h1 h2
  omega⟩
 rw [hA] at HP2 HTK2 HLEN2 HLOW HSTEP
 rw [hB] at hdl hsz2 hBl HLOW HSTEP
 clear hA hB HCM2 HCM1 HP1 HTK1 HF HOK hN HT9 HFL
 have BR0 : Az (BR u3 gB A B 9 (bytesWorld u3 5 S2)) := ⟨⟨⟨_, _, by rw [← hgB]; exact bytesWorld_at_new u3 5 S2, by rw [← hsz2]; exact bytesCells_ge _ _ _, by rw [← hsz2]; exact bytesCells_ge _ _ _⟩, fun j hj => by
  rw [← hgB, bytesWorld_cell u3 5 S2 j (by rw [hsz2]; exact hj), hdl]
  by_cases h9 : j < 9
  ·rw [if_pos h9, HLOW.out j h9]
  ·rw [if_neg h9], NText.bytes_below u3 5 S2⟩⟩
 generalize bytesWorld u3 5 S2 = W4 at BR0 ⊢
 generalize grownCap u3 N 0 5 = cB
 have HBL := Az.mk hBl
 clear hBl hsz2 hdl hgB HLOW
 go_loopw [10] (fun v10 wr => ∃ i : Nat, v10 = .int .i64 i ∧ 9 ≤ i ∧ i ≤ N ∧ Az (BR u3 gB A B i wr)) (fun v10 _ => N - (Go.RowKit.intOf v10).toNat)
 case atStart => exact ⟨9, rfl, Nat.le_refl _, HNL.out.1, BR0⟩
 case round =>
  clear BR0
  obtain ⟨i, rfl, h9, hi, HBR⟩ := hrel
  by_cases hlt : i < N
  ·have hci := HBR.out.cell i (by rw [HBL.out]; exact hlt)
   rw [if_neg (Nat.lt_irrefl _)] at hci
   have hfi := HBR.out.frozen i (by rw [HBL.out]; exact hlt)
   have HST := Az.mk (HSTEP.out i (by omega) hlt)
   obtain ⟨c, hc⟩ : ∃ c, B.getD i 0 = c := ⟨_, rfl⟩
   rw [hc] at hci HST
   have HC := Az.mk hc
   clear hc
   have p1 : ((0 : Int) ≤ (i : Int)) = True := eq_true (by omega)
   have p2 : ((i : Int) < (N : Int)) = True := eq_true (by omega)
   have hwi : wrap64 ((i : Int) + 1) = ((i + 1 : Nat) : Int) := wrap_succ hlt (by have := HNL.out.2; omega)
   by_cases h10 : c = 10
   ·subst h10
    replace hci : wr.cell? ⟨gB, i, none⟩ = some (.int .u8 10) := hci
    by_cases h2 : i % 2 = 0
    ·have hr : (Int.tmod (i : Int) 2 == 0) = true := by rw [Int.tmod_eq_emod_of_nonneg (by omega), beq_iff_eq]; omega
     rw [if_pos ⟨rfl, h2⟩] at HST
     go_wp2
     go_roundw
     case rel => exact ⟨i + 1, by rw [hwi], by omega, by omega, ⟨HBR.out.store (Nat.le_of_eq HGB.out) (by rw [HBL.out]; exact hlt) HST.out⟩⟩
     case measure => exact meas_x hlt hwi
    ·have hr : (Int.tmod (i : Int) 2 == 0) = false := by rw [Int.tmod_eq_emod_of_nonneg (by omega), beq_eq_false_iff_ne]; omega
     rw [if_neg (fun h => h2 h.2)] at HST
     go_wp2
     go_roundw
     case rel => exact ⟨i + 1, by rw [hwi], by omega, by omega, ⟨HBR.out.skip (by rw [HST.out, HC.out])⟩⟩
     case measure => exact meas_x hlt hwi
   ·have hcb : ((c.toNat : Int) == 10) = false := by
     rw [beq_eq_false_iff_ne]
     intro h
     exact h10 (UInt8.toNat_inj.1 (show c.toNat = (10 : UInt8).toNat by show c.toNat = 10; omega))
    rw [if_neg (fun h => h10 h.1)] at HST
    clear h10
    go_wp2
    go_roundw
    case rel => exact ⟨i + 1, by rw [hwi], by omega, by omega, ⟨HBR.out.skip (by rw [HST.out, HC.out])⟩⟩
    case measure => exact meas_x hlt hwi
  ·obtain rfl : i = N := by omega
   clear hlt hi h9
   have hcv2 := run_convert_bytes_back (P := Tryz.prog) wr 58 9 5 ⟨gB, 0, none⟩ cB A Tryz.underlying58 Tryz.underlying5 Tryz.underlying9 (fun j hj => by
    rw [QW.PrintWords.add_plain, HBR.out.cell j (by rw [HBL.out, ← HLEN2.out]; exact hj), if_pos (by rw [← HLEN2.out]; exact hj)]
    congr 3
    simp [List.getD, hj])
   rw [HLEN2.out] at hcv2
   replace BX := Az.mk (blk_below BX.out HBR.out.hb)
   replace BD := Az.mk (blk_below BD.out HBR.out.hb)
   replace HX := Az.mk (Kd.C_below HX.out HBR.out.hb)
   replace HD := Az.mk (Kd.C_below HD.out HBR.out.hb)
   replace HB := Az.mk (bwt HB.out HBR.out.hb)
   clear HBR
   go_wp2_with fail
   clear hcv2
   refine (parse_text A 8 (placeW 8 us) _ wr (HG.out.below HB.out) (HM.out.below HB.out) HCM3.out HTK2.out HP2.out).mono ?_
   rintro e w6 ⟨v6, rfl, hr6, hb⟩
   obtain ⟨Ah, ch, eh, hlh, hCh⟩ := Kd.R_reads hr6
   subst eh
   replace BX := Az.mk (blk_below BX.out hb)
   replace BD := Az.mk (blk_below BD.out hb)
   replace HX := Az.mk (Kd.C_below HX.out hb)
   replace HD := Az.mk (Kd.C_below HD.out hb)
   replace HB := Az.mk (bwt HB.out hb)
   have HH := Az.mk hCh
   have HLH := Az.mk hlh
   clear hb hr6 hCh hlh
   have hx0 := (bkc (bka BX.out (.cells #[.int .i64 n, .slice Ah L.length ch] 24)) 0).trans rfl
   have hx1 := (bkc (bka BX.out (.cells #[.int .i64 n, .slice Ah L.length ch] 24)) 1).trans rfl
   have hd0 := (bkc (bka BD.out (.cells #[.int .i64 n, .slice Ah L.length ch] 24)) 0).trans rfl
   have hd1 := (bkc (bka BD.out (.cells #[.int .i64 n, .slice Ah L.length ch] 24)) 1).trans rfl
   go_wp2_with fail
   clear hx0 hx1 hd0 hd1
   have hba := below_new w6 (.cells #[.int .i64 n, .slice Ah L.length ch] 24)
   have BH := Az.mk (blk_new w6 (.cells #[.int .i64 n, .slice Ah L.length ch] 24))
   replace BX := Az.mk (blk_below BX.out hba)
   replace HX := Az.mk (Kd.C_below HX.out hba)
   replace HD := Az.mk (Kd.C_below HD.out hba)
   replace HH := Az.mk (Kd.C_below HH.out hba)
   replace HB := Az.mk (bwt HB.out hba)
   clear hba
   generalize w6.alloc (.cells #[.int .i64 n, .slice Ah L.length ch] 24) = u7 at BH BX HX HD HH HB ⊢
   generalize w6.heap.size = gh at BH ⊢
   refine (netlabref32_Same.calls k n Ad cd L n Ax cx L true u7 HD.out HLD.out HX.out HLX.out HO.out.same).mono ?_
   rintro e w8 ⟨rfl, hb⟩
   replace BX := Az.mk (blk_below BX.out hb)
   replace BH := Az.mk (blk_below BH.out hb)
   replace HX := Az.mk (Kd.C_below HX.out hb)
   replace HH := Az.mk (Kd.C_below HH.out hb)
   replace HB := Az.mk (bwt HB.out hb)
   clear hb
   have hx0 := (bkc BX.out 0).trans rfl
   have hx1 := (bkc BX.out 1).trans rfl
   have hh0 := (bkc BH.out 0).trans rfl
   have hh1 := (bkc BH.out 1).trans rfl
   go_wp2_with fail
   clear hx0 hx1 hh0 hh1
   refine (netlabref32_Same.calls k n Ah ch L n Ax cx L true w8 HH.out HLH.out HX.out HLX.out HO.out.same).mono ?_
   rintro e w9 ⟨rfl, hb⟩
   replace HB := Az.mk (bwt HB.out hb)
   clear hb
   go_wp2_with fail
   refine (awake_calls w9 (HG.out.below HB.out) (HM.out.below HB.out) (HT.out.below HB.out)).mono ?_
   rintro e wz ⟨rfl, hb⟩
   replace HB := Az.mk (bwt HB.out hb)
   clear hb
   go_wp2
   go_ret
   exact ⟨rfl, HB.out⟩
end Go.Proofs.YtkcfdddhnboieaaGreatDoor.NState
end
