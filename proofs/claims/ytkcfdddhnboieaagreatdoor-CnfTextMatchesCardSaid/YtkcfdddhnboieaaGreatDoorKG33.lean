/-
  Part 33 of the proof of cnfTextMatches_card: walks and lemmas.
-/
import Derived.Test.YtkcfdddhnboieaaGreatDoorKG26
import Derived.Test.YtkcfdddhnboieaaGreatDoorKG13
import Derived.Test.YtkcfdddhnboieaaGreatDoorKG28
import Derived.Test.YtkcfdddhnboieaaGreatDoorKG31
import Derived.Test.YtkcfdddhnboieaaGreatDoorKG32
import Derived.Test.YtkcfdddhnboieaaGreatDoorKG24
import Derived.Deep.CutRange
import Derived.Deep.CutBlock
set_option linter.unusedVariables false
set_option linter.unusedSimpArgs false
section
set_option maxHeartbeats 4000000
set_option maxRecDepth 100000
namespace Go.Proofs.YtkcfdddhnboieaaGreatDoor.NState
open Go Go.RowKit Go.Shelf Go.Lib QW.PrintWords QW.PrintLast QW.PrintMore NMap
open PCheck (cnf_Check.f)
open PFew (nfC.calls)
open PSameC (netlabref32_Same.calls netlabref32_Same.f)
open NPlain (Ev.both LitOk FitsC Fits tot tot_le chkL check_code chk_lits few_ev same_self fewL fewL_len)
open NText (parseC parseC_calls rparse_calls ParseCPost commL fmt_len)
theorem parseC_sizes (len p : Nat) (ts : List (Nat × List UInt8)) (h : ts.length ≤ len) : (parseC len p ts).2.1.length ≤ len + 1 ∧ ∀ l ∈ (parseC len p ts).2.1, l.length ≤ len := by
 unfold parseC
 by_cases hl : 65536 < len
 ·rw [if_pos hl]; simp
 rw [if_neg hl]
 have hk : (NText.headS len p ts).1.2.length ≤ len := by
  refine Nat.le_trans (NText.wordT_le _ _ _ _) (Nat.le_trans (NText.wordT_le _ _ _ _) (Nat.le_trans (NText.wordT_le _ _ _ _) (Nat.le_trans (NText.wordT_le _ _ _ _) h)))
 have hs : (NText.bodyS len (NText.headS len p ts)).2.1.length ≤ (NText.headS len p ts).1.2.length + 1 ∧ tot (NText.bodyS len (NText.headS len p ts)).2.1 ≤ (NText.headS len p ts).1.2.length := NText.clsS_sizes len (NText.headS len p ts).2.2.toNat (NText.headS len p ts).1.1 (NText.headS len p ts).1.2
 unfold NText.tailS
 split
 ·split
  ·refine ⟨by show (NText.bodyS len (NText.headS len p ts)).2.1.length ≤ _; omega, fun l hl => ?_⟩
   have : l.length ≤ tot (NText.bodyS len (NText.headS len p ts)).2.1 := NText.len_tot hl
   omega
  ·simp
 ·simp
structure XOwed (k : Nat) (vars : Int) (cls L : List (List Int)) (v : Int) (D : List (List Int)) : Prop where
 few : PFew.nfC.f k vars cls 60 = some (vars, L)
 ck : cnf_Check.f k vars L = some (chkL vars L)
 same : netlabref32_Same.f k v D v D = some true
theorem xowed (vars : Int) (cls : List (List Int)) (v : Int) (D : List (List Int)) (h1 : D.length ≤ 1000000000) (h2 : ∀ l ∈ D, l.length ≤ 1000000000) : ∃ k, XOwed k vars cls (fewL 60 cls) v D := by
 have hL := fewL_len 60 cls
 have hl12 : ∀ l ∈ fewL 60 cls, l.length ≤ 12 := fun l hl => by
  obtain ⟨y, _, rfl⟩ := List.mem_map.1 hl
  rw [List.length_take]; omega
 have hf := few_ev 60 (by decide) vars cls
 generalize fewL 60 cls = L at hL hl12 hf ⊢
 have ht := tot_le 12 L hl12
 obtain ⟨K1, hK1⟩ := hf
 obtain ⟨K2, hK2⟩ := Ev.both (check_code vars L (by omega) (by omega) (fun l hl => by have := hl12 l hl; omega)) (same_self v D h1 h2)
 exact ⟨max K1 K2, hK1 _ (by omega), (hK2 _ (by omega)).1, (hK2 _ (by omega)).2⟩
theorem textm_calls (vars : Int) (A1 : Option Addr) (c1 : Nat) (cls : List (List Int)) (s : ByteArray) (w : World) (hr1 : Kd.C (Kd.slice 3 (Kd.int .i64)) w A1 cls.length cls) (hc1 : cls.length ≤ c1) (hg : NText.GOK w) (hm : NText.MOK w) (ht : TabOK w) :
  Calls Tryz.prog 5 #[.agg #[.int .i64 vars, .slice A1 cls.length c1], .string s] w (AwakePost w) := by
 obtain ⟨S, hS⟩ : ∃ S, s.extract 0 (min s.size 3000) = S := ⟨_, rfl⟩
 have hSs : S.size ≤ 3000 := by rw [← hS, ByteArray.size_extract]; omega
 obtain ⟨p, hp⟩ : ∃ p, S.size - (commL S.size S.data.toList).length = p := ⟨_, rfl⟩
 have hSl : S.data.toList.length = S.size := Array.length_toList
 obtain ⟨ts, hts⟩ := NText.tk_all S.data.toList S.size p (by rw [hSl]; omega) (by rw [hSl]; omega)
 have hcn := NText.tk_count hts
 have hsz := parseC_sizes S.size p ts (by rw [hSl] at hcn; omega)
 obtain ⟨o, ho⟩ : ∃ o, parseC S.size p ts = o := ⟨_, rfl⟩
 rw [ho] at hsz
 obtain ⟨k, hk⟩ := xowed vars cls o.1 o.2.1 (by omega) (fun l hl => by have := hsz.2 l hl; omega)
 have hL60 := fewL_len 60 cls
 have hL12 : ∀ l ∈ fewL 60 cls, l.length ≤ 12 := fun l hl => by
  obtain ⟨y, _, rfl⟩ := List.mem_map.1 hl
  rw [List.length_take]; omega
 generalize fewL 60 cls = L at hk hL60 hL12
 have htt := tot_le 12 L hL12
 have hok : chkL vars L = 0 → FmtOk vars L ∧ (∃ n : Nat, vars = n ∧ n ≤ 4096) ∧ FitsC L ∧ Fits vars := fun h => by
  obtain ⟨n, rfl, hn, hx⟩ := chk_lits h
  have h9 : ∀ l ∈ L, ∀ x ∈ l, -999999999 ≤ x ∧ x ≤ 999999999 := fun l hl x hxl => by obtain ⟨_, b, c⟩ := hx l hl x hxl; omega
  have := fmt_len n hn L hL60 hL12 h9
  exact ⟨⟨by omega, fun l hl x hxl => by have := h9 l hl x hxl; omega, by omega⟩, ⟨n, rfl, hn⟩, fun l hl => ⟨fun y hy => by have := h9 l hl y hy; exact ⟨by omega, by omega⟩, by have := hL12 l hl; omega⟩, ⟨by omega, by omega⟩⟩
 obtain ⟨e0, he0⟩ : ∃ e0, chkL vars L = e0 := ⟨_, rfl⟩
 have HE0 := Az.mk he0
 have HS := Az.mk hS
 have HPP := Az.mk hp
 have HTS := Az.mk hts
 have HO := Az.mk ho
 have HK := Az.mk hk
 have HL60 := Az.mk hL60
 have HTT := Az.mk htt
 have HOK := Az.mk hok
 have HR1 := Az.mk hr1
 have HC1 := Az.mk hc1
 have HG := Az.mk hg
 have HM := Az.mk hm
 have HT := Az.mk ht
 have HCA : Az (∀ W : World, Below w.heap.size w W → Calls Tryz.prog 31 #[.string S] W (ParseCPost W o) ∧ Calls Tryz.prog 32 #[.string S] W (ParseCPost W o)) := ⟨fun W hb => by
  have h1 := parseC_calls S W (HG.out.below hb) (HM.out.below hb) ts (by rw [HPP.out]; exact HTS.out)
  have h2 := rparse_calls S W ts (by rw [HPP.out]; exact HTS.out)
  rw [HPP.out, HO.out] at h1 h2
  exact ⟨h1, h2⟩⟩
 clear he0 hS hSs hp hSl hts hcn hsz ho hk hL60 hL12 htt hok hr1 hc1 hg hm ht HPP HTS HO
 obtain ⟨dv, D, da, de⟩ := o
 have hu24 := Tryz.underlying24
 go_enter Tryz.func5, Tryz.ntmps5
 go_wp2_with fail
 refine (nfC.calls k vars A1 c1 cls 60 vars L _ (Kd.C_alloc HR1.out _) HC1.out HK.out.few).mono ?_
 rintro e w1 ⟨v1, rfl, hs1, hb1⟩
 obtain ⟨Ax, cx, hvx, hlx, hCx⟩ := Kd.S_reads hs1
 subst hvx
 have HX := Az.mk hCx
 have HLX := Az.mk hlx
 have HB : Az (Below w.heap.size w w1) := ⟨bwt (below_new w _) hb1⟩
 clear hs1 hb1 hCx hlx HR1 HC1
 go_wp2_with fail
 have hba := below_new w1 (.cells #[.int .i64 vars, .slice Ax L.length cx] 24)
 have BX := Az.mk (blk_new w1 (.cells #[.int .i64 vars, .slice Ax L.length cx] 24))
 replace HX := Az.mk (Kd.C_below HX.out hba)
 replace HB := Az.mk (bwt HB.out hba)
 clear hba
 generalize w1.alloc (.cells #[.int .i64 vars, .slice Ax L.length cx] 24) = u1 at BX HX HB ⊢
 generalize w1.heap.size = gx at BX ⊢
 have hfc := formatC_calls k vars Ax cx L (chkL vars L) u1 HX.out HLX.out HK.out.ck (HT.out.below HB.out) (fun h => (HOK.out h).1) (fun h => (HOK.out h).2.1)
 obtain ⟨F, hF⟩ : ∃ F, formatC vars L (chkL vars L) = F := ⟨_, rfl⟩
 have HF := Az.mk hF
 rw [hF] at hfc
 clear hF
 refine hfc.mono ?_
 clear hfc
 rintro e w2 ⟨rfl, hb⟩
 replace BX := Az.mk (blk_below BX.out hb)
 replace HX := Az.mk (Kd.C_below HX.out hb)
 replace HB := Az.mk (bwt HB.out hb)
 clear hb
 have hx0 := (bkc BX.out 0).trans rfl
 have hx1 := (bkc BX.out 1).trans rfl
 go_wp2_with fail
 clear hx0 hx1
 have hfr := rformat_calls vars Ax cx L w2 HX.out HLX.out (by have := HL60.out; omega) (by have := HTT.out; have := HL60.out; omega) (fun h => (HOK.out h).2.2)
 rw [HF.out] at hfr
 refine hfr.mono ?_
 clear hfr
 rintro e w3 ⟨rfl, hb⟩
 replace HB := Az.mk (bwt HB.out hb)
 clear hb
 obtain ⟨FT, fe⟩ := F
 simp only
 generalize (⟨FT.toArray⟩ : ByteArray) = T
 go_wp2_with fail
 have hmn : (min (s.size : Int) 3000).toNat = min s.size 3000 := by omega
 rw [hmn, HS.out]
 clear hmn
 refine (HCA.out w3 HB.out).1.mono ?_
 rintro e w4 ⟨v4, rfl, hr4, hb⟩
 obtain ⟨Ad, cd, ed, hld, hCd⟩ := Kd.R_reads hr4
 subst ed
 replace HB := Az.mk (bwt HB.out hb)
 have HD := Az.mk hCd
 have HLD := Az.mk hld
 clear hb hr4 hCd hld
 simp only at HD HLD
 go_wp2_with fail
 have hba := below_new w4 (.cells #[.int .i64 dv, .slice Ad D.length cd] 24)
 have BD := Az.mk (blk_new w4 (.cells #[.int .i64 dv, .slice Ad D.length cd] 24))
 replace HD := Az.mk (Kd.C_below HD.out hba)
 replace HB := Az.mk (bwt HB.out hba)
 clear hba
 generalize w4.alloc (.cells #[.int .i64 dv, .slice Ad D.length cd] 24) = u4 at BD HD HB ⊢
 generalize w4.heap.size = gd at BD ⊢
 refine (HCA.out u4 HB.out).2.mono ?_
 rintro e w5 ⟨v5, rfl, hr5, hb⟩
 obtain ⟨Ah, ch, eh, hlh, hCh⟩ := Kd.R_reads hr5
 subst eh
 replace BD := Az.mk (blk_below BD.out hb)
 replace HD := Az.mk (Kd.C_below HD.out hb)
 replace HB := Az.mk (bwt HB.out hb)
 have HH := Az.mk hCh
 have HLH := Az.mk hlh
 clear hb hr5 hCh hlh
 simp only at HH HLH
 go_upto_region 7 with fail
 have hba := below_new w5 (.cells #[.int .i64 dv, .slice Ah D.length ch] 24)
 have BH := Az.mk (blk_new w5 (.cells #[.int .i64 dv, .slice Ah D.length ch] 24))
 replace BD := Az.mk (blk_below BD.out hba)
 replace HD := Az.mk (Kd.C_below HD.out hba)
 replace HH := Az.mk (Kd.C_below HH.out hba)
 replace HB := Az.mk (bwt HB.out hba)
 clear hba
 generalize w5.alloc (.cells #[.int .i64 dv, .slice Ah D.length ch] 24) = u5 at BD BH HD HH HB ⊢
 generalize w5.heap.size = gh at BH ⊢
 have hd0 := (bkc BD.out 0).trans rfl
 have hd1 := (bkc BD.out 1).trans rfl
 have hh0 := (bkc BH.out 0).trans rfl
 have hh1 := (bkc BH.out 1).trans rfl
 have hee : (fe == fe) = true := beq_self_eq_true _
 have hda : (da == da) = true := beq_self_eq_true _
 have hde : (de == de) = true := beq_self_eq_true _
 go_wp2_with (first | (go_at_call 23; refine (netlabref32_Same.calls k dv Ad cd D dv Ah ch D true u5 HD.out HLD.out HH.out HLH.out HK.out.same).mono ?_; rintro e w6 ⟨rfl, hb6⟩; have HB6 := Az.mk (bwt HB.out hb6); clear hb6) | (go_at_call 25; refine (awake_calls w6 (HG.out.below HB6.out) (HM.out.below HB6.out) (HT.out.below HB6.out)).mono ?_; rintro e w7 ⟨rfl, hb7⟩; have HB7 := Az.mk (bwt HB6.out hb7); clear hb7))
 go_ret
 exact ⟨rfl, HB7.out⟩
end Go.Proofs.YtkcfdddhnboieaaGreatDoor.NState
end
