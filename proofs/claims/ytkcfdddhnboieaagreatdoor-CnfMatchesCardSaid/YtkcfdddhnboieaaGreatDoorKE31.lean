/-
  Part 31 of the proof of cnfMatches_card: walks and lemmas.
-/
import Derived.Test.YtkcfdddhnboieaaGreatDoorKE26
import Derived.Test.YtkcfdddhnboieaaGreatDoorKE30
import Derived.Test.YtkcfdddhnboieaaGreatDoorKE24
import Derived.Deep.CutRange
import Derived.Deep.CutBlock
set_option linter.unusedVariables false
set_option linter.unusedSimpArgs false
section
set_option maxHeartbeats 4000000
set_option maxRecDepth 100000
namespace Go.Proofs.YtkcfdddhnboieaaGreatDoor.NState
open Go Go.RowKit Go.Shelf Go.Lib QW.PrintWords QW.PrintLast QW.PrintMore NMap
open PCheck (cnf_Check.f)
open PFew (nfC.calls)
open PSameC (netlabref32_Same.calls netlabref32_EqInts.calls)
open NPlain (MOwed mowed chkL fewL fewL_len trivA)
theorem C_prefix {w : World} {A : Option Addr} {l : List Int} (m : Nat) (hm : m ≤ l.length) (h : (Kd.int .i64).C w A l.length l) : (Kd.int .i64).C w A (l.take m).length (l.take m) := by
 obtain ⟨_, h2, h3⟩ := h
 refine ⟨rfl, by simp; omega, fun hn => ?_⟩
 obtain ⟨ad, e, hc⟩ := h3 (by simp at hn; omega)
 refine ⟨ad, e, fun j p hj => hc j p ?_⟩
 rw [List.getElem?_take] at hj
 split at hj
 ·exact hj
 ·cases hj
def matR9.T : Bool × List (List Nat × List Nat) := (true, [([], []), ([0], [0]), ([], []), ([2, 1], [2]), ([1, 3], [1, 3]), ([4, 3], [4]), ([5], [5]), ([5], [5]), ([6, 7, 5], [5, 6, 7]), ([5, 8], [5, 8]), ([9, 5], [9]), ([10], [10]), ([10], [10]), ([11, 12, 10, 10], [10, 11, 12]), ([10, 13], [10, 13]), ([14, 13], [14]), ([15], [15]), ([15], [15]), ([16, 17, 15], [15, 16, 17]), ([15, 18], [15, 18]), ([19, 15], [19]), ([20], [20]), ([20], [20]), ([21, 22, 20], [20, 21, 22]), ([20, 23], [20, 23]), ([24, 20], [24]), ([25], [25]), ([25], [25]), ([26, 27, 25, 25], [25, 26, 27]), ([25, 28], [25, 28]), ([29, 28], [29]), ([30], [30]), ([30], [30]), ([31, 32, 30], [30, 31, 32]), ([30, 33], [30, 33]), ([34, 30], [34]), ([35], [35]), ([35], [35]), ([36, 37, 35], [35, 36, 37]), ([35, 38], [35, 38]), ([39, 35], [39]), ([40], [40]), ([40], [40]), ([42, 40, 40], [40, 42]), ([41, 43, 43, 40], [40, 41, 43]), ([40, 44], [40, 44]), ([45, 44], [45]), ([46, 46], [46]), ([46, 47], [46, 47]), ([48, 47, 0, 1, 2, 3, 4, 5, 6, 7, 8, 9, 10, 11, 12, 13, 14, 15, 16, 17, 18, 19, 20, 21, 22, 23, 24, 25, 26, 27, 28, 29, 30, 31, 32, 33, 34, 35, 36, 37, 38, 39, 40, 41, 42, 43, 44, 45, 46, 47, 48], [48])])
def matR9.B : List Nat := [0, 1, 0, 7, 15, 31, 63, 63, 255, 511, 1023, 2047, 2047, 8191, 16383, 32767, 65535, 65535, 262143, 524287, 1048575, 2097151, 2097151, 8388607, 16777215, 33554431, 67108863, 67108863, 268435455, 536870911, 1073741823, 2147483647, 2147483647, 8589934591, 17179869183, 34359738367, 68719476735, 68719476735, 274877906943, 549755813887, 1099511627775, 2199023255551, 2199023255551, 6597069766655, 17592186044415, 35184372088831, 70368744177663, 140737488355327, 281474976710655, 562949953421311]
theorem matR9.tab : rtab .any (opsOf Tryz.f3 9) = matR9.T := by kernel_rfl
theorem matR9.bits : waitsOk matR9.T.2 matR9.B = true := by kernel_rfl
theorem matches_calls (vars : Int) (A1 : Option Addr) (c1 : Nat) (cls : List (List Int)) (A2 : Option Addr) (c2 : Nat) (m : List Bool) (A0 : Option Addr) (c0 : Nat) (l0 : List Int) (w : World)
  (hr1 : Kd.C (Kd.slice 3 (Kd.int .i64)) w A1 cls.length cls) (hc1 : cls.length ≤ c1) (hr2 : Kd.C Kd.bool w A2 m.length m) (hc2 : m.length ≤ c2) (hr0 : Kd.C (Kd.int .i64) w A0 l0.length l0) (hc0 : l0.length ≤ c0) (hg : NText.GOK w) (hm : NText.MOK w) (ht : TabOK w) :
  Calls Tryz.prog 3 #[.agg #[.int .i64 vars, .slice A1 cls.length c1], .slice A2 m.length c2, .slice A0 l0.length c0] w (AwakePost w) := by
 obtain ⟨k, r, c, er, ho⟩ := mowed vars cls m l0
 have hL60 := fewL_len 60 cls
 have hL12 : ∀ l ∈ fewL 60 cls, l.length ≤ 12 := fun l hl => by
  obtain ⟨y, _, rfl⟩ := List.mem_map.1 hl
  rw [List.length_take]; omega
 generalize fewL 60 cls = L at ho hL60 hL12
 have HO := Az.mk ho
 have HL60 := Az.mk hL60
 have HL12 := Az.mk hL12
 have HR1 := Az.mk hr1
 have HR2 := Az.mk hr2
 have HR0 := Az.mk hr0
 have HC1 := Az.mk hc1
 have HC2 := Az.mk hc2
 have HC0 := Az.mk hc0
 have HG := Az.mk hg
 have HM := Az.mk hm
 have HT := Az.mk ht
 clear ho hL60 hL12 hr1 hr2 hr0 hc1 hc2 hg hm ht
 have hu24 := Tryz.underlying24
 go_enter Tryz.func3, Tryz.ntmps3
 go_wp2_with fail
 refine (nfC.calls k vars A1 c1 cls 60 vars L _ (Kd.C_alloc HR1.out _) HC1.out HO.out.few).mono ?_
 rintro e w1 ⟨v1, rfl, hs1, hb1⟩
 obtain ⟨Ax, cx, hvx, hlx, hCx⟩ := Kd.S_reads hs1
 subst hvx
 have HLX := Az.mk hlx
 have BC := Az.mk (blk_below (blk_new w (.cells #[.int .i64 vars, .slice A1 cls.length c1] 24)) hb1)
 have HB := Az.mk (bwt (below_new w (.cells #[.int .i64 vars, .slice A1 cls.length c1] 24)) hb1)
 have HX := Az.mk hCx
 clear hs1 hb1 hCx hlx
 go_wp2_with fail
 have hn : (min ((l0.length : Nat) : Int) 12).toNat = (l0.take 12).length := by simp; omega
 rw [hn]
 have HC0t : Az ((l0.take 12).length ≤ c0) := ⟨by have := HC0.out; simp; omega⟩
 have HR0t := Az.mk (C_prefix (l0.take 12).length (by simp; omega) HR0.out)
 have hid : l0.take (l0.take 12).length = l0.take 12 := by rw [List.length_take]; rw [List.take_eq_take_iff]; omega
 rw [hid] at HR0t
 clear hn hid hc0
 generalize l0.take 12 = lt at HO HC0t HR0t ⊢
 have hba := below_new w1 (.cells #[.int .i64 vars, .slice Ax L.length cx] 24)
 have BX := Az.mk (blk_new w1 (.cells #[.int .i64 vars, .slice Ax L.length cx] 24))
 replace HX := Az.mk (Kd.C_below HX.out hba)
 replace BC := Az.mk (blk_below BC.out hba)
 replace HB := Az.mk (bwt HB.out hba)
 clear hba
 generalize w1.alloc (.cells #[.int .i64 vars, .slice Ax L.length cx] 24) = u1 at BX HX BC HB ⊢
 generalize w1.heap.size = gx at BX ⊢
 refine (normal_any k k vars Ax cx L (chkL vars L) _ HX.out HLX.out HO.out.chk (by have := HL60.out; omega) (fun l hl => by have := HL12.out l hl; omega) HO.out.ok1).mono ?_
 obtain ⟨nf, hnf⟩ : ∃ nf, normF (chkL vars L) vars L = nf := ⟨_, rfl⟩
 have HNF := Az.mk hnf
 rw [hnf]
 clear hnf
 obtain ⟨nv, N, ne⟩ := nf
 rintro e w2 ⟨Aa, ca, rfl, hca, hCa, hb⟩
 replace HX := Az.mk (Kd.C_below HX.out hb)
 replace BC := Az.mk (blk_below BC.out hb)
 replace BX := Az.mk (blk_below BX.out hb)
 replace HB := Az.mk (bwt HB.out hb)
 have HA := Az.mk hCa
 have HLA := Az.mk hca
 clear hb hCa hca
 have hx0 := (bkc (bka BX.out (.cells #[.int .i64 nv, .slice Aa N.length ca] 24)) 0).trans rfl
 have hx1 := (bkc (bka BX.out (.cells #[.int .i64 nv, .slice Aa N.length ca] 24)) 1).trans rfl
 go_wp2_with fail
 clear hx0 hx1
 have hba := below_new w2 (.cells #[.int .i64 nv, .slice Aa N.length ca] 24)
 have BA := Az.mk (blk_new w2 (.cells #[.int .i64 nv, .slice Aa N.length ca] 24))
 replace HX := Az.mk (Kd.C_below HX.out hba)
 replace HA := Az.mk (Kd.C_below HA.out hba)
 replace BC := Az.mk (blk_below BC.out hba)
 replace BX := Az.mk (blk_below BX.out hba)
 replace HB := Az.mk (bwt HB.out hba)
 clear hba
 generalize w2.alloc (.cells #[.int .i64 nv, .slice Aa N.length ca] 24) = u2 at BA HX HA BC BX HB ⊢
 generalize w2.heap.size = ga at BA ⊢
 refine (rnormal_any k vars Ax cx L _ HX.out HLX.out HO.out.chkR (by have := HL60.out; omega) HO.out.rn).mono ?_
 rw [HNF.out]
 rintro e w3 ⟨Ab, cb, rfl, hcb, hCb, hb⟩
 replace HX := Az.mk (Kd.C_below HX.out hb)
 replace HA := Az.mk (Kd.C_below HA.out hb)
 replace BC := Az.mk (blk_below BC.out hb)
 replace BX := Az.mk (blk_below BX.out hb)
 replace BA := Az.mk (blk_below BA.out hb)
 replace HB := Az.mk (bwt HB.out hb)
 have HN := Az.mk hCb
 have HLN := Az.mk hcb
 clear hb hCb hcb
 have hx0 := (bkc (bka BX.out (.cells #[.int .i64 nv, .slice Ab N.length cb] 24)) 0).trans rfl
 have hx1 := (bkc (bka BX.out (.cells #[.int .i64 nv, .slice Ab N.length cb] 24)) 1).trans rfl
 go_wp2_with fail
 clear hx0 hx1
 have hba := below_new w3 (.cells #[.int .i64 nv, .slice Ab N.length cb] 24)
 have BB := Az.mk (blk_new w3 (.cells #[.int .i64 nv, .slice Ab N.length cb] 24))
 replace HX := Az.mk (Kd.C_below HX.out hba)
 replace HA := Az.mk (Kd.C_below HA.out hba)
 replace HN := Az.mk (Kd.C_below HN.out hba)
 replace BC := Az.mk (blk_below BC.out hba)
 replace BX := Az.mk (blk_below BX.out hba)
 replace BA := Az.mk (blk_below BA.out hba)
 replace HB := Az.mk (bwt HB.out hba)
 clear hba
 generalize w3.alloc (.cells #[.int .i64 nv, .slice Ab N.length cb] 24) = u3 at BB HX HA HN BC BX BA HB ⊢
 generalize w3.heap.size = gb at BB ⊢
 refine (eval_calls k vars Ax cx L A2 c2 m (chkL vars L) _ HX.out HLX.out (Kd.C_below HR2.out HB.out) HO.out.chk HO.out.lit).mono ?_
 obtain ⟨ef, hef⟩ : ∃ ef, evalF (chkL vars L) vars L m = ef := ⟨_, rfl⟩
 have HEF := Az.mk hef
 rw [hef]
 clear hef
 rintro e w4 ⟨rfl, hb⟩
 replace HX := Az.mk (Kd.C_below HX.out hb)
 replace HA := Az.mk (Kd.C_below HA.out hb)
 replace HN := Az.mk (Kd.C_below HN.out hb)
 replace BC := Az.mk (blk_below BC.out hb)
 replace BX := Az.mk (blk_below BX.out hb)
 replace BA := Az.mk (blk_below BA.out hb)
 replace BB := Az.mk (blk_below BB.out hb)
 replace HB := Az.mk (bwt HB.out hb)
 clear hb
 have hx0 := (bkc BX.out 0).trans rfl
 have hx1 := (bkc BX.out 1).trans rfl
 go_wp2_with fail
 clear hx0 hx1
 refine (reval_calls k vars Ax cx L A2 c2 m (chkL vars L) _ HX.out HLX.out (Kd.C_below HR2.out HB.out) HC2.out HO.out.chkR HO.out.all).mono ?_
 rw [HEF.out]
 obtain ⟨ev, ee⟩ := ef
 rintro e w5 ⟨rfl, hb⟩
 replace HX := Az.mk (Kd.C_below HX.out hb)
 replace HA := Az.mk (Kd.C_below HA.out hb)
 replace HN := Az.mk (Kd.C_below HN.out hb)
 replace BC := Az.mk (blk_below BC.out hb)
 replace BX := Az.mk (blk_below BX.out hb)
 replace BA := Az.mk (blk_below BA.out hb)
 replace BB := Az.mk (blk_below BB.out hb)
 replace HB := Az.mk (bwt HB.out hb)
 clear hb
 have hx0 := (bkc BX.out 0).trans rfl
 have hx1 := (bkc BX.out 1).trans rfl
 go_wp2_with fail
 clear hx0 hx1
 refine (propagate_any k vars Ax cx L A0 c0 lt r c er _ HX.out HLX.out (Kd.C_below HR0t.out HB.out) HO.out.chk HO.out.pis).mono ?_
 rintro e w6 ⟨vp, rfl, hrp, hb⟩
 replace HX := Az.mk (Kd.C_below HX.out hb)
 replace HA := Az.mk (Kd.C_below HA.out hb)
 replace HN := Az.mk (Kd.C_below HN.out hb)
 replace BC := Az.mk (blk_below BC.out hb)
 replace BX := Az.mk (blk_below BX.out hb)
 replace BA := Az.mk (blk_below BA.out hb)
 replace BB := Az.mk (blk_below BB.out hb)
 replace HB := Az.mk (bwt HB.out hb)
 obtain ⟨Ap, cp, ep, hlp, hCp⟩ := Kd.R_reads hrp
 subst ep
 have HP := Az.mk hCp
 have HLP := Az.mk hlp
 clear hb hrp hCp hlp
 have hx0 := (bkc BX.out 0).trans rfl
 have hx1 := (bkc BX.out 1).trans rfl
 go_wp2_with fail
 clear hx0 hx1
 refine (PRPropg.netlabref32_Propagate.calls k vars Ax cx L A0 c0 lt r c er _ HX.out HLX.out (Kd.C_below HR0t.out HB.out) HC0t.out HO.out.prp).mono ?_
 rintro e w7 ⟨vq, rfl, hrq, hb⟩
 replace HX := Az.mk (Kd.C_below HX.out hb)
 replace HA := Az.mk (Kd.C_below HA.out hb)
 replace HN := Az.mk (Kd.C_below HN.out hb)
 replace HP := Az.mk (Kd.C_below HP.out hb)
 replace BC := Az.mk (blk_below BC.out hb)
 replace BX := Az.mk (blk_below BX.out hb)
 replace BA := Az.mk (blk_below BA.out hb)
 replace BB := Az.mk (blk_below BB.out hb)
 replace HB := Az.mk (bwt HB.out hb)
 obtain ⟨Aq, cq, eq, hlq, hCq⟩ := Kd.R_reads hrq
 subst eq
 have HQ := Az.mk hCq
 have HLQ := Az.mk hlq
 clear hb hrq hCq hlq
 go_upto_region 9 with fail
 have HX8 := Az.mk (Kd.C_drew HX.out)
 have HA8 := Az.mk (Kd.C_drew HA.out)
 have HN8 := Az.mk (Kd.C_drew HN.out)
 have HP8 := Az.mk (Kd.C_drew HP.out)
 have HQ8 := Az.mk (Kd.C_drew HQ.out)
 have BC8 := Az.mk (bkd BC.out)
 have BX8 := Az.mk (bkd BX.out)
 have BA8 := Az.mk (bkd BA.out)
 have BB8 := Az.mk (bkd BB.out)
 have HB8 := Az.mk (below_drew HB.out)
 clear HX HA HN HP HQ BC BX BA BB HB
 have hee : (chkL vars L == chkL vars L) = true := beq_self_eq_true _
 have hne : (ne == ne) = true := beq_self_eq_true _
 have hve : (ev == ev) = true := beq_self_eq_true _
 have hle : (ee == ee) = true := beq_self_eq_true _
 have hcc : (c == c) = true := beq_self_eq_true _
 have hre : (er == er) = true := beq_self_eq_true _
 refine start_ (n := 50) (S := fun w' => w'.cell? ⟨w.heap.size, 0, none⟩ = some (.int .i64 vars) ∧ w'.cell? ⟨w.heap.size, 1, none⟩ = some (.slice A1 cls.length c1) ∧ w'.cell? ⟨gx, 0, none⟩ = some (.int .i64 vars) ∧ w'.cell? ⟨gx, 1, none⟩ = some (.slice Ax L.length cx) ∧ w'.cell? ⟨ga, 0, none⟩ = some (.int .i64 nv) ∧ w'.cell? ⟨ga, 1, none⟩ = some (.slice Aa N.length ca) ∧ w'.cell? ⟨gb, 0, none⟩ = some (.int .i64 nv) ∧ w'.cell? ⟨gb, 1, none⟩ = some (.slice Ab N.length cb)) (ds := []) (Array.replicate 50 false) (by kernel_rfl) rfl rfl ⟨((bkc BC8.out 0).trans rfl), ((bkc BC8.out 1).trans rfl), ((bkc BX8.out 0).trans rfl), ((bkc BX8.out 1).trans rfl), ((bkc BA8.out 0).trans rfl), ((bkc BA8.out 1).trans rfl), ((bkc BB8.out 0).trans rfl), ((bkc BB8.out 1).trans rfl)⟩ (fun hHeld => ?_); refine with_tabW matR9.tab matR9.bits (fun HT_ HW_ => ?_)
 generalize w7.drew = v8 at HX8 HA8 HN8 HP8 HQ8 BC8 BX8 BA8 BB8 HB8 hHeld ⊢
 refine pT 0 (some 65) (bA 50 1) rfl rfl HT_.out HW_.out hHeld (by rintro w' ⟨s0, s1, s2, s3, s4, s5, s6, s7⟩; go_simp; with_reducible rfl) (by simp only [Act.put, zq1, zq2, zq3, iw, jw]; rfl) ?_
 refine pT 2 (some 67) (bA 50 5) rfl rfl HT_.out HW_.out hHeld (by rintro w' ⟨s0, s1, s2, s3, s4, s5, s6, s7⟩; go_simp; with_reducible rfl) (by simp only [Act.put, zq1, zq2, zq3, iw, jw]; rfl) ?_
 refine QW.PrintLast.one_ (i := 1) (N := some 66) (bA 50 7) rfl rfl (one_of HT_.out (by kernel_rfl)) (by decide) (fun K hK => ?_)
 refine goes_ Tryz.func21 (by kernel_rfl) rfl #[.agg #[.int .i64 vars, .slice Ax L.length cx]] (by rfl) rfl rfl (by (try simp only [List.map_toArray, List.map_cons, List.map_nil]); first | done | rfl) ?_
 refine (PCheck.cnf_Check.calls k vars Ax cx L (chkL vars L) v8 HX8.out HLX.out HO.out.chk).mono ?_
 rintro e v9 ⟨rfl, hb⟩
 have HX9 := Az.mk (Kd.C_below HX8.out hb)
 have HA9 := Az.mk (Kd.C_below HA8.out hb)
 have HN9 := Az.mk (Kd.C_below HN8.out hb)
 have HP9 := Az.mk (Kd.C_below HP8.out hb)
 have HQ9 := Az.mk (Kd.C_below HQ8.out hb)
 have BC9 := Az.mk (blk_below BC8.out hb)
 have BX9 := Az.mk (blk_below BX8.out hb)
 have BA9 := Az.mk (blk_below BA8.out hb)
 have BB9 := Az.mk (blk_below BB8.out hb)
 have HB9 := Az.mk (bwt HB8.out hb)
 clear HX8 HA8 HN8 HP8 HQ8 BC8 BX8 BA8 BB8 HB8
 refine ⟨_, rfl, hK.out _ _ ⟨((bkc BC9.out 0).trans rfl), ((bkc BC9.out 1).trans rfl), ((bkc BX9.out 0).trans rfl), ((bkc BX9.out 1).trans rfl), ((bkc BA9.out 0).trans rfl), ((bkc BA9.out 1).trans rfl), ((bkc BB9.out 0).trans rfl), ((bkc BB9.out 1).trans rfl)⟩ (fun hHeld => ?_)⟩
 clear hK K hb
 refine norm_ (by show Act.put _ (some 66) _ = _; simp only [Act.put, zq1, zq2, zq3, iw, jw]; rfl) ?_
 refine QW.PrintLast.one_ (i := 3) (N := some 68) (bA 50 15) rfl rfl (one_of HT_.out (by kernel_rfl)) (by decide) (fun K hK => ?_)
 refine goes_ Tryz.func22 (by kernel_rfl) rfl #[.agg #[.int .i64 vars, .slice Ax L.length cx]] (by rfl) rfl rfl (by (try simp only [List.map_toArray, List.map_cons, List.map_nil]); first | done | rfl) ?_
 refine (PRPropg.netlabref32_Check.calls k vars Ax cx L (chkL vars L) v9 HX9.out HLX.out HO.out.chkR).mono ?_
 rintro e v10 ⟨rfl, hb⟩
 have HX10 := Az.mk (Kd.C_below HX9.out hb)
 have HA10 := Az.mk (Kd.C_below HA9.out hb)
 have HN10 := Az.mk (Kd.C_below HN9.out hb)
 have HP10 := Az.mk (Kd.C_below HP9.out hb)
 have HQ10 := Az.mk (Kd.C_below HQ9.out hb)
 have BC10 := Az.mk (blk_below BC9.out hb)
 have BX10 := Az.mk (blk_below BX9.out hb)
 have BA10 := Az.mk (blk_below BA9.out hb)
 have BB10 := Az.mk (blk_below BB9.out hb)
 have HB10 := Az.mk (bwt HB9.out hb)
 clear HX9 HA9 HN9 HP9 HQ9 BC9 BX9 BA9 BB9 HB9
 refine ⟨_, rfl, hK.out _ _ ⟨((bkc BC10.out 0).trans rfl), ((bkc BC10.out 1).trans rfl), ((bkc BX10.out 0).trans rfl), ((bkc BX10.out 1).trans rfl), ((bkc BA10.out 0).trans rfl), ((bkc BA10.out 1).trans rfl), ((bkc BB10.out 0).trans rfl), ((bkc BB10.out 1).trans rfl)⟩ (fun hHeld => ?_)⟩
 clear hK K hb
 refine norm_ (by show Act.put _ (some 68) _ = _; simp only [Act.put, zq1, zq2, zq3, iw, jw]; rfl) ?_
 refine pA 4 (some 69) (bA 50 31) rfl rfl HT_.out (by intro w'; go_simp; with_reducible rfl) (by simp only [Act.put, zq1, zq2, zq3, iw, jw]; rfl) ?_
 refine pA 5 (some 70) (bA 50 63) rfl rfl HT_.out (by intro w'; go_simp; with_reducible rfl) (by simp only [Act.put, zq1, zq2, zq3, iw, jw]; rfl) ?_
 refine pA 6 (some 71) (bA 50 127) rfl rfl HT_.out (by intro w'; go_simp; with_reducible rfl) (by simp only [Act.put, zq1, zq2, zq3, iw, jw]; rfl) ?_
 refine pA 7 (some 72) (bA 50 255) rfl rfl HT_.out (by intro w'; go_simp; with_reducible rfl) (by simp only [Act.put, zq1, zq2, zq3, iw, jw]; rfl) ?_
 refine pA 8 (some 73) (bA 50 511) rfl rfl HT_.out (by intro w'; go_simp; with_reducible rfl) (by simp only [Act.put, zq1, zq2, zq3, iw, jw]; rfl) ?_
 refine pA 9 (some 74) (bA 50 1023) rfl rfl HT_.out (by intro w'; go_simp; with_reducible rfl) (by simp only [Act.put, zq1, zq2, zq3, iw, jw]; rfl) ?_
 refine pA 10 (some 75) (bA 50 2047) rfl rfl HT_.out (by intro w'; go_simp; with_reducible rfl) (by simp only [Act.put, zq1, zq2, zq3, iw, jw]; rfl) ?_
 refine pT 11 (some 76) (bA 50 4095) rfl rfl HT_.out HW_.out hHeld (by rintro w' ⟨s0, s1, s2, s3, s4, s5, s6, s7⟩; go_simp; with_reducible rfl) (by simp only [Act.put, zq1, zq2, zq3, iw, jw]; rfl) ?_
 refine pT 12 (some 77) (bA 50 8191) rfl rfl HT_.out HW_.out hHeld (by rintro w' ⟨s0, s1, s2, s3, s4, s5, s6, s7⟩; go_simp; with_reducible rfl) (by simp only [Act.put, zq1, zq2, zq3, iw, jw]; rfl) ?_
 refine QW.PrintLast.one_ (i := 13) (N := some 78) (bA 50 16383) rfl rfl (one_of HT_.out (by kernel_rfl)) (by decide) (fun K hK => ?_)
 refine goes_ Tryz.func23 (by kernel_rfl) rfl #[.agg #[.int .i64 nv, .slice Aa N.length ca], .agg #[.int .i64 nv, .slice Ab N.length cb]] (by rfl) rfl rfl (by (try simp only [List.map_toArray, List.map_cons, List.map_nil]); first | done | rfl) ?_
 refine (netlabref32_Same.calls k nv Aa ca N nv Ab cb N true v10 HA10.out HLA.out HN10.out HLN.out (by have := HO.out.same; rw [HNF.out] at this; exact this)).mono ?_
 rintro e v11 ⟨rfl, hb⟩
 have HX11 := Az.mk (Kd.C_below HX10.out hb)
 have HA11 := Az.mk (Kd.C_below HA10.out hb)
 have HN11 := Az.mk (Kd.C_below HN10.out hb)
 have HP11 := Az.mk (Kd.C_below HP10.out hb)
 have HQ11 := Az.mk (Kd.C_below HQ10.out hb)
 have BC11 := Az.mk (blk_below BC10.out hb)
 have BX11 := Az.mk (blk_below BX10.out hb)
 have BA11 := Az.mk (blk_below BA10.out hb)
 have BB11 := Az.mk (blk_below BB10.out hb)
 have HB11 := Az.mk (bwt HB10.out hb)
 clear HX10 HA10 HN10 HP10 HQ10 BC10 BX10 BA10 BB10 HB10
 refine ⟨_, rfl, hK.out _ _ ⟨((bkc BC11.out 0).trans rfl), ((bkc BC11.out 1).trans rfl), ((bkc BX11.out 0).trans rfl), ((bkc BX11.out 1).trans rfl), ((bkc BA11.out 0).trans rfl), ((bkc BA11.out 1).trans rfl), ((bkc BB11.out 0).trans rfl), ((bkc BB11.out 1).trans rfl)⟩ (fun hHeld => ?_)⟩
 clear hK K hb
 refine norm_ (by show Act.put _ (some 78) _ = _; simp only [Act.put, zq1, zq2, zq3, iw, jw]; rfl) ?_
 refine pA 14 (some 79) (bA 50 32767) rfl rfl HT_.out (by intro w'; go_simp; with_reducible rfl) (by simp only [Act.put, zq1, zq2, zq3, iw, jw]; rfl) ?_
 refine pA 15 (some 80) (bA 50 65535) rfl rfl HT_.out (by intro w'; go_simp; with_reducible rfl) (by simp only [Act.put, zq1, zq2, zq3, iw, jw]; rfl) ?_
 refine pA 16 (some 81) (bA 50 131071) rfl rfl HT_.out (by intro w'; go_simp; with_reducible rfl) (by simp only [Act.put, zq1, zq2, zq3, iw, jw]; rfl) ?_
 refine pA 17 (some 82) (bA 50 262143) rfl rfl HT_.out (by intro w'; go_simp; with_reducible rfl) (by simp only [Act.put, zq1, zq2, zq3, iw, jw]; rfl) ?_
 refine pA 18 (some 83) (bA 50 524287) rfl rfl HT_.out (by intro w'; go_simp; with_reducible rfl) (by simp only [Act.put, zq1, zq2, zq3, iw, jw]; rfl) ?_
 refine pA 19 (some 84) (bA 50 1048575) rfl rfl HT_.out (by intro w'; go_simp; with_reducible rfl) (by simp only [Act.put, zq1, zq2, zq3, iw, jw]; rfl) ?_
 refine pA 20 (some 85) (bA 50 2097151) rfl rfl HT_.out (by intro w'; go_simp; with_reducible rfl) (by simp only [Act.put, zq1, zq2, zq3, iw, jw]; rfl) ?_
 refine pA 21 (some 86) (bA 50 4194303) rfl rfl HT_.out (by intro w'; go_simp; with_reducible rfl) (by simp only [Act.put, zq1, zq2, zq3, iw, jw]; rfl) ?_
 refine pA 22 (some 87) (bA 50 8388607) rfl rfl HT_.out (by intro w'; go_simp; with_reducible rfl) (by simp only [Act.put, zq1, zq2, zq3, iw, jw]; rfl) ?_
 refine pA 23 (some 88) (bA 50 16777215) rfl rfl HT_.out (by intro w'; go_simp; with_reducible rfl) (by simp only [Act.put, zq1, zq2, zq3, iw, jw]; rfl) ?_
 refine pA 24 (some 89) (bA 50 33554431) rfl rfl HT_.out (by intro w'; go_simp; with_reducible rfl) (by simp only [Act.put, zq1, zq2, zq3, iw, jw]; rfl) ?_
 refine pA 25 (some 90) (bA 50 67108863) rfl rfl HT_.out (by intro w'; go_simp; with_reducible rfl) (by simp only [Act.put, zq1, zq2, zq3, iw, jw]; rfl) ?_
 refine pA 26 (some 91) (bA 50 134217727) rfl rfl HT_.out (by intro w'; go_simp; with_reducible rfl) (by simp only [Act.put, zq1, zq2, zq3, iw, jw]; rfl) ?_
 refine pA 27 (some 92) (bA 50 268435455) rfl rfl HT_.out (by intro w'; go_simp; with_reducible rfl) (by simp only [Act.put, zq1, zq2, zq3, iw, jw]; rfl) ?_
 refine QW.PrintLast.one_ (i := 28) (N := some 93) (bA 50 536870911) rfl rfl (one_of HT_.out (by kernel_rfl)) (by decide) (fun K hK => ?_)
 refine goes_ Tryz.func24 (by kernel_rfl) rfl #[.slice Ap r.length cp, .slice Aq r.length cq] (by rfl) rfl rfl (by (try simp only [List.map_toArray, List.map_cons, List.map_nil]); first | done | rfl) ?_
 refine (netlabref32_EqInts.calls k Ap cp r Aq cq r true v11 HP11.out HLP.out HQ11.out HLQ.out HO.out.eqi).mono ?_
 rintro e v12 ⟨rfl, hd⟩
 have HX12 := Az.mk (Kd.C_below HX11.out hd.below)
 have HA12 := Az.mk (Kd.C_below HA11.out hd.below)
 have HN12 := Az.mk (Kd.C_below HN11.out hd.below)
 have HP12 := Az.mk (Kd.C_below HP11.out hd.below)
 have HQ12 := Az.mk (Kd.C_below HQ11.out hd.below)
 have BC12 := Az.mk (blk_below BC11.out hd.below)
 have BX12 := Az.mk (blk_below BX11.out hd.below)
 have BA12 := Az.mk (blk_below BA11.out hd.below)
 have BB12 := Az.mk (blk_below BB11.out hd.below)
 have HB12 := Az.mk (bwt HB11.out hd.below)
 clear HX11 HA11 HN11 HP11 HQ11 BC11 BX11 BA11 BB11 HB11
 refine ⟨_, rfl, hK.out _ _ ⟨((bkc BC12.out 0).trans rfl), ((bkc BC12.out 1).trans rfl), ((bkc BX12.out 0).trans rfl), ((bkc BX12.out 1).trans rfl), ((bkc BA12.out 0).trans rfl), ((bkc BA12.out 1).trans rfl), ((bkc BB12.out 0).trans rfl), ((bkc BB12.out 1).trans rfl)⟩ (fun hHeld => ?_)⟩
 clear hK K hd
 refine norm_ (by show Act.put _ (some 93) _ = _; simp only [Act.put, zq1, zq2, zq3, iw, jw]; rfl) ?_
 refine pA 29 (some 94) (bA 50 1073741823) rfl rfl HT_.out (by intro w'; go_simp; with_reducible rfl) (by simp only [Act.put, zq1, zq2, zq3, iw, jw]; rfl) ?_
 refine pA 30 (some 95) (bA 50 2147483647) rfl rfl HT_.out (by intro w'; go_simp; with_reducible rfl) (by simp only [Act.put, zq1, zq2, zq3, iw, jw]; rfl) ?_
 refine pA 31 (some 96) (bA 50 4294967295) rfl rfl HT_.out (by intro w'; go_simp; with_reducible rfl) (by simp only [Act.put, zq1, zq2, zq3, iw, jw]; rfl) ?_
 refine pA 32 (some 97) (bA 50 8589934591) rfl rfl HT_.out (by intro w'; go_simp; with_reducible rfl) (by simp only [Act.put, zq1, zq2, zq3, iw, jw]; rfl) ?_
 refine pA 33 (some 98) (bA 50 17179869183) rfl rfl HT_.out (by intro w'; go_simp; with_reducible rfl) (by simp only [Act.put, zq1, zq2, zq3, iw, jw]; rfl) ?_
 refine pA 34 (some 99) (bA 50 34359738367) rfl rfl HT_.out (by intro w'; go_simp; with_reducible rfl) (by simp only [Act.put, zq1, zq2, zq3, iw, jw]; rfl) ?_
 refine pA 35 (some 100) (bA 50 68719476735) rfl rfl HT_.out (by intro w'; go_simp; with_reducible rfl) (by simp only [Act.put, zq1, zq2, zq3, iw, jw]; rfl) ?_
 refine pA 36 (some 101) (bA 50 137438953471) rfl rfl HT_.out (by intro w'; go_simp; with_reducible rfl) (by simp only [Act.put, zq1, zq2, zq3, iw, jw]; rfl) ?_
 refine pA 37 (some 102) (bA 50 274877906943) rfl rfl HT_.out (by intro w'; go_simp; with_reducible rfl) (by simp only [Act.put, zq1, zq2, zq3, iw, jw]; rfl) ?_
 refine pA 38 (some 103) (bA 50 549755813887) rfl rfl HT_.out (by intro w'; go_simp; with_reducible rfl) (by simp only [Act.put, zq1, zq2, zq3, iw, jw]; rfl) ?_
 refine pA 39 (some 104) (bA 50 1099511627775) rfl rfl HT_.out (by intro w'; go_simp; with_reducible rfl) (by simp only [Act.put, zq1, zq2, zq3, iw, jw]; rfl) ?_
 refine pA 40 (some 105) (bA 50 2199023255551) rfl rfl HT_.out (by intro w'; go_simp; with_reducible rfl) (by simp only [Act.put, zq1, zq2, zq3, iw, jw]; rfl) ?_
 refine pT 41 (some 106) (bA 50 4398046511103) rfl rfl HT_.out HW_.out hHeld (by rintro w' ⟨s0, s1, s2, s3, s4, s5, s6, s7⟩; go_simp; with_reducible rfl) (by simp only [Act.put, zq1, zq2, zq3, iw, jw]; rfl) ?_
 refine pT 42 (some 107) (bA 50 8796093022207) rfl rfl HT_.out HW_.out hHeld (by rintro w' ⟨s0, s1, s2, s3, s4, s5, s6, s7⟩; go_simp; with_reducible rfl) (by simp only [Act.put, zq1, zq2, zq3, iw, jw]; rfl) ?_
 refine QW.PrintLast.one_ (i := 43) (N := some 108) (bA 50 17592186044415) rfl rfl (one_of HT_.out (by kernel_rfl)) (by decide) (fun K hK => ?_)
 refine goes_ Tryz.func14 (by kernel_rfl) rfl #[.agg #[.int .i64 vars, .slice A1 cls.length c1], .int .i64 60] (by rfl) rfl rfl (by (try simp only [List.map_toArray, List.map_cons, List.map_nil]); first | done | rfl) ?_
 refine (nfC.calls k vars A1 c1 cls 60 vars L v12 (Kd.C_below HR1.out HB12.out) HC1.out HO.out.few).mono ?_
 rintro e v13 ⟨vy, rfl, hs, hb⟩
 have HX13 := Az.mk (Kd.C_below HX12.out hb)
 have HA13 := Az.mk (Kd.C_below HA12.out hb)
 have HN13 := Az.mk (Kd.C_below HN12.out hb)
 have HP13 := Az.mk (Kd.C_below HP12.out hb)
 have HQ13 := Az.mk (Kd.C_below HQ12.out hb)
 have BC13 := Az.mk (blk_below BC12.out hb)
 have BX13 := Az.mk (blk_below BX12.out hb)
 have BA13 := Az.mk (blk_below BA12.out hb)
 have BB13 := Az.mk (blk_below BB12.out hb)
 have HB13 := Az.mk (bwt HB12.out hb)
 clear HX12 HA12 HN12 HP12 HQ12 BC12 BX12 BA12 BB12 HB12
 obtain ⟨Ay, cy, hvy, hly, hCy⟩ := Kd.S_reads hs
 subst hvy
 have HY13 := Az.mk hCy
 have HLY := Az.mk hly
 refine ⟨_, rfl, hK.out _ _ ⟨((bkc BC13.out 0).trans rfl), ((bkc BC13.out 1).trans rfl), ((bkc BX13.out 0).trans rfl), ((bkc BX13.out 1).trans rfl), ((bkc BA13.out 0).trans rfl), ((bkc BA13.out 1).trans rfl), ((bkc BB13.out 0).trans rfl), ((bkc BB13.out 1).trans rfl)⟩ (fun hHeld => ?_)⟩
 clear hK K hb hs hCy hly
 refine norm_ (by show Act.put _ (some 108) _ = _; simp only [Act.put, zq1, zq2, zq3, iw, jw]; rfl) ?_
 refine QW.PrintLast.one_ (i := 44) (N := some 109) (bA 50 35184372088831) rfl rfl (one_of HT_.out (by kernel_rfl)) (by decide) (fun K hK => ?_)
 refine goes_ Tryz.func23 (by kernel_rfl) rfl #[.agg #[.int .i64 vars, .slice Ax L.length cx], .agg #[.int .i64 vars, .slice Ay L.length cy]] (by rfl) rfl rfl (by (try simp only [List.map_toArray, List.map_cons, List.map_nil]); first | done | rfl) ?_
 refine (netlabref32_Same.calls k vars Ax cx L vars Ay cy L true v13 HX13.out HLX.out HY13.out HLY.out HO.out.sameX).mono ?_
 rintro e v14 ⟨rfl, hb⟩
 have HX14 := Az.mk (Kd.C_below HX13.out hb)
 have HA14 := Az.mk (Kd.C_below HA13.out hb)
 have HN14 := Az.mk (Kd.C_below HN13.out hb)
 have HP14 := Az.mk (Kd.C_below HP13.out hb)
 have HQ14 := Az.mk (Kd.C_below HQ13.out hb)
 have BC14 := Az.mk (blk_below BC13.out hb)
 have BX14 := Az.mk (blk_below BX13.out hb)
 have BA14 := Az.mk (blk_below BA13.out hb)
 have BB14 := Az.mk (blk_below BB13.out hb)
 have HB14 := Az.mk (bwt HB13.out hb)
 clear HX13 HA13 HN13 HP13 HQ13 BC13 BX13 BA13 BB13 HB13
 refine ⟨_, rfl, hK.out _ _ ⟨((bkc BC14.out 0).trans rfl), ((bkc BC14.out 1).trans rfl), ((bkc BX14.out 0).trans rfl), ((bkc BX14.out 1).trans rfl), ((bkc BA14.out 0).trans rfl), ((bkc BA14.out 1).trans rfl), ((bkc BB14.out 0).trans rfl), ((bkc BB14.out 1).trans rfl)⟩ (fun hHeld => ?_)⟩
 clear hK K hb HY13
 refine norm_ (by show Act.put _ (some 109) _ = _; simp only [Act.put, zq1, zq2, zq3, iw, jw]; rfl) ?_
 refine pA 45 (some 110) (bA 50 70368744177663) rfl rfl HT_.out (by intro w'; go_simp; with_reducible rfl) (by simp only [Act.put, zq1, zq2, zq3, iw, jw]; rfl) ?_
 refine pA 46 (some 111) (bA 50 140737488355327) rfl rfl HT_.out (by intro w'; go_simp; with_reducible rfl) (by simp only [Act.put, zq1, zq2, zq3, iw, jw]; rfl) ?_
 refine QW.PrintLast.one_ (i := 47) (N := some 112) (bA 50 281474976710655) rfl rfl (one_of HT_.out (by kernel_rfl)) (by decide) (fun K hK => ?_)
 refine goes_ Tryz.func25 (by kernel_rfl) rfl #[] (by rfl) rfl rfl (by (try simp only [List.map_toArray, List.map_cons, List.map_nil]); first | done | rfl) ?_
 refine (awake_calls v14 (HG.out.below HB14.out) (HM.out.below HB14.out) (HT.out.below HB14.out)).mono ?_
 rintro e v15 ⟨rfl, hb⟩
 have HX15 := Az.mk (Kd.C_below HX14.out hb)
 have HA15 := Az.mk (Kd.C_below HA14.out hb)
 have HN15 := Az.mk (Kd.C_below HN14.out hb)
 have HP15 := Az.mk (Kd.C_below HP14.out hb)
 have HQ15 := Az.mk (Kd.C_below HQ14.out hb)
 have BC15 := Az.mk (blk_below BC14.out hb)
 have BX15 := Az.mk (blk_below BX14.out hb)
 have BA15 := Az.mk (blk_below BA14.out hb)
 have BB15 := Az.mk (blk_below BB14.out hb)
 have HB15 := Az.mk (bwt HB14.out hb)
 clear HX14 HA14 HN14 HP14 HQ14 BC14 BX14 BA14 BB14 HB14
 refine ⟨_, rfl, hK.out _ _ ⟨((bkc BC15.out 0).trans rfl), ((bkc BC15.out 1).trans rfl), ((bkc BX15.out 0).trans rfl), ((bkc BX15.out 1).trans rfl), ((bkc BA15.out 0).trans rfl), ((bkc BA15.out 1).trans rfl), ((bkc BB15.out 0).trans rfl), ((bkc BB15.out 1).trans rfl)⟩ (fun hHeld => ?_)⟩
 clear hK K hb
 refine norm_ (by show Act.put _ (some 112) _ = _; simp only [Act.put, zq1, zq2, zq3, iw, jw]; rfl) ?_
 refine pA 48 (some 113) (bA 50 562949953421311) rfl rfl HT_.out (by intro w'; go_simp; with_reducible rfl) (by simp only [Act.put, zq1, zq2, zq3, iw, jw]; rfl) ?_
 refine pA 49 (some 6) (bA 50 1125899906842623) rfl rfl HT_.out (by intro w'; go_simp; with_reducible rfl) (by simp only [Act.put, zq1, zq2, zq3, iw, jw]; rfl) ?_
 refine done_ (done_of HT_.out (by kernel_rfl)) ?_
 clear hHeld HT_ HW_
 go_wp2
 go_ret
 exact ⟨rfl, HB15.out⟩
end Go.Proofs.YtkcfdddhnboieaaGreatDoor.NState
end
