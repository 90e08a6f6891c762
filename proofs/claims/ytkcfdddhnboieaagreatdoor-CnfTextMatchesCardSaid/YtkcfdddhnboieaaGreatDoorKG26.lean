/-
  Part 26 of the proof of cnfTextMatches_card: walks and lemmas.
-/
import Derived.Test.YtkcfdddhnboieaaGreatDoorKG18
import Derived.Test.YtkcfdddhnboieaaGreatDoorKG6
import Derived.Test.YtkcfdddhnboieaaGreatDoorKG25
import Derived.Test.YtkcfdddhnboieaaGreatDoorKG11
set_option linter.unusedVariables false
set_option linter.unusedSimpArgs false
section
set_option maxHeartbeats 4000000
set_option maxRecDepth 100000
namespace Go.Proofs.YtkcfdddhnboieaaGreatDoor.NState
open Go Go.RowKit Go.Shelf Go.Lib QW.PrintWords QW.PrintLast QW.PrintMore NMap
open PCheck (cnf_Check.f cnf_Check.calls)
open PSameC (netlabref32_EqInts.calls netlabref32_Same.calls)
open NPlain (CountIs LitOk)
def AwakePost (w : World) (e : Ending) (w' : World) : Prop := e = .returned (.bool true) ∧ Below w.heap.size w w'
theorem awake_calls (w : World) (hg : NText.GOK w) (hm : NText.MOK w) (ht : TabOK w) : Calls Tryz.prog 25 #[] w (AwakePost w) := by
 have HG := Az.mk hg
 have HM := Az.mk hm
 have HT := Az.mk ht
 clear hg hm ht
 go_enter Tryz.func25, Tryz.ntmps25
 have k1 := lit2 w [1, -2] [2] (cs1 := #[.int .i64 1, .int .i64 (-2)]) (cs2 := #[.int .i64 2]) rfl (by decide) rfl (by decide)
 have K1 := Az.mk k1
 clear k1
 go_wp2_with fail
 refine (formula_calls _ _ _ _ _).mono ?_
 rintro e w1 ⟨rfl, hb⟩
 have HR1 := Az.mk (Kd.C_below K1.out.1 hb)
 have HB1 := Az.mk (bwt K1.out.2 hb)
 clear hb K1
 have hm1 : Kd.C Kd.bool (w1.alloc (.cells #[.bool true, .bool true] 4)) (some ⟨w1.heap.size, 0, none⟩) 2 [true, true] := C_lit Kd.bool w1 4 [true, true] _ (Kd.reps_scalar _) (by decide)
 have HE1 := Az.mk (eval_calls 50 2 _ 2 [[1, -2], [2]] _ 2 [true, true] 0 _ (Kd.C_alloc HR1.out (.cells #[.bool true, .bool true] 4)) (by decide) hm1 av_ck1 (fun _ _ => ⟨by decide, lit_of (n := 2) (by decide)⟩))
 clear hm1 HR1
 go_wp2_with fail
 refine HE1.out.mono ?_
 rintro e w2 ⟨rfl, hb⟩
 rw [av_e1]
 have HB2 := Az.mk (bwt (bwt HB1.out (below_new w1 _)) hb)
 clear hb HE1 HB1
 have k1 := lit2 w2 [1, -2] [2] (cs1 := #[.int .i64 1, .int .i64 (-2)]) (cs2 := #[.int .i64 2]) rfl (by decide) rfl (by decide)
 have K1 := Az.mk k1
 clear k1
 go_wp2_with fail
 refine (formula_calls _ _ _ _ _).mono ?_
 rintro e w3 ⟨rfl, hb⟩
 have HR3 := Az.mk (Kd.C_below K1.out.1 hb)
 have HB3 := Az.mk (bwt HB2.out (bwt K1.out.2 hb))
 clear hb K1 HB2
 have hm1 : Kd.C Kd.bool (w3.alloc (.cells #[.bool false, .bool true] 4)) (some ⟨w3.heap.size, 0, none⟩) 2 [false, true] := C_lit Kd.bool w3 4 [false, true] _ (Kd.reps_scalar _) (by decide)
 have HE1 := Az.mk (eval_calls 50 2 _ 2 [[1, -2], [2]] _ 2 [false, true] 0 _ (Kd.C_alloc HR3.out (.cells #[.bool false, .bool true] 4)) (by decide) hm1 av_ck1 (fun _ _ => ⟨by decide, lit_of (n := 2) (by decide)⟩))
 clear hm1 HR3
 go_wp2_with fail
 refine HE1.out.mono ?_
 rintro e w4 ⟨rfl, hb⟩
 rw [av_e2]
 have HB4 := Az.mk (bwt (bwt HB3.out (below_new w3 _)) hb)
 clear hb HE1 HB3
 have k1 := lit4 w4 [2, -1, 2] [1] [3, -3] [1] (cs1 := #[.int .i64 2, .int .i64 (-1), .int .i64 2]) (cs2 := #[.int .i64 1]) (cs3 := #[.int .i64 3, .int .i64 (-3)]) (cs4 := #[.int .i64 1]) rfl (by decide) rfl (by decide) rfl (by decide) rfl (by decide)
 have K1 := Az.mk k1
 clear k1
 go_wp2_with fail
 refine (formula_calls _ _ _ _ _).mono ?_
 rintro e w5 ⟨rfl, hb⟩
 have HE1 := Az.mk (normal_calls 50 50 3 _ 4 [[2, -1, 2], [1], [3, -3], [1]] trivB w5 (Kd.C_below K1.out.1 hb) (by decide) av_ck2 (by decide) (by simp) av_nok)
 have HB5 := Az.mk (bwt HB4.out (bwt K1.out.2 hb))
 clear hb K1 HB4
 go_wp2_with fail
 refine HE1.out.mono ?_
 rintro e w6 ⟨An, cn, rfl, hcn, hCn, hb⟩
 rw [av_n] at hcn hCn ⊢
 have HB6 := Az.mk (bwt HB5.out hb)
 have HN : Az ((SpG.cnf 3 [[1], [-1, 2]]).p w6 (.agg #[.int .i64 3, .slice An 2 cn])) := ⟨⟨An, cn, rfl, hcn, hCn⟩⟩
 clear hb HE1 hcn hCn HB5
 go_wp2_with fail
 refine caw4_region (g5 := w6.heap.size) (v5 := .slice An 2 cn) ⟨rfl, rfl, rfl, rfl, rfl, rfl, rfl, blk_new w6 _, (SpG.cnf 3 [[1], [-1, 2]]).st HN.out (below_drew (below_new w6 _))⟩ ?_
 intro v W7 hv hb
 have HB7 := Az.mk (bwt (bwt HB6.out (below_new w6 _)) hb)
 clear hb HN HB6
 change Exit.then _ _ .normal { tmps := #[.bool false, .bool true, .int .i64 0, .bool false, .int .i64 0, .pointer (some ⟨w6.heap.size, 0, none⟩), .int .i64 0, undef, undef, undef, undef, undef, undef, undef, undef, undef, undef, undef, undef, undef, undef, .tuple #[.bool true, .int .i64 0], .slice (some ⟨w.heap.size, 0, none⟩) 2 2, .slice (some ⟨w.heap.size + 1, 0, none⟩) 1 1, .slice (some ⟨w.heap.size + 1 + 1, 0, none⟩) 2 2, .agg #[.int .i64 2, .slice (some ⟨w.heap.size + 1 + 1, 0, none⟩) 2 2], .slice (some ⟨w1.heap.size, 0, none⟩) 2 2, .tuple #[.bool true, .int .i64 0], .bool true, .int .i64 0, .tuple #[.bool false, .int .i64 0], .slice (some ⟨w2.heap.size, 0, none⟩) 2 2, .slice (some ⟨w2.heap.size + 1, 0, none⟩) 1 1, .slice (some ⟨w2.heap.size + 1 + 1, 0, none⟩) 2 2, .agg #[.int .i64 2, .slice (some ⟨w2.heap.size + 1 + 1, 0, none⟩) 2 2], .slice (some ⟨w3.heap.size, 0, none⟩) 2 2, .tuple #[.bool false, .int .i64 0], .bool false, .int .i64 0, .tuple #[.agg #[.int .i64 3, .slice An 2 cn], .int .i64 0], .slice (some ⟨w4.heap.size, 0, none⟩) 3 3, .slice (some ⟨w4.heap.size + 1, 0, none⟩) 1 1, .slice (some ⟨w4.heap.size + 1 + 1, 0, none⟩) 2 2, .slice (some ⟨w4.heap.size + 1 + 1 + 1, 0, none⟩) 1 1, .slice (some ⟨w4.heap.size + 1 + 1 + 1 + 1, 0, none⟩) 4 4, .agg #[.int .i64 3, .slice (some ⟨w4.heap.size + 1 + 1 + 1 + 1, 0, none⟩) 4 4], .tuple #[.agg #[.int .i64 3, .slice An 2 cn], .int .i64 0], .agg #[.int .i64 3, .slice An 2 cn], .int .i64 0, v 0, v 1, v 2, v 3, v 4, v 5, v 6, v 7, v 8, v 9, v 10, v 11, v 12, v 13, v 14, v 15, v 16, v 17, v 18, v 19, v 20, v 21, v 22, v 23, v 24, v 25, undef, undef, undef, undef, undef, undef, undef, undef, undef, undef, undef, undef, undef, undef, undef, undef, undef, undef, undef, undef, undef, undef, undef, undef, undef, undef, undef, undef, undef, undef, undef, undef, undef, undef, undef, undef, undef, undef, undef, undef, undef, undef, undef, undef, undef, undef, undef, undef, undef, undef, undef, undef, undef, undef, undef, undef, undef, undef, undef, undef, undef, undef, undef, undef, undef, undef, undef, undef, undef, undef, undef, undef, undef, undef, undef, undef, undef, undef, undef, undef, undef, undef, undef, undef, undef, undef, undef, undef, undef, undef, undef, undef, undef, undef, undef, undef, undef, undef, undef, undef, undef, undef, undef, undef, undef], defers := [] } _
 rw [hv]
 clear hv
 have k1 := lit3 W7 [-1, 2] [-2, 3] [-3, -4] (cs1 := #[.int .i64 (-1), .int .i64 2]) (cs2 := #[.int .i64 (-2), .int .i64 3]) (cs3 := #[.int .i64 (-3), .int .i64 (-4)]) rfl (by decide) rfl (by decide) rfl (by decide)
 have K1 := Az.mk k1
 clear k1
 go_wp2_with fail
 refine (formula_calls _ _ _ _ _).mono ?_
 rintro e w8 ⟨rfl, hb⟩
 have HR8 := Az.mk (Kd.C_below K1.out.1 hb)
 have HB8 := Az.mk (bwt HB7.out (bwt K1.out.2 hb))
 clear hb K1 HB7
 go_wp2_with fail
 have HR9 := Az.mk (Kd.C_alloc (Kd.C_alloc HR8.out (.cells #[.int .i64 4, .slice (some ⟨W7.heap.size + 1 + 1 + 1, 0, none⟩) 3 3] 24)) (.cells #[.int .i64 1] 3))
 have BX9 := Az.mk (blk_below (blk_new w8 (.cells #[.int .i64 4, .slice (some ⟨W7.heap.size + 1 + 1 + 1, 0, none⟩) 3 3] 24)) (below_new (w8.alloc (.cells #[.int .i64 4, .slice (some ⟨W7.heap.size + 1 + 1 + 1, 0, none⟩) 3 3] 24)) (.cells #[.int .i64 1] 3)))
 have HB9 := Az.mk (bwt (bwt HB8.out (below_new w8 (.cells #[.int .i64 4, .slice (some ⟨W7.heap.size + 1 + 1 + 1, 0, none⟩) 3 3] 24))) (below_new (w8.alloc (.cells #[.int .i64 4, .slice (some ⟨W7.heap.size + 1 + 1 + 1, 0, none⟩) 3 3] 24)) (.cells #[.int .i64 1] 3)))
 have HL9 := Az.mk (C_ints (w8.alloc (.cells #[.int .i64 4, .slice (some ⟨W7.heap.size + 1 + 1 + 1, 0, none⟩) 3 3] 24)) [1] #[.int .i64 1] rfl (by decide))
 rw [World.size_alloc] at HL9
 clear HR8 HB8
 refine (propagate_calls 50 4 (some ⟨W7.heap.size + 1 + 1 + 1, 0, none⟩) 3 [[-1, 2], [-2, 3], [-3, -4]] (some ⟨w8.heap.size + 1, 0, none⟩) 1 [1] [1, 2, 3, -4] false _ (by decide) HR9.out (by decide) HL9.out av_ck3 (by kernel_rfl) (fun x hx => lit_of (n := 4) (cls := [[1]]) (by decide) [1] (by simp) x hx) av_p1).mono ?_
 rintro e w10 ⟨v8, rfl, hr, hb⟩
 obtain ⟨A8, c8, hv8, hl8, hC8⟩ := Kd.R_reads hr
 obtain rfl : v8 = .slice A8 4 c8 := hv8
 have HL8 : Az ((SpG.ints [1, 2, 3, -4]).p w10 (.slice A8 4 c8)) := ⟨⟨A8, c8, rfl, hl8, hC8⟩⟩
 have HR10 := Az.mk (Kd.C_below HR9.out hb)
 have BX10 := Az.mk (blk_below BX9.out hb)
 have HB10 := Az.mk (bwt HB9.out hb)
 clear hr hb hl8 hC8 HR9 BX9 HB9 HL9
 have hx0 := (bkc BX10.out 0).trans rfl
 have hx1 := (bkc BX10.out 1).trans rfl
 go_wp2_with fail
 have HL9 := Az.mk (C_ints w10 [1, 4] #[.int .i64 1, .int .i64 4] rfl (by decide))
 refine (propagate_calls 50 4 (some ⟨W7.heap.size + 1 + 1 + 1, 0, none⟩) 3 [[-1, 2], [-2, 3], [-3, -4]] (some ⟨w10.heap.size, 0, none⟩) 2 [1, 4] [] true _ (by decide) (Kd.C_alloc HR10.out _) (by decide) HL9.out av_ck3 (by kernel_rfl) (fun x hx => lit_of (n := 4) (cls := [[1, 4]]) (by decide) [1, 4] (by simp) x hx) av_p2).mono ?_
 rintro e w11 ⟨v11, rfl, hr, hb⟩
 obtain ⟨A11, c11, hv11, _, _⟩ := Kd.R_reads hr
 obtain rfl : v11 = .slice A11 0 c11 := hv11
 have HL11 := Az.mk ((SpG.ints [1, 2, 3, -4]).st ((SpG.ints [1, 2, 3, -4]).st HL8.out (below_new w10 (.cells #[.int .i64 1, .int .i64 4] 3))) hb)
 have HB11 := Az.mk (bwt (bwt HB10.out (below_new w10 (.cells #[.int .i64 1, .int .i64 4] 3))) hb)
 clear hr hb HR10 BX10 HB10 HL9 HL8 hx0 hx1
 have k1 := lit1 w11 [1, 2] (cs1 := #[.int .i64 1, .int .i64 2]) rfl (by decide)
 have K1 := Az.mk k1
 clear k1
 go_wp2_with fail
 refine (formula_calls _ _ _ _ _).mono ?_
 rintro e w12 ⟨rfl, hb⟩
 have HC12 := Az.mk (count_calls 50 3 _ 1 [[1, 2]] w12 (by decide) (Kd.C_below K1.out.1 hb) (by decide) (by decide) (fun l hl => ⟨by simp at hl; rw [hl]; decide, fun x hx => lit_of (n := 3) (cls := [[1, 2]]) (by decide) l hl x hx⟩) av_ck4)
 have HB12 := Az.mk (bwt HB11.out (bwt K1.out.2 hb))
 have HL12 := Az.mk ((SpG.ints [1, 2, 3, -4]).st ((SpG.ints [1, 2, 3, -4]).st HL11.out K1.out.2) hb)
 clear hb K1 HB11 HL11
 go_wp2_with fail
 refine HC12.out.mono ?_
 rintro e w13 ⟨cn_, rfl, hcn_, hb⟩
 obtain rfl := av_cnt hcn_
 have HB13 := Az.mk (bwt HB12.out hb)
 have HL13 := Az.mk ((SpG.ints [1, 2, 3, -4]).st HL12.out hb)
 clear hb hcn_ HB12 HL12 HC12
 go_wp2_with fail
 have HL9 := Az.mk (C_ints w13 [1, 2, 3, -4] #[.int .i64 1, .int .i64 2, .int .i64 3, .int .i64 (-4)] rfl (by decide))
 obtain ⟨A8', c8', he8, hl8, hC8⟩ := HL13.out
 cases he8
 refine (netlabref32_EqInts.calls 20 A8 c8 [1, 2, 3, -4] _ 4 [1, 2, 3, -4] true _ (Kd.C_alloc hC8 _) hl8 HL9.out (by decide) (by kernel_rfl)).mono ?_
 rintro e w14 ⟨rfl, hd⟩
 have HB14 := Az.mk (bwt (bwt HB13.out (below_new w13 (.cells #[.int .i64 1, .int .i64 2, .int .i64 3, .int .i64 (-4)] 3))) hd.below)
 clear hd hl8 hC8 HL13 HL9 HB13
 go_wp2_with fail
 have HE := Az.mk (encode_at w14.heap.size (w14.heap.size + 1) ((w14.alloc (.cells #[.int .i64 2, .int .i64 5] 109)).alloc (.cells #[.int .i64 7] 67)) (blk_below (blk_new w14 (.cells #[.int .i64 2, .int .i64 5] 109)) (below_new (w14.alloc (.cells #[.int .i64 2, .int .i64 5] 109)) (.cells #[.int .i64 7] 67))) (by have h := blk_new (w14.alloc (.cells #[.int .i64 2, .int .i64 5] 109)) (.cells #[.int .i64 7] 67); rw [World.size_alloc] at h; exact h))
 unfold gV at HE
 refine HE.out.mono ?_
 rintro e w15 ⟨Ae, ce, gI, rfl, hce, hCe, hCi, hb⟩
 have HB15 := Az.mk (bwt (bwt (bwt HB14.out (below_new w14 (.cells #[.int .i64 2, .int .i64 5] 109))) (below_new (w14.alloc (.cells #[.int .i64 2, .int .i64 5] 109)) (.cells #[.int .i64 7] 67))) hb)
 have HC15 : Az ((SpG.cnf 3 [[-3, 1], [-3, -2], [3, -1, 2], [-3]]).p w15 (.agg #[.int .i64 3, .slice Ae 4 ce])) := ⟨⟨Ae, ce, rfl, hce, hCe⟩⟩
 have HI15 : Az ((SpG.ints [0, 1, 2, 3]).p w15 (.slice (some ⟨gI, 0, none⟩) 4 4)) := ⟨⟨_, _, rfl, by decide, hCi⟩⟩
 clear hb hce hCe hCi HE HB14
 go_upto_region 13 with fail
 have HB16 := Az.mk (bwt HB15.out (below_new w15 (.cells #[.int .i64 3, .slice Ae 4 ce] 24)))
 have BX16 := Az.mk (blk_new w15 (.cells #[.int .i64 3, .slice Ae 4 ce] 24))
 have HC16 := Az.mk ((SpG.cnf 3 [[-3, 1], [-3, -2], [3, -1, 2], [-3]]).st HC15.out (below_new w15 (.cells #[.int .i64 3, .slice Ae 4 ce] 24)))
 have HI16 := Az.mk ((SpG.ints [0, 1, 2, 3]).st HI15.out (below_new w15 (.cells #[.int .i64 3, .slice Ae 4 ce] 24)))
 clear HB15 HC15 HI15
 generalize w15.alloc (.cells #[.int .i64 3, .slice Ae 4 ce] 24) = w16 at HB16 BX16 HC16 HI16 ⊢
 generalize w15.heap.size = g16 at BX16 ⊢
 have k1 := lit1 w16 [1, -2] (cs1 := #[.int .i64 1, .int .i64 (-2)]) rfl (by decide)
 have K1 := Az.mk k1
 clear k1
 go_wp2_with fail
 refine (formula_calls _ _ _ _ _).mono ?_
 rintro e w17 ⟨rfl, hb⟩
 have HB17 := Az.mk (bwt HB16.out (bwt K1.out.2 hb))
 have HFM := Az.mk (formatC_calls 50 2 _ 1 [[1, -2]] 0 w17 (Kd.C_below K1.out.1 hb) (by decide) av_ck5 (HT.out.below HB17.out) (fun _ => av_fok) (fun _ => ⟨2, rfl, by decide⟩))
 have HW17 := Az.mk (bwt K1.out.2 hb)
 clear hb K1 HB16
 go_wp2_with fail
 refine HFM.out.mono ?_
 rintro e w18 ⟨rfl, hb⟩
 rw [av_f]
 have HB18 := Az.mk (bwt HB17.out hb)
 have HW18 := Az.mk (bwt HW17.out hb)
 clear hb HFM HB17 HW17
 go_wp2_with fail
 have HD18 := Az.mk (below_drew HW18.out)
 refine caw14_region (g16 := g16) (v16 := .slice Ae 4 ce) (v17 := .slice (some ⟨gI, 0, none⟩) 4 4) ⟨rfl, rfl, rfl, rfl, rfl, rfl, (SpG.ints [0, 1, 2, 3]).st HI16.out HD18.out, blk_below BX16.out HD18.out, (SpG.cnf 3 [[-3, 1], [-3, -2], [3, -1, 2], [-3]]).st HC16.out HD18.out, HG.out.below (below_drew HB18.out), HM.out.below (below_drew HB18.out)⟩ ?_
 intro u W19 hv hb
 have HB19 := Az.mk (bwt HB18.out hb)
 clear hb
 change Exit.then _ _ .normal { tmps := #[u 31, .bool true, .int .i64 0, .bool false, .int .i64 0, .pointer (some ⟨w6.heap.size, 0, none⟩), .int .i64 0, .pointer (some ⟨w8.heap.size, 0, none⟩), .slice A8 4 c8, .bool false, .int .i64 0, .slice A11 0 c11, .bool true, .int .i64 0, .int .u64 6, .int .i64 0, .pointer (some ⟨g16, 0, none⟩), .slice (some ⟨gI, 0, none⟩) 4 4, .int .i64 0, .string ⟨#[112, 32, 99, 110, 102, 32, 50, 32, 49, 10, 49, 32, 45, 50, 32, 48, 10]⟩, .int .i64 0, .tuple #[.bool true, .int .i64 0], .slice (some ⟨w.heap.size, 0, none⟩) 2 2, .slice (some ⟨w.heap.size + 1, 0, none⟩) 1 1, .slice (some ⟨w.heap.size + 1 + 1, 0, none⟩) 2 2, .agg #[.int .i64 2, .slice (some ⟨w.heap.size + 1 + 1, 0, none⟩) 2 2], .slice (some ⟨w1.heap.size, 0, none⟩) 2 2, .tuple #[.bool true, .int .i64 0], .bool true, .int .i64 0, .tuple #[.bool false, .int .i64 0], .slice (some ⟨w2.heap.size, 0, none⟩) 2 2, .slice (some ⟨w2.heap.size + 1, 0, none⟩) 1 1, .slice (some ⟨w2.heap.size + 1 + 1, 0, none⟩) 2 2, .agg #[.int .i64 2, .slice (some ⟨w2.heap.size + 1 + 1, 0, none⟩) 2 2], .slice (some ⟨w3.heap.size, 0, none⟩) 2 2, .tuple #[.bool false, .int .i64 0], .bool false, .int .i64 0, .tuple #[.agg #[.int .i64 3, .slice An 2 cn], .int .i64 0], .slice (some ⟨w4.heap.size, 0, none⟩) 3 3, .slice (some ⟨w4.heap.size + 1, 0, none⟩) 1 1, .slice (some ⟨w4.heap.size + 1 + 1, 0, none⟩) 2 2, .slice (some ⟨w4.heap.size + 1 + 1 + 1, 0, none⟩) 1 1, .slice (some ⟨w4.heap.size + 1 + 1 + 1 + 1, 0, none⟩) 4 4, .agg #[.int .i64 3, .slice (some ⟨w4.heap.size + 1 + 1 + 1 + 1, 0, none⟩) 4 4], .tuple #[.agg #[.int .i64 3, .slice An 2 cn], .int .i64 0], .agg #[.int .i64 3, .slice An 2 cn], .int .i64 0, v 0, v 1, v 2, v 3, v 4, v 5, v 6, v 7, v 8, v 9, v 10, v 11, v 12, v 13, v 14, v 15, v 16, v 17, v 18, v 19, v 20, v 21, v 22, v 23, v 24, .bool false, .slice (some ⟨W7.heap.size, 0, none⟩) 2 2, .slice (some ⟨W7.heap.size + 1, 0, none⟩) 2 2, .slice (some ⟨W7.heap.size + 1 + 1, 0, none⟩) 2 2, .slice (some ⟨W7.heap.size + 1 + 1 + 1, 0, none⟩) 3 3, .agg #[.int .i64 4, .slice (some ⟨W7.heap.size + 1 + 1 + 1, 0, none⟩) 3 3], .tuple #[.slice A8 4 c8, .bool false, .int .i64 0], .agg #[.int .i64 4, .slice (some ⟨W7.heap.size + 1 + 1 + 1, 0, none⟩) 3 3], .slice (some ⟨w8.heap.size + 1, 0, none⟩) 1 1, .tuple #[.slice A8 4 c8, .bool false, .int .i64 0], .slice A8 4 c8, .bool false, .int .i64 0, .tuple #[.slice A11 0 c11, .bool true, .int .i64 0], .agg #[.int .i64 4, .slice (some ⟨W7.heap.size + 1 + 1 + 1, 0, none⟩) 3 3], .slice (some ⟨w10.heap.size, 0, none⟩) 2 2, .tuple #[.slice A11 0 c11, .bool true, .int .i64 0], .slice A11 0 c11, .bool true, .int .i64 0, .tuple #[.int .u64 6, .int .i64 0], .slice (some ⟨w11.heap.size, 0, none⟩) 2 2, .slice (some ⟨w11.heap.size + 1, 0, none⟩) 1 1, .agg #[.int .i64 3, .slice (some ⟨w11.heap.size + 1, 0, none⟩) 1 1], .tuple #[.int .u64 6, .int .i64 0], .int .u64 6, .int .i64 0, .int .i64 0, .bool false, .bool false, .int .i64 0, .bool false, .bool false, .bool false, .int .i64 0, .bool false, .bool false, .bool false, .bool false, .bool false, .bool false, .bool true, .bool false, .bool false, .bool false, .slice A11 0 c11, .int .i64 0, .bool false, .bool false, .bool false, .int .u64 6, .bool false, .bool false, .bool false, .slice A8 4 c8, .slice (some ⟨w13.heap.size, 0, none⟩) 4 4, .bool true, .bool false, .bool false, .tuple #[.agg #[.int .i64 3, .slice Ae 4 ce], .slice (some ⟨gI, 0, none⟩) 4 4, .int .i64 0], .agg #[.int .i64 2, .int .i64 5], .slice (some ⟨w14.heap.size, 0, none⟩) 1 1, .agg #[.int .i64 2, .slice none 0 0, .slice (some ⟨w14.heap.size, 0, none⟩) 1 1, .slice none 0 0], .slice (some ⟨w14.heap.size + 1, 0, none⟩) 1 1, .tuple #[.agg #[.int .i64 3, .slice Ae 4 ce], .slice (some ⟨gI, 0, none⟩) 4 4, .int .i64 0], .agg #[.int .i64 3, .slice Ae 4 ce], .slice (some ⟨gI, 0, none⟩) 4 4, .int .i64 0, .tuple #[.string ⟨#[112, 32, 99, 110, 102, 32, 50, 32, 49, 10, 49, 32, 45, 50, 32, 48, 10]⟩, .int .i64 0], .slice (some ⟨w16.heap.size, 0, none⟩) 2 2, .slice (some ⟨w16.heap.size + 1, 0, none⟩) 1 1, .agg #[.int .i64 2, .slice (some ⟨w16.heap.size + 1, 0, none⟩) 1 1], .tuple #[.string ⟨#[112, 32, 99, 110, 102, 32, 50, 32, 49, 10, 49, 32, 45, 50, 32, 48, 10]⟩, .int .i64 0], .string ⟨#[112, 32, 99, 110, 102, 32, 50, 32, 49, 10, 49, 32, 45, 50, 32, 48, 10]⟩, .int .i64 0, u 0, u 1, u 2, u 3, u 4, u 5, u 6, u 7, u 8, u 9, u 10, u 11, u 12, u 13, u 14, u 15, u 16, u 17, u 18, u 19, u 20, u 21, u 22, u 23, u 24, u 25, u 26, u 27, u 28, u 29, u 30], defers := [] } _
 rw [hv]
 clear hv
 go_wp2
 go_ret
 exact ⟨rfl, HB19.out⟩
end Go.Proofs.YtkcfdddhnboieaaGreatDoor.NState
end
