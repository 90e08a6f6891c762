/-
  Part 28 of the proof of cnfNormals_card: walks and lemmas, packed by the session's own wip/pack.py out of its texts and of what the kit's print.sh printed.
-/
import Derived.Test.YtkcfdddhnboieaaGreatDoorKD20
import Derived.Test.YtkcfdddhnboieaaGreatDoorKD6
import Derived.Test.YtkcfdddhnboieaaGreatDoorKD27
import Derived.Test.YtkcfdddhnboieaaGreatDoorKD13
import Derived.Test.YtkcfdddhnboieaaGreatDoorKD19
import Derived.Test.YtkcfdddhnboieaaGreatDoorKD26
import Derived.Test.YtkcfdddhnboieaaGreatDoorKD5
import Derived.Deep.CutRange
import Derived.Deep.CutBlock
set_option linter.unusedVariables false
set_option linter.unusedSimpArgs false
section
set_option maxHeartbeats 4000000
set_option maxRecDepth 100000
namespace Go.Proofs.YtkcfdddhnboieaaGreatDoor.NState
open Go Go.RowKit Go.Shelf Go.Lib QW.PrintWords QW.PrintLast QW.PrintMore NMap
open PCheck (cnf_Check.f cnf_Check.calls)
open PSameC (netlabref32_EqInts.calls netlabref32_Same.calls)
open NPlain (CountIs LitOk)
def AwakePost (w : World) (e : Ending) (w' : World) : Prop := e = .returned (.bool true) ∧ Below w.heap.size w w'
theorem awake_calls (w : World) (hg : NText.GOK w) (hm : NText.MOK w) (ht : TabOK w) : Calls Tryz.prog 25 #[] w (AwakePost w) := by
 have HG := Az.mk hg
 have HM := Az.mk hm
 have HT := Az.mk ht
 clear hg hm ht
 go_enter Tryz.func25, Tryz.ntmps25
 have k1 := lit2 w [1, -2] [2] (cs1 := #[.int .i64 1, .int .i64 (-2)]) (cs2 := #[.int .i64 2]) rfl (by decide) rfl (by decide)
 have K1 := Az.mk k1
 clear k1
 go_wp2_with fail
 refine (formula_calls _ _ _ _ _).mono ?_
 rintro e w1 ⟨rfl, hb⟩
 have HR1 := Az.mk (Kd.C_below K1.out.1 hb)
 have HB1 := Az.mk (bwt K1.out.2 hb)
 clear hb K1
 have hm1 : Kd.C Kd.bool (w1.alloc (.cells #[.bool true, .bool true] 4)) (some ⟨w1.heap.size, 0, none⟩) 2 [true, true] := C_lit Kd.bool w1 4 [true, true] _ (Kd.reps_scalar _) (by decide)
 have HE1 := Az.mk (eval_calls 50 2 _ 2 [[1, -2], [2]] _ 2 [true, true] 0 _ (Kd.C_alloc HR1.out (.cells #[.bool true, .bool true] 4)) (by decide) hm1 av_ck1 (fun _ _ => ⟨by decide, lit_of (n := 2) (by decide)⟩))
 clear hm1 HR1
 go_wp2_with fail
 refine HE1.out.mono ?_
 rintro e w2 ⟨rfl, hb⟩
 rw [av_e1]
 have HB2 := Az.mk (bwt (bwt HB1.out (below_new w1 _)) hb)
 clear hb HE1 HB1
 have k1 := lit2 w2 [1, -2] [2] (cs1 := #[.int .i64 1, .int .i64 (-2)]) (cs2 := #[.int .i64 2]) rfl (by decide) rfl (by decide)
 have K1 := Az.mk k1
 clear k1
 go_wp2_with fail
 refine (formula_calls _ _ _ _ _).mono ?_
 rintro e w3 ⟨rfl, hb⟩
 have HR3 := Az.mk (Kd.C_below K1.out.1 hb)
 have HB3 := Az.mk (bwt HB2.out (bwt K1.out.2 hb))
 clear hb K1 HB2
 have hm1 : Kd.C Kd.bool (w3.alloc (.cells #[.bool false, .bool true] 4)) (some ⟨w3.heap.size, 0, none⟩) 2 [false, true] := C_lit Kd.bool w3 4 [false, true] _ (Kd.reps_scalar _) (by decide)
 have HE1 := Az.mk (eval_calls 50 2 _ 2 [[1, -2], [2]] _ 2 [false, true] 0 _ (Kd.C_alloc HR3.out (.cells #[.bool false, .bool true] 4)) (by decide) hm1 av_ck1 (fun _ _ => ⟨by decide, lit_of (n := 2) (by decide)⟩))
 clear hm1 HR3
 go_wp2_with fail
 refine HE1.out.mono ?_
 rintro e w4 ⟨rfl, hb⟩
 rw [av_e2]
 have HB4 := Az.mk (bwt (bwt HB3.out (below_new w3 _)) hb)
 clear hb HE1 HB3
 have k1 := lit4 w4 [2, -1, 2] [1] [3, -3] [1] (cs1 := #[.int .i64 2, .int .i64 (-1), .int .i64 2]) (cs2 := #[.int .i64 1]) (cs3 := #[.int .i64 3, .int .i64 (-3)]) (cs4 := #[.int .i64 1]) rfl (by decide) rfl (by decide) rfl (by decide) rfl (by decide)
 have K1 := Az.mk k1
 clear k1
 go_wp2_with fail
 refine (formula_calls _ _ _ _ _).mono ?_
 rintro e w5 ⟨rfl, hb⟩
 have HE1 := Az.mk (normal_calls 50 50 3 _ 4 [[2, -1, 2], [1], [3, -3], [1]] trivB w5 (Kd.C_below K1.out.1 hb) (by decide) av_ck2 (by decide) (by simp) av_nok)
 have HB5 := Az.mk (bwt HB4.out (bwt K1.out.2 hb))
 clear hb K1 HB4
 go_wp2_with fail
 refine HE1.out.mono ?_
 rintro e w6 ⟨An, cn, rfl, hcn, hCn, hb⟩
 rw [av_n] at hcn hCn ⊢
 have HB6 := Az.mk (bwt HB5.out hb)
 have HN : Az ((SpG.cnf 3 [[1], [-1, 2]]).p w6 (.agg #[.int .i64 3, .slice An 2 cn])) := ⟨⟨An, cn, rfl, hcn, hCn⟩⟩
 clear hb HE1 hcn hCn HB5
 go_wp2_with fail
 refine caw4_region (g5 := w6.heap.size) (v5 := .slice An 2 cn) ⟨rfl, rfl, rfl, rfl, rfl, rfl, rfl, blk_new w6 _, (SpG.cnf 3 [[1], [-1, 2]]).st HN.out (below_drew (below_new w6 _))⟩ ?_
 intro v W7 hv hb
 have HB7 := Az.mk (bwt (bwt HB6.out (below_new w6 _)) hb)
 clear hb HN HB6
 change Exit.then _ _ .normal { tmps := #[.bool false, .bool true, .int .i64 0, .bool false, .int .i64 0, .pointer (some ⟨w6.heap.size, 0, none⟩), .int .i64 0, undef, undef, undef, undef, undef, undef, undef, undef, undef, undef, undef, undef, undef, undef, .tuple #[.bool true, .int .i64 0], .slice (some ⟨w.heap.size, 0, none⟩) 2 2, .slice (some ⟨w.heap.size + 1, 0, none⟩) 1 1, .slice (some ⟨w.heap.size + 1 + 1, 0, none⟩) 2 2, .agg #[.int .i64 2, .slice (some ⟨w.heap.size + 1 + 1, 0, none⟩) 2 2], .slice (some ⟨w1.heap.size, 0, none⟩) 2 2, .tuple #[.bool true, .int .i64 0], .bool true, .int .i64 0, .tuple #[.bool false, .int .i64 0], .slice (some ⟨w2.heap.size, 0, none⟩) 2 2, .slice (some ⟨w2.heap.size + 1, 0, none⟩) 1 1, .slice (some ⟨w2.heap.size + 1 + 1, 0, none⟩) 2 2, .agg #[.int .i64 2, .slice (some ⟨w2.heap.size + 1 + 1, 0, none⟩) 2 2], .slice (some ⟨w3.heap.size, 0, none⟩) 2 2, .tuple #[.bool false, .int .i64 0], .bool false, .int .i64 0, .tuple #[.agg #[.int .i64 3, .slice An 2 cn], .int .i64 0], .slice (some ⟨w4.heap.size, 0, none⟩) 3 3, .slice (some ⟨w4.heap.size + 1, 0, none⟩) 1 1, .slice (some ⟨w4.heap.size + 1 + 1, 0, none⟩) 2 2, .slice (some ⟨w4.heap.size + 1 + 1 + 1, 0, none⟩) 1 1, .slice (some ⟨w4.heap.size + 1 + 1 + 1 + 1, 0, none⟩) 4 4, .agg #[.int .i64 3, .slice (some ⟨w4.heap.size + 1 + 1 + 1 + 1, 0, none⟩) 4 4], .tuple #[.agg #[.int .i64 3, .slice An 2 cn], .int .i64 0], .agg #[.int .i64 3, .slice An 2 cn], .int .i64 0, v 0, v 1, v 2, v 3, v 4, v 5, v 6, v 7, v 8, v 9, v 10, v 11, v 12, v 13, v 14, v 15, v 16, v 17, v 18, v 19, v 20, v 21, v 22, v 23, v 24, v 25, undef, undef, undef, undef, undef, undef, undef, undef, undef, undef, undef, undef, undef, undef, undef, undef, undef, undef, undef, undef, undef, undef, undef, undef, undef, undef, undef, undef, undef, undef, undef, undef, undef, undef, undef, undef, undef, undef, undef, undef, undef, undef, undef, undef, undef, undef, undef, undef, undef, undef, undef, undef, undef, undef, undef, undef, undef, undef, undef, undef, undef, undef, undef, undef, undef, undef, undef, undef, undef, undef, undef, undef, undef, undef, undef, undef, undef, undef, undef, undef, undef, undef, undef, undef, undef, undef, undef, undef, undef, undef, undef, undef, undef, undef, undef, undef, undef, undef, undef, undef, undef, undef, undef, undef, undef], defers := [] } _
 rw [hv]
 clear hv
 have k1 := lit3 W7 [-1, 2] [-2, 3] [-3, -4] (cs1 := #[.int .i64 (-1), .int .i64 2]) (cs2 := #[.int .i64 (-2), .int .i64 3]) (cs3 := #[.int .i64 (-3), .int .i64 (-4)]) rfl (by decide) rfl (by decide) rfl (by decide)
 have K1 := Az.mk k1
 clear k1
 go_wp2_with fail
 refine (formula_calls _ _ _ _ _).mono ?_
 rintro e w8 ⟨rfl, hb⟩
 have HR8 := Az.mk (Kd.C_below K1.out.1 hb)
 have HB8 := Az.mk (bwt HB7.out (bwt K1.out.2 hb))
 clear hb K1 HB7
 go_wp2_with fail
 have HR9 := Az.mk (Kd.C_alloc (Kd.C_alloc HR8.out (.cells #[.int .i64 4, .slice (some ⟨W7.heap.size + 1 + 1 + 1, 0, none⟩) 3 3] 24)) (.cells #[.int .i64 1] 3))
 have BX9 := Az.mk (blk_below (blk_new w8 (.cells #[.int .i64 4, .slice (some ⟨W7.heap.size + 1 + 1 + 1, 0, none⟩) 3 3] 24)) (below_new (w8.alloc (.cells #[.int .i64 4, .slice (some ⟨W7.heap.size + 1 + 1 + 1, 0, none⟩) 3 3] 24)) (.cells #[.int .i64 1] 3)))
 have HB9 := Az.mk (bwt (bwt HB8.out (below_new w8 (.cells #[.int .i64 4, .slice (some ⟨W7.heap.size + 1 + 1 + 1, 0, none⟩) 3 3] 24))) (below_new (w8.alloc (.cells #[.int .i64 4, .slice (some ⟨W7.heap.size + 1 + 1 + 1, 0, none⟩) 3 3] 24)) (.cells #[.int .i64 1] 3)))
 have HL9 := Az.mk (C_ints (w8.alloc (.cells #[.int .i64 4, .slice (some ⟨W7.heap.size + 1 + 1 + 1, 0, none⟩) 3 3] 24)) [1] #[.int .i64 1] rfl (by decide))
 rw [World.size_alloc] at HL9
 clear HR8 HB8
 refine (propagate_calls 50 4 (some ⟨W7.heap.size + 1 + 1 + 1, 0, none⟩) 3 [[-1, 2], [-2, 3], [-3, -4]] (some ⟨w8.heap.size + 1, 0, none⟩) 1 [1] [1, 2, 3, -4] false _ (by decide) HR9.out (by decide) HL9.out av_ck3 (by kernel_rfl) (fun x hx => lit_of (n := 4) (cls := [[1]]) (by decide) [1] (by simp) x hx) av_p1).mono ?_
 rintro e w10 ⟨v8, rfl, hr, hb⟩
 obtain ⟨A8, c8, hv8, hl8, hC8⟩ := Kd.R_reads hr
 obtain rfl : v8 = .slice A8 4 c8 := hv8
 have HL8 : Az ((SpG.ints [1, 2, 3, -4]).p w10 (.slice A8 4 c8)) := ⟨⟨A8, c8, rfl, hl8, hC8⟩⟩
 have HR10 := Az.mk (Kd.C_below HR9.out hb)
 have BX10 := Az.mk (blk_below BX9.out hb)
 have HB10 := Az.mk (bwt HB9.out hb)
 clear hr hb hl8 hC8 HR9 BX9 HB9 HL9
 have hx0 := (bkc BX10.out 0).trans rfl
 have hx1 := (bkc BX10.out 1).trans rfl
 go_wp2_with fail
 have HL9 := Az.mk (C_ints w10 [1, 4] #[.int .i64 1, .int .i64 4] rfl (by decide))
 refine (propagate_calls 50 4 (some ⟨W7.heap.size + 1 + 1 + 1, 0, none⟩) 3 [[-1, 2], [-2, 3], [-3, -4]] (some ⟨w10.heap.size, 0, none⟩) 2 [1, 4] [] true _ (by decide) (Kd.C_alloc HR10.out _) (by decide) HL9.out av_ck3 (by kernel_rfl) (fun x hx => lit_of (n := 4) (cls := [[1, 4]]) (by decide) [1, 4] (by simp) x hx) av_p2).mono ?_
 rintro e w11 ⟨v11, rfl, hr, hb⟩
 obtain ⟨A11, c11, hv11, _, _⟩ := Kd.R_reads hr
 obtain rfl : v11 = .slice A11 0 c11 := hv11
 have HL11 := Az.mk ((SpG.ints [1, 2, 3, -4]).st ((SpG.ints [1, 2, 3, -4]).st HL8.out (below_new w10 (.cells #[.int .i64 1, .int .i64 4] 3))) hb)
 have HB11 := Az.mk (bwt (bwt HB10.out (below_new w10 (.cells #[.int .i64 1, .int .i64 4] 3))) hb)
 clear hr hb HR10 BX10 HB10 HL9 HL8 hx0 hx1
 have k1 := lit1 w11 [1, 2] (cs1 := #[.int .i64 1, .int .i64 2]) rfl (by decide)
 have K1 := Az.mk k1
 clear k1
 go_wp2_with fail
 refine (formula_calls _ _ _ _ _).mono ?_
 rintro e w12 ⟨rfl, hb⟩
 have HC12 := Az.mk (count_calls 50 3 _ 1 [[1, 2]] w12 (by decide) (Kd.C_below K1.out.1 hb) (by decide) (by decide) (fun l hl => ⟨by simp at hl; rw [hl]; decide, fun x hx => lit_of (n := 3) (cls := [[1, 2]]) (by decide) l hl x hx⟩) av_ck4)
 have HB12 := Az.mk (bwt HB11.out (bwt K1.out.2 hb))
 have HL12 := Az.mk ((SpG.ints [1, 2, 3, -4]).st ((SpG.ints [1, 2, 3, -4]).st HL11.out K1.out.2) hb)
 clear hb K1 HB11 HL11
 go_wp2_with fail
 refine HC12.out.mono ?_
 rintro e w13 ⟨cn_, rfl, hcn_, hb⟩
 obtain rfl := av_cnt hcn_
 have HB13 := Az.mk (bwt HB12.out hb)
 have HL13 := Az.mk ((SpG.ints [1, 2, 3, -4]).st HL12.out hb)
 clear hb hcn_ HB12 HL12 HC12
 go_wp2_with fail
 have HL9 := Az.mk (C_ints w13 [1, 2, 3, -4] #[.int .i64 1, .int .i64 2, .int .i64 3, .int .i64 (-4)] rfl (by decide))
 obtain ⟨A8', c8', he8, hl8, hC8⟩ := HL13.out
 cases he8
 refine (netlabref32_EqInts.calls 20 A8 c8 [1, 2, 3, -4] _ 4 [1, 2, 3, -4] true _ (Kd.C_alloc hC8 _) hl8 HL9.out (by decide) (by kernel_rfl)).mono ?_
 rintro e w14 ⟨rfl, hd⟩
 have HB14 := Az.mk (bwt (bwt HB13.out (below_new w13 (.cells #[.int .i64 1, .int .i64 2, .int .i64 3, .int .i64 (-4)] 3))) hd.below)
 clear hd hl8 hC8 HL13 HL9 HB13
 go_wp2_with fail
 have HE := Az.mk (encode_at w14.heap.size (w14.heap.size + 1) ((w14.alloc (.cells #[.int .i64 2, .int .i64 5] 109)).alloc (.cells #[.int .i64 7] 67)) (blk_below (blk_new w14 (.cells #[.int .i64 2, .int .i64 5] 109)) (below_new (w14.alloc (.cells #[.int .i64 2, .int .i64 5] 109)) (.cells #[.int .i64 7] 67))) (by have h := blk_new (w14.alloc (.cells #[.int .i64 2, .int .i64 5] 109)) (.cells #[.int .i64 7] 67); rw [World.size_alloc] at h; exact h))
 unfold gV at HE
 refine HE.out.mono ?_
 rintro e w15 ⟨Ae, ce, gI, rfl, hce, hCe, hCi, hb⟩
 have HB15 := Az.mk (bwt (bwt (bwt HB14.out (below_new w14 (.cells #[.int .i64 2, .int .i64 5] 109))) (below_new (w14.alloc (.cells #[.int .i64 2, .int .i64 5] 109)) (.cells #[.int .i64 7] 67))) hb)
 have HC15 : Az ((SpG.cnf 3 [[-3, 1], [-3, -2], [3, -1, 2], [-3]]).p w15 (.agg #[.int .i64 3, .slice Ae 4 ce])) := ⟨⟨Ae, ce, rfl, hce, hCe⟩⟩
 have HI15 : Az ((SpG.ints [0, 1, 2, 3]).p w15 (.slice (some ⟨gI, 0, none⟩) 4 4)) := ⟨⟨_, _, rfl, by decide, hCi⟩⟩
 clear hb hce hCe hCi HE HB14
 go_upto_region 13 with fail
 have HB16 := Az.mk (bwt HB15.out (below_new w15 (.cells #[.int .i64 3, .slice Ae 4 ce] 24)))
 have BX16 := Az.mk (blk_new w15 (.cells #[.int .i64 3, .slice Ae 4 ce] 24))
 have HC16 := Az.mk ((SpG.cnf 3 [[-3, 1], [-3, -2], [3, -1, 2], [-3]]).st HC15.out (below_new w15 (.cells #[.int .i64 3, .slice Ae 4 ce] 24)))
 have HI16 := Az.mk ((SpG.ints [0, 1, 2, 3]).st HI15.out (below_new w15 (.cells #[.int .i64 3, .slice Ae 4 ce] 24)))
 clear HB15 HC15 HI15
 generalize w15.alloc (.cells #[.int .i64 3, .slice Ae 4 ce] 24) = w16 at HB16 BX16 HC16 HI16 ⊢
 generalize w15.heap.size = g16 at BX16 ⊢
 have k1 := lit1 w16 [1, -2] (cs1 := #[.int .i64 1, .int .i64 (-2)]) rfl (by decide)
 have K1 := Az.mk k1
 clear k1
 go_wp2_with fail
 refine (formula_calls _ _ _ _ _).mono ?_
 rintro e w17 ⟨rfl, hb⟩
 have HB17 := Az.mk (bwt HB16.out (bwt K1.out.2 hb))
 have HFM := Az.mk (formatC_calls 50 2 _ 1 [[1, -2]] 0 w17 (Kd.C_below K1.out.1 hb) (by decide) av_ck5 (HT.out.below HB17.out) (fun _ => av_fok) (fun _ => ⟨2, rfl, by decide⟩))
 have HW17 := Az.mk (bwt K1.out.2 hb)
 clear hb K1 HB16
 go_wp2_with fail
 refine HFM.out.mono ?_
 rintro e w18 ⟨rfl, hb⟩
 rw [av_f]
 have HB18 := Az.mk (bwt HB17.out hb)
 have HW18 := Az.mk (bwt HW17.out hb)
 clear hb HFM HB17 HW17
 go_wp2_with fail
 have HD18 := Az.mk (below_drew HW18.out)
 refine caw14_region (g16 := g16) (v16 := .slice Ae 4 ce) (v17 := .slice (some ⟨gI, 0, none⟩) 4 4) ⟨rfl, rfl, rfl, rfl, rfl, rfl, (SpG.ints [0, 1, 2, 3]).st HI16.out HD18.out, blk_below BX16.out HD18.out, (SpG.cnf 3 [[-3, 1], [-3, -2], [3, -1, 2], [-3]]).st HC16.out HD18.out, HG.out.below (below_drew HB18.out), HM.out.below (below_drew HB18.out)⟩ ?_
 intro u W19 hv hb
 have HB19 := Az.mk (bwt HB18.out hb)
 clear hb
 change Exit.then _ _ .normal { tmps := #[u 31, .bool true, .int .i64 0, .bool false, .int .i64 0, .pointer (some ⟨w6.heap.size, 0, none⟩), .int .i64 0, .pointer (some ⟨w8.heap.size, 0, none⟩), .slice A8 4 c8, .bool false, .int .i64 0, .slice A11 0 c11, .bool true, .int .i64 0, .int .u64 6, .int .i64 0, .pointer (some ⟨g16, 0, none⟩), .slice (some ⟨gI, 0, none⟩) 4 4, .int .i64 0, .string ⟨#[112, 32, 99, 110, 102, 32, 50, 32, 49, 10, 49, 32, 45, 50, 32, 48, 10]⟩, .int .i64 0, .tuple #[.bool true, .int .i64 0], .slice (some ⟨w.heap.size, 0, none⟩) 2 2, .slice (some ⟨w.heap.size + 1, 0, none⟩) 1 1, .slice (some ⟨w.heap.size + 1 + 1, 0, none⟩) 2 2, .agg #[.int .i64 2, .slice (some ⟨w.heap.size + 1 + 1, 0, none⟩) 2 2], .slice (some ⟨w1.heap.size, 0, none⟩) 2 2, .tuple #[.bool true, .int .i64 0], .bool true, .int .i64 0, .tuple #[.bool false, .int .i64 0], .slice (some ⟨w2.heap.size, 0, none⟩) 2 2, .slice (some ⟨w2.heap.size + 1, 0, none⟩) 1 1, .slice (some ⟨w2.heap.size + 1 + 1, 0, none⟩) 2 2, .agg #[.int .i64 2, .slice (some ⟨w2.heap.size + 1 + 1, 0, none⟩) 2 2], .slice (some ⟨w3.heap.size, 0, none⟩) 2 2, .tuple #[.bool false, .int .i64 0], .bool false, .int .i64 0, .tuple #[.agg #[.int .i64 3, .slice An 2 cn], .int .i64 0], .slice (some ⟨w4.heap.size, 0, none⟩) 3 3, .slice (some ⟨w4.heap.size + 1, 0, none⟩) 1 1, .slice (some ⟨w4.heap.size + 1 + 1, 0, none⟩) 2 2, .slice (some ⟨w4.heap.size + 1 + 1 + 1, 0, none⟩) 1 1, .slice (some ⟨w4.heap.size + 1 + 1 + 1 + 1, 0, none⟩) 4 4, .agg #[.int .i64 3, .slice (some ⟨w4.heap.size + 1 + 1 + 1 + 1, 0, none⟩) 4 4], .tuple #[.agg #[.int .i64 3, .slice An 2 cn], .int .i64 0], .agg #[.int .i64 3, .slice An 2 cn], .int .i64 0, v 0, v 1, v 2, v 3, v 4, v 5, v 6, v 7, v 8, v 9, v 10, v 11, v 12, v 13, v 14, v 15, v 16, v 17, v 18, v 19, v 20, v 21, v 22, v 23, v 24, .bool false, .slice (some ⟨W7.heap.size, 0, none⟩) 2 2, .slice (some ⟨W7.heap.size + 1, 0, none⟩) 2 2, .slice (some ⟨W7.heap.size + 1 + 1, 0, none⟩) 2 2, .slice (some ⟨W7.heap.size + 1 + 1 + 1, 0, none⟩) 3 3, .agg #[.int .i64 4, .slice (some ⟨W7.heap.size + 1 + 1 + 1, 0, none⟩) 3 3], .tuple #[.slice A8 4 c8, .bool false, .int .i64 0], .agg #[.int .i64 4, .slice (some ⟨W7.heap.size + 1 + 1 + 1, 0, none⟩) 3 3], .slice (some ⟨w8.heap.size + 1, 0, none⟩) 1 1, .tuple #[.slice A8 4 c8, .bool false, .int .i64 0], .slice A8 4 c8, .bool false, .int .i64 0, .tuple #[.slice A11 0 c11, .bool true, .int .i64 0], .agg #[.int .i64 4, .slice (some ⟨W7.heap.size + 1 + 1 + 1, 0, none⟩) 3 3], .slice (some ⟨w10.heap.size, 0, none⟩) 2 2, .tuple #[.slice A11 0 c11, .bool true, .int .i64 0], .slice A11 0 c11, .bool true, .int .i64 0, .tuple #[.int .u64 6, .int .i64 0], .slice (some ⟨w11.heap.size, 0, none⟩) 2 2, .slice (some ⟨w11.heap.size + 1, 0, none⟩) 1 1, .agg #[.int .i64 3, .slice (some ⟨w11.heap.size + 1, 0, none⟩) 1 1], .tuple #[.int .u64 6, .int .i64 0], .int .u64 6, .int .i64 0, .int .i64 0, .bool false, .bool false, .int .i64 0, .bool false, .bool false, .bool false, .int .i64 0, .bool false, .bool false, .bool false, .bool false, .bool false, .bool false, .bool true, .bool false, .bool false, .bool false, .slice A11 0 c11, .int .i64 0, .bool false, .bool false, .bool false, .int .u64 6, .bool false, .bool false, .bool false, .slice A8 4 c8, .slice (some ⟨w13.heap.size, 0, none⟩) 4 4, .bool true, .bool false, .bool false, .tuple #[.agg #[.int .i64 3, .slice Ae 4 ce], .slice (some ⟨gI, 0, none⟩) 4 4, .int .i64 0], .agg #[.int .i64 2, .int .i64 5], .slice (some ⟨w14.heap.size, 0, none⟩) 1 1, .agg #[.int .i64 2, .slice none 0 0, .slice (some ⟨w14.heap.size, 0, none⟩) 1 1, .slice none 0 0], .slice (some ⟨w14.heap.size + 1, 0, none⟩) 1 1, .tuple #[.agg #[.int .i64 3, .slice Ae 4 ce], .slice (some ⟨gI, 0, none⟩) 4 4, .int .i64 0], .agg #[.int .i64 3, .slice Ae 4 ce], .slice (some ⟨gI, 0, none⟩) 4 4, .int .i64 0, .tuple #[.string ⟨#[112, 32, 99, 110, 102, 32, 50, 32, 49, 10, 49, 32, 45, 50, 32, 48, 10]⟩, .int .i64 0], .slice (some ⟨w16.heap.size, 0, none⟩) 2 2, .slice (some ⟨w16.heap.size + 1, 0, none⟩) 1 1, .agg #[.int .i64 2, .slice (some ⟨w16.heap.size + 1, 0, none⟩) 1 1], .tuple #[.string ⟨#[112, 32, 99, 110, 102, 32, 50, 32, 49, 10, 49, 32, 45, 50, 32, 48, 10]⟩, .int .i64 0], .string ⟨#[112, 32, 99, 110, 102, 32, 50, 32, 49, 10, 49, 32, 45, 50, 32, 48, 10]⟩, .int .i64 0, u 0, u 1, u 2, u 3, u 4, u 5, u 6, u 7, u 8, u 9, u 10, u 11, u 12, u 13, u 14, u 15, u 16, u 17, u 18, u 19, u 20, u 21, u 22, u 23, u 24, u 25, u 26, u 27, u 28, u 29, u 30], defers := [] } _
 rw [hv]
 clear hv
 go_wp2
 go_ret
 exact ⟨rfl, HB19.out⟩
end Go.Proofs.YtkcfdddhnboieaaGreatDoor.NState
end
section
set_option maxHeartbeats 4000000
set_option maxRecDepth 100000
namespace Go.Proofs.YtkcfdddhnboieaaGreatDoor.NState
open Go Go.RowKit Go.Shelf Go.Lib QW.PrintWords QW.PrintLast QW.PrintMore NMap
open PCheck (cnf_Check.f rL at_L1)
open PFit (nFt.calls)
open PModels (netlabref20_Bits.calls netlabref20_Bits.f)
open PSameC (netlabref32_Same.calls netlabref32_Same.f netlabref32_EqClauses.f netlabref32_EqClauses.l0 netlabref32_EqInts.f netlabref32_EqInts.l0)
open NPlain (LitOk Fine fit_ev Ev.both bitsL bitsL_len bits_ev tot tot_le chkL check_code any_ok trivA clsOk_all normL_idem normL_len normL_eval normL_fine normL_congr clauseS_congr clauseS_len mem_sortedC)
theorem eqInts_selfN (l : List Int) (hl : l.length ≤ 1000000000) : NPlain.Ev (fun k => netlabref32_EqInts.f k l l) true := by
 have h : ∀ i, i ≤ l.length → NPlain.Ev (fun k => netlabref32_EqInts.l0 k l l (i : Int)) true := by
  refine NPlain.down (P := fun i => NPlain.Ev (fun k => netlabref32_EqInts.l0 k l l (i : Int)) true) ?_ ?_
  ·refine NPlain.Ev.succ ?_
   simp only [netlabref32_EqInts.l0]
   exact NPlain.Ev.neg (by omega) (NPlain.Ev.pure _)
  ·intro i hi ih
   refine NPlain.Ev.succ ?_
   simp only [netlabref32_EqInts.l0]
   refine NPlain.Ev.pos (by omega) (NPlain.Ev.pos (by omega) (NPlain.Ev.pos (by omega) (NPlain.Ev.pos trivial ?_)))
   rw [show wrap64 ((i : Int) + 1) = ((i + 1 : Nat) : Int) by unfold wrap64; omega]
   exact ih
 unfold netlabref32_EqInts.f
 exact NPlain.Ev.pos rfl (h 0 (Nat.zero_le _))
theorem same_self (v : Int) (L : List (List Int)) (hL : L.length ≤ 1000000000) (hl : ∀ l ∈ L, l.length ≤ 1000000000) : NPlain.Ev (fun k => netlabref32_Same.f k v L v L) true := by
 have h : ∀ i, i ≤ L.length → NPlain.Ev (fun k => netlabref32_EqClauses.l0 k L L (i : Int)) true := by
  refine NPlain.down (P := fun i => NPlain.Ev (fun k => netlabref32_EqClauses.l0 k L L (i : Int)) true) ?_ ?_
  ·refine NPlain.Ev.succ ?_
   simp only [netlabref32_EqClauses.l0]
   exact NPlain.Ev.neg (by omega) (NPlain.Ev.pure _)
  ·intro i hi ih
   refine NPlain.Ev.succ ?_
   simp only [netlabref32_EqClauses.l0]
   have e : PSameC.rL L (i : Int) = L[i] := by simp [PSameC.rL, hi]
   rw [e]
   refine NPlain.Ev.pos (by omega) (NPlain.Ev.pos (by omega) (NPlain.Ev.pos (by omega) (NPlain.Ev.bind (eqInts_selfN L[i] (hl _ (List.getElem_mem hi))) (NPlain.Ev.pos rfl ?_))))
   rw [show wrap64 ((i : Int) + 1) = ((i + 1 : Nat) : Int) by unfold wrap64; omega]
   exact ih
 unfold netlabref32_Same.f netlabref32_EqClauses.f
 refine NPlain.Ev.pos rfl (NPlain.Ev.bind ?_ (NPlain.Ev.pure _))
 exact NPlain.Ev.pos rfl (h 0 (Nat.zero_le _))
theorem check_gen {n : Nat} (hn : n ≤ 4096) {L : List (List Int)} (h1 : L.length ≤ 1000) (h2 : ∀ l ∈ L, l.length ≤ 12 ∧ ∀ y ∈ l, LitOk n y) : NPlain.Ev (fun k => cnf_Check.f k n L) 0 := by
 have h4 := tot_le 12 L (fun l hl => (h2 l hl).1)
 have e := check_code n L (by omega) (by omega) (fun l hl => by have := (h2 l hl).1; omega)
 have hz : chkL n L = 0 := by
  unfold chkL
  rw [if_neg (by omega), if_neg (by omega), if_neg]
  rw [Bool.not_eq_true, List.any_eq_false]
  intro l hl
  rw [any_ok (by omega) (h2 l hl).2]; simp
 rwa [hz] at e
def turnL (L : List (List Int)) (i : Nat) : List (List Int) := (L.drop i).reverse.flatMap fun l => [l.reverse, l.reverse]
theorem flat2_len (l : List (List Int)) : (l.flatMap fun x => [x.reverse, x.reverse]).length = 2 * l.length := by
 induction l with
 | nil => rfl
 | cons a t ih =>
  rw [List.flatMap_cons, List.length_append, ih]
  show 2 + 2 * t.length = 2 * (t.length + 1)
  omega
theorem turnL_len (L : List (List Int)) (i : Nat) : (turnL L i).length = 2 * (L.length - i) := by
 unfold turnL
 rw [flat2_len, List.length_reverse, List.length_drop]
theorem turnL_mem {L : List (List Int)} {i : Nat} {y : List Int} : y ∈ turnL L i ↔ ∃ l ∈ L.drop i, y = l.reverse := by
 unfold turnL
 simp [List.mem_flatMap]
theorem turnL_step {L : List (List Int)} {i : Nat} (h : i < L.length) : turnL L i = turnL L (i + 1) ++ [L[i].reverse, L[i].reverse] := by
 unfold turnL
 rw [List.drop_eq_getElem_cons h, List.reverse_cons, List.flatMap_append]
 simp
structure NOwed (n : Nat) (L : List (List Int)) (x k : Nat) : Prop where
 ck : cnf_Check.f k n L = some 0
 ckN : cnf_Check.f k n (normL trivA L) = some 0
 ckT : cnf_Check.f k n (turnL L 0) = some 0
 ok1 : ∀ l ∈ sortedC L, ClsOk k trivA l
 ok2 : ∀ l ∈ sortedC (normL trivA L), ClsOk k trivA l
 ok3 : ∀ l ∈ sortedC (turnL L 0), ClsOk k trivA l
 bits : netlabref20_Bits.f k (x : Int) (n : Int) = some (bitsL x.testBit n)
 same : netlabref32_Same.f k n (normL trivA L) n (normL trivA L) = some true
theorem turn_norm (L : List (List Int)) : normL trivA (turnL L 0) = normL trivA L := by
 refine normL_congr (fun y => ?_)
 constructor
 ·rintro ⟨l, hl, rfl⟩
  obtain ⟨l', h1, rfl⟩ := turnL_mem.1 hl
  exact ⟨l', by simpa using h1, clauseS_congr (fun z => by simp)⟩
 ·rintro ⟨l, hl, rfl⟩
  exact ⟨l.reverse, turnL_mem.2 ⟨l, by simpa using hl, rfl⟩, clauseS_congr (fun z => by simp)⟩
theorem turn_fine {n : Nat} {L : List (List Int)} (h : Fine n L) : ∀ l ∈ turnL L 0, l.length ≤ 12 ∧ ∀ y ∈ l, LitOk n y := fun l hl => by
 obtain ⟨l', h1, rfl⟩ := turnL_mem.1 hl
 have h2 : l' ∈ L := by simpa using h1
 exact ⟨by rw [List.length_reverse]; exact (h.2 l' h2).1, fun y hy => (h.2 l' h2).2 y (by simpa using hy)⟩
theorem nowed {n : Nat} (hn : n ≤ 12) {L : List (List Int)} (h : Fine n L) (x : Nat) : ∃ k, NOwed n L x k := by
 have hN := normL_fine h trivA
 have hs : ∀ M : List (List Int), (∀ l ∈ M, l.length ≤ 12) → ∀ l ∈ sortedC M, l.length ≤ 1000000000 := fun M hM l hl => by
  obtain ⟨l', h1, rfl⟩ := (mem_sortedC M l).1 hl
  have := clauseS_len l'
  have := hM l' h1
  omega
 obtain ⟨K1, h1⟩ := Ev.both (check_gen (by omega) (by have := h.1; omega) h.2) (check_gen (by omega) (by have := hN.1; omega) hN.2)
 obtain ⟨K2, h2⟩ := Ev.both (check_gen (by omega) (by rw [turnL_len]; have := h.1; omega) (turn_fine h)) (bits_ev x n (by omega))
 obtain ⟨K3, h3⟩ := clsOk_all (sortedC L) (hs L (fun l hl => (h.2 l hl).1))
 obtain ⟨K4, h4⟩ := clsOk_all (sortedC (normL trivA L)) (hs _ (fun l hl => (hN.2 l hl).1))
 obtain ⟨K5, h5⟩ := clsOk_all (sortedC (turnL L 0)) (hs _ (fun l hl => (turn_fine h l hl).1))
 obtain ⟨K6, h6⟩ := same_self n (normL trivA L) (by have := hN.1; omega) (fun l hl => by have := (hN.2 l hl).1; omega)
 refine ⟨max K1 (max K2 (max K3 (max K4 (max K5 K6)))), (h1 _ (by omega)).1, (h1 _ (by omega)).2, (h2 _ (by omega)).1, h3 _ (by omega), h4 _ (by omega), h5 _ (by omega), (h2 _ (by omega)).2, h6 _ (by omega)⟩
theorem rows2 (W : World) (base g : Nat) (hg : base ≤ g) (hb : base ≤ W.heap.size) {v : Value} {l : List Int} (h : Kd.R (Kd.int .i64) 3 W g (fun _ => True) v l) :
  ReadsRow ((Kd.slice 3 (Kd.int .i64)).M (W.alloc (.cells #[v, v] 26)) base (fun k => g ≤ k)) 1 (W.alloc (.cells #[v, v] 26)) (some ⟨W.heap.size, 0, none⟩) 2 [l, l] := by
 have hm : (Kd.slice 3 (Kd.int .i64)).M (W.alloc (.cells #[v, v] 26)) base (fun k => g ≤ k) l [v] :=
  Kd.M_row (Kd.R_lower (Kd.R_mono (Kd.R_bound (Kd.R_alloc h _)) (fun k hk => hk.2.1)) hg)
 have hr : Reps ((Kd.slice 3 (Kd.int .i64)).M (W.alloc (.cells #[v, v] 26)) base (fun k => g ≤ k)) 1 [l, l] [v, v] :=
  ((Reps.none _ 1).snoc (p := l) (c := [v]) hm rfl).snoc (p := l) (c := [v]) hm rfl
 obtain ⟨A, c, he, _, hread⟩ := (OwnRow.lit (e := 26) W W.heap.size hr (Nat.le_refl _) (by simp)).reads
 cases he
 exact hread
theorem app2_ {ops : Array Oper} {rest : List Oper} {o : Oper} {a : Act} {Q : Exit → Act → World → Prop} {W : World} {base g m : Nat} {A4 : Option Addr} {c4 : Nat} {s x : Tmp} {xs : List (List Int)} {v : Value} {y : List Int} (hgd : o.guard = none) (ho : o.op = .call { callee := .builtin .append, args := #[.tmp s, .tmp x], argTypes := #[22, 22] })
  (hm : m = xs.length) (hs : a.eval (.tmp s) = .slice A4 m c4) (hx : a.eval (.tmp x) = .slice (some ⟨W.heap.size, 0, none⟩) 2 2) (HO : Kd.R (Kd.slice 3 (Kd.int .i64)) 26 W base (fun _ => True) (.slice A4 m c4) xs) (hin : Kd.R (Kd.int .i64) 3 W g (fun _ => True) v y)
  (hgb : base ≤ g) (hg : ∀ k, (Value.slice A4 m c4).ownBlock = some k → k < g) (hgs : g ≤ W.heap.size) (hl : xs.length ≤ 1000)
  (h : ∀ A1 c1 w1, Kd.R (Kd.slice 3 (Kd.int .i64)) 26 w1 base (fun _ => True) (.slice A1 (m + 2) c1) (xs ++ [y, y]) → (W.alloc (.cells #[v, v] 26)).grownBy w1 (Value.slice A4 m c4).ownBlock → wpList Tryz.prog ops Q rest (a.put o.dst (.slice A1 (m + 2) c1)) w1) : wpList Tryz.prog ops Q (o :: rest) a (W.alloc (.cells #[v, v] 26)) := by
 subst hm
 have hsz : base ≤ (W.alloc (.cells #[v, v] 26)).heap.size := by rw [World.size_alloc]; omega
 refine Kd.R_append_rows (Kd.slice 3 (Kd.int .i64)) (w0 := W.alloc (.cells #[v, v] 26)) base hgd (.tmp s) (.tmp x) 22 26 (.slice none 0 0) 24 ho Tryz.underlying22 infoSV rfl Nat.zero_lt_one (by decide) (.slice A4 xs.length c4) xs [y, y] (some ⟨W.heap.size, 0, none⟩) 2 2 (fun _ => True) (fun k => g ≤ k) hs hx (Kd.R_alloc HO _) (rows2 W base g hgb (Nat.le_trans hgb hgs) hin) (fun _ _ h => h) (fun k hk => ⟨trivial, fun e => by have := hg k e.symm; omega⟩) (fun _ _ => trivial) (Below.refl _ _) hsz (by omega) ?_
 intro v1 w1 hr hb hgr hat
 obtain ⟨A1, c1, e1⟩ := Kd.R_slice hr
 rw [List.length_append] at e1
 subst e1
 exact h A1 c1 w1 hr hgr
def nrmR4.T : Bool × List (List Nat × List Nat) := (true, [([], []), ([], []), ([], []), ([2], [2]), ([1, 3], [1, 3]), ([0, 4, 4], [0, 4]), ([5], [5]), ([6], [6]), ([6], [6]), ([7, 5, 0, 1, 2, 3, 4, 5, 6, 7], [7]), ([8, 9, 0, 1, 2, 3, 4, 5, 6, 7, 8, 9], [8])])
def nrmR4.B : List Nat := [0, 0, 0, 4, 14, 31, 63, 127, 127, 255, 1023]
theorem nrmR4.tab : rtab .any (opsOf Tryz.f6 4) = nrmR4.T := by kernel_rfl
theorem nrmR4.bits : waitsOk nrmR4.T.2 nrmR4.B = true := by kernel_rfl
def nrmR5.T : Bool × List (List Nat × List Nat) := (true, [([], []), ([], []), ([], []), ([2], [2]), ([1, 3], [1, 3]), ([0, 4, 4], [0, 4]), ([5], [5]), ([6], [6]), ([6], [6]), ([7, 5, 0, 1, 2, 3, 4, 5, 6, 7], [7]), ([8, 9, 0, 1, 2, 3, 4, 5, 6, 7, 8, 9], [8])])
def nrmR5.B : List Nat := [0, 0, 0, 4, 14, 31, 63, 127, 127, 255, 1023]
theorem nrmR5.tab : rtab .any (opsOf Tryz.f6 5) = nrmR5.T := by kernel_rfl
theorem nrmR5.bits : waitsOk nrmR5.T.2 nrmR5.B = true := by kernel_rfl
theorem norms_calls (vars : Int) (A1 : Option Addr) (c1 : Nat) (cls : List (List Int)) (md : Int) (w : World) (hr1 : Kd.C (Kd.slice 3 (Kd.int .i64)) w A1 cls.length cls) (hc1 : cls.length ≤ c1) (hmd : 0 ≤ md) (hg : NText.GOK w) (hm : NText.MOK w) (ht : TabOK w) :
  Calls Tryz.prog 6 #[.agg #[.int .i64 vars, .slice A1 cls.length c1], .int .u64 md] w (AwakePost w) := by
 obtain ⟨n, L, hn, hLl, hLok, kf, hkf⟩ := fit_ev 12 40 (by decide) (by decide) vars cls
 obtain ⟨mN, rfl⟩ := Int.eq_ofNat_of_zero_le hmd
 obtain ⟨k, hk⟩ := nowed hn ⟨hLl, hLok⟩ mN
 have HFIT := Az.mk (hkf kf (Nat.le_refl _))
 have HF : Az (Fine n L) := ⟨⟨hLl, hLok⟩⟩
 have HO := Az.mk hk
 have HN := Az.mk hn
 have HR1 := Az.mk hr1
 have HC1 := Az.mk hc1
 have HG := Az.mk hg
 have HM := Az.mk hm
 have HT := Az.mk ht
 clear hn hLl hLok hkf hr1 hc1 hg hm ht hmd hk
 obtain ⟨N1, hN1⟩ : ∃ N1, normL trivA L = N1 := ⟨_, rfl⟩
 have HN1 := Az.mk hN1
 have hNF := normL_fine HF.out trivA
 rw [hN1] at hNF
 have HNF := Az.mk hNF
 have HNL : Az (N1.length ≤ L.length) := ⟨by rw [← hN1]; exact normL_len _ _⟩
 clear hN1 hNF
 have hu24 := Tryz.underlying24
 go_enter Tryz.func6, Tryz.ntmps6
 go_wp2_with fail
 refine (nFt.calls kf vars A1 c1 cls 12 40 n L _ (Kd.C_alloc HR1.out _) HC1.out HFIT.out).mono ?_
 rintro e w1 ⟨v1, rfl, hs1, hb1⟩
 obtain ⟨Ax, cx, hvx, hlx, hCx⟩ := Kd.S_reads hs1
 subst hvx
 have HX := Az.mk hCx
 have HLX := Az.mk hlx
 have HB1 : Az (Below w.heap.size w w1) := ⟨bwt (below_new w _) hb1⟩
 clear hs1 hb1 hCx hlx HFIT HR1 HC1
 go_wp2_with fail
 have hnc := normal_calls k k n Ax cx L trivA _ (Kd.C_alloc HX.out (.cells #[.int .i64 n, .slice Ax L.length cx] 24)) HLX.out HO.out.ck (by have := HF.out.1; omega) (fun l hl => by have := (HF.out.2 l hl).1; omega) HO.out.ok1
 rw [HN1.out] at hnc
 refine hnc.mono ?_
 clear hnc
 rintro e w2 ⟨An, cn, rfl, hcn, hCn, hb2⟩
 have BX2 := Az.mk (blk_below (blk_new w1 (.cells #[.int .i64 n, .slice Ax L.length cx] 24)) hb2)
 have HX2 := Az.mk (Kd.C_below (Kd.C_alloc HX.out (.cells #[.int .i64 n, .slice Ax L.length cx] 24)) hb2)
 have HB2 := Az.mk (bwt (bwt HB1.out (below_new w1 (.cells #[.int .i64 n, .slice Ax L.length cx] 24))) hb2)
 have HCN := Az.mk hcn
 have HN2 := Az.mk hCn
 have HGX : Az (w.heap.size ≤ w1.heap.size) := ⟨HB1.out.size⟩
 clear hb2 hcn hCn HX HB1
 generalize w1.heap.size = g5 at BX2 HGX ⊢
 go_wp2_with fail
 have hnc := normal_calls k k n An cn N1 trivA _ (Kd.C_alloc HN2.out (.cells #[.int .i64 n, .slice An N1.length cn] 24)) HCN.out (by rw [← HN1.out]; exact HO.out.ckN) (by have := HNF.out.1; omega) (fun l hl => by have := (HNF.out.2 l hl).1; omega) (by rw [← HN1.out]; exact HO.out.ok2)
 rw [show normL trivA N1 = N1 by rw [← HN1.out]; exact normL_idem _ _] at hnc
 refine hnc.mono ?_
 clear hnc
 rintro e w3 ⟨Am, cm, rfl, hcm, hCm, hb3⟩
 have BN3 := Az.mk (blk_below (blk_new w2 (.cells #[.int .i64 n, .slice An N1.length cn] 24)) hb3)
 have HN3 := Az.mk (Kd.C_below (Kd.C_alloc HN2.out (.cells #[.int .i64 n, .slice An N1.length cn] 24)) hb3)
 have BX3 := Az.mk (blk_below (blk_below BX2.out (below_new w2 (.cells #[.int .i64 n, .slice An N1.length cn] 24))) hb3)
 have HX3 := Az.mk (Kd.C_below (Kd.C_alloc HX2.out (.cells #[.int .i64 n, .slice An N1.length cn] 24)) hb3)
 have HB3 := Az.mk (bwt (bwt HB2.out (below_new w2 (.cells #[.int .i64 n, .slice An N1.length cn] 24))) hb3)
 have HCM := Az.mk hcm
 have HM3 := Az.mk hCm
 clear hb3 hcm hCm HN2 BX2 HX2 HB2
 generalize w2.heap.size = g6 at BN3 ⊢
 go_upto_region 4 with fail
 have hba := below_new w3 (.cells #[.int .i64 n, .slice Am N1.length cm] 24)
 have BM4 := Az.mk (blk_new w3 (.cells #[.int .i64 n, .slice Am N1.length cm] 24))
 have BN4 := Az.mk (blk_below BN3.out hba)
 have HN4 := Az.mk (Kd.C_below HN3.out hba)
 have BX4 := Az.mk (blk_below BX3.out hba)
 have HX4 := Az.mk (Kd.C_below HX3.out hba)
 have HM4 := Az.mk (Kd.C_below HM3.out hba)
 have HB4 := Az.mk (bwt HB3.out hba)
 clear hba BN3 HN3 BX3 HX3 HM3 HB3
 generalize w3.alloc (.cells #[.int .i64 n, .slice Am N1.length cm] 24) = w4 at BM4 BN4 HN4 BX4 HX4 HM4 HB4 ⊢
 generalize w3.heap.size = g8 at BM4 ⊢
 have BX5 := Az.mk (bkd BX4.out)
 have BN5 := Az.mk (bkd BN4.out)
 have BM5 := Az.mk (bkd BM4.out)
 have HX5 := Az.mk (Kd.C_drew HX4.out)
 have HN5 := Az.mk (Kd.C_drew HN4.out)
 have HM5 := Az.mk (Kd.C_drew HM4.out)
 have HB5 := Az.mk (below_drew HB4.out)
 clear BX4 BN4 BM4 HX4 HN4 HM4 HB4
 have hlm : (bitsL mN.testBit n).length = n := bitsL_len _ _
 have HLT : Az ((bitsL mN.testBit n).length ≤ 100000 ∧ ∀ l ∈ L, ∀ x ∈ l, LitOk (bitsL mN.testBit n).length x) := ⟨by rw [hlm]; have := HN.out; omega, by rw [hlm]; exact fun l hl => (HF.out.2 l hl).2⟩
 have HLN : Az ((bitsL mN.testBit n).length ≤ 100000 ∧ ∀ l ∈ N1, ∀ x ∈ l, LitOk (bitsL mN.testBit n).length x) := ⟨by rw [hlm]; have := HN.out; omega, by rw [hlm]; exact fun l hl => (HNF.out.2 l hl).2⟩
 obtain ⟨ev, hev⟩ : ∃ ev, (L.all fun l => l.any (trueB (bitsL mN.testBit n))) = ev := ⟨_, rfl⟩
 have HE1 : Az (evalF 0 (n : Int) L (bitsL mN.testBit n) = (ev, 0)) := ⟨by unfold evalF; rw [if_pos rfl, if_pos (by rw [hlm]), hev]⟩
 have HE2 : Az (evalF 0 (n : Int) N1 (bitsL mN.testBit n) = (ev, 0)) := ⟨by unfold evalF; rw [if_pos rfl, if_pos (by rw [hlm]), ← HN1.out, normL_eval HLT.out.1 HLT.out.2, hev]⟩
 clear hev hlm
 refine start_ (n := 11) (S := fun w' => w'.cell? ⟨g5, 0, none⟩ = some (.int .i64 n) ∧ w'.cell? ⟨g5, 1, none⟩ = some (.slice Ax L.length cx)) (ds := []) #[false, false, false, false, false, false, false, false, false, false, false] (by kernel_rfl) rfl rfl ⟨((bkc BX5.out 0).trans rfl), ((bkc BX5.out 1).trans rfl)⟩ (fun hHeld => ?_); refine with_tabW nrmR4.tab nrmR4.bits (fun HT_ HW_ => ?_)
 generalize w4.drew = w5 at BX5 BN5 BM5 HX5 HN5 HM5 HB5 hHeld ⊢
 refine take_ (i := 0) (N := some 33) (v := ?_) (a' := ?_) (bA 11 1) rfl rfl (tof HT_.out HW_.out (by kernel_rfl)) (fun _ _ _ h => h) (Or.inl ⟨by rfl, ?_⟩) hHeld ?_ ?_
 rotate_left
 ·rintro w' ⟨s0, s1⟩
  go_simp
  with_reducible rfl
 rotate_left
 ·simp only [Act.put, zq1, zq2, zq3, iw, jw]
  rfl
 refine pure_ (i := 1) (N := some 34) (v := ?_) (a' := ?_) (bA 11 3) rfl rfl (aof HT_.out (by kernel_rfl)) (fun _ _ _ h => h) (Or.inl ⟨by rfl, ?_⟩) ?_ ?_
 rotate_left
 ·intro w'
  go_simp
  with_reducible rfl
 rotate_left
 ·simp only [Act.put, zq1, zq2, zq3, iw, jw]
  rfl
 refine pure_ (i := 2) (N := some 35) (v := ?_) (a' := ?_) (bA 11 7) rfl rfl (aof HT_.out (by kernel_rfl)) (fun _ _ _ h => h) (Or.inl ⟨by rfl, ?_⟩) ?_ ?_
 rotate_left
 ·intro w'
  go_simp
  with_reducible rfl
 rotate_left
 ·simp only [Act.put, zq1, zq2, zq3, iw, jw]
  rfl
 refine take_ (i := 3) (N := some 36) (v := ?_) (a' := ?_) (bA 11 15) rfl rfl (tof HT_.out HW_.out (by kernel_rfl)) (fun _ _ _ h => h) (Or.inl ⟨by rfl, ?_⟩) hHeld ?_ ?_
 rotate_left
 ·rintro w' ⟨s0, s1⟩
  go_simp
  with_reducible rfl
 rotate_left
 ·simp only [Act.put, zq1, zq2, zq3, iw, jw]
  rfl
 refine QW.PrintLast.one_ (i := 4) (N := some 37) (bA 11 31) rfl rfl (one_of HT_.out (by kernel_rfl)) (by decide) (fun K hK => ?_)
 refine goes_ Tryz.func33 (by kernel_rfl) rfl #[.int .u64 mN, .int .i64 n] (by rfl) rfl rfl (by (try simp only [List.map_toArray, List.map_cons, List.map_nil]); first | done | rfl) ?_
 refine (netlabref20_Bits.calls k (mN : Int) (n : Int) (bitsL mN.testBit n) w5 HO.out.bits).mono ?_
 rintro e w6 ⟨vb4, rfl, hr, hb⟩
 obtain ⟨Ab4, cb4, eb, hlb, hCb⟩ := Kd.R_reads hr
 subst eb
 have HCB := Az.mk hCb
 have BX6 := Az.mk (blk_below BX5.out hb)
 have BN6 := Az.mk (blk_below BN5.out hb)
 have BM6 := Az.mk (blk_below BM5.out hb)
 have HX6 := Az.mk (Kd.C_below HX5.out hb)
 have HN6 := Az.mk (Kd.C_below HN5.out hb)
 have HM6 := Az.mk (Kd.C_below HM5.out hb)
 have HB6 := Az.mk (bwt HB5.out hb)
 clear BX5 BN5 BM5 HX5 HN5 HM5 HB5
 refine ⟨_, rfl, hK.out _ _ ⟨((bkc BX6.out 0).trans rfl), ((bkc BX6.out 1).trans rfl)⟩ (fun hHeld => ?_)⟩
 clear hK K hr hb hlb hCb
 refine norm_ (a' := ?_) ?_ ?_
 rotate_left
 ·show Act.put _ (some 37) _ = _
  simp only [Act.put, zq1, zq2, zq3, iw, jw]
  rfl
 refine QW.PrintLast.one_ (i := 5) (N := some 38) (bA 11 63) rfl rfl (one_of HT_.out (by kernel_rfl)) (by decide) (fun K hK => ?_)
 refine goes_ Tryz.func17 (by kernel_rfl) rfl #[.agg #[.int .i64 n, .slice Ax L.length cx], .slice Ab4 (bitsL mN.testBit n).length cb4] (by rfl) rfl rfl (by (try simp only [List.map_toArray, List.map_cons, List.map_nil]); first | done | rfl) ?_
 refine (eval_calls k (n : Int) Ax cx L Ab4 cb4 (bitsL mN.testBit n) 0 w6 HX6.out HLX.out HCB.out HO.out.ck (fun _ _ => HLT.out)).mono ?_
 rintro e w7 ⟨rfl, hb⟩
 rw [HE1.out]
 have BX7 := Az.mk (blk_below BX6.out hb)
 have BN7 := Az.mk (blk_below BN6.out hb)
 have BM7 := Az.mk (blk_below BM6.out hb)
 have HX7 := Az.mk (Kd.C_below HX6.out hb)
 have HN7 := Az.mk (Kd.C_below HN6.out hb)
 have HM7 := Az.mk (Kd.C_below HM6.out hb)
 have HB7 := Az.mk (bwt HB6.out hb)
 clear BX6 BN6 BM6 HX6 HN6 HM6 HB6
 refine ⟨_, rfl, hK.out _ _ ⟨((bkc BX7.out 0).trans rfl), ((bkc BX7.out 1).trans rfl)⟩ (fun hHeld => ?_)⟩
 clear hK K hb HCB
 refine norm_ (a' := ?_) ?_ ?_
 rotate_left
 ·show Act.put _ (some 38) _ = _
  simp only [Act.put, zq1, zq2, zq3, iw, jw]
  rfl
 refine pure_ (i := 6) (N := some 32) (v := ?_) (a' := ?_) (bA 11 127) rfl rfl (aof HT_.out (by kernel_rfl)) (fun _ _ _ h => h) (Or.inl ⟨by rfl, ?_⟩) ?_ ?_
 rotate_left
 ·intro w'
  go_simp
  with_reducible rfl
 rotate_left
 ·simp only [Act.put, zq1, zq2, zq3, iw, jw]
  rfl
 refine pure_ (i := 7) (N := some 39) (v := ?_) (a' := ?_) (bA 11 255) rfl rfl (aof HT_.out (by kernel_rfl)) (fun _ _ _ h => h) (Or.inl ⟨by rfl, ?_⟩) ?_ ?_
 rotate_left
 ·intro w'
  go_simp
  with_reducible rfl
 rotate_left
 ·simp only [Act.put, zq1, zq2, zq3, iw, jw]
  rfl
 refine pure_ (i := 8) (N := some 40) (v := ?_) (a' := ?_) (bA 11 511) rfl rfl (aof HT_.out (by kernel_rfl)) (fun _ _ _ h => h) (Or.inl ⟨by rfl, ?_⟩) ?_ ?_
 rotate_left
 ·intro w'
  go_simp
  with_reducible rfl
 rotate_left
 ·simp only [Act.put, zq1, zq2, zq3, iw, jw]
  rfl
 refine pure_ (i := 9) (N := some 10) (v := ?_) (a' := ?_) (bA 11 1023) rfl rfl (aof HT_.out (by kernel_rfl)) (fun _ _ _ h => h) (Or.inl ⟨by rfl, ?_⟩) ?_ ?_
 rotate_left
 ·intro w'
  go_simp
  with_reducible rfl
 rotate_left
 ·simp only [Act.put, zq1, zq2, zq3, iw, jw]
  rfl
 refine pure_ (i := 10) (N := some 11) (v := ?_) (a' := ?_) (bA 11 2047) rfl rfl (aof HT_.out (by kernel_rfl)) (fun _ _ _ h => h) (Or.inl ⟨by rfl, ?_⟩) ?_ ?_
 rotate_left
 ·intro w'
  go_simp
  with_reducible rfl
 rotate_left
 ·simp only [Act.put, zq1, zq2, zq3, iw, jw]
  rfl
 refine done_ (done_of HT_.out (by kernel_rfl)) ?_
 clear hHeld HT_ HW_
 go_upto_region 5 with fail
 have BX8 := Az.mk (bkd BX7.out)
 have BN8 := Az.mk (bkd BN7.out)
 have BM8 := Az.mk (bkd BM7.out)
 have HX8 := Az.mk (Kd.C_drew HX7.out)
 have HN8 := Az.mk (Kd.C_drew HN7.out)
 have HM8 := Az.mk (Kd.C_drew HM7.out)
 have HB8 := Az.mk (below_drew HB7.out)
 clear BX7 BN7 BM7 HX7 HN7 HM7 HB7
 refine start_ (n := 11) (S := fun w' => w'.cell? ⟨g6, 0, none⟩ = some (.int .i64 n) ∧ w'.cell? ⟨g6, 1, none⟩ = some (.slice An N1.length cn) ∧ w'.cell? ⟨g5, 0, none⟩ = some (.int .i64 n)) (ds := []) #[false, false, false, false, false, false, false, false, false, false, false] (by kernel_rfl) rfl rfl ⟨((bkc BN8.out 0).trans rfl), ((bkc BN8.out 1).trans rfl), ((bkc BX8.out 0).trans rfl)⟩ (fun hHeld => ?_); refine with_tabW nrmR5.tab nrmR5.bits (fun HT_ HW_ => ?_)
 generalize w7.drew = w8 at BX8 BN8 BM8 HX8 HN8 HM8 HB8 hHeld ⊢
 refine take_ (i := 0) (N := some 42) (v := ?_) (a' := ?_) (bA 11 1) rfl rfl (tof HT_.out HW_.out (by kernel_rfl)) (fun _ _ _ h => h) (Or.inl ⟨by rfl, ?_⟩) hHeld ?_ ?_
 rotate_left
 ·rintro w' ⟨s0, s1, s2⟩
  go_simp
  with_reducible rfl
 rotate_left
 ·simp only [Act.put, zq1, zq2, zq3, iw, jw]
  rfl
 refine pure_ (i := 1) (N := some 43) (v := ?_) (a' := ?_) (bA 11 3) rfl rfl (aof HT_.out (by kernel_rfl)) (fun _ _ _ h => h) (Or.inl ⟨by rfl, ?_⟩) ?_ ?_
 rotate_left
 ·intro w'
  go_simp
  with_reducible rfl
 rotate_left
 ·simp only [Act.put, zq1, zq2, zq3, iw, jw]
  rfl
 refine pure_ (i := 2) (N := some 44) (v := ?_) (a' := ?_) (bA 11 7) rfl rfl (aof HT_.out (by kernel_rfl)) (fun _ _ _ h => h) (Or.inl ⟨by rfl, ?_⟩) ?_ ?_
 rotate_left
 ·intro w'
  go_simp
  with_reducible rfl
 rotate_left
 ·simp only [Act.put, zq1, zq2, zq3, iw, jw]
  rfl
 refine take_ (i := 3) (N := some 45) (v := ?_) (a' := ?_) (bA 11 15) rfl rfl (tof HT_.out HW_.out (by kernel_rfl)) (fun _ _ _ h => h) (Or.inl ⟨by rfl, ?_⟩) hHeld ?_ ?_
 rotate_left
 ·rintro w' ⟨s0, s1, s2⟩
  go_simp
  with_reducible rfl
 rotate_left
 ·simp only [Act.put, zq1, zq2, zq3, iw, jw]
  rfl
 refine QW.PrintLast.one_ (i := 4) (N := some 46) (bA 11 31) rfl rfl (one_of HT_.out (by kernel_rfl)) (by decide) (fun K hK => ?_)
 refine goes_ Tryz.func33 (by kernel_rfl) rfl #[.int .u64 mN, .int .i64 n] (by rfl) rfl rfl (by (try simp only [List.map_toArray, List.map_cons, List.map_nil]); first | done | rfl) ?_
 refine (netlabref20_Bits.calls k (mN : Int) (n : Int) (bitsL mN.testBit n) w8 HO.out.bits).mono ?_
 rintro e w9 ⟨vb5, rfl, hr, hb⟩
 obtain ⟨Ab5, cb5, eb, hlb, hCb⟩ := Kd.R_reads hr
 subst eb
 have HCB := Az.mk hCb
 have BX9 := Az.mk (blk_below BX8.out hb)
 have BN9 := Az.mk (blk_below BN8.out hb)
 have BM9 := Az.mk (blk_below BM8.out hb)
 have HX9 := Az.mk (Kd.C_below HX8.out hb)
 have HN9 := Az.mk (Kd.C_below HN8.out hb)
 have HM9 := Az.mk (Kd.C_below HM8.out hb)
 have HB9 := Az.mk (bwt HB8.out hb)
 clear BX8 BN8 BM8 HX8 HN8 HM8 HB8
 refine ⟨_, rfl, hK.out _ _ ⟨((bkc BN9.out 0).trans rfl), ((bkc BN9.out 1).trans rfl), ((bkc BX9.out 0).trans rfl)⟩ (fun hHeld => ?_)⟩
 clear hK K hr hb hlb hCb
 refine norm_ (a' := ?_) ?_ ?_
 rotate_left
 ·show Act.put _ (some 46) _ = _
  simp only [Act.put, zq1, zq2, zq3, iw, jw]
  rfl
 refine QW.PrintLast.one_ (i := 5) (N := some 47) (bA 11 63) rfl rfl (one_of HT_.out (by kernel_rfl)) (by decide) (fun K hK => ?_)
 refine goes_ Tryz.func17 (by kernel_rfl) rfl #[.agg #[.int .i64 n, .slice An N1.length cn], .slice Ab5 (bitsL mN.testBit n).length cb5] (by rfl) rfl rfl (by (try simp only [List.map_toArray, List.map_cons, List.map_nil]); first | done | rfl) ?_
 refine (eval_calls k (n : Int) An cn N1 Ab5 cb5 (bitsL mN.testBit n) 0 w9 HN9.out HCN.out HCB.out (by rw [← HN1.out]; exact HO.out.ckN) (fun _ _ => HLN.out)).mono ?_
 rintro e w10 ⟨rfl, hb⟩
 rw [HE2.out]
 have BX10 := Az.mk (blk_below BX9.out hb)
 have BN10 := Az.mk (blk_below BN9.out hb)
 have BM10 := Az.mk (blk_below BM9.out hb)
 have HX10 := Az.mk (Kd.C_below HX9.out hb)
 have HN10 := Az.mk (Kd.C_below HN9.out hb)
 have HM10 := Az.mk (Kd.C_below HM9.out hb)
 have HB10 := Az.mk (bwt HB9.out hb)
 clear BX9 BN9 BM9 HX9 HN9 HM9 HB9
 refine ⟨_, rfl, hK.out _ _ ⟨((bkc BN10.out 0).trans rfl), ((bkc BN10.out 1).trans rfl), ((bkc BX10.out 0).trans rfl)⟩ (fun hHeld => ?_)⟩
 clear hK K hb HCB
 refine norm_ (a' := ?_) ?_ ?_
 rotate_left
 ·show Act.put _ (some 47) _ = _
  simp only [Act.put, zq1, zq2, zq3, iw, jw]
  rfl
 refine pure_ (i := 6) (N := some 41) (v := ?_) (a' := ?_) (bA 11 127) rfl rfl (aof HT_.out (by kernel_rfl)) (fun _ _ _ h => h) (Or.inl ⟨by rfl, ?_⟩) ?_ ?_
 rotate_left
 ·intro w'
  go_simp
  with_reducible rfl
 rotate_left
 ·simp only [Act.put, zq1, zq2, zq3, iw, jw]
  rfl
 refine pure_ (i := 7) (N := some 48) (v := ?_) (a' := ?_) (bA 11 255) rfl rfl (aof HT_.out (by kernel_rfl)) (fun _ _ _ h => h) (Or.inl ⟨by rfl, ?_⟩) ?_ ?_
 rotate_left
 ·intro w'
  go_simp
  with_reducible rfl
 rotate_left
 ·simp only [Act.put, zq1, zq2, zq3, iw, jw]
  rfl
 refine pure_ (i := 8) (N := some 49) (v := ?_) (a' := ?_) (bA 11 511) rfl rfl (aof HT_.out (by kernel_rfl)) (fun _ _ _ h => h) (Or.inl ⟨by rfl, ?_⟩) ?_ ?_
 rotate_left
 ·intro w'
  go_simp
  with_reducible rfl
 rotate_left
 ·simp only [Act.put, zq1, zq2, zq3, iw, jw]
  rfl
 refine pure_ (i := 9) (N := some 12) (v := ?_) (a' := ?_) (bA 11 1023) rfl rfl (aof HT_.out (by kernel_rfl)) (fun _ _ _ h => h) (Or.inl ⟨by rfl, ?_⟩) ?_ ?_
 rotate_left
 ·intro w'
  go_simp
  with_reducible rfl
 rotate_left
 ·simp only [Act.put, zq1, zq2, zq3, iw, jw]
  rfl
 refine pure_ (i := 10) (N := some 13) (v := ?_) (a' := ?_) (bA 11 2047) rfl rfl (aof HT_.out (by kernel_rfl)) (fun _ _ _ h => h) (Or.inl ⟨by rfl, ?_⟩) ?_ ?_
 rotate_left
 ·intro w'
  go_simp
  with_reducible rfl
 rotate_left
 ·simp only [Act.put, zq1, zq2, zq3, iw, jw]
  rfl
 refine done_ (done_of HT_.out (by kernel_rfl)) ?_
 clear hHeld HT_ HW_
 have hn0 := (bkc BN10.out 0).trans rfl
 have hn1 := (bkc BN10.out 1).trans rfl
 have hm0 := (bkc BM10.out 0).trans rfl
 have hm1 := (bkc BM10.out 1).trans rfl
 have hx0 := (bkc BX10.out 0).trans rfl
 have hx1 := (bkc BX10.out 1).trans rfl
 go_wp2_with fail
 refine (netlabref32_Same.calls k n An cn N1 n Am cm N1 true w10 HN10.out HCN.out HM10.out HCM.out (by rw [← HN1.out]; exact HO.out.same)).mono ?_
 rintro e w11 ⟨rfl, hb⟩
 clear hn0 hn1 hm0 hm1 hx0 hx1
 have BX11 := Az.mk (blk_below BX10.out hb)
 have BN11 := Az.mk (blk_below BN10.out hb)
 have HX11 := Az.mk (Kd.C_below HX10.out hb)
 have HN11 := Az.mk (Kd.C_below HN10.out hb)
 have HB11 := Az.mk (bwt HB10.out hb)
 clear hb BX10 BN10 BM10 HX10 HN10 HM10 HB10
 have hn1 := (bkc BN11.out 1).trans rfl
 have hx0 := (bkc BX11.out 0).trans rfl
 have hx1 := (bkc BX11.out 1).trans rfl
 have hle : decide ((L.length : Int) < (N1.length : Int)) = false := decide_eq_false (by have := HNL.out; omega)
 have hle2 : decide (L.length < N1.length) = false := decide_eq_false (by have := HNL.out; omega)
 go_upto_region 9 with fail
 clear hn1 hx0 hx1 hle hle2
 have BT12 := Az.mk (blk_new w11 (.cells #[.int .i64 n, .slice none 0 0] 24))
 have HW12 : Az (Below w11.heap.size w11 (w11.alloc (.cells #[.int .i64 n, .slice none 0 0] 24))) := ⟨below_new w11 _⟩
 have HG11 : Az (w.heap.size ≤ w11.heap.size) := ⟨HB11.out.size⟩
 generalize w11.alloc (.cells #[.int .i64 n, .slice none 0 0] 24) = w12 at BT12 HW12 ⊢
 have hx1 := (bkc (blk_below BX11.out HW12.out) 1).trans rfl
 obtain ⟨y0, hy0⟩ : ∃ y : Int, wrap64 ((L.length : Int) - 1) = y := ⟨_, rfl⟩
 have HY0 : Az (y0 = (L.length : Int) - 1) := ⟨by rw [← hy0]; unfold wrap64; have := HF.out.1; omega⟩
 go_wp2
 go_loopw [15] (fun v15 wr => ∃ (j : Nat) (vo : Value), v15 = .int .i64 ((j : Int) - 1) ∧ j ≤ L.length ∧ Az (wr.heap[w11.heap.size]? = some (.cells #[.int .i64 n, vo] 24 (0, 0))) ∧ Az (Kd.R (Kd.slice 3 (Kd.int .i64)) 26 wr w11.heap.size (fun _ => True) vo (turnL L j)) ∧ Az (Below w11.heap.size w11 wr)) (fun v15 _ => (intOf v15 + 1).toNat)
 case atStart => exact ⟨L.length, .slice none 0 0, congrArg (Value.int .i64) (by first | exact HY0.out | (rw [hy0]; exact HY0.out)), Nat.le_refl _, BT12, ⟨by rw [show turnL L L.length = [] by simp [turnL]]; exact Kd.R_nil _ _ _ _ _⟩, HW12⟩
 case round =>
  clear BT12 HW12 hx1 hy0 HY0
  obtain ⟨j, vo, rfl, hj, BT, HR, HW⟩ := hrel
  cases j with
  | zero =>
   have HTN : Az (normL trivA (turnL L 0) = N1) := ⟨by rw [turn_norm]; exact HN1.out⟩
   have HTC : Az (cnf_Check.f k n (turnL L 0) = some 0) := ⟨HO.out.ckT⟩
   have HT3 : Az (∀ l ∈ sortedC (turnL L 0), ClsOk k trivA l) := ⟨HO.out.ok3⟩
   have HTF : Az ((turnL L 0).length ≤ 80 ∧ ∀ l ∈ turnL L 0, l.length ≤ 12) := ⟨by rw [turnL_len]; have := HF.out.1; omega, fun l hl => (turn_fine HF.out l hl).1⟩
   generalize turnL L 0 = T at HR HTN HTC HT3 HTF
   obtain ⟨At, ct, hvt, hlt1, hCt⟩ := Kd.R_reads HR.out
   subst hvt
   have h0 := (bkc BT.out 0).trans rfl
   have h1 := (bkc BT.out 1).trans rfl
   go_wp2_with fail
   have hnc := normal_calls k k n At ct T trivA wr hCt hlt1 HTC.out (by have := HTF.out.1; omega) (fun l hl => by have := HTF.out.2 l hl; omega) HT3.out
   rw [HTN.out] at hnc
   refine hnc.mono ?_
   clear hnc h0 h1
   rintro e wx ⟨Ag, cg, rfl, hcg, hCg, hb⟩
   have HWx := Az.mk (bwt HW.out hb)
   have HBx := Az.mk (bwt HB11.out HWx.out)
   have HCG := Az.mk hCg
   clear hb hCt hCg
   go_upto_region 19 with fail
   have hba := below_new wx (.cells #[.int .i64 n, .slice Ag N1.length cg] 24)
   have BGz := Az.mk (blk_new wx (.cells #[.int .i64 n, .slice Ag N1.length cg] 24))
   have BNz := Az.mk (blk_below (blk_below BN11.out HWx.out) hba)
   have HNz := Az.mk (Kd.C_below (Kd.C_below HN11.out HWx.out) hba)
   have HGz := Az.mk (Kd.C_below HCG.out hba)
   have HBz := Az.mk (bwt HBx.out hba)
   clear hba
   generalize wx.alloc (.cells #[.int .i64 n, .slice Ag N1.length cg] 24) = wz at BGz BNz HNz HGz HBz ⊢
   have h0 := (bkc BGz.out 0).trans rfl
   have h1 := (bkc BGz.out 1).trans rfl
   have hn0 := (bkc BNz.out 0).trans rfl
   have hn1 := (bkc BNz.out 1).trans rfl
   go_wp2_with fail
   refine (netlabref32_Same.calls k n Ag cg N1 n An cn N1 true wz HGz.out hcg HNz.out HCN.out (by rw [← HN1.out]; exact HO.out.same)).mono ?_
   rintro e wv ⟨rfl, hb⟩
   have HBv := Az.mk (bwt HBz.out hb)
   clear hb h0 h1 hn0 hn1
   go_wp2_with fail
   refine (awake_calls wv (HG.out.below HBv.out) (HM.out.below HBv.out) (HT.out.below HBv.out)).mono ?_
   rintro e wu ⟨rfl, hb⟩
   have HBu := Az.mk (bwt HBv.out hb)
   clear hb
   go_wp2
   go_ret
   exact ⟨rfl, HBu.out⟩
  | succ i =>
   rw [show ((i + 1 : Nat) : Int) - 1 = (i : Int) by omega]
   have hi0 : (0 : Int) ≤ (i : Int) := Int.natCast_nonneg i
   have hi1 : (i : Int) < (L.length : Int) := by omega
   have hgd : (decide ((0 : Int) ≤ (i : Int))) = true := decide_eq_true hi0
   obtain ⟨y, hy⟩ : ∃ y : Int, wrap64 ((i : Int) - 1) = y := ⟨_, rfl⟩
   have HY2 : Az (y = (i : Int) - 1) := ⟨by rw [← hy]; unfold wrap64; have := HF.out.1; omega⟩
   obtain ⟨ad, A', c', rfl, hcc, hl1, hC1⟩ := at_L1 (Kd.C_below HX11.out HW.out) (i : Int) hi0 hi1
   have hrd : PCheck.rL L (i : Int) = L[i] := by simp [PCheck.rL, List.getD, show i < L.length by omega]
   have HTS : Az (turnL L i = turnL L (i + 1) ++ [(PCheck.rL L (i : Int)).reverse, (PCheck.rL L (i : Int)).reverse]) := ⟨by rw [hrd]; exact turnL_step (by omega)⟩
   have HTL : Az ((turnL L (i + 1)).length ≤ 80) := ⟨by rw [turnL_len]; have := HF.out.1; omega⟩
   have HLL : Az ((PCheck.rL L (i : Int)).length ≤ 12) := ⟨by rw [hrd]; exact (HF.out.2 _ (List.getElem_mem _)).1⟩
   clear hrd
   generalize PCheck.rL L (i : Int) = l at hcc hl1 hC1 HTS HLL
   generalize turnL L (i + 1) = T at HTS HTL HR
   obtain ⟨Ao, co, hvo⟩ := Kd.R_slice HR.out
   subst hvo
   simp only [Int.toNat_natCast] at hcc
   have hx1 := (bkc (blk_below BX11.out HW.out) 1).trans rfl
   have HC1 := Az.mk hC1
   have HCC := Az.mk hcc
   obtain ⟨y1, hy1⟩ : ∃ y : Int, wrap64 ((l.length : Int) - 1) = y := ⟨_, rfl⟩
   have HY1 : Az (y1 = (l.length : Int) - 1) := ⟨by rw [← hy1]; unfold wrap64; have := HLL.out; omega⟩
   clear hC1
   generalize wr = wi at BT HR HW hcc hx1 HC1 HCC ⊢
   go_wp2
   clear hcc hx1
   go_loopw [16, 17] (fun v16 v17 wr => ∃ (q : Nat) (xs : List Int), v17 = .int .i64 ((q : Int) - 1) ∧ q ≤ l.length ∧ Az (xs = (l.drop q).reverse) ∧ Az (Kd.R (Kd.int .i64) 3 wr wi.heap.size (fun _ => True) v16 xs) ∧ Az (Below wi.heap.size wi wr)) (fun _ v17 _ => (intOf v17 + 1).toNat)
   case atStart => exact ⟨l.length, [], congrArg (Value.int .i64) (by first | exact HY1.out | (rw [hy1]; exact HY1.out)), Nat.le_refl _, ⟨by simp⟩, ⟨Kd.R_nil _ _ _ _ _⟩, ⟨Below.refl _ _⟩⟩
   case round =>
    clear hy1 HY1
    obtain ⟨q, xs, rfl, hq, HXS, HRX, HWI⟩ := hrel
    have hx1 := (bkc (blk_below BX11.out (bwt HW.out HWI.out)) 1).trans rfl
    cases q with
    | zero =>
     rw [List.drop_zero] at HXS
     obtain ⟨A6, c6, hv6⟩ := Kd.R_slice HRX.out
     subst hv6
     have BTW := Az.mk (blk_below BT.out HWI.out)
     have h14 := (bkc BTW.out 1).trans rfl
     have HRW := Az.mk (Kd.R_below HR.out HWI.out)
     have HSW : Az (w11.heap.size ≤ wi.heap.size ∧ wi.heap.size ≤ wr.heap.size) := ⟨HW.out.size, HWI.out.size⟩
     have HBW := Az.mk (bwt HW.out HWI.out)
     clear hx1
     go_wp2_with ((with_reducible refine gate_builtin (b := .append) (xs := #[.tmp 118, .tmp 121]) rfl ?_); at_builtin; go_loud (refine app2_ (base := w11.heap.size) (g := wi.heap.size) (xs := T) (v := .slice A6 xs.length c6) (y := xs) rfl rfl rfl rfl rfl HRW.out HRX.out HSW.out.1 (Kd.R_lt HR.out) HSW.out.2 (by have := HTL.out; omega) ?_); intro A7 c7 w7x hr hgr; have b14g := bkg (blk_below BTW.out (below_new wr (.cells #[.slice A6 xs.length c6, .slice A6 xs.length c6] 26))) hgr (Kd.R_ne (Kd.R_alloc HRW.out (.cells #[.slice A6 xs.length c6, .slice A6 xs.length c6] 26)) (blk_below BTW.out (below_new wr (.cells #[.slice A6 xs.length c6, .slice A6 xs.length c6] 26))) (by decide)); have hs1 := (bkc b14g 1).trans rfl; have hf1 := bkf b14g 1; have HR7 := Az.mk hr; have B14 := Az.mk b14g; have HB7x := Az.mk ((bwt HBW.out (below_new wr (.cells #[.slice A6 xs.length c6, .slice A6 xs.length c6] 26))).grown hgr (bwt HBW.out (below_new wr (.cells #[.slice A6 xs.length c6, .slice A6 xs.length c6] 26))).size (fun k hk => Kd.R_base HRW.out k hk)); clear hr hgr b14g h14)
     clear hs1 hf1
     go_roundw
     case rel => exact ⟨i, .slice A7 (T.length + 2) c7, congrArg (Value.int .i64) (by first | exact HY2.out | (rw [hy]; exact HY2.out)), by omega, ⟨blk_put B14.out 1 (.slice A7 (T.length + 2) c7) rfl⟩, ⟨by rw [HTS.out, ← HXS.out]; exact Kd.R_set HR7.out B14.out (by decide) 1 (.slice A7 (T.length + 2) c7)⟩, ⟨bws (j := 1) (v := .slice A7 (T.length + 2) c7) HB7x.out (Nat.le_refl _)⟩⟩
     case measure => first | (rw [HY2.out]; simp only [intOf]; omega) | (rw [hy, HY2.out]; simp only [intOf]; omega)
    | succ q =>
     rw [show ((q + 1 : Nat) : Int) - 1 = (q : Int) by omega]
     have hq0 : (0 : Int) ≤ (q : Int) := Int.natCast_nonneg q
     have hq1 : (q : Int) < (l.length : Int) := by omega
     have hgq : (decide ((0 : Int) ≤ (q : Int))) = true := decide_eq_true hq0
     obtain ⟨y2, hy2⟩ : ∃ y : Int, wrap64 ((q : Int) - 1) = y := ⟨_, rfl⟩
     have HY3 : Az (y2 = (q : Int) - 1) := ⟨by rw [← hy2]; unfold wrap64; have := HLL.out; omega⟩
     have hcr := (HWI.out.cell (World.block_lt_of_cell? wi _ HCC.out)).trans HCC.out
     obtain ⟨ad2, rfl, hc⟩ := Kd.at_int (Kd.C_below HC1.out HWI.out) (q : Int) hq0 hq1
     simp only [Int.toNat_natCast] at hc
     have HXQ : Az ((l.drop q).reverse = xs ++ [rd l (q : Int)]) := ⟨by
      rw [HXS.out, List.drop_eq_getElem_cons (show q < l.length by omega), List.reverse_cons]
      simp [rd, List.getD, show q < l.length by omega]⟩
     have HXL : Az (xs.length ≤ 12) := ⟨by rw [HXS.out, List.length_reverse, List.length_drop]; have := HLL.out; omega⟩
     generalize rd l (q : Int) = z at hc HXQ
     go_wp2_with ((with_reducible refine gate_builtin (b := .append) (xs := #[.tmp 106, .tmp 115]) rfl ?_); at_builtin; go_loud (refine Kd.R_append (Kd.int .i64) (w0 := wi) wi.heap.size rfl (.tmp 106) (.tmp 115) 26 3 (.int .i64 0) 8 rfl Tryz.underlying26 infoInt rfl (by decide) (by decide) u16 xs z [.int .i64 z] (fun _ => True) (fun _ => False) rfl rfl ?aP (fun _ hk => hk.elim) ?aF ?aO ?aB ?aS ?aL ?_); (case aP => exact rfl); (case aF => exact fun _ _ => trivial); (case aO => exact HRX.out); (case aB => exact HWI.out); (case aS => exact HWI.out.size); (case aL => have := HXL.out; omega); intro v16n w3 ho hb hg hat; have HB3 := Az.mk hb; have HRX3 := Az.mk ho; clear ho hb hg hat)
     go_roundw
     case rel => exact ⟨q, xs ++ [z], congrArg (Value.int .i64) (by first | exact HY3.out | (rw [hy2]; exact HY3.out)), by omega, ⟨HXQ.out.symm⟩, HRX3, HB3⟩
     case measure => first | (rw [HY3.out]; simp only [intOf]; omega) | (rw [hy2, HY3.out]; simp only [intOf]; omega)
end Go.Proofs.YtkcfdddhnboieaaGreatDoor.NState
end
