/-
  Part 28 of the proof of cnfPropagates_card: walks and lemmas, packed by the session's own wip/pack.py out of its texts and of what the kit's print.sh printed.
-/
import Derived.Test.YtkcfdddhnboieaaGreatDoorKB20
import Derived.Test.YtkcfdddhnboieaaGreatDoorKB6
import Derived.Test.YtkcfdddhnboieaaGreatDoorKB27
import Derived.Test.YtkcfdddhnboieaaGreatDoorKB13
import Derived.Test.YtkcfdddhnboieaaGreatDoorKB5
import Derived.Deep.CutRange
import Derived.Deep.CutBlock
set_option linter.unusedVariables false
set_option linter.unusedSimpArgs false
section
set_option maxHeartbeats 4000000
set_option maxRecDepth 100000
namespace Go.Proofs.YtkcfdddhnboieaaGreatDoor.NState
open Go Go.RowKit Go.Shelf Go.Lib QW.PrintWords QW.PrintLast QW.PrintMore NMap
open PCheck (cnf_Check.f cnf_Check.calls)
open PSameC (netlabref32_EqInts.calls netlabref32_Same.calls)
open NPlain (CountIs LitOk)
def AwakePost (w : World) (e : Ending) (w' : World) : Prop := e = .returned (.bool true) ∧ Below w.heap.size w w'
theorem awake_calls (w : World) (hg : NText.GOK w) (hm : NText.MOK w) (ht : TabOK w) : Calls Tryz.prog 25 #[] w (AwakePost w) := by
 have HG := Az.mk hg
 have HM := Az.mk hm
 have HT := Az.mk ht
 clear hg hm ht
 go_enter Tryz.func25, Tryz.ntmps25
 have k1 := lit2 w [1, -2] [2] (cs1 := #[.int .i64 1, .int .i64 (-2)]) (cs2 := #[.int .i64 2]) rfl (by decide) rfl (by decide)
 have K1 := Az.mk k1
 clear k1
 go_wp2_with fail
 refine (formula_calls _ _ _ _ _).mono ?_
 rintro e w1 ⟨rfl, hb⟩
 have HR1 := Az.mk (Kd.C_below K1.out.1 hb)
 have HB1 := Az.mk (bwt K1.out.2 hb)
 clear hb K1
 have hm1 : Kd.C Kd.bool (w1.alloc (.cells #[.bool true, .bool true] 4)) (some ⟨w1.heap.size, 0, none⟩) 2 [true, true] := C_lit Kd.bool w1 4 [true, true] _ (Kd.reps_scalar _) (by decide)
 have HE1 := Az.mk (eval_calls 50 2 _ 2 [[1, -2], [2]] _ 2 [true, true] 0 _ (Kd.C_alloc HR1.out (.cells #[.bool true, .bool true] 4)) (by decide) hm1 av_ck1 (fun _ _ => ⟨by decide, lit_of (n := 2) (by decide)⟩))
 clear hm1 HR1
 go_wp2_with fail
 refine HE1.out.mono ?_
 rintro e w2 ⟨rfl, hb⟩
 rw [av_e1]
 have HB2 := Az.mk (bwt (bwt HB1.out (below_new w1 _)) hb)
 clear hb HE1 HB1
 have k1 := lit2 w2 [1, -2] [2] (cs1 := #[.int .i64 1, .int .i64 (-2)]) (cs2 := #[.int .i64 2]) rfl (by decide) rfl (by decide)
 have K1 := Az.mk k1
 clear k1
 go_wp2_with fail
 refine (formula_calls _ _ _ _ _).mono ?_
 rintro e w3 ⟨rfl, hb⟩
 have HR3 := Az.mk (Kd.C_below K1.out.1 hb)
 have HB3 := Az.mk (bwt HB2.out (bwt K1.out.2 hb))
 clear hb K1 HB2
 have hm1 : Kd.C Kd.bool (w3.alloc (.cells #[.bool false, .bool true] 4)) (some ⟨w3.heap.size, 0, none⟩) 2 [false, true] := C_lit Kd.bool w3 4 [false, true] _ (Kd.reps_scalar _) (by decide)
 have HE1 := Az.mk (eval_calls 50 2 _ 2 [[1, -2], [2]] _ 2 [false, true] 0 _ (Kd.C_alloc HR3.out (.cells #[.bool false, .bool true] 4)) (by decide) hm1 av_ck1 (fun _ _ => ⟨by decide, lit_of (n := 2) (by decide)⟩))
 clear hm1 HR3
 go_wp2_with fail
 refine HE1.out.mono ?_
 rintro e w4 ⟨rfl, hb⟩
 rw [av_e2]
 have HB4 := Az.mk (bwt (bwt HB3.out (below_new w3 _)) hb)
 clear hb HE1 HB3
 have k1 := lit4 w4 [2, -1, 2] [1] [3, -3] [1] (cs1 := #[.int .i64 2, .int .i64 (-1), .int .i64 2]) (cs2 := #[.int .i64 1]) (cs3 := #[.int .i64 3, .int .i64 (-3)]) (cs4 := #[.int .i64 1]) rfl (by decide) rfl (by decide) rfl (by decide) rfl (by decide)
 have K1 := Az.mk k1
 clear k1
 go_wp2_with fail
 refine (formula_calls _ _ _ _ _).mono ?_
 rintro e w5 ⟨rfl, hb⟩
 have HE1 := Az.mk (normal_calls 50 50 3 _ 4 [[2, -1, 2], [1], [3, -3], [1]] trivB w5 (Kd.C_below K1.out.1 hb) (by decide) av_ck2 (by decide) (by simp) av_nok)
 have HB5 := Az.mk (bwt HB4.out (bwt K1.out.2 hb))
 clear hb K1 HB4
 go_wp2_with fail
 refine HE1.out.mono ?_
 rintro e w6 ⟨An, cn, rfl, hcn, hCn, hb⟩
 rw [av_n] at hcn hCn ⊢
 have HB6 := Az.mk (bwt HB5.out hb)
 have HN : Az ((SpG.cnf 3 [[1], [-1, 2]]).p w6 (.agg #[.int .i64 3, .slice An 2 cn])) := ⟨⟨An, cn, rfl, hcn, hCn⟩⟩
 clear hb HE1 hcn hCn HB5
 go_wp2_with fail
 refine caw4_region (g5 := w6.heap.size) (v5 := .slice An 2 cn) ⟨rfl, rfl, rfl, rfl, rfl, rfl, rfl, blk_new w6 _, (SpG.cnf 3 [[1], [-1, 2]]).st HN.out (below_drew (below_new w6 _))⟩ ?_
 intro v W7 hv hb
 have HB7 := Az.mk (bwt (bwt HB6.out (below_new w6 _)) hb)
 clear hb HN HB6
 change Exit.then _ _ .normal { tmps := #[.bool false, .bool true, .int .i64 0, .bool false, .int .i64 0, .pointer (some ⟨w6.heap.size, 0, none⟩), .int .i64 0, undef, undef, undef, undef, undef, undef, undef, undef, undef, undef, undef, undef, undef, undef, .tuple #[.bool true, .int .i64 0], .slice (some ⟨w.heap.size, 0, none⟩) 2 2, .slice (some ⟨w.heap.size + 1, 0, none⟩) 1 1, .slice (some ⟨w.heap.size + 1 + 1, 0, none⟩) 2 2, .agg #[.int .i64 2, .slice (some ⟨w.heap.size + 1 + 1, 0, none⟩) 2 2], .slice (some ⟨w1.heap.size, 0, none⟩) 2 2, .tuple #[.bool true, .int .i64 0], .bool true, .int .i64 0, .tuple #[.bool false, .int .i64 0], .slice (some ⟨w2.heap.size, 0, none⟩) 2 2, .slice (some ⟨w2.heap.size + 1, 0, none⟩) 1 1, .slice (some ⟨w2.heap.size + 1 + 1, 0, none⟩) 2 2, .agg #[.int .i64 2, .slice (some ⟨w2.heap.size + 1 + 1, 0, none⟩) 2 2], .slice (some ⟨w3.heap.size, 0, none⟩) 2 2, .tuple #[.bool false, .int .i64 0], .bool false, .int .i64 0, .tuple #[.agg #[.int .i64 3, .slice An 2 cn], .int .i64 0], .slice (some ⟨w4.heap.size, 0, none⟩) 3 3, .slice (some ⟨w4.heap.size + 1, 0, none⟩) 1 1, .slice (some ⟨w4.heap.size + 1 + 1, 0, none⟩) 2 2, .slice (some ⟨w4.heap.size + 1 + 1 + 1, 0, none⟩) 1 1, .slice (some ⟨w4.heap.size + 1 + 1 + 1 + 1, 0, none⟩) 4 4, .agg #[.int .i64 3, .slice (some ⟨w4.heap.size + 1 + 1 + 1 + 1, 0, none⟩) 4 4], .tuple #[.agg #[.int .i64 3, .slice An 2 cn], .int .i64 0], .agg #[.int .i64 3, .slice An 2 cn], .int .i64 0, v 0, v 1, v 2, v 3, v 4, v 5, v 6, v 7, v 8, v 9, v 10, v 11, v 12, v 13, v 14, v 15, v 16, v 17, v 18, v 19, v 20, v 21, v 22, v 23, v 24, v 25, undef, undef, undef, undef, undef, undef, undef, undef, undef, undef, undef, undef, undef, undef, undef, undef, undef, undef, undef, undef, undef, undef, undef, undef, undef, undef, undef, undef, undef, undef, undef, undef, undef, undef, undef, undef, undef, undef, undef, undef, undef, undef, undef, undef, undef, undef, undef, undef, undef, undef, undef, undef, undef, undef, undef, undef, undef, undef, undef, undef, undef, undef, undef, undef, undef, undef, undef, undef, undef, undef, undef, undef, undef, undef, undef, undef, undef, undef, undef, undef, undef, undef, undef, undef, undef, undef, undef, undef, undef, undef, undef, undef, undef, undef, undef, undef, undef, undef, undef, undef, undef, undef, undef, undef, undef], defers := [] } _
 rw [hv]
 clear hv
 have k1 := lit3 W7 [-1, 2] [-2, 3] [-3, -4] (cs1 := #[.int .i64 (-1), .int .i64 2]) (cs2 := #[.int .i64 (-2), .int .i64 3]) (cs3 := #[.int .i64 (-3), .int .i64 (-4)]) rfl (by decide) rfl (by decide) rfl (by decide)
 have K1 := Az.mk k1
 clear k1
 go_wp2_with fail
 refine (formula_calls _ _ _ _ _).mono ?_
 rintro e w8 ⟨rfl, hb⟩
 have HR8 := Az.mk (Kd.C_below K1.out.1 hb)
 have HB8 := Az.mk (bwt HB7.out (bwt K1.out.2 hb))
 clear hb K1 HB7
 go_wp2_with fail
 have HR9 := Az.mk (Kd.C_alloc (Kd.C_alloc HR8.out (.cells #[.int .i64 4, .slice (some ⟨W7.heap.size + 1 + 1 + 1, 0, none⟩) 3 3] 24)) (.cells #[.int .i64 1] 3))
 have BX9 := Az.mk (blk_below (blk_new w8 (.cells #[.int .i64 4, .slice (some ⟨W7.heap.size + 1 + 1 + 1, 0, none⟩) 3 3] 24)) (below_new (w8.alloc (.cells #[.int .i64 4, .slice (some ⟨W7.heap.size + 1 + 1 + 1, 0, none⟩) 3 3] 24)) (.cells #[.int .i64 1] 3)))
 have HB9 := Az.mk (bwt (bwt HB8.out (below_new w8 (.cells #[.int .i64 4, .slice (some ⟨W7.heap.size + 1 + 1 + 1, 0, none⟩) 3 3] 24))) (below_new (w8.alloc (.cells #[.int .i64 4, .slice (some ⟨W7.heap.size + 1 + 1 + 1, 0, none⟩) 3 3] 24)) (.cells #[.int .i64 1] 3)))
 have HL9 := Az.mk (C_ints (w8.alloc (.cells #[.int .i64 4, .slice (some ⟨W7.heap.size + 1 + 1 + 1, 0, none⟩) 3 3] 24)) [1] #[.int .i64 1] rfl (by decide))
 rw [World.size_alloc] at HL9
 clear HR8 HB8
 refine (propagate_calls 50 4 (some ⟨W7.heap.size + 1 + 1 + 1, 0, none⟩) 3 [[-1, 2], [-2, 3], [-3, -4]] (some ⟨w8.heap.size + 1, 0, none⟩) 1 [1] [1, 2, 3, -4] false _ (by decide) HR9.out (by decide) HL9.out av_ck3 (by kernel_rfl) (fun x hx => lit_of (n := 4) (cls := [[1]]) (by decide) [1] (by simp) x hx) av_p1).mono ?_
 rintro e w10 ⟨v8, rfl, hr, hb⟩
 obtain ⟨A8, c8, hv8, hl8, hC8⟩ := Kd.R_reads hr
 obtain rfl : v8 = .slice A8 4 c8 := hv8
 have HL8 : Az ((SpG.ints [1, 2, 3, -4]).p w10 (.slice A8 4 c8)) := ⟨⟨A8, c8, rfl, hl8, hC8⟩⟩
 have HR10 := Az.mk (Kd.C_below HR9.out hb)
 have BX10 := Az.mk (blk_below BX9.out hb)
 have HB10 := Az.mk (bwt HB9.out hb)
 clear hr hb hl8 hC8 HR9 BX9 HB9 HL9
 have hx0 := (bkc BX10.out 0).trans rfl
 have hx1 := (bkc BX10.out 1).trans rfl
 go_wp2_with fail
 have HL9 := Az.mk (C_ints w10 [1, 4] #[.int .i64 1, .int .i64 4] rfl (by decide))
 refine (propagate_calls 50 4 (some ⟨W7.heap.size + 1 + 1 + 1, 0, none⟩) 3 [[-1, 2], [-2, 3], [-3, -4]] (some ⟨w10.heap.size, 0, none⟩) 2 [1, 4] [] true _ (by decide) (Kd.C_alloc HR10.out _) (by decide) HL9.out av_ck3 (by kernel_rfl) (fun x hx => lit_of (n := 4) (cls := [[1, 4]]) (by decide) [1, 4] (by simp) x hx) av_p2).mono ?_
 rintro e w11 ⟨v11, rfl, hr, hb⟩
 obtain ⟨A11, c11, hv11, _, _⟩ := Kd.R_reads hr
 obtain rfl : v11 = .slice A11 0 c11 := hv11
 have HL11 := Az.mk ((SpG.ints [1, 2, 3, -4]).st ((SpG.ints [1, 2, 3, -4]).st HL8.out (below_new w10 (.cells #[.int .i64 1, .int .i64 4] 3))) hb)
 have HB11 := Az.mk (bwt (bwt HB10.out (below_new w10 (.cells #[.int .i64 1, .int .i64 4] 3))) hb)
 clear hr hb HR10 BX10 HB10 HL9 HL8 hx0 hx1
 have k1 := lit1 w11 [1, 2] (cs1 := #[.int .i64 1, .int .i64 2]) rfl (by decide)
 have K1 := Az.mk k1
 clear k1
 go_wp2_with fail
 refine (formula_calls _ _ _ _ _).mono ?_
 rintro e w12 ⟨rfl, hb⟩
 have HC12 := Az.mk (count_calls 50 3 _ 1 [[1, 2]] w12 (by decide) (Kd.C_below K1.out.1 hb) (by decide) (by decide) (fun l hl => ⟨by simp at hl; rw [hl]; decide, fun x hx => lit_of (n := 3) (cls := [[1, 2]]) (by decide) l hl x hx⟩) av_ck4)
 have HB12 := Az.mk (bwt HB11.out (bwt K1.out.2 hb))
 have HL12 := Az.mk ((SpG.ints [1, 2, 3, -4]).st ((SpG.ints [1, 2, 3, -4]).st HL11.out K1.out.2) hb)
 clear hb K1 HB11 HL11
 go_wp2_with fail
 refine HC12.out.mono ?_
 rintro e w13 ⟨cn_, rfl, hcn_, hb⟩
 obtain rfl := av_cnt hcn_
 have HB13 := Az.mk (bwt HB12.out hb)
 have HL13 := Az.mk ((SpG.ints [1, 2, 3, -4]).st HL12.out hb)
 clear hb hcn_ HB12 HL12 HC12
 go_wp2_with fail
 have HL9 := Az.mk (C_ints w13 [1, 2, 3, -4] #[.int .i64 1, .int .i64 2, .int .i64 3, .int .i64 (-4)] rfl (by decide))
 obtain ⟨A8', c8', he8, hl8, hC8⟩ := HL13.out
 cases he8
 refine (netlabref32_EqInts.calls 20 A8 c8 [1, 2, 3, -4] _ 4 [1, 2, 3, -4] true _ (Kd.C_alloc hC8 _) hl8 HL9.out (by decide) (by kernel_rfl)).mono ?_
 rintro e w14 ⟨rfl, hd⟩
 have HB14 := Az.mk (bwt (bwt HB13.out (below_new w13 (.cells #[.int .i64 1, .int .i64 2, .int .i64 3, .int .i64 (-4)] 3))) hd.below)
 clear hd hl8 hC8 HL13 HL9 HB13
 go_wp2_with fail
 have HE := Az.mk (encode_at w14.heap.size (w14.heap.size + 1) ((w14.alloc (.cells #[.int .i64 2, .int .i64 5] 109)).alloc (.cells #[.int .i64 7] 67)) (blk_below (blk_new w14 (.cells #[.int .i64 2, .int .i64 5] 109)) (below_new (w14.alloc (.cells #[.int .i64 2, .int .i64 5] 109)) (.cells #[.int .i64 7] 67))) (by have h := blk_new (w14.alloc (.cells #[.int .i64 2, .int .i64 5] 109)) (.cells #[.int .i64 7] 67); rw [World.size_alloc] at h; exact h))
 unfold gV at HE
 refine HE.out.mono ?_
 rintro e w15 ⟨Ae, ce, gI, rfl, hce, hCe, hCi, hb⟩
 have HB15 := Az.mk (bwt (bwt (bwt HB14.out (below_new w14 (.cells #[.int .i64 2, .int .i64 5] 109))) (below_new (w14.alloc (.cells #[.int .i64 2, .int .i64 5] 109)) (.cells #[.int .i64 7] 67))) hb)
 have HC15 : Az ((SpG.cnf 3 [[-3, 1], [-3, -2], [3, -1, 2], [-3]]).p w15 (.agg #[.int .i64 3, .slice Ae 4 ce])) := ⟨⟨Ae, ce, rfl, hce, hCe⟩⟩
 have HI15 : Az ((SpG.ints [0, 1, 2, 3]).p w15 (.slice (some ⟨gI, 0, none⟩) 4 4)) := ⟨⟨_, _, rfl, by decide, hCi⟩⟩
 clear hb hce hCe hCi HE HB14
 go_upto_region 13 with fail
 have HB16 := Az.mk (bwt HB15.out (below_new w15 (.cells #[.int .i64 3, .slice Ae 4 ce] 24)))
 have BX16 := Az.mk (blk_new w15 (.cells #[.int .i64 3, .slice Ae 4 ce] 24))
 have HC16 := Az.mk ((SpG.cnf 3 [[-3, 1], [-3, -2], [3, -1, 2], [-3]]).st HC15.out (below_new w15 (.cells #[.int .i64 3, .slice Ae 4 ce] 24)))
 have HI16 := Az.mk ((SpG.ints [0, 1, 2, 3]).st HI15.out (below_new w15 (.cells #[.int .i64 3, .slice Ae 4 ce] 24)))
 clear HB15 HC15 HI15
 generalize w15.alloc (.cells #[.int .i64 3, .slice Ae 4 ce] 24) = w16 at HB16 BX16 HC16 HI16 ⊢
 generalize w15.heap.size = g16 at BX16 ⊢
 have k1 := lit1 w16 [1, -2] (cs1 := #[.int .i64 1, .int .i64 (-2)]) rfl (by decide)
 have K1 := Az.mk k1
 clear k1
 go_wp2_with fail
 refine (formula_calls _ _ _ _ _).mono ?_
 rintro e w17 ⟨rfl, hb⟩
 have HB17 := Az.mk (bwt HB16.out (bwt K1.out.2 hb))
 have HFM := Az.mk (formatC_calls 50 2 _ 1 [[1, -2]] 0 w17 (Kd.C_below K1.out.1 hb) (by decide) av_ck5 (HT.out.below HB17.out) (fun _ => av_fok) (fun _ => ⟨2, rfl, by decide⟩))
 have HW17 := Az.mk (bwt K1.out.2 hb)
 clear hb K1 HB16
 go_wp2_with fail
 refine HFM.out.mono ?_
 rintro e w18 ⟨rfl, hb⟩
 rw [av_f]
 have HB18 := Az.mk (bwt HB17.out hb)
 have HW18 := Az.mk (bwt HW17.out hb)
 clear hb HFM HB17 HW17
 go_wp2_with fail
 have HD18 := Az.mk (below_drew HW18.out)
 refine caw14_region (g16 := g16) (v16 := .slice Ae 4 ce) (v17 := .slice (some ⟨gI, 0, none⟩) 4 4) ⟨rfl, rfl, rfl, rfl, rfl, rfl, (SpG.ints [0, 1, 2, 3]).st HI16.out HD18.out, blk_below BX16.out HD18.out, (SpG.cnf 3 [[-3, 1], [-3, -2], [3, -1, 2], [-3]]).st HC16.out HD18.out, HG.out.below (below_drew HB18.out), HM.out.below (below_drew HB18.out)⟩ ?_
 intro u W19 hv hb
 have HB19 := Az.mk (bwt HB18.out hb)
 clear hb
 change Exit.then _ _ .normal { tmps := #[u 31, .bool true, .int .i64 0, .bool false, .int .i64 0, .pointer (some ⟨w6.heap.size, 0, none⟩), .int .i64 0, .pointer (some ⟨w8.heap.size, 0, none⟩), .slice A8 4 c8, .bool false, .int .i64 0, .slice A11 0 c11, .bool true, .int .i64 0, .int .u64 6, .int .i64 0, .pointer (some ⟨g16, 0, none⟩), .slice (some ⟨gI, 0, none⟩) 4 4, .int .i64 0, .string ⟨#[112, 32, 99, 110, 102, 32, 50, 32, 49, 10, 49, 32, 45, 50, 32, 48, 10]⟩, .int .i64 0, .tuple #[.bool true, .int .i64 0], .slice (some ⟨w.heap.size, 0, none⟩) 2 2, .slice (some ⟨w.heap.size + 1, 0, none⟩) 1 1, .slice (some ⟨w.heap.size + 1 + 1, 0, none⟩) 2 2, .agg #[.int .i64 2, .slice (some ⟨w.heap.size + 1 + 1, 0, none⟩) 2 2], .slice (some ⟨w1.heap.size, 0, none⟩) 2 2, .tuple #[.bool true, .int .i64 0], .bool true, .int .i64 0, .tuple #[.bool false, .int .i64 0], .slice (some ⟨w2.heap.size, 0, none⟩) 2 2, .slice (some ⟨w2.heap.size + 1, 0, none⟩) 1 1, .slice (some ⟨w2.heap.size + 1 + 1, 0, none⟩) 2 2, .agg #[.int .i64 2, .slice (some ⟨w2.heap.size + 1 + 1, 0, none⟩) 2 2], .slice (some ⟨w3.heap.size, 0, none⟩) 2 2, .tuple #[.bool false, .int .i64 0], .bool false, .int .i64 0, .tuple #[.agg #[.int .i64 3, .slice An 2 cn], .int .i64 0], .slice (some ⟨w4.heap.size, 0, none⟩) 3 3, .slice (some ⟨w4.heap.size + 1, 0, none⟩) 1 1, .slice (some ⟨w4.heap.size + 1 + 1, 0, none⟩) 2 2, .slice (some ⟨w4.heap.size + 1 + 1 + 1, 0, none⟩) 1 1, .slice (some ⟨w4.heap.size + 1 + 1 + 1 + 1, 0, none⟩) 4 4, .agg #[.int .i64 3, .slice (some ⟨w4.heap.size + 1 + 1 + 1 + 1, 0, none⟩) 4 4], .tuple #[.agg #[.int .i64 3, .slice An 2 cn], .int .i64 0], .agg #[.int .i64 3, .slice An 2 cn], .int .i64 0, v 0, v 1, v 2, v 3, v 4, v 5, v 6, v 7, v 8, v 9, v 10, v 11, v 12, v 13, v 14, v 15, v 16, v 17, v 18, v 19, v 20, v 21, v 22, v 23, v 24, .bool false, .slice (some ⟨W7.heap.size, 0, none⟩) 2 2, .slice (some ⟨W7.heap.size + 1, 0, none⟩) 2 2, .slice (some ⟨W7.heap.size + 1 + 1, 0, none⟩) 2 2, .slice (some ⟨W7.heap.size + 1 + 1 + 1, 0, none⟩) 3 3, .agg #[.int .i64 4, .slice (some ⟨W7.heap.size + 1 + 1 + 1, 0, none⟩) 3 3], .tuple #[.slice A8 4 c8, .bool false, .int .i64 0], .agg #[.int .i64 4, .slice (some ⟨W7.heap.size + 1 + 1 + 1, 0, none⟩) 3 3], .slice (some ⟨w8.heap.size + 1, 0, none⟩) 1 1, .tuple #[.slice A8 4 c8, .bool false, .int .i64 0], .slice A8 4 c8, .bool false, .int .i64 0, .tuple #[.slice A11 0 c11, .bool true, .int .i64 0], .agg #[.int .i64 4, .slice (some ⟨W7.heap.size + 1 + 1 + 1, 0, none⟩) 3 3], .slice (some ⟨w10.heap.size, 0, none⟩) 2 2, .tuple #[.slice A11 0 c11, .bool true, .int .i64 0], .slice A11 0 c11, .bool true, .int .i64 0, .tuple #[.int .u64 6, .int .i64 0], .slice (some ⟨w11.heap.size, 0, none⟩) 2 2, .slice (some ⟨w11.heap.size + 1, 0, none⟩) 1 1, .agg #[.int .i64 3, .slice (some ⟨w11.heap.size + 1, 0, none⟩) 1 1], .tuple #[.int .u64 6, .int .i64 0], .int .u64 6, .int .i64 0, .int .i64 0, .bool false, .bool false, .int .i64 0, .bool false, .bool false, .bool false, .int .i64 0, .bool false, .bool false, .bool false, .bool false, .bool false, .bool false, .bool true, .bool false, .bool false, .bool false, .slice A11 0 c11, .int .i64 0, .bool false, .bool false, .bool false, .int .u64 6, .bool false, .bool false, .bool false, .slice A8 4 c8, .slice (some ⟨w13.heap.size, 0, none⟩) 4 4, .bool true, .bool false, .bool false, .tuple #[.agg #[.int .i64 3, .slice Ae 4 ce], .slice (some ⟨gI, 0, none⟩) 4 4, .int .i64 0], .agg #[.int .i64 2, .int .i64 5], .slice (some ⟨w14.heap.size, 0, none⟩) 1 1, .agg #[.int .i64 2, .slice none 0 0, .slice (some ⟨w14.heap.size, 0, none⟩) 1 1, .slice none 0 0], .slice (some ⟨w14.heap.size + 1, 0, none⟩) 1 1, .tuple #[.agg #[.int .i64 3, .slice Ae 4 ce], .slice (some ⟨gI, 0, none⟩) 4 4, .int .i64 0], .agg #[.int .i64 3, .slice Ae 4 ce], .slice (some ⟨gI, 0, none⟩) 4 4, .int .i64 0, .tuple #[.string ⟨#[112, 32, 99, 110, 102, 32, 50, 32, 49, 10, 49, 32, 45, 50, 32, 48, 10]⟩, .int .i64 0], .slice (some ⟨w16.heap.size, 0, none⟩) 2 2, .slice (some ⟨w16.heap.size + 1, 0, none⟩) 1 1, .agg #[.int .i64 2, .slice (some ⟨w16.heap.size + 1, 0, none⟩) 1 1], .tuple #[.string ⟨#[112, 32, 99, 110, 102, 32, 50, 32, 49, 10, 49, 32, 45, 50, 32, 48, 10]⟩, .int .i64 0], .string ⟨#[112, 32, 99, 110, 102, 32, 50, 32, 49, 10, 49, 32, 45, 50, 32, 48, 10]⟩, .int .i64 0, u 0, u 1, u 2, u 3, u 4, u 5, u 6, u 7, u 8, u 9, u 10, u 11, u 12, u 13, u 14, u 15, u 16, u 17, u 18, u 19, u 20, u 21, u 22, u 23, u 24, u 25, u 26, u 27, u 28, u 29, u 30], defers := [] } _
 rw [hv]
 clear hv
 go_wp2
 go_ret
 exact ⟨rfl, HB19.out⟩
end Go.Proofs.YtkcfdddhnboieaaGreatDoor.NState
end
section
set_option maxHeartbeats 4000000
set_option maxRecDepth 100000
namespace Go.Proofs.YtkcfdddhnboieaaGreatDoor.NState
open Go Go.RowKit Go.Shelf Go.Lib QW.PrintWords QW.PrintLast QW.PrintMore NMap
open PCheck (cnf_Check.f)
open PFit (nFt.calls nBr.calls nBr.f)
open PModels (netlabref20_Bits.calls netlabref32_True.calls netlabref32_True.f netlabref32_Abs.calls netlabref32_Abs.f netlabref20_Bits.f)
open PSameC (netlabref32_EqInts.calls)
open NPlain (LitOk Fine fit_ev check_fine Ev.both bring_ok lit_pos wid wneg any_ok bitsL bitsL_len bits_ev true_code prop_law satB litsOf litsOf_mod lits_true sat_bits Mod absI)
def litE (t : Int) : Int := wrap64 (wrap64 (wrap64 (t.tdiv 2) + 1) * wrap64 (1 - wrap64 (2 * t.tmod 2)))
theorem litE_ok {n : Nat} (hn : n ≤ 100000) {t : Int} (h0 : 0 ≤ t) (h1 : t < 2 * n) : LitOk n (litE t) := by
 obtain ⟨e, _⟩ := lit_pos hn h0 h1
 have em : t.tmod 2 = t % 2 := Int.tmod_eq_emod_of_nonneg h0
 unfold litE
 rw [e, em]
 rcases Int.emod_two_eq t with h | h
 ·rw [h]
  have : wrap64 (1 - wrap64 (2 * 0)) = 1 := by unfold wrap64; omega
  rw [this, Int.mul_one, wid (by omega) (by omega)]
  exact ⟨by omega, by omega, by omega⟩
 ·rw [h]
  have : wrap64 (1 - wrap64 (2 * 1)) = -1 := by unfold wrap64; omega
  rw [this, Int.mul_neg_one, wid (by omega) (by omega)]
  exact ⟨by omega, by omega, by omega⟩
theorem eqInts_self (l : List Int) (hl : l.length ≤ 1000000000) : NPlain.Ev (fun k => PSameC.netlabref32_EqInts.f k l l) true := by
 have h : ∀ i, i ≤ l.length → NPlain.Ev (fun k => PSameC.netlabref32_EqInts.l0 k l l (i : Int)) true := by
  refine NPlain.down (P := fun i => NPlain.Ev (fun k => PSameC.netlabref32_EqInts.l0 k l l (i : Int)) true) ?_ ?_
  ·refine NPlain.Ev.succ ?_
   simp only [PSameC.netlabref32_EqInts.l0]
   exact NPlain.Ev.neg (by omega) (NPlain.Ev.pure _)
  ·intro i hi ih
   refine NPlain.Ev.succ ?_
   simp only [PSameC.netlabref32_EqInts.l0]
   refine NPlain.Ev.pos (by omega) (NPlain.Ev.pos (by omega) (NPlain.Ev.pos (by omega) (NPlain.Ev.pos trivial ?_)))
   rw [show wrap64 ((i : Int) + 1) = ((i + 1 : Nat) : Int) by unfold wrap64; omega]
   exact ih
 unfold PSameC.netlabref32_EqInts.f
 exact NPlain.Ev.pos rfl (h 0 (Nat.zero_le _))
theorem abs_code {n : Nat} (hn : n ≤ 100000) {x : Int} (hx : LitOk n x) : netlabref32_Abs.f x = some (absI x) := by
 obtain ⟨h0, h1, h2⟩ := hx
 unfold netlabref32_Abs.f absI
 by_cases h : x < 0
 ·rw [if_pos h, if_pos h, wneg (by omega) (by omega)]
 ·rw [if_neg h, if_neg h]
structure POwed (n : Nat) (L : List (List Int)) (ls : List Int) (f : Nat → Bool) (k : Nat) (r : List Int) (c : Bool) : Prop where
 ck : cnf_Check.f k n L = some 0
 bits : ∀ x : Nat, x.testBit = f → netlabref20_Bits.f k (x : Int) (n : Int) = some (bitsL f n)
 p1 : PropIs k n L ls r c
 p2 : c = false → PropIs k n L r r false
 eq : PSameC.netlabref32_EqInts.f k r r = some true
 con : c = true → r = [] ∧ ((L.all fun l => l.any (trueB (bitsL f n))) && ls.all (trueB (bitsL f n))) = false
 lit : ∀ x ∈ r, LitOk n x
 len : r.length ≤ n + 1
 inc : r.Pairwise (fun a b => absI a < absI b)
 sat : ((L.all fun l => l.any (trueB (bitsL f n))) && ls.all (trueB (bitsL f n))) = true → c = false → ∀ x ∈ r, trueB (bitsL f n) x = true
theorem powed {n : Nat} (hn : n ≤ 12) {L : List (List Int)} (hf : Fine n L) {ls : List Int} (hls : ∀ x ∈ ls, LitOk n x) (x : Nat) : ∃ k r c, POwed n L ls x.testBit k r c := by
 have hlit : ∀ l ∈ L, l.length ≤ 1000000000 ∧ ∀ x ∈ l, LitOk n x := fun l hl => ⟨by have := (hf.2 l hl).1; omega, (hf.2 l hl).2⟩
 obtain ⟨r, c, ⟨K1, h1⟩, h2, h3⟩ := prop_law (n := n) (by omega) (cls := L) (by have := hf.1; omega) hlit hls
 obtain ⟨K0, h0⟩ := Ev.both (check_fine (by omega) hf) (bits_ev x n (by omega))
 have hrl : r.length ≤ 1000000000 := by
  cases c with
  | true => rw [(h2 rfl).1]; exact Nat.zero_le _
  | false => have := (h3 rfl).2.2.1; omega
 obtain ⟨K3, h4⟩ := eqInts_self r hrl
 have hbit : ∀ y : Nat, y.testBit = x.testBit → y = x := fun y hy => Nat.eq_of_testBit_eq (fun i => congrFun hy i)
 have hmod : ((L.all fun l => l.any (trueB (bitsL x.testBit n))) && ls.all (trueB (bitsL x.testBit n))) = true → Mod n L (litsOf x.testBit n) ∧ ∀ y ∈ ls, (litsOf x.testBit n).contains y = true := fun h => by
  rw [Bool.and_eq_true] at h
  rw [← sat_bits (by omega) (fun l hl => (hlit l hl).2)] at h
  refine ⟨litsOf_mod h.1, fun y hy => ?_⟩
  rw [lits_true (by omega) (hls y hy)]
  exact List.all_eq_true.1 h.2 y hy
 cases c with
 | true =>
  refine ⟨max K0 (max K1 K3), r, true, (h0 _ (by omega)).1, fun y hy => by rw [hbit y hy]; exact (h0 _ (by omega)).2, h1 _ (by omega), (fun h => by cases h), h4 _ (by omega), fun _ => ⟨(h2 rfl).1, ?_⟩, ?_, ?_, ?_, fun _ h => by cases h⟩
  ·cases hb : ((L.all fun l => l.any (trueB (bitsL x.testBit n))) && ls.all (trueB (bitsL x.testBit n))) with
   | false => rfl
   | true => exact absurd (hmod hb).2 ((h2 rfl).2 _ (hmod hb).1)
  ·rw [(h2 rfl).1]; intro y hy; cases hy
  ·rw [(h2 rfl).1]; exact Nat.zero_le _
  ·rw [(h2 rfl).1]; exact List.Pairwise.nil
 | false =>
  obtain ⟨g1, g2, g3, g4, K2, g5⟩ := h3 rfl
  refine ⟨max K0 (max K1 (max K2 K3)), r, false, (h0 _ (by omega)).1, fun y hy => by rw [hbit y hy]; exact (h0 _ (by omega)).2, h1 _ (by omega), fun _ => g5 _ (by omega), h4 _ (by omega), (fun h => by cases h), g1, g3, g2, fun h _ y hy => ?_⟩
  rw [← lits_true (by omega) (g1 y hy)]
  exact g4 _ (hmod h).1 (hmod h).2 y hy
theorem props_calls (vars : Int) (A1 : Option Addr) (c1 : Nat) (cls : List (List Int)) (A0 : Option Addr) (c0 : Nat) (l0 : List Int) (md : Int) (w : World) (hr1 : Kd.C (Kd.slice 3 (Kd.int .i64)) w A1 cls.length cls) (hc1 : cls.length ≤ c1) (hr0 : Kd.C (Kd.int .i64) w A0 l0.length l0) (hc0 : l0.length ≤ c0) (hmd : 0 ≤ md)
  (hg : NText.GOK w) (hm : NText.MOK w) (ht : TabOK w) :
  Calls Tryz.prog 7 #[.agg #[.int .i64 vars, .slice A1 cls.length c1], .slice A0 l0.length c0, .int .u64 md] w (AwakePost w) := by
 obtain ⟨n, L, hn, hLl, hLok, kf, hkf⟩ := fit_ev 12 40 (by decide) (by decide) vars cls
 obtain ⟨mN, rfl⟩ := Int.eq_ofNat_of_zero_le hmd
 have HFIT := Az.mk (hkf kf (Nat.le_refl _))
 have HFINE : Az (Fine n L) := ⟨⟨hLl, hLok⟩⟩
 have HN := Az.mk hn
 have HR1 := Az.mk hr1
 have HR0 := Az.mk hr0
 have HC1 := Az.mk hc1
 have HL := Az.mk (Kd.C_max hr0)
 have HG := Az.mk hg
 have HM := Az.mk hm
 have HT := Az.mk ht
 clear hn hLl hLok hkf hr1 hr0 hc1 hg hm ht hmd
 have hu24 := Tryz.underlying24
 go_enter Tryz.func7, Tryz.ntmps7
 go_wp2_with fail
 refine (nFt.calls kf vars A1 c1 cls 12 40 n L _ (Kd.C_alloc HR1.out _) HC1.out HFIT.out).mono ?_
 rintro e w1 ⟨v1, rfl, hs1, hb1⟩
 obtain ⟨Ax, cx, hvx, hlx, hCx⟩ := Kd.S_reads hs1
 subst hvx
 have HX := Az.mk hCx
 have HLX := Az.mk hlx
 have HB1 : Az (Below w.heap.size w w1) := ⟨bwt (below_new w _) hb1⟩
 clear hs1 hb1 hCx hlx HFIT HR1 HC1
 go_upto_block 0 with fail
 have HB2 := Az.mk (bwt HB1.out (below_new w1 (.cells #[.int .i64 n, .slice Ax L.length cx] 24)))
 have BK2 := Az.mk (blk_new w1 (.cells #[.int .i64 n, .slice Ax L.length cx] 24))
 have HX2 := Az.mk (Kd.C_alloc HX.out (.cells #[.int .i64 n, .slice Ax L.length cx] 24))
 obtain ⟨gx, hgx⟩ : ∃ gx, w1.heap.size = gx := ⟨_, rfl⟩
 rw [hgx] at BK2 ⊢
 have HGX : Az (w.heap.size ≤ gx) := ⟨by rw [← hgx]; exact HB1.out.size⟩
 clear HB1 HX
 clear hgx
 generalize w1.alloc (.cells #[.int .i64 n, .slice Ax L.length cx] 24) = w2 at HB2 BK2 HX2 ⊢
 go_cut [8, 9, 10] from 24 to 58 (fun s8 _ _ wc => ∃ ls : List Int, Az (ls.length ≤ 8) ∧ Az (∀ x ∈ ls, LitOk n x) ∧ Az (Kd.R (Kd.int .i64) 3 wc w2.heap.size (fun _ => True) s8 ls) ∧ Az (Below w2.heap.size w2 wc))
 case first =>
  go_wp2_with fail
  go_loopw [8, 9] (fun v8 v9 wr => ∃ (i : Nat) (ls : List Int), v9 = .int .i64 i ∧ i ≤ l0.length ∧ i ≤ 8 ∧ Az (ls.length = i) ∧ Az (∀ x ∈ ls, LitOk n x) ∧ Az (Kd.R (Kd.int .i64) 3 wr w2.heap.size (fun _ => True) v8 ls) ∧ Az (Below w2.heap.size w2 wr)) (fun _ v9 _ => 8 - (intOf v9).toNat)
  case atStart => exact ⟨0, [], rfl, Nat.zero_le _, Nat.zero_le _, ⟨rfl⟩, ⟨fun _ h => by cases h⟩, ⟨Kd.R_nil _ _ _ _ _⟩, ⟨Below.refl _ _⟩⟩
  case round =>
   obtain ⟨i, ls, rfl, hi, hi8, HLEN, HOK, HO6, HB⟩ := hrel
   have hx0 : wr.cell? ⟨gx, 0, none⟩ = some (.int .i64 n) := (bkc (blk_below BK2.out HB.out) 0).trans rfl
   by_cases hgo : i < l0.length ∧ i < 8 ∧ 0 < n
   ·obtain ⟨hlt, h8, hn0⟩ := hgo
    have h8' : decide ((i : Int) < 8) = true := decide_eq_true (by omega)
    have hn0' : decide ((n : Int) > 0) = true := decide_eq_true (by omega)
    obtain ⟨ad, rfl, hc⟩ := Kd.at_int HR0.out (i : Int) (by omega) (by omega)
    replace hc := ((bwt HB2.out HB.out).cell (World.block_lt_of_cell? w _ hc)).trans hc
    generalize rd l0 i = a at hc
    simp only [Int.toNat_natCast] at hc
    have hm : wrap64 (2 * (n : Int)) = 2 * (n : Int) := wid (by have := HN.out; omega) (by have := HN.out; omega)
    obtain ⟨t, ht, ht0, ht1⟩ := bring_ok a (m := 2 * (n : Int)) (by omega) (by have := HN.out; omega)
    rw [← hm] at ht
    have HT := Az.mk ht
    have HLIT := Az.mk (litE_ok (by have := HN.out; omega) ht0 ht1)
    clear hm ht ht0 ht1
    go_wp2_with fail
    go_quiet ((go_at_call 34; refine (nBr.calls a (wrap64 (2 * (n : Int))) t _ HT.out).mono ?_; rintro e w' ⟨rfl, ⟨nd, rfl⟩⟩; exact ⟨rfl, _, World.drewN_drewN _ _ _⟩))
    generalize hq_ : World.drewN wr _ = wr
    replace HO6 := Az.mk (Kd.R_at hq_ HO6.out)
    replace HB := Az.mk (below_at hq_ HB.out)
    clear hq_ hx0 hc
    have hii : i < i + 1 := Nat.lt_succ_self i
    go_wp2_with ((with_reducible refine gate_builtin (b := .append) (xs := #[.tmp 47, .tmp 56]) rfl ?_); at_builtin; refine Kd.R_append (Kd.int .i64) (w0 := w2) w2.heap.size rfl (.tmp 47) (.tmp 56) 26 3 (.int .i64 0) 8 rfl Tryz.underlying26 infoInt rfl (by decide) (by omega) u8 ls (litE t) [.int .i64 (litE t)] (fun _ => True) (fun _ => False) rfl rfl ?aP (fun _ hk => hk.elim) ?aF ?aO ?aB ?aS ?aL ?_; (case aP => exact rfl); (case aF => exact fun _ _ => trivial); (case aO => exact HO6.out); (case aB => exact HB.out); (case aS => exact HB.out.size); (case aL => have := HLEN.out; omega); intro v6n w3 ho hb hg hat; have HB3 := Az.mk hb; have HO6n := Az.mk ho; clear ho hb hg hat)
    go_roundw
    case rel => exact ⟨i + 1, ls ++ [litE t], rfl, by omega, by omega, ⟨by simp [HLEN.out]⟩, ⟨by intro x hx; rcases List.mem_append.1 hx with hx | hx; exact HOK.out x hx; simp at hx; subst hx; exact HLIT.out⟩, HO6n, HB3⟩
    case measure =>
     simp only [intOf, Int.toNat_natCast]; omega
   ·have hex : (decide ((i : Int) < (l0.length : Int)) = false ∧ ¬ i < l0.length) ∨ (i < l0.length ∧ decide ((i : Int) < 8) = false) ∨ (i < l0.length ∧ decide ((i : Int) < 8) = true ∧ decide ((n : Int) > 0) = false ∧ ¬ 0 < n) := by
     by_cases h1 : i < l0.length
     ·by_cases h2 : i < 8
      ·have h3 : ¬ 0 < n := fun h => hgo ⟨h1, h2, h⟩
       exact .inr (.inr ⟨h1, decide_eq_true (by omega), decide_eq_false (by omega), h3⟩)
      ·exact .inr (.inl ⟨h1, decide_eq_false (by omega)⟩)
     ·exact .inl ⟨decide_eq_false (by omega), h1⟩
    rcases hex with ⟨h1, h1'⟩ | ⟨h1, h2⟩ | ⟨h1, h2, h3, h3'⟩
    all_goals
     go_wp2_with fail
     go_meet
     case rel => exact ⟨ls, ⟨by rw [HLEN.out]; exact hi8⟩, HOK, HO6, HB⟩
 case rest =>
  obtain ⟨ls, HLS, HOK, HO, HBC⟩ := hcut
  obtain ⟨k, r, c, hP⟩ := powed HN.out HFINE.out HOK.out mN
  have HP := Az.mk hP
  obtain ⟨A8, c8, e8, hl8, hC8⟩ := Kd.R_reads HO.out
  subst e8
  have HL8 := Az.mk hl8
  have HC8 := Az.mk hC8
  have BKC := Az.mk (blk_below BK2.out HBC.out)
  have HXC := Az.mk (Kd.C_below HX2.out HBC.out)
  have HB3 := Az.mk (bwt HB2.out HBC.out)
  clear hP hl8 hC8 HO HR0 HL HGX BK2 HX2 HB2 HBC
  have hx0 := (bkc BKC.out 0).trans rfl
  have hx1 := (bkc BKC.out 1).trans rfl
  go_wp2_with fail
  refine (propagate_calls k n Ax cx L A8 c8 ls r c _ (by have := HN.out; omega) HXC.out HLX.out HC8.out HP.out.ck (any_ok (by have := HN.out; omega) HOK.out) HOK.out HP.out.p1).mono ?_
  rintro e w3 ⟨v11, rfl, hr, hb⟩
  obtain ⟨A11, c11, e11, hl11, hC11⟩ := Kd.R_reads hr
  subst e11
  have HL11 := Az.mk hl11
  have HC11 := Az.mk hC11
  have HC83 := Az.mk (Kd.C_below HC8.out hb)
  have BK3 := Az.mk (blk_below BKC.out hb)
  have HX3 := Az.mk (Kd.C_below HXC.out hb)
  have HB4 := Az.mk (bwt HB3.out hb)
  clear hr hb hl11 hC11 hx0 hx1 HC8 BKC HXC HB3
  have hx0 := (bkc BK3.out 0).trans rfl
  go_wp2_with fail
  refine (netlabref20_Bits.calls k (mN : Int) (n : Int) (bitsL mN.testBit n) w3 (HP.out.bits mN rfl)).mono ?_
  rintro e w4 ⟨v14, rfl, hr, hb⟩
  obtain ⟨A14, c14, e14, hl14, hC14⟩ := Kd.R_reads hr
  subst e14
  have HL14 := Az.mk hl14
  have HC14 := Az.mk hC14
  have HC84 := Az.mk (Kd.C_below HC83.out hb)
  have HC114 := Az.mk (Kd.C_below HC11.out hb)
  have BK4 := Az.mk (blk_below BK3.out hb)
  have HX4 := Az.mk (Kd.C_below HX3.out hb)
  have HB5 := Az.mk (bwt HB4.out hb)
  clear hr hb hl14 hC14 hx0 HC83 HC11 BK3 HX3 HB4
  have hx0 := (bkc BK4.out 0).trans rfl
  have hx1 := (bkc BK4.out 1).trans rfl
  obtain ⟨ev, hev⟩ : ∃ ev, (L.all fun l => l.any (trueB (bitsL mN.testBit n))) = ev := ⟨_, rfl⟩
  have HEV := Az.mk hev
  have hlm : (bitsL mN.testBit n).length = n := bitsL_len _ _
  have HLM := Az.mk hlm
  have hef : evalF 0 (n : Int) L (bitsL mN.testBit n) = (ev, 0) := by unfold evalF; rw [if_pos rfl, if_pos (by rw [hlm]), hev]
  have HEF := Az.mk hef
  have HE := Az.mk (eval_calls k (n : Int) Ax cx L A14 c14 (bitsL mN.testBit n) 0 w4 HX4.out HLX.out HC14.out HP.out.ck (fun _ _ => ⟨by rw [hlm]; have := HN.out; omega, by rw [hlm]; exact fun l hl => (HFINE.out.2 l hl).2⟩))
  clear hev hlm hef
  go_wp2_with fail
  refine HE.out.mono ?_
  rintro e w5 ⟨rfl, hb⟩
  rw [HEF.out]
  have HC85 := Az.mk (Kd.C_below HC84.out hb)
  have HC115 := Az.mk (Kd.C_below HC114.out hb)
  have HC145 := Az.mk (Kd.C_below HC14.out hb)
  have BK5 := Az.mk (blk_below BK4.out hb)
  have HX5 := Az.mk (Kd.C_below HX4.out hb)
  have HB6 := Az.mk (bwt HB5.out hb)
  clear hb hx0 hx1 HC84 HC114 HC14 BK4 HX4 HB5 HE HEF
  go_upto_region 11 with fail
  go_cut [88] from 75 to 88 (fun s88 wc => s88 = .bool false ∧ wc = w5)
  case first =>
   cases hc : c with
   | true =>
    have HR0 := Az.mk (HP.out.con hc).1
    subst hc
    go_wp2_with fail
    go_meet
    case rel => exact ⟨by rw [HR0.out]; rfl, rfl⟩
   | false =>
    subst hc
    go_wp2_with fail
    go_meet
    case rel => exact ⟨rfl, rfl⟩
  case rest =>
   obtain ⟨rfl, rfl⟩ := hcut
   go_wp2_with fail
   go_loopw [15, 17] (fun v15 v17 wr => ∃ (i : Nat) (b : Bool), v17 = .int .i64 i ∧ v15 = .bool b ∧ i ≤ ls.length ∧ Az (b = (ev && (ls.take i).all (trueB (bitsL mN.testBit n)))) ∧ Az (Below wc.heap.size wc wr)) (fun _ v17 _ => ls.length - (intOf v17).toNat)
   case atStart => exact ⟨0, ev, rfl, rfl, Nat.zero_le _, ⟨by simp⟩, ⟨Below.refl _ _⟩⟩
   case round =>
    obtain ⟨i, b, rfl, rfl, hi, HBV, HB⟩ := hrel
    by_cases hlt : i < ls.length
    ·have hx : rd ls i = ls[i] := by simp [rd, rdOf, hlt]
     have htk : (ls.take (i + 1)).all (trueB (bitsL mN.testBit n)) = ((ls.take i).all (trueB (bitsL mN.testBit n)) && trueB (bitsL mN.testBit n) (rd ls i)) := by
      rw [hx, List.take_add_one, List.all_append]
      simp [hlt]
     have HTK := Az.mk htk
     have HW : Az (wrap64 ((i : Int) + 1) = ((i + 1 : Nat) : Int)) := ⟨wrap_succ hlt (by have := HLS.out; omega)⟩
     have HLI := Az.mk (HOK.out (rd ls i) (by rw [hx]; exact List.getElem_mem hlt))
     clear hx htk
     cases b with
     | true =>
      obtain ⟨ad, rfl, hc⟩ := Kd.at_int (Kd.C_below HC85.out HB.out) (i : Int) (by omega) (by omega)
      simp only [Int.toNat_natCast] at hc
      generalize rd ls i = x at hc HTK HLI
      have HTC := Az.mk (netlabref32_True.calls x A14 c14 (bitsL mN.testBit n) (trueB (bitsL mN.testBit n) x) wr (Kd.C_below HC145.out HB.out) HL14.out (true_code (by rw [HLM.out]; have := HN.out; omega) (by rw [HLM.out]; exact HLI.out)))
      go_wp2_with (go_at_call 35; refine HTC.out.mono ?_; rintro e w' ⟨rfl, ⟨nd, rfl⟩⟩)
      go_roundw
      case rel => exact ⟨i + 1, _, by rw [HW.out], rfl, by omega, ⟨by rw [HTK.out, ← Bool.and_assoc, ← HBV.out, Bool.true_and]⟩, ⟨below_drewN HB.out⟩⟩
      case measure => exact meas_x hlt HW.out
     | false =>
      go_wp2_with fail
      go_roundw
      case rel => exact ⟨i + 1, false, by rw [HW.out], rfl, by omega, ⟨by rw [HTK.out, ← Bool.and_assoc, ← HBV.out, Bool.false_and]⟩, HB⟩
      case measure => exact meas_x hlt HW.out
    ·obtain rfl : i = ls.length := by omega
     have HBV2 : Az (b = (ev && ls.all (trueB (bitsL mN.testBit n)))) := ⟨by rw [HBV.out, List.take_length]⟩
     clear hi HBV
     cases hc : c with
     | true =>
      have hb : b = false := by rw [HBV2.out, ← HEV.out]; exact (HP.out.con hc).2
      subst hb
      subst hc
      go_wp2_with fail
      refine (awake_calls wr (HG.out.below (bwt HB6.out HB.out)) (HM.out.below (bwt HB6.out HB.out)) (HT.out.below (bwt HB6.out HB.out))).mono ?_
      rintro e w7 ⟨rfl, hb7⟩
      have HB7 := Az.mk (bwt (bwt HB6.out HB.out) hb7)
      clear hb7
      go_wp2
      go_ret
      exact ⟨rfl, HB7.out⟩
     | false =>
      subst hc
      have HINC := Az.mk (List.pairwise_iff_getElem.1 HP.out.inc)
      have HSAT := Az.mk HP.out.sat
      rw [HEV.out] at HSAT
      rw [← HBV2.out] at HSAT
      go_wp2_with fail
      have HBA := Az.mk (bwt HB6.out HB.out)
      have HC11a := Az.mk (Kd.C_below HC115.out HB.out)
      have HC14a := Az.mk (Kd.C_below HC145.out HB.out)
      have BKa := Az.mk (blk_below BK5.out HB.out)
      have HXa := Az.mk (Kd.C_below HX5.out HB.out)
      clear HB HB6 HC115 HC145 BK5 HX5 HC85
      generalize wr = wa at HBA HC11a HC14a BKa HXa ⊢
      go_loopw [18] (fun v18 wq => ∃ j : Nat, v18 = .int .i64 j ∧ j ≤ r.length ∧ Az (Below wa.heap.size wa wq)) (fun v18 _ => r.length - (intOf v18).toNat)
      case atStart => exact ⟨0, rfl, Nat.zero_le _, ⟨Below.refl _ _⟩⟩
      case round =>
       obtain ⟨j, rfl, hj, HQ⟩ := hrel
       by_cases hlt : j < r.length
       ·have hx : rd r j = r[j] := by simp [rd, rdOf, hlt]
        have HLI := Az.mk (HP.out.lit (rd r j) (by rw [hx]; exact List.getElem_mem hlt))
        have HTR : Az (b = true → trueB (bitsL mN.testBit n) (rd r j) = true) := ⟨fun hb => HSAT.out hb trivial _ (by rw [hx]; exact List.getElem_mem hlt)⟩
        have HW : Az (wrap64 ((j : Int) + 1) = ((j + 1 : Nat) : Int)) := ⟨wrap_succ hlt (by have := HP.out.len; have := HN.out; omega)⟩
        have HAB := Az.mk (abs_code (n := n) (by have := HN.out; omega) HLI.out)
        have HC14w := Az.mk (Kd.C_below HC14a.out HQ.out)
        obtain ⟨ad, hA, hc⟩ := Kd.at_int (Kd.C_below HC11a.out HQ.out) (j : Int) (by omega) (by omega)
        simp only [Int.toNat_natCast] at hc
        subst hA
        by_cases h0j : 0 < j
        ·obtain ⟨ad', hA', hc'⟩ := Kd.at_int (Kd.C_below HC11a.out HQ.out) ((j - 1 : Nat) : Int) (by omega) (by omega)
         simp only [Int.toNat_natCast] at hc'
         cases hA'
         have hx' : rd r ((j - 1 : Nat) : Int) = r[j - 1] := by simp [rd, rdOf, show j - 1 < r.length by omega]
         have HLX' := Az.mk (HP.out.lit (rd r ((j - 1 : Nat) : Int)) (by rw [hx']; exact List.getElem_mem _))
         have HAX := Az.mk (abs_code (n := n) (by have := HN.out; omega) HLX'.out)
         have hinc : decide (absI (rd r ((j - 1 : Nat) : Int)) ≥ absI (rd r (j : Int))) = false := decide_eq_false (by rw [hx, hx']; have := HINC.out (j - 1) j (by omega) hlt (by omega); omega)
         have hw1 : wrap64 ((j : Int) - 1) = ((j - 1 : Nat) : Int) := by unfold wrap64; have := HP.out.len; have := HN.out; omega
         have hpos : decide ((j : Int) > 0) = true := decide_eq_true (by omega)
         have hj1 : j - 1 < r.length := by omega
         clear hx hx'
         generalize rd r (j : Int) = y at hc hinc HLI HTR HAB
         generalize rd r ((j - 1 : Nat) : Int) = x at hc' hinc HLX' HAX
         generalize j - 1 = j1 at hc' hw1 hj1
         cases b with
         | true =>
          have HTV := Az.mk ((true_code (by rw [HLM.out]; have := HN.out; omega) (by rw [HLM.out]; exact HLI.out) : netlabref32_True.f y (bitsL mN.testBit n) = _).trans (congrArg some (HTR.out rfl)))
          go_wp2_with fail
          repeat (go_quiet (first | (go_at_call 35; refine (netlabref32_True.calls y A14 c14 (bitsL mN.testBit n) true _ ?cc HL14.out HTV.out).mono ?_; (case cc => repeat (first | exact HC14w.out | (with_reducible refine Kd.C_drewN ?_ _) | (with_reducible refine Kd.C_drew ?_))); rintro e w' ⟨rfl, ⟨nd, rfl⟩⟩; first | exact ⟨rfl, _, World.drewN_drewN _ _ _⟩ | exact ⟨rfl, _, Eq.trans (World.drewN_drewN _ _ _) (congrArg (World.drewN _) (Nat.add_assoc _ _ _))⟩) | (go_at_call 36; refine (netlabref32_Abs.calls x (absI x) _ HAX.out).mono ?_; rintro e w' ⟨rfl, ⟨nd, rfl⟩⟩; first | exact ⟨rfl, _, World.drewN_drewN _ _ _⟩ | exact ⟨rfl, _, Eq.trans (World.drewN_drewN _ _ _) (congrArg (World.drewN _) (Nat.add_assoc _ _ _))⟩) | (go_at_call 36; refine (netlabref32_Abs.calls y (absI y) _ HAB.out).mono ?_; rintro e w' ⟨rfl, ⟨nd, rfl⟩⟩; first | exact ⟨rfl, _, World.drewN_drewN _ _ _⟩ | exact ⟨rfl, _, Eq.trans (World.drewN_drewN _ _ _) (congrArg (World.drewN _) (Nat.add_assoc _ _ _))⟩)))
          generalize hq_ : World.drewN wr _ = wr
          replace HQ := Az.mk (below_at hq_ HQ.out)
          clear hq_
          go_wp2_with fail
          go_roundw
          case rel => exact ⟨j + 1, by rw [HW.out], by omega, HQ⟩
          case measure => exact meas_x hlt HW.out
         | false =>
          go_wp2_with fail
          repeat (go_quiet (first | (go_at_call 36; refine (netlabref32_Abs.calls x (absI x) _ HAX.out).mono ?_; rintro e w' ⟨rfl, ⟨nd, rfl⟩⟩; first | exact ⟨rfl, _, World.drewN_drewN _ _ _⟩ | exact ⟨rfl, _, Eq.trans (World.drewN_drewN _ _ _) (congrArg (World.drewN _) (Nat.add_assoc _ _ _))⟩) | (go_at_call 36; refine (netlabref32_Abs.calls y (absI y) _ HAB.out).mono ?_; rintro e w' ⟨rfl, ⟨nd, rfl⟩⟩; first | exact ⟨rfl, _, World.drewN_drewN _ _ _⟩ | exact ⟨rfl, _, Eq.trans (World.drewN_drewN _ _ _) (congrArg (World.drewN _) (Nat.add_assoc _ _ _))⟩)))
          generalize hq_ : World.drewN wr _ = wr
          replace HQ := Az.mk (below_at hq_ HQ.out)
          clear hq_
          go_wp2_with fail
          go_roundw
          case rel => exact ⟨j + 1, by rw [HW.out], by omega, HQ⟩
          case measure => exact meas_x hlt HW.out
        ·have hpos : decide ((j : Int) > 0) = false := decide_eq_false (by omega)
         have hpos2 : decide (0 < j) = false := decide_eq_false h0j
         have hq1 : decide ((0 : Int) < (j : Int)) = false := decide_eq_false (by omega)
         have hq2 : (0 < j) = False := by simpa using h0j
         have hq3 : ¬ ((0 : Int) < (j : Int)) := by omega
         clear hx
         generalize rd r (j : Int) = y at hc HLI HTR HAB
         cases b with
         | true =>
          have HTV := Az.mk ((true_code (by rw [HLM.out]; have := HN.out; omega) (by rw [HLM.out]; exact HLI.out) : netlabref32_True.f y (bitsL mN.testBit n) = _).trans (congrArg some (HTR.out rfl)))
          go_wp2_with fail
          go_quiet (first | (go_at_call 35; refine (netlabref32_True.calls y A14 c14 (bitsL mN.testBit n) true _ ?cc HL14.out HTV.out).mono ?_; (case cc => repeat (first | exact HC14w.out | (with_reducible refine Kd.C_drewN ?_ _) | (with_reducible refine Kd.C_drew ?_))); rintro e w' ⟨rfl, ⟨nd, rfl⟩⟩; first | exact ⟨rfl, _, World.drewN_drewN _ _ _⟩ | exact ⟨rfl, _, Eq.trans (World.drewN_drewN _ _ _) (congrArg (World.drewN _) (Nat.add_assoc _ _ _))⟩))
          generalize hq_ : World.drewN wr _ = wr
          replace HQ := Az.mk (below_at hq_ HQ.out)
          clear hq_
          go_wp2_with fail
          go_roundw
          case rel => exact ⟨j + 1, by simp, by omega, HQ⟩
          case measure => first | exact meas_x hlt HW.out | (simp only [intOf]; omega)
         | false =>
          go_wp2_with fail
          go_quiet (fail)
          generalize hq_ : World.drewN wr _ = wr
          replace HQ := Az.mk (below_at hq_ HQ.out)
          clear hq_
          go_wp2_with fail
          go_roundw
          case rel => exact ⟨j + 1, by simp, by omega, HQ⟩
          case measure => first | exact meas_x hlt HW.out | (simp only [intOf]; omega)
       ·obtain rfl : j = r.length := by omega
        have hx0 := (bkc (blk_below BKa.out HQ.out) 0).trans rfl
        have hx1 := (bkc (blk_below BKa.out HQ.out) 1).trans rfl
        have HCr := Az.mk (Kd.C_below HC11a.out HQ.out)
        have HPR := Az.mk (propagate_calls k n Ax cx L A11 c11 r r false wr (by have := HN.out; omega) (Kd.C_below HXa.out HQ.out) HLX.out HCr.out HP.out.ck (any_ok (by have := HN.out; omega) HP.out.lit) HP.out.lit (HP.out.p2 rfl))
        have HB9 := Az.mk (bwt HBA.out HQ.out)
        go_wp2_with fail
        refine HPR.out.mono ?_
        rintro e w7 ⟨v19, rfl, hr, hb⟩
        obtain ⟨A19, c19, e19, hl19, hC19⟩ := Kd.R_reads hr
        subst e19
        have HEQ := Az.mk (netlabref32_EqInts.calls k A19 c19 r A11 c11 r true w7 hC19 hl19 (Kd.C_below HCr.out hb) HL11.out HP.out.eq)
        have HB10 := Az.mk (bwt HB9.out hb)
        clear hr hb hl19 hC19 HPR hx0 hx1
        go_wp2_with fail
        refine HEQ.out.mono ?_
        rintro e w8 ⟨rfl, hd⟩
        have HB11 := Az.mk (bwt HB10.out hd.below)
        clear hd HEQ
        go_wp2_with fail
        refine (awake_calls w8 (HG.out.below HB11.out) (HM.out.below HB11.out) (HT.out.below HB11.out)).mono ?_
        rintro e w9 ⟨rfl, hb9⟩
        have HB12 := Az.mk (bwt HB11.out hb9)
        clear hb9
        go_wp2
        go_ret
        exact ⟨rfl, HB12.out⟩
end Go.Proofs.YtkcfdddhnboieaaGreatDoor.NState
end
