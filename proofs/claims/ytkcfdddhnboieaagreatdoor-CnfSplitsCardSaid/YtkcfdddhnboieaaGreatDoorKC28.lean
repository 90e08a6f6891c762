/-
  Part 28 of the proof of cnfSplits_card: walks and lemmas, packed by the session's own wip/pack.py out of its texts and of what the kit's print.sh printed.
-/
import Derived.Test.YtkcfdddhnboieaaGreatDoorKC20
import Derived.Test.YtkcfdddhnboieaaGreatDoorKC6
import Derived.Test.YtkcfdddhnboieaaGreatDoorKC27
import Derived.Test.YtkcfdddhnboieaaGreatDoorKC13
import Derived.Test.YtkcfdddhnboieaaGreatDoorKC26
set_option linter.unusedVariables false
set_option linter.unusedSimpArgs false
section
set_option maxHeartbeats 4000000
set_option maxRecDepth 100000
namespace Go.Proofs.YtkcfdddhnboieaaGreatDoor.NState
open Go Go.RowKit Go.Shelf Go.Lib QW.PrintWords QW.PrintLast QW.PrintMore NMap
open PCheck (cnf_Check.f cnf_Check.calls)
open PSameC (netlabref32_EqInts.calls netlabref32_Same.calls)
open NPlain (CountIs LitOk)
def AwakePost (w : World) (e : Ending) (w' : World) : Prop := e = .returned (.bool true) ∧ Below w.heap.size w w'
theorem awake_calls (w : World) (hg : NText.GOK w) (hm : NText.MOK w) (ht : TabOK w) : Calls Tryz.prog 25 #[] w (AwakePost w) := by
 have HG := Az.mk hg
 have HM := Az.mk hm
 have HT := Az.mk ht
 clear hg hm ht
 go_enter Tryz.func25, Tryz.ntmps25
 have k1 := lit2 w [1, -2] [2] (cs1 := #[.int .i64 1, .int .i64 (-2)]) (cs2 := #[.int .i64 2]) rfl (by decide) rfl (by decide)
 have K1 := Az.mk k1
 clear k1
 go_wp2_with fail
 refine (formula_calls _ _ _ _ _).mono ?_
 rintro e w1 ⟨rfl, hb⟩
 have HR1 := Az.mk (Kd.C_below K1.out.1 hb)
 have HB1 := Az.mk (bwt K1.out.2 hb)
 clear hb K1
 have hm1 : Kd.C Kd.bool (w1.alloc (.cells #[.bool true, .bool true] 4)) (some ⟨w1.heap.size, 0, none⟩) 2 [true, true] := C_lit Kd.bool w1 4 [true, true] _ (Kd.reps_scalar _) (by decide)
 have HE1 := Az.mk (eval_calls 50 2 _ 2 [[1, -2], [2]] _ 2 [true, true] 0 _ (Kd.C_alloc HR1.out (.cells #[.bool true, .bool true] 4)) (by decide) hm1 av_ck1 (fun _ _ => ⟨by decide, lit_of (n := 2) (by decide)⟩))
 clear hm1 HR1
 go_wp2_with fail
 refine HE1.out.mono ?_
 rintro e w2 ⟨rfl, hb⟩
 rw [av_e1]
 have HB2 := Az.mk (bwt (bwt HB1.out (below_new w1 _)) hb)
 clear hb HE1 HB1
 have k1 := lit2 w2 [1, -2] [2] (cs1 := #[.int .i64 1, .int .i64 (-2)]) (cs2 := #[.int .i64 2]) rfl (by decide) rfl (by decide)
 have K1 := Az.mk k1
 clear k1
 go_wp2_with fail
 refine (formula_calls _ _ _ _ _).mono ?_
 rintro e w3 ⟨rfl, hb⟩
 have HR3 := Az.mk (Kd.C_below K1.out.1 hb)
 have HB3 := Az.mk (bwt HB2.out (bwt K1.out.2 hb))
 clear hb K1 HB2
 have hm1 : Kd.C Kd.bool (w3.alloc (.cells #[.bool false, .bool true] 4)) (some ⟨w3.heap.size, 0, none⟩) 2 [false, true] := C_lit Kd.bool w3 4 [false, true] _ (Kd.reps_scalar _) (by decide)
 have HE1 := Az.mk (eval_calls 50 2 _ 2 [[1, -2], [2]] _ 2 [false, true] 0 _ (Kd.C_alloc HR3.out (.cells #[.bool false, .bool true] 4)) (by decide) hm1 av_ck1 (fun _ _ => ⟨by decide, lit_of (n := 2) (by decide)⟩))
 clear hm1 HR3
 go_wp2_with fail
 refine HE1.out.mono ?_
 rintro e w4 ⟨rfl, hb⟩
 rw [av_e2]
 have HB4 := Az.mk (bwt (bwt HB3.out (below_new w3 _)) hb)
 clear hb HE1 HB3
 have k1 := lit4 w4 [2, -1, 2] [1] [3, -3] [1] (cs1 := #[.int .i64 2, .int .i64 (-1), .int .i64 2]) (cs2 := #[.int .i64 1]) (cs3 := #[.int .i64 3, .int .i64 (-3)]) (cs4 := #[.int .i64 1]) rfl (by decide) rfl (by decide) rfl (by decide) rfl (by decide)
 have K1 := Az.mk k1
 clear k1
 go_wp2_with fail
 refine (formula_calls _ _ _ _ _).mono ?_
 rintro e w5 ⟨rfl, hb⟩
 have HE1 := Az.mk (normal_calls 50 50 3 _ 4 [[2, -1, 2], [1], [3, -3], [1]] trivB w5 (Kd.C_below K1.out.1 hb) (by decide) av_ck2 (by decide) (by simp) av_nok)
 have HB5 := Az.mk (bwt HB4.out (bwt K1.out.2 hb))
 clear hb K1 HB4
 go_wp2_with fail
 refine HE1.out.mono ?_
 rintro e w6 ⟨An, cn, rfl, hcn, hCn, hb⟩
 rw [av_n] at hcn hCn ⊢
 have HB6 := Az.mk (bwt HB5.out hb)
 have HN : Az ((SpG.cnf 3 [[1], [-1, 2]]).p w6 (.agg #[.int .i64 3, .slice An 2 cn])) := ⟨⟨An, cn, rfl, hcn, hCn⟩⟩
 clear hb HE1 hcn hCn HB5
 go_wp2_with fail
 refine caw4_region (g5 := w6.heap.size) (v5 := .slice An 2 cn) ⟨rfl, rfl, rfl, rfl, rfl, rfl, rfl, blk_new w6 _, (SpG.cnf 3 [[1], [-1, 2]]).st HN.out (below_drew (below_new w6 _))⟩ ?_
 intro v W7 hv hb
 have HB7 := Az.mk (bwt (bwt HB6.out (below_new w6 _)) hb)
 clear hb HN HB6
 change Exit.then _ _ .normal { tmps := #[.bool false, .bool true, .int .i64 0, .bool false, .int .i64 0, .pointer (some ⟨w6.heap.size, 0, none⟩), .int .i64 0, undef, undef, undef, undef, undef, undef, undef, undef, undef, undef, undef, undef, undef, undef, .tuple #[.bool true, .int .i64 0], .slice (some ⟨w.heap.size, 0, none⟩) 2 2, .slice (some ⟨w.heap.size + 1, 0, none⟩) 1 1, .slice (some ⟨w.heap.size + 1 + 1, 0, none⟩) 2 2, .agg #[.int .i64 2, .slice (some ⟨w.heap.size + 1 + 1, 0, none⟩) 2 2], .slice (some ⟨w1.heap.size, 0, none⟩) 2 2, .tuple #[.bool true, .int .i64 0], .bool true, .int .i64 0, .tuple #[.bool false, .int .i64 0], .slice (some ⟨w2.heap.size, 0, none⟩) 2 2, .slice (some ⟨w2.heap.size + 1, 0, none⟩) 1 1, .slice (some ⟨w2.heap.size + 1 + 1, 0, none⟩) 2 2, .agg #[.int .i64 2, .slice (some ⟨w2.heap.size + 1 + 1, 0, none⟩) 2 2], .slice (some ⟨w3.heap.size, 0, none⟩) 2 2, .tuple #[.bool false, .int .i64 0], .bool false, .int .i64 0, .tuple #[.agg #[.int .i64 3, .slice An 2 cn], .int .i64 0], .slice (some ⟨w4.heap.size, 0, none⟩) 3 3, .slice (some ⟨w4.heap.size + 1, 0, none⟩) 1 1, .slice (some ⟨w4.heap.size + 1 + 1, 0, none⟩) 2 2, .slice (some ⟨w4.heap.size + 1 + 1 + 1, 0, none⟩) 1 1, .slice (some ⟨w4.heap.size + 1 + 1 + 1 + 1, 0, none⟩) 4 4, .agg #[.int .i64 3, .slice (some ⟨w4.heap.size + 1 + 1 + 1 + 1, 0, none⟩) 4 4], .tuple #[.agg #[.int .i64 3, .slice An 2 cn], .int .i64 0], .agg #[.int .i64 3, .slice An 2 cn], .int .i64 0, v 0, v 1, v 2, v 3, v 4, v 5, v 6, v 7, v 8, v 9, v 10, v 11, v 12, v 13, v 14, v 15, v 16, v 17, v 18, v 19, v 20, v 21, v 22, v 23, v 24, v 25, undef, undef, undef, undef, undef, undef, undef, undef, undef, undef, undef, undef, undef, undef, undef, undef, undef, undef, undef, undef, undef, undef, undef, undef, undef, undef, undef, undef, undef, undef, undef, undef, undef, undef, undef, undef, undef, undef, undef, undef, undef, undef, undef, undef, undef, undef, undef, undef, undef, undef, undef, undef, undef, undef, undef, undef, undef, undef, undef, undef, undef, undef, undef, undef, undef, undef, undef, undef, undef, undef, undef, undef, undef, undef, undef, undef, undef, undef, undef, undef, undef, undef, undef, undef, undef, undef, undef, undef, undef, undef, undef, undef, undef, undef, undef, undef, undef, undef, undef, undef, undef, undef, undef, undef, undef], defers := [] } _
 rw [hv]
 clear hv
 have k1 := lit3 W7 [-1, 2] [-2, 3] [-3, -4] (cs1 := #[.int .i64 (-1), .int .i64 2]) (cs2 := #[.int .i64 (-2), .int .i64 3]) (cs3 := #[.int .i64 (-3), .int .i64 (-4)]) rfl (by decide) rfl (by decide) rfl (by decide)
 have K1 := Az.mk k1
 clear k1
 go_wp2_with fail
 refine (formula_calls _ _ _ _ _).mono ?_
 rintro e w8 ⟨rfl, hb⟩
 have HR8 := Az.mk (Kd.C_below K1.out.1 hb)
 have HB8 := Az.mk (bwt HB7.out (bwt K1.out.2 hb))
 clear hb K1 HB7
 go_wp2_with fail
 have HR9 := Az.mk (Kd.C_alloc (Kd.C_alloc HR8.out (.cells #[.int .i64 4, .slice (some ⟨W7.heap.size + 1 + 1 + 1, 0, none⟩) 3 3] 24)) (.cells #[.int .i64 1] 3))
 have BX9 := Az.mk (blk_below (blk_new w8 (.cells #[.int .i64 4, .slice (some ⟨W7.heap.size + 1 + 1 + 1, 0, none⟩) 3 3] 24)) (below_new (w8.alloc (.cells #[.int .i64 4, .slice (some ⟨W7.heap.size + 1 + 1 + 1, 0, none⟩) 3 3] 24)) (.cells #[.int .i64 1] 3)))
 have HB9 := Az.mk (bwt (bwt HB8.out (below_new w8 (.cells #[.int .i64 4, .slice (some ⟨W7.heap.size + 1 + 1 + 1, 0, none⟩) 3 3] 24))) (below_new (w8.alloc (.cells #[.int .i64 4, .slice (some ⟨W7.heap.size + 1 + 1 + 1, 0, none⟩) 3 3] 24)) (.cells #[.int .i64 1] 3)))
 have HL9 := Az.mk (C_ints (w8.alloc (.cells #[.int .i64 4, .slice (some ⟨W7.heap.size + 1 + 1 + 1, 0, none⟩) 3 3] 24)) [1] #[.int .i64 1] rfl (by decide))
 rw [World.size_alloc] at HL9
 clear HR8 HB8
 refine (propagate_calls 50 4 (some ⟨W7.heap.size + 1 + 1 + 1, 0, none⟩) 3 [[-1, 2], [-2, 3], [-3, -4]] (some ⟨w8.heap.size + 1, 0, none⟩) 1 [1] [1, 2, 3, -4] false _ (by decide) HR9.out (by decide) HL9.out av_ck3 (by kernel_rfl) (fun x hx => lit_of (n := 4) (cls := [[1]]) (by decide) [1] (by simp) x hx) av_p1).mono ?_
 rintro e w10 ⟨v8, rfl, hr, hb⟩
 obtain ⟨A8, c8, hv8, hl8, hC8⟩ := Kd.R_reads hr
 obtain rfl : v8 = .slice A8 4 c8 := hv8
 have HL8 : Az ((SpG.ints [1, 2, 3, -4]).p w10 (.slice A8 4 c8)) := ⟨⟨A8, c8, rfl, hl8, hC8⟩⟩
 have HR10 := Az.mk (Kd.C_below HR9.out hb)
 have BX10 := Az.mk (blk_below BX9.out hb)
 have HB10 := Az.mk (bwt HB9.out hb)
 clear hr hb hl8 hC8 HR9 BX9 HB9 HL9
 have hx0 := (bkc BX10.out 0).trans rfl
 have hx1 := (bkc BX10.out 1).trans rfl
 go_wp2_with fail
 have HL9 := Az.mk (C_ints w10 [1, 4] #[.int .i64 1, .int .i64 4] rfl (by decide))
 refine (propagate_calls 50 4 (some ⟨W7.heap.size + 1 + 1 + 1, 0, none⟩) 3 [[-1, 2], [-2, 3], [-3, -4]] (some ⟨w10.heap.size, 0, none⟩) 2 [1, 4] [] true _ (by decide) (Kd.C_alloc HR10.out _) (by decide) HL9.out av_ck3 (by kernel_rfl) (fun x hx => lit_of (n := 4) (cls := [[1, 4]]) (by decide) [1, 4] (by simp) x hx) av_p2).mono ?_
 rintro e w11 ⟨v11, rfl, hr, hb⟩
 obtain ⟨A11, c11, hv11, _, _⟩ := Kd.R_reads hr
 obtain rfl : v11 = .slice A11 0 c11 := hv11
 have HL11 := Az.mk ((SpG.ints [1, 2, 3, -4]).st ((SpG.ints [1, 2, 3, -4]).st HL8.out (below_new w10 (.cells #[.int .i64 1, .int .i64 4] 3))) hb)
 have HB11 := Az.mk (bwt (bwt HB10.out (below_new w10 (.cells #[.int .i64 1, .int .i64 4] 3))) hb)
 clear hr hb HR10 BX10 HB10 HL9 HL8 hx0 hx1
 have k1 := lit1 w11 [1, 2] (cs1 := #[.int .i64 1, .int .i64 2]) rfl (by decide)
 have K1 := Az.mk k1
 clear k1
 go_wp2_with fail
 refine (formula_calls _ _ _ _ _).mono ?_
 rintro e w12 ⟨rfl, hb⟩
 have HC12 := Az.mk (count_calls 50 3 _ 1 [[1, 2]] w12 (by decide) (Kd.C_below K1.out.1 hb) (by decide) (by decide) (fun l hl => ⟨by simp at hl; rw [hl]; decide, fun x hx => lit_of (n := 3) (cls := [[1, 2]]) (by decide) l hl x hx⟩) av_ck4)
 have HB12 := Az.mk (bwt HB11.out (bwt K1.out.2 hb))
 have HL12 := Az.mk ((SpG.ints [1, 2, 3, -4]).st ((SpG.ints [1, 2, 3, -4]).st HL11.out K1.out.2) hb)
 clear hb K1 HB11 HL11
 go_wp2_with fail
 refine HC12.out.mono ?_
 rintro e w13 ⟨cn_, rfl, hcn_, hb⟩
 obtain rfl := av_cnt hcn_
 have HB13 := Az.mk (bwt HB12.out hb)
 have HL13 := Az.mk ((SpG.ints [1, 2, 3, -4]).st HL12.out hb)
 clear hb hcn_ HB12 HL12 HC12
 go_wp2_with fail
 have HL9 := Az.mk (C_ints w13 [1, 2, 3, -4] #[.int .i64 1, .int .i64 2, .int .i64 3, .int .i64 (-4)] rfl (by decide))
 obtain ⟨A8', c8', he8, hl8, hC8⟩ := HL13.out
 cases he8
 refine (netlabref32_EqInts.calls 20 A8 c8 [1, 2, 3, -4] _ 4 [1, 2, 3, -4] true _ (Kd.C_alloc hC8 _) hl8 HL9.out (by decide) (by kernel_rfl)).mono ?_
 rintro e w14 ⟨rfl, hd⟩
 have HB14 := Az.mk (bwt (bwt HB13.out (below_new w13 (.cells #[.int .i64 1, .int .i64 2, .int .i64 3, .int .i64 (-4)] 3))) hd.below)
 clear hd hl8 hC8 HL13 HL9 HB13
 go_wp2_with fail
 have HE := Az.mk (encode_at w14.heap.size (w14.heap.size + 1) ((w14.alloc (.cells #[.int .i64 2, .int .i64 5] 109)).alloc (.cells #[.int .i64 7] 67)) (blk_below (blk_new w14 (.cells #[.int .i64 2, .int .i64 5] 109)) (below_new (w14.alloc (.cells #[.int .i64 2, .int .i64 5] 109)) (.cells #[.int .i64 7] 67))) (by have h := blk_new (w14.alloc (.cells #[.int .i64 2, .int .i64 5] 109)) (.cells #[.int .i64 7] 67); rw [World.size_alloc] at h; exact h))
 unfold gV at HE
 refine HE.out.mono ?_
 rintro e w15 ⟨Ae, ce, gI, rfl, hce, hCe, hCi, hb⟩
 have HB15 := Az.mk (bwt (bwt (bwt HB14.out (below_new w14 (.cells #[.int .i64 2, .int .i64 5] 109))) (below_new (w14.alloc (.cells #[.int .i64 2, .int .i64 5] 109)) (.cells #[.int .i64 7] 67))) hb)
 have HC15 : Az ((SpG.cnf 3 [[-3, 1], [-3, -2], [3, -1, 2], [-3]]).p w15 (.agg #[.int .i64 3, .slice Ae 4 ce])) := ⟨⟨Ae, ce, rfl, hce, hCe⟩⟩
 have HI15 : Az ((SpG.ints [0, 1, 2, 3]).p w15 (.slice (some ⟨gI, 0, none⟩) 4 4)) := ⟨⟨_, _, rfl, by decide, hCi⟩⟩
 clear hb hce hCe hCi HE HB14
 go_upto_region 13 with fail
 have HB16 := Az.mk (bwt HB15.out (below_new w15 (.cells #[.int .i64 3, .slice Ae 4 ce] 24)))
 have BX16 := Az.mk (blk_new w15 (.cells #[.int .i64 3, .slice Ae 4 ce] 24))
 have HC16 := Az.mk ((SpG.cnf 3 [[-3, 1], [-3, -2], [3, -1, 2], [-3]]).st HC15.out (below_new w15 (.cells #[.int .i64 3, .slice Ae 4 ce] 24)))
 have HI16 := Az.mk ((SpG.ints [0, 1, 2, 3]).st HI15.out (below_new w15 (.cells #[.int .i64 3, .slice Ae 4 ce] 24)))
 clear HB15 HC15 HI15
 generalize w15.alloc (.cells #[.int .i64 3, .slice Ae 4 ce] 24) = w16 at HB16 BX16 HC16 HI16 ⊢
 generalize w15.heap.size = g16 at BX16 ⊢
 have k1 := lit1 w16 [1, -2] (cs1 := #[.int .i64 1, .int .i64 (-2)]) rfl (by decide)
 have K1 := Az.mk k1
 clear k1
 go_wp2_with fail
 refine (formula_calls _ _ _ _ _).mono ?_
 rintro e w17 ⟨rfl, hb⟩
 have HB17 := Az.mk (bwt HB16.out (bwt K1.out.2 hb))
 have HFM := Az.mk (formatC_calls 50 2 _ 1 [[1, -2]] 0 w17 (Kd.C_below K1.out.1 hb) (by decide) av_ck5 (HT.out.below HB17.out) (fun _ => av_fok) (fun _ => ⟨2, rfl, by decide⟩))
 have HW17 := Az.mk (bwt K1.out.2 hb)
 clear hb K1 HB16
 go_wp2_with fail
 refine HFM.out.mono ?_
 rintro e w18 ⟨rfl, hb⟩
 rw [av_f]
 have HB18 := Az.mk (bwt HB17.out hb)
 have HW18 := Az.mk (bwt HW17.out hb)
 clear hb HFM HB17 HW17
 go_wp2_with fail
 have HD18 := Az.mk (below_drew HW18.out)
 refine caw14_region (g16 := g16) (v16 := .slice Ae 4 ce) (v17 := .slice (some ⟨gI, 0, none⟩) 4 4) ⟨rfl, rfl, rfl, rfl, rfl, rfl, (SpG.ints [0, 1, 2, 3]).st HI16.out HD18.out, blk_below BX16.out HD18.out, (SpG.cnf 3 [[-3, 1], [-3, -2], [3, -1, 2], [-3]]).st HC16.out HD18.out, HG.out.below (below_drew HB18.out), HM.out.below (below_drew HB18.out)⟩ ?_
 intro u W19 hv hb
 have HB19 := Az.mk (bwt HB18.out hb)
 clear hb
 change Exit.then _ _ .normal { tmps := #[u 31, .bool true, .int .i64 0, .bool false, .int .i64 0, .pointer (some ⟨w6.heap.size, 0, none⟩), .int .i64 0, .pointer (some ⟨w8.heap.size, 0, none⟩), .slice A8 4 c8, .bool false, .int .i64 0, .slice A11 0 c11, .bool true, .int .i64 0, .int .u64 6, .int .i64 0, .pointer (some ⟨g16, 0, none⟩), .slice (some ⟨gI, 0, none⟩) 4 4, .int .i64 0, .string ⟨#[112, 32, 99, 110, 102, 32, 50, 32, 49, 10, 49, 32, 45, 50, 32, 48, 10]⟩, .int .i64 0, .tuple #[.bool true, .int .i64 0], .slice (some ⟨w.heap.size, 0, none⟩) 2 2, .slice (some ⟨w.heap.size + 1, 0, none⟩) 1 1, .slice (some ⟨w.heap.size + 1 + 1, 0, none⟩) 2 2, .agg #[.int .i64 2, .slice (some ⟨w.heap.size + 1 + 1, 0, none⟩) 2 2], .slice (some ⟨w1.heap.size, 0, none⟩) 2 2, .tuple #[.bool true, .int .i64 0], .bool true, .int .i64 0, .tuple #[.bool false, .int .i64 0], .slice (some ⟨w2.heap.size, 0, none⟩) 2 2, .slice (some ⟨w2.heap.size + 1, 0, none⟩) 1 1, .slice (some ⟨w2.heap.size + 1 + 1, 0, none⟩) 2 2, .agg #[.int .i64 2, .slice (some ⟨w2.heap.size + 1 + 1, 0, none⟩) 2 2], .slice (some ⟨w3.heap.size, 0, none⟩) 2 2, .tuple #[.bool false, .int .i64 0], .bool false, .int .i64 0, .tuple #[.agg #[.int .i64 3, .slice An 2 cn], .int .i64 0], .slice (some ⟨w4.heap.size, 0, none⟩) 3 3, .slice (some ⟨w4.heap.size + 1, 0, none⟩) 1 1, .slice (some ⟨w4.heap.size + 1 + 1, 0, none⟩) 2 2, .slice (some ⟨w4.heap.size + 1 + 1 + 1, 0, none⟩) 1 1, .slice (some ⟨w4.heap.size + 1 + 1 + 1 + 1, 0, none⟩) 4 4, .agg #[.int .i64 3, .slice (some ⟨w4.heap.size + 1 + 1 + 1 + 1, 0, none⟩) 4 4], .tuple #[.agg #[.int .i64 3, .slice An 2 cn], .int .i64 0], .agg #[.int .i64 3, .slice An 2 cn], .int .i64 0, v 0, v 1, v 2, v 3, v 4, v 5, v 6, v 7, v 8, v 9, v 10, v 11, v 12, v 13, v 14, v 15, v 16, v 17, v 18, v 19, v 20, v 21, v 22, v 23, v 24, .bool false, .slice (some ⟨W7.heap.size, 0, none⟩) 2 2, .slice (some ⟨W7.heap.size + 1, 0, none⟩) 2 2, .slice (some ⟨W7.heap.size + 1 + 1, 0, none⟩) 2 2, .slice (some ⟨W7.heap.size + 1 + 1 + 1, 0, none⟩) 3 3, .agg #[.int .i64 4, .slice (some ⟨W7.heap.size + 1 + 1 + 1, 0, none⟩) 3 3], .tuple #[.slice A8 4 c8, .bool false, .int .i64 0], .agg #[.int .i64 4, .slice (some ⟨W7.heap.size + 1 + 1 + 1, 0, none⟩) 3 3], .slice (some ⟨w8.heap.size + 1, 0, none⟩) 1 1, .tuple #[.slice A8 4 c8, .bool false, .int .i64 0], .slice A8 4 c8, .bool false, .int .i64 0, .tuple #[.slice A11 0 c11, .bool true, .int .i64 0], .agg #[.int .i64 4, .slice (some ⟨W7.heap.size + 1 + 1 + 1, 0, none⟩) 3 3], .slice (some ⟨w10.heap.size, 0, none⟩) 2 2, .tuple #[.slice A11 0 c11, .bool true, .int .i64 0], .slice A11 0 c11, .bool true, .int .i64 0, .tuple #[.int .u64 6, .int .i64 0], .slice (some ⟨w11.heap.size, 0, none⟩) 2 2, .slice (some ⟨w11.heap.size + 1, 0, none⟩) 1 1, .agg #[.int .i64 3, .slice (some ⟨w11.heap.size + 1, 0, none⟩) 1 1], .tuple #[.int .u64 6, .int .i64 0], .int .u64 6, .int .i64 0, .int .i64 0, .bool false, .bool false, .int .i64 0, .bool false, .bool false, .bool false, .int .i64 0, .bool false, .bool false, .bool false, .bool false, .bool false, .bool false, .bool true, .bool false, .bool false, .bool false, .slice A11 0 c11, .int .i64 0, .bool false, .bool false, .bool false, .int .u64 6, .bool false, .bool false, .bool false, .slice A8 4 c8, .slice (some ⟨w13.heap.size, 0, none⟩) 4 4, .bool true, .bool false, .bool false, .tuple #[.agg #[.int .i64 3, .slice Ae 4 ce], .slice (some ⟨gI, 0, none⟩) 4 4, .int .i64 0], .agg #[.int .i64 2, .int .i64 5], .slice (some ⟨w14.heap.size, 0, none⟩) 1 1, .agg #[.int .i64 2, .slice none 0 0, .slice (some ⟨w14.heap.size, 0, none⟩) 1 1, .slice none 0 0], .slice (some ⟨w14.heap.size + 1, 0, none⟩) 1 1, .tuple #[.agg #[.int .i64 3, .slice Ae 4 ce], .slice (some ⟨gI, 0, none⟩) 4 4, .int .i64 0], .agg #[.int .i64 3, .slice Ae 4 ce], .slice (some ⟨gI, 0, none⟩) 4 4, .int .i64 0, .tuple #[.string ⟨#[112, 32, 99, 110, 102, 32, 50, 32, 49, 10, 49, 32, 45, 50, 32, 48, 10]⟩, .int .i64 0], .slice (some ⟨w16.heap.size, 0, none⟩) 2 2, .slice (some ⟨w16.heap.size + 1, 0, none⟩) 1 1, .agg #[.int .i64 2, .slice (some ⟨w16.heap.size + 1, 0, none⟩) 1 1], .tuple #[.string ⟨#[112, 32, 99, 110, 102, 32, 50, 32, 49, 10, 49, 32, 45, 50, 32, 48, 10]⟩, .int .i64 0], .string ⟨#[112, 32, 99, 110, 102, 32, 50, 32, 49, 10, 49, 32, 45, 50, 32, 48, 10]⟩, .int .i64 0, u 0, u 1, u 2, u 3, u 4, u 5, u 6, u 7, u 8, u 9, u 10, u 11, u 12, u 13, u 14, u 15, u 16, u 17, u 18, u 19, u 20, u 21, u 22, u 23, u 24, u 25, u 26, u 27, u 28, u 29, u 30], defers := [] } _
 rw [hv]
 clear hv
 go_wp2
 go_ret
 exact ⟨rfl, HB19.out⟩
end Go.Proofs.YtkcfdddhnboieaaGreatDoor.NState
end
section
set_option maxHeartbeats 4000000
set_option maxRecDepth 100000
namespace Go.Proofs.YtkcfdddhnboieaaGreatDoor.NState
open Go Go.RowKit Go.Shelf Go.Lib QW.PrintWords QW.PrintLast QW.PrintMore NMap
open PCheck (cnf_Check.f)
open PFit (nFt.calls nBr.calls nfC.f)
open NPlain (CountIs LitOk Fine fit_ev check_fine Ev.both cntS bring_ok wid wneg fewF_ev fewL_fine cnt_le cnt_var cnt_zero tot chkL check_code any_ok tot_le)
theorem check_more {n : Nat} (hn : n ≤ 4096) {L : List (List Int)} (h : Fine n L) {x : Int} (hx : LitOk n x) : NPlain.Ev (fun k => cnf_Check.f k n (L ++ [[x]])) 0 := by
 have h1 := h.1
 have h2 : ∀ l ∈ L ++ [[x]], l.length ≤ 12 ∧ ∀ y ∈ l, LitOk n y := fun l hl => by
  rcases List.mem_append.1 hl with hl | hl
  ·exact h.2 l hl
  ·rw [List.mem_singleton] at hl
   subst hl
   exact ⟨by simp, fun y hy => by rw [List.mem_singleton] at hy; rw [hy]; exact hx⟩
 have h3 : (L ++ [[x]]).length = L.length + 1 := by simp
 have h4 := tot_le 12 (L ++ [[x]]) (fun l hl => (h2 l hl).1)
 rw [h3] at h4
 have e := check_code n (L ++ [[x]]) (by omega) (by omega) (fun l hl => by have := (h2 l hl).1; omega)
 have hz : chkL n (L ++ [[x]]) = 0 := by
  unfold chkL
  rw [if_neg (by omega), if_neg (by omega), if_neg]
  rw [Bool.not_eq_true, List.any_eq_false]
  intro l hl
  rw [any_ok (by omega) (h2 l hl).2]; simp
 rwa [hz] at e
theorem app1_ {ops : Array Oper} {rest : List Oper} {o : Oper} {a : Act} {Q : Exit → Act → World → Prop} {W : World} {base g ib m : Nat} {ok : Nat → Prop} {A4 : Option Addr} {c4 : Nat} {s x : Tmp} {xs : List (List Int)} {y : Int} (hgd : o.guard = none) (ho : o.op = .call { callee := .builtin .append, args := #[.tmp s, .tmp x], argTypes := #[22, 22] })
  (hm : m = xs.length) (hs : a.eval (.tmp s) = .slice A4 m c4) (hx : a.eval (.tmp x) = .slice (some ⟨W.heap.size, 0, none⟩) 1 1) (HO : Kd.R (Kd.slice 3 (Kd.int .i64)) 26 W base ok (.slice A4 m c4) xs) (hin : Kd.R (Kd.int .i64) 3 W g (fun _ => True) (.slice (some ⟨ib, 0, none⟩) 1 1) [y])
  (hgb : base ≤ g) (hg : ∀ k, (Value.slice A4 m c4).ownBlock = some k → k < g) (hok : ∀ k, g ≤ k → ok k) (hgs : g ≤ W.heap.size) (hl : xs.length ≤ 1000)
  (h : ∀ A1 c1 w1, Kd.R (Kd.slice 3 (Kd.int .i64)) 26 w1 base ok (.slice A1 (m + 1) c1) (xs ++ [[y]]) → W.grownBy w1 (Value.slice A4 m c4).ownBlock → wpList Tryz.prog ops Q rest (a.put o.dst (.slice A1 (m + 1) c1)) w1) : wpList Tryz.prog ops Q (o :: rest) a (W.alloc (.cells #[.slice (some ⟨ib, 0, none⟩) 1 1] 26)) := by
 subst hm
 refine Kd.R_append (Kd.slice 3 (Kd.int .i64)) (w0 := W) base hgd (.tmp s) (.tmp x) 22 26 (.slice none 0 0) 24 ho Tryz.underlying22 infoSV rfl Nat.zero_lt_one (by decide) (.slice A4 xs.length c4) xs [y] [.slice (some ⟨ib, 0, none⟩) 1 1] ok (fun k => g ≤ k) hs hx
  (Kd.M_row (Kd.R_lower (Kd.R_mono (Kd.R_bound hin) (fun k hk => hk.2.1)) hgb)) (fun k hk => ⟨hok k hk, fun e => by have := hg k e.symm; omega⟩) (fun k hk => hok k (Nat.le_trans hgs hk)) HO (Below.refl _ _) (Nat.le_trans hgb hgs) (by omega) ?_
 intro v1 w1 hr hb hgr hat
 obtain ⟨A1, c1, e1⟩ := Kd.R_slice hr
 rw [List.length_append] at e1
 subst e1
 exact h A1 c1 w1 hr hgr
theorem splits_calls (vars : Int) (A1 : Option Addr) (c1 : Nat) (cls : List (List Int)) (vv : Int) (w : World) (hr1 : Kd.C (Kd.slice 3 (Kd.int .i64)) w A1 cls.length cls) (hc1 : cls.length ≤ c1) (hg : NText.GOK w) (hm : NText.MOK w) (ht : TabOK w) :
  Calls Tryz.prog 8 #[.agg #[.int .i64 vars, .slice A1 cls.length c1], .int .i64 vv] w (AwakePost w) := by
 obtain ⟨n, L, hn, hLl, hLok, kf, hkf⟩ := fit_ev 12 40 (by decide) (by decide) vars cls
 have hfine : Fine n L := ⟨hLl, hLok⟩
 have hfew := fewF_ev 40 (by decide) (n : Int) L
 rw [fewL_fine hfine] at hfew
 obtain ⟨k0, hk0⟩ := Ev.both (check_fine (by omega) hfine) hfew
 have HFIT := Az.mk (hkf kf (Nat.le_refl _))
 have HK := Az.mk (hk0 k0 (Nat.le_refl _))
 have HF := Az.mk hfine
 have HN := Az.mk hn
 have HL := Az.mk hLl
 have HOK := Az.mk hLok
 have HR1 := Az.mk hr1
 have HC1 := Az.mk hc1
 have HG := Az.mk hg
 have HM := Az.mk hm
 have HT := Az.mk ht
 clear hn hLl hLok hkf hr1 hc1 hg hm ht hfine hk0 hfew
 have hu24 := Tryz.underlying24
 go_enter Tryz.func8, Tryz.ntmps8
 go_wp2_with fail
 refine (nFt.calls kf vars A1 c1 cls 12 40 n L _ (Kd.C_alloc HR1.out _) HC1.out HFIT.out).mono ?_
 rintro e w1 ⟨v1, rfl, hs1, hb1⟩
 obtain ⟨Ax, cx, hvx, hlx, hCx⟩ := Kd.S_reads hs1
 subst hvx
 have HX := Az.mk hCx
 have HLX := Az.mk hlx
 have HB1 : Az (Below w.heap.size w w1) := ⟨bwt (below_new w _) hb1⟩
 clear hs1 hb1 hCx hlx HFIT HR1 HC1
 go_wp2_with fail
 refine (count_calls k0 n Ax cx L _ (by have := HN.out; omega) (Kd.C_alloc HX.out _) HLX.out (by have := HL.out; omega) (fun l hl => ⟨by have := (HOK.out l hl).1; omega, (HOK.out l hl).2⟩) HK.out.1).mono ?_
 rintro e w2 ⟨c, rfl, hcc, hb2⟩
 obtain rfl := hcc.exact
 have BX2 := Az.mk (blk_below (blk_new w1 (.cells #[.int .i64 n, .slice Ax L.length cx] 24)) hb2)
 have HX2 := Az.mk (Kd.C_below (Kd.C_alloc HX.out (.cells #[.int .i64 n, .slice Ax L.length cx] 24)) hb2)
 have HB2 := Az.mk (bwt (bwt HB1.out (below_new w1 (.cells #[.int .i64 n, .slice Ax L.length cx] 24))) hb2)
 clear hcc hb2 HX HB1
 have hx0 := (bkc BX2.out 0).trans rfl
 have hx1 := (bkc BX2.out 1).trans rfl
 have HCL := Az.mk (cnt_le n L)
 have HQ : Az (2 ^ n ≤ 4096) := ⟨Nat.le_trans (Nat.pow_le_pow_right (by decide) HN.out) (by decide)⟩
 by_cases hn0 : n = 0
 ·subst hn0
  have hcz := cnt_zero (fun l hl => (HOK.out l hl).2)
  have hcz2 : (((cntS 0 L [] : Nat) : Int) == 1 - min (L.length : Int) 1) = true := by rw [beq_iff_eq]; exact hcz
  clear hcz
  go_wp2_with fail
  refine (awake_calls w2 (HG.out.below HB2.out) (HM.out.below HB2.out) (HT.out.below HB2.out)).mono ?_
  rintro e w3 ⟨rfl, hb3⟩
  have HB3 := Az.mk (bwt HB2.out hb3)
  clear hb3
  go_wp2
  go_ret
  exact ⟨rfl, HB3.out⟩
 ·have hnz : ((n : Int) == 0) = false := beq_eq_false_iff_ne.2 (by omega)
  obtain ⟨t, htb, ht0, ht1⟩ := bring_ok vv (m := (n : Int)) (by omega) (by have := HN.out; omega)
  have HTB := Az.mk htb
  have hw1 : wrap64 (1 + t) = 1 + t := by unfold wrap64; have := HN.out; omega
  have HLIT : Az (LitOk n (1 + t)) := ⟨by omega, by omega, by omega⟩
  clear htb
  go_wp2_with fail
  refine (nBr.calls vv (n : Int) t _ HTB.out).mono ?_
  rintro e w' ⟨rfl, ⟨nd, rfl⟩⟩
  go_upto_region 8 with fail
  rw [hw1]
  clear hw1 ht0 ht1 hx0 hx1 hnz hn0 HTB
  generalize 1 + t = x at HLIT ⊢
  have BXb : Az ((w2.drewN nd).heap[w1.heap.size]? = some (.cells #[.int .i64 n, .slice Ax L.length cx] 24 (0, 0))) := ⟨BX2.out⟩
  have HXb := Az.mk (Kd.C_drewN HX2.out nd)
  have HBb := Az.mk (below_drewN (n := nd) HB2.out)
  clear BX2 HX2 HB2
  generalize w2.drewN nd = wb at BXb HXb HBb ⊢
  have HGXL : Az (w1.heap.size < wb.heap.size) := ⟨blk_lt BXb.out⟩
  generalize w1.heap.size = gx at BXb HGXL ⊢
  refine sp_region (k := k0) (g5 := gx) ⟨rfl, rfl, BXb.out, Kd.C_drew HXb.out, HLX.out, HK.out.2⟩ ?_
  intro u1 u3 g8 g9 s w3 hb hr1 hs3 hr3 hb8 hb9 h89 hg8 hg9
  obtain ⟨Au, cu, hu1⟩ := Kd.R_slice hr1
  obtain ⟨Av, cv, hu3⟩ := Kd.R_slice hr3
  subst hu1
  subst hu3
  change Exit.then _ _ .normal { tmps := #[.agg #[.int .i64 vars, .slice A1 cls.length c1], .int .i64 x, .pointer (some ⟨w.heap.size, 0, none⟩), undef, .bool false, .pointer (some ⟨gx, 0, none⟩), .int .u64 ↑(cntS n L []), .int .i64 0, .pointer (some ⟨g8, 0, none⟩), .pointer (some ⟨g9, 0, none⟩), undef, undef, undef, undef, .agg #[.int .i64 vars, .slice A1 cls.length c1], .agg #[.int .i64 ↑n, .slice Ax L.length cx], .tuple #[.int .u64 ↑(cntS n L []), .int .i64 0], .agg #[.int .i64 ↑n, .slice Ax L.length cx], .tuple #[.int .u64 ↑(cntS n L []), .int .i64 0], .int .u64 ↑(cntS n L []), .int .i64 0, .int .i64 0, .bool false, .pointer (some ⟨gx, 0, none⟩), .int .i64 ↑n, .bool false, undef, undef, undef, undef, undef, undef, undef, undef, undef, undef, undef, .int .i64 vv, .pointer (some ⟨gx, 0, none⟩), .int .i64 ↑n, .int .i64 t, .int .i64 x, .agg #[.int .i64 ↑n, .slice Ax L.length cx], .agg #[.int .i64 ↑n, .slice Au L.length cu], .agg #[.int .i64 ↑n, .slice Ax L.length cx], .agg #[.int .i64 ↑n, .slice Av L.length cv], undef, undef, undef, undef, undef, undef, undef, undef, undef, undef, undef, undef, undef, undef, undef, undef, undef, undef, undef, undef, undef, undef, undef, undef, undef, undef, undef, undef, undef, undef, undef, undef, undef, undef, undef, undef, undef, undef, undef, undef, undef, undef, undef, undef, undef, undef, undef, undef], defers := [] } _
  have HB3 := Az.mk (bwt HBb.out hb)
  have BX3 := Az.mk (blk_below BXb.out hb)
  have HR1 := Az.mk hr1
  have HR3 := Az.mk hr3
  have HY8 := Az.mk hb8
  have HY9 := Az.mk hb9
  have HNE : Az (g8 ≠ g9 ∧ wb.heap.size ≤ g8 ∧ wb.heap.size ≤ g9 ∧ wb.heap.size ≤ s ∧ s ≤ w3.heap.size) := ⟨⟨h89, hg8, hg9, hs3.1, hs3.2⟩⟩
  have HLL : Az (w.heap.size ≤ wb.heap.size) := ⟨HBb.out.size⟩
  clear hb hr1 hs3 hr3 hb8 hb9 h89 hg8 hg9 HBb BXb HXb
  have hx0 := (bkc HY8.out 0).trans rfl
  have hx1 := (bkc HY8.out 1).trans rfl
  have hl8 := blk_lt HY8.out
  have HB3w : Az (wb.heap.size ≤ w3.heap.size) := ⟨Nat.le_of_lt (Nat.lt_of_le_of_lt HNE.out.2.1 hl8)⟩
  go_upto_region 10 with ((with_reducible refine gate_builtin (b := .append) (xs := #[.tmp 47, .tmp 50]) rfl ?_); at_builtin; go_loud (refine app1_ (base := wb.heap.size) (g := w3.heap.size) (ib := w3.heap.size) (ok := fun k => k < s ∨ w3.heap.size ≤ k) (xs := L) (y := x) rfl rfl rfl rfl (by rw [World.size_alloc]; rfl) (Kd.R_alloc (Kd.R_mono HR1.out (fun k hk => Or.inl hk)) _) (R_lit1 w3 [x] #[.int .i64 (x)] rfl (by simp)) ?hb (Kd.R_lt HR1.out) ?ho (by rw [World.size_alloc]; omega) (by have := HL.out; omega) ?_); (case hb => exact HB3w.out); (case ho => exact fun k hk => Or.inr hk); intro A4 c4 w4 hr4 hgr_; have b8g := bkg (blk_below (blk_below HY8.out (below_new w3 (.cells #[.int .i64 x] 3))) (Below.refl _ _)) hgr_ (Kd.R_ne (Kd.R_alloc HR1.out (.cells #[.int .i64 x] 3)) (blk_below HY8.out (below_new w3 (.cells #[.int .i64 x] 3))) (by decide)); have hy1 := (bkc b8g 1).trans rfl; have hy1f := bkf b8g 1; have HG4 := Az.mk hgr_; have HR4 := Az.mk hr4; have HY84 := Az.mk b8g; clear hgr_ hr4 b8g hx0 hx1)
  clear hy1 hy1f
  have HS4 : Az (w3.heap.size + 1 ≤ w4.heap.size) := ⟨by have := HG4.out.size; rw [World.size_alloc] at this; exact this⟩
  have HR34 := Az.mk (Kd.R_mono (Kd.R_grown (Kd.R_bound (Kd.R_alloc HR3.out (.cells #[.int .i64 x] 3))) HG4.out (fun k hk e => by have h1 := HR1.out.1 k e.symm; have h2 := hk.2.1; omega)) (fun k hk => hk.1))
  have HY94 := Az.mk (bkg (blk_below HY9.out (below_new w3 (.cells #[.int .i64 x] 3))) HG4.out (Kd.R_ne (Kd.R_alloc HR1.out (.cells #[.int .i64 x] 3)) (blk_below HY9.out (below_new w3 (.cells #[.int .i64 x] 3))) (by decide)))
  have BX4 := Az.mk (bkg (blk_below BX3.out (below_new w3 (.cells #[.int .i64 x] 3))) HG4.out (Kd.R_ne (Kd.R_alloc HR1.out (.cells #[.int .i64 x] 3)) (blk_below BX3.out (below_new w3 (.cells #[.int .i64 x] 3))) (by decide)))
  have HB4 := Az.mk ((bwt HB3.out (below_new w3 (.cells #[.int .i64 x] 3))).grown HG4.out (bwt HB3.out (below_new w3 (.cells #[.int .i64 x] 3))).size (fun k hk => by have h1 := Kd.R_base HR1.out k hk; have h2 := HLL.out; omega))
  have HOV : Az (∀ k, (Value.slice Av L.length cv).ownBlock = some k → s ≤ k ∧ k < w3.heap.size) := ⟨fun k hk => ⟨Kd.R_base HR3.out k hk, Kd.R_lt HR3.out k hk⟩⟩
  have HSW : Az (s ≤ w3.heap.size) := ⟨HNE.out.2.2.2.2⟩
  have HY85 := Az.mk (blk_put HY84.out 1 (.slice A4 (L.length + 1) c4) rfl)
  have HY95 := Az.mk (blk_far HY94.out (p := ⟨g8, 1, none⟩) (Ne.symm HNE.out.1) (.slice A4 (L.length + 1) c4))
  have BX5 := Az.mk (blk_far BX4.out (p := ⟨g8, 1, none⟩) (by show gx ≠ g8; have h1 := HGXL.out; have h2 := HNE.out.2.1; omega) (.slice A4 (L.length + 1) c4))
  have HR45 := Az.mk (Kd.R_set HR4.out HY84.out (by decide) 1 (.slice A4 (L.length + 1) c4))
  have HR35 := Az.mk (Kd.R_set HR34.out HY84.out (by decide) 1 (.slice A4 (L.length + 1) c4))
  have HB5 := Az.mk (bws (j := 1) (v := .slice A4 (L.length + 1) c4) HB4.out (show w.heap.size ≤ g8 by have h1 := HLL.out; have h2 := HNE.out.2.1; omega))
  have HS5 : Az (w3.heap.size + 1 ≤ (w4.setCell ⟨g8, 1, none⟩ (.slice A4 (L.length + 1) c4)).heap.size ∧ s ≤ (w4.setCell ⟨g8, 1, none⟩ (.slice A4 (L.length + 1) c4)).heap.size) := ⟨by rw [World.size_setCell]; have h1 := HS4.out; have h2 := HSW.out; omega⟩
  clear HR34 HY94 BX4 HB4 HR4 HY84 HG4 HR1 HR3 HY8 HY9 BX3 HB3 HS4 HB3w hl8
  generalize w4.setCell ⟨g8, 1, none⟩ (.slice A4 (L.length + 1) c4) = w5 at HY85 HY95 BX5 HR45 HR35 HB5 HS5 ⊢
  have hwn : wrap64 (-x) = -x := wneg (by have := HLIT.out.2.1; have := HN.out; omega) (by have := HLIT.out.2.2; have := HN.out; omega)
  have hx0 := (bkc HY95.out 0).trans rfl
  have hx1 := (bkc HY95.out 1).trans rfl
  have hl9 := blk_lt HY95.out
  go_upto_region 11 with ((with_reducible refine gate_builtin (b := .append) (xs := #[.tmp 54, .tmp 58]) rfl ?_); at_builtin; go_loud (refine app1_ (base := s) (g := w5.heap.size) (ib := w5.heap.size) (ok := fun _ => True) (xs := L) (y := -x) rfl rfl rfl rfl (by rw [World.size_alloc]; rfl) (Kd.R_alloc HR35.out _) (R_lit1 w5 [-x] #[.int .i64 (-x)] rfl (by simp)) ?hb (Kd.R_lt HR35.out) ?ho (by rw [World.size_alloc]; omega) (by have := HL.out; omega) ?_); (case hb => exact HS5.out.2); (case ho => exact fun k hk => trivial); intro A6 c6 w6 hr6 hgr_; have b9g := bkg (blk_below HY95.out (below_new w5 (.cells #[.int .i64 (-x)] 3))) hgr_ (Kd.R_ne (Kd.R_alloc HR35.out (.cells #[.int .i64 (-x)] 3)) (blk_below HY95.out (below_new w5 (.cells #[.int .i64 (-x)] 3))) (by decide)); have hy1 := (bkc b9g 1).trans rfl; have hy1f := bkf b9g 1; have HG6 := Az.mk hgr_; have HR6 := Az.mk hr6; have HY96 := Az.mk b9g; clear hgr_ hr6 b9g hx0 hx1)
  clear hy1 hy1f hwn
  have HR46 := Az.mk (Kd.R_mono (Kd.R_grown (Kd.R_bound (Kd.R_alloc HR45.out (.cells #[.int .i64 (-x)] 3))) HG6.out (fun k hk e => by have h1 := HOV.out k e.symm; have h2 := hk.1; have h3 := HS5.out.1; omega)) (fun k hk => hk.1))
  have HY86 := Az.mk (bkg (blk_below HY85.out (below_new w5 (.cells #[.int .i64 (-x)] 3))) HG6.out (Kd.R_ne (Kd.R_alloc HR35.out (.cells #[.int .i64 (-x)] 3)) (blk_below HY85.out (below_new w5 (.cells #[.int .i64 (-x)] 3))) (by decide)))
  have BX6 := Az.mk (bkg (blk_below BX5.out (below_new w5 (.cells #[.int .i64 (-x)] 3))) HG6.out (Kd.R_ne (Kd.R_alloc HR35.out (.cells #[.int .i64 (-x)] 3)) (blk_below BX5.out (below_new w5 (.cells #[.int .i64 (-x)] 3))) (by decide)))
  have HB6 := Az.mk ((bwt HB5.out (below_new w5 (.cells #[.int .i64 (-x)] 3))).grown HG6.out (bwt HB5.out (below_new w5 (.cells #[.int .i64 (-x)] 3))).size (fun k hk => by have h1 := HOV.out k hk; have h2 := HLL.out; have h3 := HNE.out.2.2.2.1; omega))
  have HY97 := Az.mk (blk_put HY96.out 1 (.slice A6 (L.length + 1) c6) rfl)
  have HY87 := Az.mk (blk_far HY86.out (p := ⟨g9, 1, none⟩) HNE.out.1 (.slice A6 (L.length + 1) c6))
  have BX7 := Az.mk (blk_far BX6.out (p := ⟨g9, 1, none⟩) (by show gx ≠ g9; have h1 := HGXL.out; have h2 := HNE.out.2.2.1; omega) (.slice A6 (L.length + 1) c6))
  have HR47 := Az.mk (Kd.R_set HR46.out HY96.out (by decide) 1 (.slice A6 (L.length + 1) c6))
  have HR67 := Az.mk (Kd.R_set HR6.out HY96.out (by decide) 1 (.slice A6 (L.length + 1) c6))
  have HB7 := Az.mk (bws (j := 1) (v := .slice A6 (L.length + 1) c6) HB6.out (show w.heap.size ≤ g9 by have h1 := HLL.out; have h2 := HNE.out.2.2.1; omega))
  clear HR46 HY86 BX6 HB6 HR6 HY96 HG6 HR45 HR35 HY85 HY95 BX5 HB5 HS5 hl9 HOV HSW
  generalize w6.setCell ⟨g9, 1, none⟩ (.slice A6 (L.length + 1) c6) = w7 at HY97 HY87 BX7 HR47 HR67 HB7 ⊢
  have hx0 := (bkc HY87.out 0).trans rfl
  have hx1 := (bkc HY87.out 1).trans rfl
  go_wp2_with fail
  obtain ⟨k1, hk1⟩ := Ev.both (check_more (by have := HN.out; omega) HF.out HLIT.out) (check_more (x := -x) (by have := HN.out; omega) HF.out ⟨by have := HLIT.out.1; omega, by have := HLIT.out.2.2; omega, by have := HLIT.out.2.1; omega⟩)
  have hlits : ∀ y : Int, LitOk n y → ∀ l ∈ L ++ [[y]], l.length ≤ 1000000000 ∧ ∀ z ∈ l, LitOk n z := fun y hy l hl => by
   rcases List.mem_append.1 hl with hl | hl
   ·exact ⟨by have := (HOK.out l hl).1; omega, (HOK.out l hl).2⟩
   ·rw [List.mem_singleton] at hl
    subst hl
    exact ⟨by simp, fun z hz => by rw [List.mem_singleton] at hz; rw [hz]; exact hy⟩
  have hl1 : ∀ y : Int, (L ++ [[y]]).length = L.length + 1 := fun y => by simp
  have hr4 := Kd.R_reads' HR47.out
  have hcc1 := count_calls k1 n A4 c4 (L ++ [[x]]) w7 (by have := HN.out; omega) hr4.2.2 (by rw [hl1]; exact hr4.2.1) (by rw [hl1]; have := HL.out; omega) (hlits x HLIT.out) (hk1 k1 (Nat.le_refl _)).1
  rw [hl1] at hcc1
  have HK1 := Az.mk (hk1 k1 (Nat.le_refl _)).2
  have HLITS := Az.mk (hlits (-x) ⟨by have := HLIT.out.1; omega, by have := HLIT.out.2.2; omega, by have := HLIT.out.2.1; omega⟩)
  have HL1 := Az.mk (hl1 (-x))
  refine hcc1.mono ?_
  clear hcc1 hk1 hlits hl1 hr4 hx0 hx1
  rintro e w8 ⟨cA, rfl, hcA, hb8⟩
  obtain rfl := hcA.exact
  have HR68 := Az.mk (Kd.R_below HR67.out hb8)
  have HY98 := Az.mk (blk_below HY97.out hb8)
  have BX8 := Az.mk (blk_below BX7.out hb8)
  have HB8 := Az.mk (bwt HB7.out hb8)
  clear hb8 hcA HR67 HY97 BX7 HB7 HR47 HY87
  have hx0 := (bkc HY98.out 0).trans rfl
  have hx1 := (bkc HY98.out 1).trans rfl
  go_wp2_with fail
  have hr4 := Kd.R_reads' HR68.out
  have hcc1 := count_calls k1 n A6 c6 (L ++ [[-x]]) w8 (by have := HN.out; omega) hr4.2.2 (by rw [HL1.out]; exact hr4.2.1) (by rw [HL1.out]; have := HL.out; omega) HLITS.out HK1.out
  rw [HL1.out] at hcc1
  refine hcc1.mono ?_
  clear hcc1 hr4 hx0 hx1
  rintro e w9 ⟨cB, rfl, hcB, hb9⟩
  obtain rfl := hcB.exact
  have BX9 := Az.mk (blk_below BX8.out hb9)
  have HB9 := Az.mk (bwt HB8.out hb9)
  clear hb9 hcB BX8 HB8 HR68 HY98
  have hx0 := (bkc BX9.out 0).trans rfl
  have hadd : IntKind.u64.wrap (((cntS n (L ++ [[x]]) [] : Nat) : Int) + ((cntS n (L ++ [[-x]]) [] : Nat) : Int)) = ((cntS n L [] : Nat) : Int) := by
   have h1 := cnt_var (cls := L) HLIT.out
   have h2 := HCL.out
   have h3 := HQ.out
   rw [IntKind.wrap_u64]; omega
  have hle : ((cntS n L [] : Nat) : Int) ≤ IntKind.u64.wrap (2 ^ min n 64) := by
   have h1 := HCL.out
   have h2 := HQ.out
   have h3 := HN.out
   rw [Nat.min_eq_left (by omega), show (2 : Int) ^ n = ((2 ^ n : Nat) : Int) by simp, IntKind.wrap_u64]
   generalize 2 ^ n = q at h1 h2 ⊢
   omega
  go_wp2_with fail
  refine (awake_calls w9 (HG.out.below HB9.out) (HM.out.below HB9.out) (HT.out.below HB9.out)).mono ?_
  rintro e w10 ⟨rfl, hb10⟩
  have HB10 := Az.mk (bwt HB9.out hb10)
  clear hb10
  go_wp2
  go_ret
  exact ⟨rfl, HB10.out⟩
end Go.Proofs.YtkcfdddhnboieaaGreatDoor.NState
end
