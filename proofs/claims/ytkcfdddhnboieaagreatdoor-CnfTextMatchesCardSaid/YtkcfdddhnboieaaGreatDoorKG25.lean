/-
  Part 25 of the proof of cnfTextMatches_card: walks and lemmas.
-/
import Derived.Test.YtkcfdddhnboieaaGreatDoorKG24
import Derived.Laws.EntriesVeiled
set_option linter.unusedVariables false
set_option linter.unusedSimpArgs false
section
set_option maxRecDepth 100000
namespace Go.Proofs.YtkcfdddhnboieaaGreatDoor.NState
open Go Go.RowKit Go.Shelf QW.PrintWords QW.PrintLast QW.PrintMore NMap NIter
attribute [local go_sem] Oper.semAt_some
structure EB (w W : World) (b2 b4 b5 gA gR : Nat) (u : Value) : Prop where
 hb : Below w.heap.size w W
 bl : w.heap.size ≤ b2 ∧ w.heap.size ≤ b4 ∧ w.heap.size ≤ b5
 h2 : W.heap[b2]? = some (.cells #[.int .i64 2, .slice none 0 0, .slice (some ⟨gA, 0, none⟩) 1 1, .slice none 0 0] 66 (0, 0))
 h4 : W.heap[b4]? = some (.cells #[.int .i64 0, .slice none 0 0] 24 (0, 0))
 h5 : W.heap[b5]? = some (.cells #[u] 26 (0, 0))
 hA : W.heap[gA]? = some (.cells #[.int .i64 2, .int .i64 5] 109 (0, 0))
 hR : W.heap[gR]? = some (.cells #[.int .i64 7] 67 (0, 0))
theorem EB.below {w W W' : World} {b2 b4 b5 gA gR : Nat} {u : Value} (h : EB w W b2 b4 b5 gA gR u) (hb : Below W.heap.size W W') : EB w W' b2 b4 b5 gA gR u :=
 ⟨bwt h.hb hb, h.bl, blk_below h.h2 hb, blk_below h.h4 hb, blk_below h.h5 hb, blk_below h.hA hb, blk_below h.hR hb⟩
theorem EB.nw {w W : World} {b2 b4 b5 gA gR : Nat} {u : Value} (h : EB w W b2 b4 b5 gA gR u) (o : Obj) : EB w (W.alloc o) b2 b4 b5 gA gR u := h.below (below_nw0 _ _)
theorem EB.put5 {w W : World} {b2 b4 b5 gA gR : Nat} {u u' : Value} (h : EB w W b2 b4 b5 gA gR u) : EB w (W.setCell ⟨b5, 0, none⟩ u') b2 b4 b5 gA gR u' :=
 ⟨bws h.hb h.bl.2.2, h.bl, blk_far h.h2 (blk_ne h.h2 h.h5 (by decide)) _, blk_far h.h4 (blk_ne h.h4 h.h5 (by decide)) _, blk_put h.h5 0 _ rfl, blk_far h.hA (blk_ne h.hA h.h5 (by decide)) _, blk_far h.hR (blk_ne h.hR h.h5 (by decide)) _⟩
theorem three_ {pre post : List Int} {x : Int} (h : [1, 2, 3] = pre ++ x :: post) : (pre = [] ∧ x = 1) ∨ (pre = [1] ∧ x = 2) ∨ (pre = [1, 2] ∧ x = 3) := by
 match pre, h with
 | [], h => simp at h; exact .inl ⟨rfl, h.1.symm⟩
 | [a], h => simp at h; exact .inr (.inl ⟨by rw [h.1], h.2.1.symm⟩)
 | [a, b], h => simp at h; exact .inr (.inr ⟨by rw [h.1, h.2.1], h.2.2.1.symm⟩)
 | a :: b :: c :: d, h => have := congrArg List.length h; simp at this
def encR17.T : Bool × List (List Nat × List Nat) := (true, [([], []), ([], []), ([1], [1]), ([], []), ([], []), ([3, 4], [3, 4]), ([2, 5], [2, 5]), ([6], [6]), ([7], [7]), ([0, 8], [0, 8]), ([], []), ([], []), ([11], [11]), ([], []), ([], []), ([13, 14], [13, 14]), ([12, 15], [12, 15]), ([16], [16]), ([17], [17]), ([10, 18, 9], [10, 18]), ([9, 19, 0, 1, 2, 3, 4, 5, 6, 7, 8, 9], [9]), ([19, 20, 0, 1, 2, 3, 4, 5, 6, 7, 8, 9, 10, 11, 12, 13, 14, 15, 16, 17, 18, 19, 20], [19])])
def encR17.B : List Nat := [0, 0, 2, 0, 0, 24, 62, 126, 254, 511, 0, 0, 2048, 0, 0, 24576, 63488, 129024, 260096, 524287, 1048575, 2097151]
theorem encR17.tab : rtab .any (opsOf Tryz.f38 17) = encR17.T := by kernel_rfl
theorem encR17.bits : waitsOk encR17.T.2 encR17.B = true := by kernel_rfl
def encR22.T : Bool × List (List Nat × List Nat) := (true, [([], []), ([0], [0]), ([], []), ([], []), ([2, 3], [2, 3]), ([4], [4]), ([5], [5]), ([1, 6, 4], [1, 6]), ([0, 1, 2, 3, 4, 5, 6, 7], []), ([8, 7, 7, 0, 1, 2, 3, 4, 5, 6, 7], [7, 8])])
def encR22.B : List Nat := [0, 1, 0, 0, 12, 28, 60, 127, 255, 511]
theorem encR22.tab : rtab .any (opsOf Tryz.f38 22) = encR22.T := by kernel_rfl
theorem encR22.bits : waitsOk encR22.T.2 encR22.B = true := by kernel_rfl
def encR26.T : Bool × List (List Nat × List Nat) := (true, [([], []), ([], []), ([0, 0], [0]), ([1, 2, 0, 1, 2], [1]), ([3, 0, 1, 2, 3], [])])
def encR26.B : List Nat := [0, 0, 1, 7, 15]
theorem encR26.tab : rtab .any (opsOf Tryz.f38 26) = encR26.T := by kernel_rfl
theorem encR26.bits : waitsOk encR26.T.2 encR26.B = true := by kernel_rfl
set_option maxHeartbeats 4000000
set_option maxRecDepth 100000
theorem encode_at (gA gR : Nat) (w : World) (hA : GOn gA w) (hR : w.heap[gR]? = some (.cells #[.int .i64 7] 67 (0, 0))) :
  Calls Tryz.prog 38 #[gV gA, .slice (some ⟨gR, 0, none⟩) 1 1] w (EncPost w) := by
 have hA0 : w.heap[gA]? = some (.cells #[.int .i64 2, .int .i64 5] 109 (0, 0)) := hA
 have HE0 : Az (EB w (((w.alloc (.cells #[.int .i64 2, .slice none 0 0, .slice (some ⟨gA, 0, none⟩) 1 1, .slice none 0 0] 66)).alloc (.cells #[.int .i64 0, .slice none 0 0] 24)).alloc (.cells #[.slice none 0 0] 26)) w.heap.size (w.heap.size + 1) (w.heap.size + 1 + 1) gA gR (.slice none 0 0)) := ⟨by
  have hb1 : Below w.heap.size w (((w.alloc (.cells #[.int .i64 2, .slice none 0 0, .slice (some ⟨gA, 0, none⟩) 1 1, .slice none 0 0] 66)).alloc (.cells #[.int .i64 0, .slice none 0 0] 24)).alloc (.cells #[.slice none 0 0] 26)) := ((below_nw0 _ _).alloc (by rw [World.size_alloc]; omega) _).alloc (by rw [World.size_alloc, World.size_alloc]; omega) _
  have h2 := blk_new (w.alloc (.cells #[.int .i64 2, .slice none 0 0, .slice (some ⟨gA, 0, none⟩) 1 1, .slice none 0 0] 66)) (.cells #[.int .i64 0, .slice none 0 0] 24)
  have h3 := blk_new ((w.alloc (.cells #[.int .i64 2, .slice none 0 0, .slice (some ⟨gA, 0, none⟩) 1 1, .slice none 0 0] 66)).alloc (.cells #[.int .i64 0, .slice none 0 0] 24)) (.cells #[.slice none 0 0] 26)
  rw [World.size_alloc] at h2
  rw [World.size_alloc, World.size_alloc] at h3
  exact ⟨hb1, ⟨Nat.le_refl _, Nat.le_succ _, by omega⟩, blk_below (blk_below (blk_new w _) (below_nw0 _ _)) (below_nw0 _ _), blk_below h2 (below_nw0 _ _), h3, blk_below hA0 hb1, blk_below hR hb1⟩⟩
 have HCK : Az (∀ W, GOn gA W → Calls Tryz.prog 90 #[gV gA] W fun e W' => e = .returned (.int .i64 0) ∧ Below W.heap.size W W') := ⟨checkA_at gA⟩
 have HNO : Az (∀ W, GOn gA W → Calls Tryz.prog 46 #[gV gA] W fun e W' => e = .returned (.int .i64 4) ∧ Below W.heap.size W W') := ⟨nodesA_at gA⟩
 have HCO := Az.mk (coneM_calls gA gR)
 have hmk := make4i
 unfold gV at HCK HNO HCO ⊢
 clear hA hA0 hR
 refine callsIn_wide.1 (?_ : CallsIn Fence.wide 0 _ _ _ _ _)
 refine callsIn_of_wp_marks Tryz.func38 rfl trivial ?_ rfl
 simp only [Tryz.ntmps38, List.size_toArray, List.length_cons, List.length_nil, Nat.reduceAdd, Nat.reduceSub, Array.replicate_succ, Array.replicate_zero, List.push_toArray, List.append_toArray, List.nil_append, List.cons_append]
 refine wpIn_wide.2 ?_
 go_upto_region 1 with fail
 generalize (((w.alloc (.cells #[.int .i64 2, .slice none 0 0, .slice (some ⟨gA, 0, none⟩) 1 1, .slice none 0 0] 66)).alloc (.cells #[.int .i64 0, .slice none 0 0] 24)).alloc (.cells #[.slice none 0 0] 26)) = w1 at HE0 ⊢
 generalize w.heap.size + 1 + 1 = b5 at HE0 ⊢
 generalize w.heap.size + 1 = b4 at HE0 ⊢
 have HW : Az (w.heap.size ≤ w.heap.size) := ⟨Nat.le_refl _⟩
 have c0 := (bkc HE0.out.h2 0).trans rfl
 have c1 := (bkc HE0.out.h2 1).trans rfl
 have c2 := (bkc HE0.out.h2 2).trans rfl
 have c3 := (bkc HE0.out.h2 3).trans rfl
 go_upto_region 4 with (go_at_call 90; refine (HCK.out _ HE0.out.hA).mono ?_; rintro e w2 ⟨rfl, hb2⟩; have HE1 := Az.mk (HE0.out.below hb2); clear hb2 c0 c1 c2 c3 HE0)
 have c0 := (bkc HE1.out.h2 0).trans rfl
 have c1 := (bkc HE1.out.h2 1).trans rfl
 have c2 := (bkc HE1.out.h2 2).trans rfl
 have c3 := (bkc HE1.out.h2 3).trans rfl
 go_upto_region 5 with (go_at_call 46; refine (HNO.out _ HE1.out.hA).mono ?_; rintro e w3 ⟨rfl, hb3⟩; have HE2 := Az.mk (HE1.out.below hb3); clear hb3 c0 c1 c2 c3 HE1)
 obtain ⟨b8, hb8⟩ : ∃ b, w3.heap.size = b := ⟨_, rfl⟩
 have HE3 := Az.mk (HE2.out.nw (.cells #[.int .i64 4] 3))
 have H83 : Az ((w3.alloc (.cells #[.int .i64 4] 3)).heap[b8]? = some (.cells #[.int .i64 4] 3 (0, 0))) := ⟨by rw [← hb8]; exact blk_new _ _⟩
 rw [hb8]
 generalize w3.alloc (.cells #[.int .i64 4] 3) = w4 at HE3 H83 ⊢
 clear HE2 hb8
 go_upto_region 7 with (go_at_call 91; refine (containsA_at b8 gR _ H83.out HE3.out.hR).mono ?_; rintro e w5 ⟨rfl, hw⟩; rw [hw])
 have d0 := (bkc H83.out 0).trans rfl
 have u0 := (bkc HE3.out.h5 0).trans rfl
 have f0 := bkf HE3.out.h5 0
 have hlt : b5 < w4.heap.size := blk_lt HE3.out.h5
 have hlt8 : b8 < w4.heap.size := blk_lt H83.out
 go_upto_region 8 with fail
 have HE5 := Az.mk ((HE3.out.put5 (u' := .slice (some ⟨w4.heap.size, 0, none⟩) 4 4)).nw (.cells #[.int .i64 0, .int .i64 0, .int .i64 0, .int .i64 0] 3))
 have H85 : Az (((w4.setCell ⟨b5, 0, none⟩ (.slice (some ⟨w4.heap.size, 0, none⟩) 4 4)).alloc (.cells #[.int .i64 0, .int .i64 0, .int .i64 0, .int .i64 0] 3)).heap[b8]? = some (.cells #[.int .i64 4] 3 (0, 0))) := ⟨blk_below (blk_far H83.out (p := ⟨b5, 0, none⟩) (blk_ne H83.out HE3.out.h5 (by decide)) _) (below_nw0 _ _)⟩
 have HV5 : Az (((w4.setCell ⟨b5, 0, none⟩ (.slice (some ⟨w4.heap.size, 0, none⟩) 4 4)).alloc (.cells #[.int .i64 0, .int .i64 0, .int .i64 0, .int .i64 0] 3)).heap[w4.heap.size]? = some (.cells #[.int .i64 0, .int .i64 0, .int .i64 0, .int .i64 0] 3 (0, 0))) := ⟨by
  have h := blk_new (w4.setCell ⟨b5, 0, none⟩ (.slice (some ⟨w4.heap.size, 0, none⟩) 4 4)) (.cells #[.int .i64 0, .int .i64 0, .int .i64 0, .int .i64 0] 3)
  rw [World.size_setCell] at h; exact h⟩
 have HGW : Az (w.heap.size ≤ w4.heap.size ∧ b8 ≠ w4.heap.size) := ⟨HE3.out.hb.size, Nat.ne_of_lt hlt8⟩
 clear HE3 H83 d0 u0 f0 hlt hlt8 hmk
 generalize ((w4.setCell ⟨b5, 0, none⟩ (.slice (some ⟨w4.heap.size, 0, none⟩) 4 4)).alloc (.cells #[.int .i64 0, .int .i64 0, .int .i64 0, .int .i64 0] 3)) = w5 at HE5 H85 HV5 ⊢
 generalize w4.heap.size = gI at HE5 HV5 HGW ⊢
 go_upto_region 9 with fail
 have HE6 := Az.mk (HE5.out.nw (.cells #[.func (.func 93) #[] #[.pointer (some ⟨b5, 0, none⟩)]] 128))
 have H86 := Az.mk (blk_below H85.out (below_nw0 _ (.cells #[.func (.func 93) #[] #[.pointer (some ⟨b5, 0, none⟩)]] 128)))
 have HV6 := Az.mk (blk_below HV5.out (below_nw0 _ (.cells #[.func (.func 93) #[] #[.pointer (some ⟨b5, 0, none⟩)]] 128)))
 have H96 := Az.mk (blk_new w5 (.cells #[.func (.func 93) #[] #[.pointer (some ⟨b5, 0, none⟩)]] 128))
 clear HE5 H85 HV5
 generalize w5.alloc (.cells #[.func (.func 93) #[] #[.pointer (some ⟨b5, 0, none⟩)]] 128) = w6 at HE6 H86 HV6 H96 ⊢
 generalize w5.heap.size = b9 at H96 ⊢
 have d0 := (bkc H86.out 0).trans rfl
 have c2 := (bkc HE6.out.h2 2).trans rfl
 go_upto_region 10 with fail
 have HE7 := Az.mk (HE6.out.nw (.cells #[.int .i64 3] 3))
 have H87 := Az.mk (blk_below H86.out (below_nw0 _ (.cells #[.int .i64 3] 3)))
 have HV7 := Az.mk (blk_below HV6.out (below_nw0 _ (.cells #[.int .i64 3] 3)))
 have H97 := Az.mk (blk_below H96.out (below_nw0 _ (.cells #[.int .i64 3] 3)))
 have H107 := Az.mk (blk_new w6 (.cells #[.int .i64 3] 3))
 clear HE6 H86 H96 d0 c2
 have HG10 : Az (w6.heap.size ≠ gI) := ⟨fun e => by have := blk_lt HV6.out; omega⟩
 clear HV6
 generalize w6.alloc (.cells #[.int .i64 3] 3) = w7 at HE7 H87 HV7 H97 H107 ⊢
 generalize w6.heap.size = b10 at H107 HG10 ⊢
 have c0 := (bkc HE7.out.h2 0).trans rfl
 have c1 := (bkc HE7.out.h2 1).trans rfl
 have c2 := (bkc HE7.out.h2 2).trans rfl
 have c3 := (bkc HE7.out.h2 3).trans rfl
 go_wp2_with (go_at_call 94; refine (HCO.out _).mono ?_; rintro e w8 ⟨rfl, hw8⟩; rw [hw8])
 clear c0 c1 c2 c3
 obtain ⟨w8, hw8⟩ : ∃ w8, (w7.alloc (.cells #[.int .i64 2, .slice none 0 0, .slice (some ⟨gA, 0, none⟩) 1 1, .slice none 0 0] 66)).alloc (.cells #[.slice (some ⟨gR, 0, none⟩) 1 1] 64) = w8 := ⟨_, rfl⟩
 have HI8 : Az (EI w w8 w8.heap.size w7.heap.size (w7.heap.size + 1) w.heap.size b4 b5 b9 b10 gA gR gI 0 (rowC 0) (.slice none 0 0) []) := ⟨by
  have hb : Below w7.heap.size w7 w8 := by rw [← hw8]; exact (below_nw0 _ _).alloc (by rw [World.size_alloc]; omega) _
  refine ⟨bwt HE7.out.hb hb, Nat.le_refl _, ⟨Nat.le_trans HE7.out.hb.size hb.size, HE7.out.bl.2.1, HGW.out.1, Nat.lt_of_lt_of_le (blk_lt HE7.out.h4) hb.size, Nat.lt_of_lt_of_le (blk_lt HV7.out) hb.size, HG10.out, Nat.lt_of_lt_of_le (blk_lt HE7.out.h5) hb.size, HE7.out.bl.2.2⟩, ⟨?_, ?_, blk_below HE7.out.hR hb, blk_below HE7.out.hA hb⟩,
   blk_below HE7.out.h2 hb, blk_below HE7.out.h4 hb, blk_below HE7.out.h5 hb, blk_below H97.out hb, blk_below H107.out hb, blk_below HV7.out hb, Kd.R_nil _ _ _ _ _⟩
  ·rw [← hw8]; exact blk_below (blk_new w7 _) (below_nw0 _ _)
  ·rw [← hw8]; have h := blk_new (w7.alloc (.cells #[.int .i64 2, .slice none 0 0, .slice (some ⟨gA, 0, none⟩) 1 1, .slice none 0 0] 66)) (.cells #[.slice (some ⟨gR, 0, none⟩) 1 1] 64); rw [World.size_alloc] at h; exact h⟩
 rw [hw8]
 clear hw8 HE7 H87 HV7 H97 H107 HG10 HGW
 refine (wpIn_wide (n := 0)).1 ?_
 refine range_all2 (gf := 131) (lb := #[.pointer (some ⟨w7.heap.size, 0, none⟩), .pointer (some ⟨w7.heap.size + 1, 0, none⟩)]) rfl (enters_of Tryz.func131 (by kernel_rfl) rfl)
  (cone_iter (w8.heap.size + 2) w7.heap.size (w7.heap.size + 1) gA gR) (fun _ => rfl) (fun pre W' => w8.heap.size + 2 ≤ W'.heap.size ∧ ∃ v4, EI w W' w8.heap.size w7.heap.size (w7.heap.size + 1) w.heap.size b4 b5 b9 b10 gA gR gI (pre.length : Int) (rowC pre.length) v4 (outC pre.length)) ?Sk ?Ek ?Ie (fun h h' => h.trans h') (fun _ _ _ _ h => keepB_loop h)
  ?Is ?Il ?In ?h0 (fun pre x a' W' => (w8.heap.size + 2 ≤ W'.heap.size ∧ ∃ v4, EI w W' w8.heap.size w7.heap.size (w7.heap.size + 1) w.heap.size b4 b5 b9 b10 gA gR gI (pre.length : Int) (rowC pre.length) v4 (outC pre.length)) ∧ a' = { tmps := #[.agg #[.int .i64 2, .slice none 0 0, .slice (some ⟨gA, 0, none⟩) 1 1, .slice none 0 0], .slice (some ⟨gR, 0, none⟩) 1 1, .pointer (some ⟨w.heap.size, 0, none⟩), undef, .pointer (some ⟨b4, 0, none⟩), .pointer (some ⟨b5, 0, none⟩), .int .i64 0, .int .i64 0, .pointer (some ⟨b8, 0, none⟩), .pointer (some ⟨b9, 0, none⟩), .pointer (some ⟨b10, 0, none⟩), .int .i64 x, undef, undef, undef, undef, .agg #[.int .i64 2, .slice none 0 0, .slice (some ⟨gA, 0, none⟩) 1 1, .slice none 0 0], .int .i64 0, .int .i64 0, .bool false, undef, undef, .agg #[.int .i64 2, .slice none 0 0, .slice (some ⟨gA, 0, none⟩) 1 1, .slice none 0 0], .int .i64 4, .slice (some ⟨gR, 0, none⟩) 1 1, .func (.func 92) #[] #[.pointer (some ⟨b8, 0, none⟩)], .bool false, undef, .int .i64 4, .slice (some ⟨gI, 0, none⟩) 4 4, .func (.func 93) #[] #[.pointer (some ⟨b5, 0, none⟩)], .int .i64 4, .pointer (some ⟨w.heap.size, 2, none⟩), .slice (some ⟨gA, 0, none⟩) 1 1, .int .i64 1, .int .i64 3, .agg #[.int .i64 2, .slice none 0 0, .slice (some ⟨gA, 0, none⟩) 1 1, .slice none 0 0], .slice (some ⟨gR, 0, none⟩) 1 1, .func (.func 131) #[] #[.pointer (some ⟨w7.heap.size, 0, none⟩), .pointer (some ⟨w7.heap.size + 1, 0, none⟩)], .int .i64 x, undef, undef, undef, undef, undef, undef, undef, undef, undef, undef, undef, undef, undef, undef, undef, undef, undef, undef, undef, undef, undef, undef, undef, undef, undef, undef, undef, undef, undef, undef, undef, undef, undef, undef, undef, undef, undef, undef, undef, undef, undef, undef, undef, undef, undef, undef, undef, undef, undef, undef, undef, undef, undef, undef, undef, undef, undef, undef, undef, undef, undef, undef, undef, undef, undef, undef, undef, undef, undef, undef, undef, undef, undef, undef, undef, undef, undef, undef, undef, undef, undef, undef, undef, undef, undef, undef, undef, undef, undef, undef], defers := [] }) ?assign ?A1 ?body ?done
 case Sk =>
  intro A B k' o h hk ho
  exact (h.block k' (Array.getElem?_eq_some_iff.1 hk).1).trans hk
 case Ek =>
  rintro A B k' o ⟨D, hD, _, rfl⟩ hk ho
  exact (World.putObj_heap_other (by omega)).trans ho
 case Ie =>
  rintro pre A B ⟨hs, v4, h⟩ ⟨D, hD, ⟨d, hd⟩, rfl⟩
  exact ⟨by simpa [World.putObj] using hs, v4, h.book hd rfl (by have := h.lo.1; omega)⟩
 case Is =>
  rintro pre A B ⟨hs, v4, h⟩ hb
  exact ⟨Nat.le_trans hs hb.size, v4, h.below hb⟩
 case Il =>
  rintro pre A l r' o hl ⟨hs, v4, h⟩ hr
  exact ⟨by simpa [World.putObj] using hs, v4, h.book hr rfl (by have := h.lo.1; omega)⟩
 case In =>
  rintro pre W ⟨hs, v4, h⟩
  exact ⟨h.need, hs⟩
 case h0 =>
  intro r'
  exact ⟨by rw [World.size_alloc, World.size_alloc]; omega, _, HI8.out.below ((below_nw0 _ _).alloc (by rw [World.size_alloc]; omega) _)⟩
 case A1 =>
  rintro pre x a' A l r' o hl ⟨⟨hs, v4, h⟩, rfl⟩ hr
  exact ⟨⟨by simpa [World.putObj] using hs, v4, h.book hr rfl (by have := h.lo.1; omega)⟩, rfl⟩
 case assign =>
  rintro l pre x W' hI hd hr
  have HI := Az.mk hI
  clear hI hd hr
  gi_wp2
  exact ⟨⟨HI.out, trivial⟩, trivial, trivial, keepB_below (Below.refl _ _)⟩
 case body =>
  rintro l pre x post a' W' hx ⟨⟨hs, v4, hI⟩, rfl⟩ hd hr
  have HS := Az.mk hs
  have HD := Az.mk hd
  have HR := Az.mk hr
  rcases three_ hx with ⟨rfl, rfl⟩ | ⟨rfl, rfl⟩ | ⟨rfl, rfl⟩
  ·have HI : Az (EI w W' w8.heap.size w7.heap.size (w7.heap.size + 1) w.heap.size b4 b5 b9 b10 gA gR gI 0 (rowC 0) v4 []) := ⟨hI⟩
   clear hI hs hd hr hx
   have HK : Az (RK w8.heap.size W' W') := ⟨RK.start HD.out HR.out⟩
   have h40 := HI.out.cells.1
   have f40 := bkf HI.out.h4 0
   (gi_wp2_with ((with_reducible refine wpListIn_round ?hlo _ _ _ ?hnd ?_); (case hlo => rintro ⟨_, _, h⟩; exact h); (case hnd => rfl)))
   (((go_wp2_with (with_reducible refine hold_in ?_)); refine Hold.mk ?_))
   have HI2 := Az.mk (HI.out.setn 1)
   have HK2 := Az.mk (HK.out.set (j := 0) HI.out.h4 (by decide) (.int .i64 1))
   clear HI HK h40 f40
   generalize W'.setCell ⟨b4, 0, none⟩ (.int .i64 1) = wa at HI2 HK2 ⊢
   have h40 := HI2.out.cells.1
   have h5 := HI2.out.cells.2.2.1
   have fI := bkf HI2.out.hI 1
   have cI := (bkc HI2.out.hI 1).trans rfl
   (gi_wp2_with ((with_reducible refine wpListIn_round ?hlo _ _ _ ?hnd ?_); (case hlo => rintro ⟨_, _, h⟩; exact h); (case hnd => rfl)))
   (((go_wp2_with (with_reducible refine hold_in ?_)); refine Hold.mk ?_))
   have HI3 := Az.mk (HI2.out.setI 1 (.int .i64 1) (rowC 1) rfl)
   have HK3 := Az.mk (HK2.out.set (j := 1) HI2.out.hI (by decide) (.int .i64 1))
   clear HI2 HK2 h40 h5 fI cI
   generalize wa.setCell ⟨gI, 1, none⟩ (.int .i64 1) = wb at HI3 HK3 ⊢
   have h10 := HI3.out.cells.2.2.2.2.2.1
   gi_wp2
   exact ⟨HK3.out.d, HK3.out.r, HK3.out.k, HK3.out.size, _, HI3.out⟩
  ·have HI : Az (EI w W' w8.heap.size w7.heap.size (w7.heap.size + 1) w.heap.size b4 b5 b9 b10 gA gR gI 1 (rowC 1) v4 []) := ⟨hI⟩
   clear hI hs hd hr hx
   have HK : Az (RK w8.heap.size W' W') := ⟨RK.start HD.out HR.out⟩
   have h40 := HI.out.cells.1
   have f40 := bkf HI.out.h4 0
   (gi_wp2_with ((with_reducible refine wpListIn_round ?hlo _ _ _ ?hnd ?_); (case hlo => rintro ⟨_, _, h⟩; exact h); (case hnd => rfl)))
   (((go_wp2_with (with_reducible refine hold_in ?_)); refine Hold.mk ?_))
   have HI2 := Az.mk (HI.out.setn 2)
   have HK2 := Az.mk (HK.out.set (j := 0) HI.out.h4 (by decide) (.int .i64 2))
   clear HI HK h40 f40
   generalize W'.setCell ⟨b4, 0, none⟩ (.int .i64 2) = wa at HI2 HK2 ⊢
   have h40 := HI2.out.cells.1
   have h5 := HI2.out.cells.2.2.1
   have fI := bkf HI2.out.hI 2
   have cI := (bkc HI2.out.hI 2).trans rfl
   (gi_wp2_with ((with_reducible refine wpListIn_round ?hlo _ _ _ ?hnd ?_); (case hlo => rintro ⟨_, _, h⟩; exact h); (case hnd => rfl)))
   (((go_wp2_with (with_reducible refine hold_in ?_)); refine Hold.mk ?_))
   have HI3 := Az.mk (HI2.out.setI 2 (.int .i64 2) (rowC 2) rfl)
   have HK3 := Az.mk (HK2.out.set (j := 2) HI2.out.hI (by decide) (.int .i64 2))
   clear HI2 HK2 h40 h5 fI cI
   generalize wa.setCell ⟨gI, 2, none⟩ (.int .i64 2) = wb at HI3 HK3 ⊢
   have h10 := HI3.out.cells.2.2.2.2.2.1
   gi_wp2
   exact ⟨HK3.out.d, HK3.out.r, HK3.out.k, HK3.out.size, _, HI3.out⟩
  ·obtain ⟨A4, c4, hv4⟩ := Kd.R_slice hI.out
   obtain rfl : v4 = .slice A4 0 c4 := hv4
   have HI : Az (EI w W' w8.heap.size w7.heap.size (w7.heap.size + 1) w.heap.size b4 b5 b9 b10 gA gR gI 2 (rowC 2) (.slice A4 0 c4) []) := ⟨hI⟩
   clear hI hs hd hr hx
   have HK : Az (RK w8.heap.size W' W') := ⟨RK.start HD.out HR.out⟩
   have h40 := HI.out.cells.1
   have f40 := bkf HI.out.h4 0
   (gi_wp2_with ((with_reducible refine wpListIn_round ?hlo _ _ _ ?hnd ?_); (case hlo => rintro ⟨_, _, h⟩; exact h); (case hnd => rfl)))
   (((go_wp2_with (with_reducible refine hold_in ?_)); refine Hold.mk ?_))
   have HI2 := Az.mk (HI.out.setn 3)
   have HK2 := Az.mk (HK.out.set (j := 0) HI.out.h4 (by decide) (.int .i64 3))
   clear HI HK h40 f40
   generalize W'.setCell ⟨b4, 0, none⟩ (.int .i64 3) = wa at HI2 HK2 ⊢
   have h40 := HI2.out.cells.1
   have h5 := HI2.out.cells.2.2.1
   have fI := bkf HI2.out.hI 3
   have cI := (bkc HI2.out.hI 3).trans rfl
   (gi_wp2_with ((with_reducible refine wpListIn_round ?hlo _ _ _ ?hnd ?_); (case hlo => rintro ⟨_, _, h⟩; exact h); (case hnd => rfl)))
   (((go_wp2_with (with_reducible refine hold_in ?_)); refine Hold.mk ?_))
   have HI3 := Az.mk (HI2.out.setI 3 (.int .i64 3) (rowC 3) rfl)
   have HK3 := Az.mk (HK2.out.set (j := 3) HI2.out.hI (by decide) (.int .i64 3))
   clear HI2 HK2 h40 h5 fI cI
   generalize wa.setCell ⟨gI, 3, none⟩ (.int .i64 3) = wb at HI3 HK3 ⊢
   have h10 := HI3.out.cells.2.2.2.2.2.1
   gi_wp2_with fail
   have HI4 : Az (EI w wb.drew w8.heap.size w7.heap.size (w7.heap.size + 1) w.heap.size b4 b5 b9 b10 gA gR gI 3 (rowC 3) (.slice A4 0 c4) []) := ⟨HI3.out.below (below_drew (Below.refl _ _))⟩
   have HK4 := Az.mk (HK3.out.below (below_drew (Below.refl _ _)))
   clear HI3 HK3 h10
   have hw0 : wrap64 0 = 0 := by unfold wrap64; decide
   refine startR_ (n := 22) (S := fun w' => w'.cell? ⟨b9, 0, none⟩ = some (.func (.func 93) #[] #[.pointer (some ⟨b5, 0, none⟩)]) ∧ w'.cell? ⟨w.heap.size, 2, none⟩ = some (.slice (some ⟨gA, 0, none⟩) 1 1) ∧ w'.cell? ⟨b10, 0, none⟩ = some (.int .i64 3) ∧ w'.cell? ⟨gA, 0, none⟩ = some (.int .i64 2) ∧ w'.cell? ⟨gA, 1, none⟩ = some (.int .i64 5)) (ds := []) (Array.replicate 22 false) (by kernel_rfl) (by rintro ⟨_, _, h⟩; exact h) rfl rfl rfl ⟨HI4.out.cells.2.2.2.2.1, HI4.out.cells.2.2.2.1, HI4.out.cells.2.2.2.2.2.1, HI4.out.cells.2.2.2.2.2.2.1, HI4.out.cells.2.2.2.2.2.2.2⟩ (fun hHeld => ?_); refine with_tabW encR17.tab encR17.bits (fun HT_ HW_ => ?_)
   generalize wb.drew = we at HI4 HK4 hHeld ⊢
   refine pT 0 (some 65) (bA 22 1) rfl rfl HT_.out HW_.out hHeld (by rintro w' ⟨s0, s1, s2, s3, s4⟩; go_simp; with_reducible rfl) (by simp only [Act.put, zq1, zq2, zq3, iw, jw]; rfl) ?_
   refine pA 1 (some 66) (bA 22 3) rfl rfl HT_.out (by intro w'; go_simp; with_reducible rfl) (by simp only [Act.put, zq1, zq2, zq3, iw, jw]; rfl) ?_
   refine pT 2 (some 67) (bA 22 7) rfl rfl HT_.out HW_.out hHeld (by rintro w' ⟨s0, s1, s2, s3, s4⟩; go_simp; with_reducible rfl) (by simp only [Act.put, zq1, zq2, zq3, iw, jw]; rfl) ?_
   refine pA 3 (some 68) (bA 22 15) rfl rfl HT_.out (by intro w'; go_simp; with_reducible rfl) (by simp only [Act.put, zq1, zq2, zq3, iw, jw]; rfl) ?_
   refine pT 4 (some 69) (bA 22 31) rfl rfl HT_.out HW_.out hHeld (by rintro w' ⟨s0, s1, s2, s3, s4⟩; go_simp; with_reducible rfl) (by simp only [Act.put, zq1, zq2, zq3, iw, jw]; rfl) ?_
   refine pA 5 (some 70) (bA 22 63) rfl rfl HT_.out (by intro w'; go_simp; with_reducible rfl) (by simp only [Act.put, zq1, zq2, zq3, iw, jw]; rfl) ?_
   refine pA 6 (some 71) (bA 22 127) rfl rfl HT_.out (by intro w'; go_simp; with_reducible rfl) (by simp only [Act.put, zq1, zq2, zq3, iw, jw]; rfl) ?_
   refine pA 7 (some 72) (bA 22 255) rfl rfl HT_.out (by intro w'; go_simp; with_reducible rfl) (by simp only [Act.put, zq1, zq2, zq3, iw, jw]; rfl) ?_
   refine pT 8 (some 73) (bA 22 511) rfl rfl HT_.out HW_.out hHeld (by rintro w' ⟨s0, s1, s2, s3, s4⟩; go_simp; with_reducible rfl) (by simp only [Act.put, zq1, zq2, zq3, iw, jw]; rfl) ?_
   refine pT 10 (some 75) (bA 22 1535) rfl rfl HT_.out HW_.out hHeld (by rintro w' ⟨s0, s1, s2, s3, s4⟩; go_simp; with_reducible rfl) (by simp only [Act.put, zq1, zq2, zq3, iw, jw]; rfl) ?_
   refine pA 11 (some 76) (bA 22 3583) rfl rfl HT_.out (by intro w'; go_simp; with_reducible rfl) (by simp only [Act.put, zq1, zq2, zq3, iw, jw]; rfl) ?_
   refine pT 12 (some 77) (bA 22 7679) rfl rfl HT_.out HW_.out hHeld (by rintro w' ⟨s0, s1, s2, s3, s4⟩; go_simp; with_reducible rfl) (by simp only [Act.put, zq1, zq2, zq3, iw, jw]; rfl) ?_
   refine pA 13 (some 78) (bA 22 15871) rfl rfl HT_.out (by intro w'; go_simp; with_reducible rfl) (by simp only [Act.put, zq1, zq2, zq3, iw, jw]; rfl) ?_
   refine pT 14 (some 79) (bA 22 32255) rfl rfl HT_.out HW_.out hHeld (by rintro w' ⟨s0, s1, s2, s3, s4⟩; go_simp; with_reducible rfl) (by simp only [Act.put, zq1, zq2, zq3, iw, jw]; rfl) ?_
   refine pA 15 (some 80) (bA 22 65023) rfl rfl HT_.out (by intro w'; go_simp; with_reducible rfl) (by simp only [Act.put, zq1, zq2, zq3, iw, jw]; rfl) ?_
   refine pA 16 (some 81) (bA 22 130559) rfl rfl HT_.out (by intro w'; go_simp; with_reducible rfl) (by simp only [Act.put, zq1, zq2, zq3, iw, jw]; rfl) ?_
   refine pA 17 (some 82) (bA 22 261631) rfl rfl HT_.out (by intro w'; go_simp; with_reducible rfl) (by simp only [Act.put, zq1, zq2, zq3, iw, jw]; rfl) ?_
   refine pT 18 (some 83) (bA 22 523775) rfl rfl HT_.out HW_.out hHeld (by rintro w' ⟨s0, s1, s2, s3, s4⟩; go_simp; with_reducible rfl) (by simp only [Act.put, zq1, zq2, zq3, iw, jw]; rfl) ?_
   refine QW.PrintLast.one_ (i := 9) (N := some 74) (bA 22 524287) rfl rfl (one_of HT_.out (by kernel_rfl)) (by decide) (fun K hK => ?_)
   refine goesV_ enters_enc2 #[.int .i64 2] #[.int .i64 2, .pointer (some ⟨b5, 0, none⟩)] (by rfl) rfl rfl rfl (by (try simp only [List.map_toArray, List.map_cons, List.map_nil]); first | done | rfl) (by first | rfl | simp) ?_
   refine (of2_at b5 gI _ HI4.out.h5 HI4.out.hI).mono ?_
   rintro e w9 ⟨rfl, rfl⟩
   refine ⟨_, rfl, hK.out _ _ ⟨HI4.out.cells.2.2.2.2.1, HI4.out.cells.2.2.2.1, HI4.out.cells.2.2.2.2.2.1, HI4.out.cells.2.2.2.2.2.2.1, HI4.out.cells.2.2.2.2.2.2.2⟩ (fun hHeld => ?_)⟩
   clear hK K
   refine norm_ (by show Act.put _ (some 74) _ = _; simp only [Act.put, zq1, zq2, zq3, iw, jw]; rfl) ?_
   refine QW.PrintLast.one_ (i := 19) (N := some 84) (bA 22 1048575) rfl rfl (one_of HT_.out (by kernel_rfl)) (by decide) (fun K hK => ?_)
   refine goesV_ enters_enc2 #[.int .i64 5] #[.int .i64 5, .pointer (some ⟨b5, 0, none⟩)] (by rfl) rfl rfl rfl (by (try simp only [List.map_toArray, List.map_cons, List.map_nil]); first | done | rfl) (by first | rfl | simp) ?_
   refine (of5_at b5 gI _ HI4.out.h5 HI4.out.hI).mono ?_
   rintro e w9 ⟨rfl, rfl⟩
   refine ⟨_, rfl, hK.out _ _ ⟨HI4.out.cells.2.2.2.2.1, HI4.out.cells.2.2.2.1, HI4.out.cells.2.2.2.2.2.1, HI4.out.cells.2.2.2.2.2.2.1, HI4.out.cells.2.2.2.2.2.2.2⟩ (fun hHeld => ?_)⟩
   clear hK K
   refine norm_ (by show Act.put _ (some 84) _ = _; simp only [Act.put, zq1, zq2, zq3, iw, jw]; rfl) ?_
   refine pA 20 (some 12) (bA 22 2097151) rfl rfl HT_.out (by intro w'; go_simp; with_reducible rfl) (by simp only [Act.put, zq1, zq2, zq3, iw, jw]; rfl) ?_
   refine pA 21 (some 13) (bA 22 4194303) rfl rfl HT_.out (by intro w'; go_simp; with_reducible rfl) (by simp only [Act.put, zq1, zq2, zq3, iw, jw]; rfl) ?_
   refine done_ (done_of HT_.out (by kernel_rfl)) ?_
   clear hHeld HT_ HW_ hw0
   have h40 := HI4.out.cells.1
   have h41 := HI4.out.cells.2.1
   have hlt4 := blk_lt HI4.out.h4
   have HSZ : Az (w8.heap.size ≤ w9.heap.size) := ⟨HI4.out.sz⟩
   have hl1 := R_lit1 w9 [-3, 1] #[.int .i64 (-3), .int .i64 1] rfl (by decide)
   have hl2 := R_lit1 (w9.alloc (.cells #[.int .i64 (-3), .int .i64 1] 3)) [-3, -2] #[.int .i64 (-3), .int .i64 (-2)] rfl (by decide)
   have hl3 := R_lit1 ((w9.alloc (.cells #[.int .i64 (-3), .int .i64 1] 3)).alloc (.cells #[.int .i64 (-3), .int .i64 (-2)] 3)) [3, -1, 2] #[.int .i64 3, .int .i64 (-1), .int .i64 2] rfl (by decide)
   simp only [World.size_alloc] at hl2 hl3
   have hrows := rows3 (((w9.alloc (.cells #[.int .i64 (-3), .int .i64 1] 3)).alloc (.cells #[.int .i64 (-3), .int .i64 (-2)] 3)).alloc (.cells #[.int .i64 3, .int .i64 (-1), .int .i64 2] 3)) w8.heap.size w9.heap.size HI4.out.sz (by simp only [World.size_alloc]; have := HI4.out.sz; omega)
    (Kd.R_alloc (Kd.R_alloc hl1 (.cells #[.int .i64 (-3), .int .i64 (-2)] 3)) (.cells #[.int .i64 3, .int .i64 (-1), .int .i64 2] 3)) (Kd.R_lower (Kd.R_alloc hl2 (.cells #[.int .i64 3, .int .i64 (-1), .int .i64 2] 3)) (by omega)) (Kd.R_lower hl3 (by omega))
   simp only [World.size_alloc] at hrows
   have HROWS := Az.mk hrows
   have HBA : Az (Below w9.heap.size w9 ((((w9.alloc (.cells #[.int .i64 (-3), .int .i64 1] 3)).alloc (.cells #[.int .i64 (-3), .int .i64 (-2)] 3)).alloc (.cells #[.int .i64 3, .int .i64 (-1), .int .i64 2] 3)).alloc (.cells #[.slice (some ⟨w9.heap.size, 0, none⟩) 2 2, .slice (some ⟨w9.heap.size + 1, 0, none⟩) 2 2, .slice (some ⟨w9.heap.size + 1 + 1, 0, none⟩) 3 3] 26))) :=
    ⟨(((below_nw0 _ _).alloc (by simp only [World.size_alloc]; omega) _).alloc (by simp only [World.size_alloc]; omega) _).alloc (by simp only [World.size_alloc]; omega) _⟩
   have HI5 := Az.mk (HI4.out.below HBA.out)
   have HK5 := Az.mk (HK4.out.below HBA.out)
   have HOWN : Az (∀ k, (Value.slice A4 0 c4).ownBlock = some k → k < w9.heap.size) := ⟨Kd.R_lt HI4.out.out⟩
   clear hl1 hl2 hl3 hrows
   (gi_wp2_with ((with_reducible refine wpListIn_round ?hlo _ _ _ ?hnd ?_); (case hlo => rintro ⟨_, _, h⟩; exact h); (case hnd => rfl)))
   go_wp2_with ((with_reducible refine gate_builtin (b := .append) (xs := #[.tmp 86, .tmp 104]) rfl ?_); at_builtin; go_loud (refine app3_ (base := w8.heap.size) (g := w9.heap.size) rfl rfl rfl rfl HI5.out.out HROWS.out HOWN.out HI5.out.sz ?_); intro A5 c5 w10 ho hg; have b4g := bkg HI5.out.h4 hg (Kd.R_ne HI5.out.out HI5.out.h4 (by decide)); have h41' := (bkc b4g 1).trans rfl; have f41' := bkf b4g 1; have HI6 := Az.mk (HI5.out.grow ho hg); have HK6 := Az.mk ((HK5.out.grown HI5.out.out hg).set (j := 1) b4g (by decide) (.slice A5 3 c5)); clear ho hg b4g)
   exact ⟨HK6.out.d, HK6.out.r, HK6.out.k, HK6.out.size, _, HI6.out⟩
 case done =>
  rintro W' ⟨_, v4, hI⟩ hD
  obtain ⟨A4, c4, hv4⟩ := Kd.R_slice hI.out
  obtain rfl : v4 = .slice A4 3 c4 := hv4
  have HI : Az (EI w W' w8.heap.size w7.heap.size (w7.heap.size + 1) w.heap.size b4 b5 b9 b10 gA gR gI 3 (rowC 3) (.slice A4 3 c4) and3) := ⟨hI⟩
  have HD := Az.mk hD
  clear hI hD
  have r0 : W'.cell? ⟨gR, 0, none⟩ = some (.int .i64 7) := (bkc HI.out.need.rr 0).trans rfl
  go_wp2
  refine wp_rolls 2 ?_
  show Code.wp _ _ (Exit.then (Rolls _ _ _ 1) _) _ _
  go_wp2_with fail
  have HI2 : Az (EI w W'.drew w8.heap.size w7.heap.size (w7.heap.size + 1) w.heap.size b4 b5 b9 b10 gA gR gI 3 (rowC 3) (.slice A4 3 c4) and3) := ⟨HI.out.below (below_drew (Below.refl _ _))⟩
  have HD2 : Az (W'.drew.heap[w8.heap.size]? = some (.deferred (some []))) := ⟨HD.out⟩
  clear HI HD r0
  refine wp_onlyN ?_
  refine start_ (n := 10) (S := fun w' => w'.cell? ⟨b4, 1, none⟩ = some (.slice A4 3 c4) ∧ w'.cell? ⟨b9, 0, none⟩ = some (.func (.func 93) #[] #[.pointer (some ⟨b5, 0, none⟩)])) (ds := [9]) (Array.replicate 10 false) (by kernel_rfl) rfl rfl ⟨HI2.out.cells.2.1, HI2.out.cells.2.2.2.2.1⟩ (fun hHeld => ?_); refine with_tabW encR22.tab encR22.bits (fun HT_ HW_ => ?_)
  generalize W'.drew = wd at HI2 HD2 hHeld ⊢
  refine pA 0 (some 113) (bA 10 1) rfl rfl HT_.out (by intro w'; go_simp; with_reducible rfl) (by simp only [Act.put, zq1, zq2, zq3, iw, jw]; rfl) ?_
  refine pT 1 (some 114) (bA 10 3) rfl rfl HT_.out HW_.out hHeld (by rintro w' ⟨s0, s1⟩; go_simp; with_reducible rfl) (by simp only [Act.put, zq1, zq2, zq3, iw, jw]; rfl) ?_
  refine pT 2 (some 115) (bA 10 7) rfl rfl HT_.out HW_.out hHeld (by rintro w' ⟨s0, s1⟩; go_simp; with_reducible rfl) (by simp only [Act.put, zq1, zq2, zq3, iw, jw]; rfl) ?_
  refine pA 3 (some 116) (bA 10 15) rfl rfl HT_.out (by intro w'; go_simp; with_reducible rfl) (by simp only [Act.put, zq1, zq2, zq3, iw, jw]; rfl) ?_
  refine QW.PrintLast.one_ (i := 4) (N := some 117) (bA 10 31) rfl rfl (one_of HT_.out (by kernel_rfl)) (by decide) (fun K hK => ?_)
  refine goesV_ enters_enc2 #[.int .i64 7] #[.int .i64 7, .pointer (some ⟨b5, 0, none⟩)] (by rfl) rfl rfl rfl (by (try simp only [List.map_toArray, List.map_cons, List.map_nil]); first | done | rfl) (by first | rfl | simp) ?_
  refine (of7_at b5 gI _ HI2.out.h5 HI2.out.hI).mono ?_
  rintro e w9 ⟨rfl, rfl⟩
  refine ⟨_, rfl, hK.out _ _ ⟨HI2.out.cells.2.1, HI2.out.cells.2.2.2.2.1⟩ (fun hHeld => ?_)⟩
  clear hK K
  refine norm_ (by show Act.put _ (some 117) _ = _; simp only [Act.put, zq1, zq2, zq3, iw, jw]; rfl) ?_
  refine QW.PrintLast.one_ (i := 5) (N := some 118) (bA 10 63) rfl rfl (one_of HT_.out (by kernel_rfl)) (by decide) (fun K hK => ?_)
  refine value_ (w1 := ?_) (v := ?_) (by rfl) rfl ?_ ?_
  rotate_left 2
  ·go_simp
   constructor
   ·rfl
   ·rfl
  have HI3 := Az.mk (HI2.out.below (below_nw0 w9 (.cells #[.int .i64 (-3)] 3)))
  have HD3 := Az.mk (blk_below0 HD2.out (below_nw0 w9 (.cells #[.int .i64 (-3)] 3)))
  have HIN := Az.mk (R_lit1 w9 [-3] #[.int .i64 (-3)] rfl (by decide))
  have HOWN : Az ((∀ k, (Value.slice A4 3 c4).ownBlock = some k → k < w9.heap.size) ∧ w8.heap.size ≤ w9.heap.size) := ⟨⟨Kd.R_lt HI2.out.out, HI2.out.sz⟩⟩
  refine hK.out _ _ ⟨HI3.out.cells.2.1, HI3.out.cells.2.2.2.2.1⟩ (fun hHeld => ?_)
  clear hK K HI2 HD2
  generalize w9.alloc (.cells #[.int .i64 (-3)] 3) = wb at HIN HI3 HD3 hHeld ⊢
  generalize w9.heap.size = ib at HIN HOWN ⊢
  refine norm_ (by show Act.put _ (some 118) _ = _; simp only [Act.put, zq1, zq2, zq3, iw, jw]; rfl) ?_
  refine QW.PrintLast.one_ (i := 6) (N := some 119) (bA 10 127) rfl rfl (one_of HT_.out (by kernel_rfl)) (by decide) (fun K hK => ?_)
  refine value_ (w1 := ?_) (v := ?_) (by rfl) rfl ?_ ?_
  rotate_left 2
  ·go_simp
   constructor
   ·rfl
   ·rfl
  refine hK.out _ _ ⟨(HI3.out.below (below_nw0 wb _)).cells.2.1, (HI3.out.below (below_nw0 wb _)).cells.2.2.2.2.1⟩ (fun hHeld => ?_)
  clear hK K
  refine norm_ (by show Act.put _ (some 119) _ = _; simp only [Act.put, zq1, zq2, zq3, iw, jw]; rfl) ?_
  refine QW.PrintLast.one_ (i := 7) (N := some 120) (bA 10 255) rfl rfl (one_of HT_.out (by kernel_rfl)) (by decide) (fun K hK => ?_)
  refine Kd.R_append_step (Kd.slice 3 (Kd.int .i64)) (w0 := wb) w8.heap.size (by rfl) (.tmp 114) (.tmp 119) 22 26 (.slice none 0 0) 24 rfl Tryz.underlying22 infoSV rfl (by decide) (by omega) (.slice A4 3 c4) and3 [-3] [.slice (some ⟨ib, 0, none⟩) 1 1] (fun _ => True) (fun k => ib ≤ k) rfl rfl ?aP ?aQ ?aF ?aO ?aB ?aS ?aL ?_
  (case aP => exact Kd.M_row (Kd.R_lower (Kd.R_mono (Kd.R_bound HIN.out) (fun k hk => hk.2.1)) HOWN.out.2))
  (case aQ => exact fun k hk => ⟨trivial, fun e => by have := HOWN.out.1 k e.symm; omega⟩)
  (case aF => exact fun _ _ => trivial)
  (case aO => exact HI3.out.out)
  (case aB => exact Below.refl _ _)
  (case aS => exact HI3.out.sz)
  (case aL => decide)
  intro v5 w10 ho hb hg hat
  obtain ⟨A5, c5, e5⟩ := Kd.R_slice ho
  obtain rfl : v5 = .slice A5 4 c5 := e5
  have b4g := bkg HI3.out.h4 hg (Kd.R_ne HI3.out.out HI3.out.h4 (by decide))
  have b9g := bkg HI3.out.h9 hg (Kd.R_ne HI3.out.out HI3.out.h9 (by decide))
  have HI5 := Az.mk (HI3.out.grow ho hg)
  have HD5 := Az.mk (df_set (j := 1) (df_grown HD3.out HI3.out.out hg) b4g (.slice A5 4 c5))
  have BG := Az.mk b4g
  refine hK.out _ _ ⟨(bkc b4g 1).trans rfl, (bkc b9g 0).trans rfl⟩ (fun hHeld => ?_)
  clear hK K ho hb hg hat b4g b9g
  refine norm_ (by show Act.put _ (some 120) _ = _; simp only [Act.put, zq1, zq2, zq3, iw, jw]; rfl) ?_
  refine pA 8 (some 121) (bA 10 511) rfl rfl HT_.out (by intro w'; go_simp; with_reducible rfl) (by simp only [Act.put, zq1, zq2, zq3, iw, jw]; rfl) ?_
  refine QW.PrintLast.last_ (i := 9) (N := none) (bA 10 1023) rfl rfl (one_of HT_.out (by kernel_rfl)) (by decide) (fun K hK => ?_)
  have hs : w10.cell? ⟨b4, 1, none⟩ = some (.slice A4 3 c4) := (bkc BG.out 1).trans rfl
  have hfs := bkf BG.out 1
  refine skip_ (w1 := ?_) (by rfl) rfl ?_ ?_
  rotate_left
  ·go_simp
   rfl
  refine hK.out _ _ ?_
  clear hK K hs hfs BG
  refine done_ (done_of HT_.out (by kernel_rfl)) ?_
  clear hHeld HT_ HW_ HIN HI3 HD3
  simp only [onlyN]
  generalize w10.setCell ⟨b4, 1, none⟩ (.slice A5 4 c5) = w11 at HI5 HD5 ⊢
  go_wp2_with fail
  show Code.wp _ _ (Exit.then (Rolls _ _ _ 0) _) _ _
  have k41 := HI5.out.cells.2.1
  go_wp2_with fail
  have HI6 : Az (EI w w11.drew w8.heap.size w7.heap.size (w7.heap.size + 1) w.heap.size b4 b5 b9 b10 gA gR gI 3 (rowC 3) (.slice A5 4 c5) (and3 ++ [[-3]])) := ⟨HI5.out.below (below_drew (Below.refl _ _))⟩
  have HD6 : Az (w11.drew.heap[w8.heap.size]? = some (.deferred (some []))) := ⟨HD5.out⟩
  clear HI5 HD5 k41
  refine wp_onlyN ?_
  refine start_ (n := 5) (S := fun w' => w'.cell? ⟨b4, 0, none⟩ = some (.int .i64 3) ∧ w'.cell? ⟨b4, 1, none⟩ = some (.slice A5 4 c5) ∧ w'.cell? ⟨b5, 0, none⟩ = some (.slice (some ⟨gI, 0, none⟩) 4 4)) (ds := []) (Array.replicate 5 false) (by kernel_rfl) rfl rfl ⟨HI6.out.cells.1, HI6.out.cells.2.1, HI6.out.cells.2.2.1⟩ (fun hHeld => ?_); refine with_tabW encR26.tab encR26.bits (fun HT_ HW_ => ?_)
  generalize w11.drew = w12 at HI6 HD6 hHeld ⊢
  refine pT 0 (some 128) (bA 5 1) rfl rfl HT_.out HW_.out hHeld (by rintro w' ⟨s0, s1, s2⟩; go_simp; with_reducible rfl) (by simp only [Act.put, zq1, zq2, zq3, iw, jw]; rfl) ?_
  refine pT 1 (some 129) (bA 5 3) rfl rfl HT_.out HW_.out hHeld (by rintro w' ⟨s0, s1, s2⟩; go_simp; with_reducible rfl) (by simp only [Act.put, zq1, zq2, zq3, iw, jw]; rfl) ?_
  refine QW.PrintLast.one_ (i := 2) (N := none) (bA 5 7) rfl rfl (one_of HT_.out (by kernel_rfl)) (by decide) (fun K hK => ?_)
  have hs0 := HI6.out.cells.1
  have hs1 := HI6.out.cells.2.1
  have hf0 := bkf HI6.out.h4 0
  have hf1 := bkf HI6.out.h4 1
  refine skip_ (w1 := ?_) (by rfl) rfl ?_ ?_
  rotate_left
  ·go_simp
   rfl
  have HI7 := Az.mk HI6.out.same
  have HD7 := Az.mk (df_set (j := 1) (df_set (j := 0) HD6.out HI6.out.h4 (.int .i64 3)) (HI6.out.setn 3).h4 (.slice A5 4 c5))
  refine hK.out _ _ ⟨HI7.out.cells.1, HI7.out.cells.2.1, HI7.out.cells.2.2.1⟩ (fun hHeld => ?_)
  clear hK K hs0 hs1 hf0 hf1 HI6 HD6
  generalize (w12.setCell ⟨b4, 0, none⟩ (.int .i64 3)).setCell ⟨b4, 1, none⟩ (.slice A5 4 c5) = w13 at HI7 HD7 hHeld ⊢
  refine QW.PrintLast.one_ (i := 3) (N := none) (bA 5 15) rfl rfl (one_of HT_.out (by kernel_rfl)) (by decide) (fun K hK => ?_)
  have hs0 := HI7.out.cells.2.2.1
  have hf0 := bkf HI7.out.h5 0
  refine skip_ (w1 := ?_) (by rfl) rfl ?_ ?_
  rotate_left
  ·go_simp
   rfl
  have HI8 := Az.mk HI7.out.set5
  have HD8 := Az.mk (df_set (j := 0) HD7.out HI7.out.h5 (.slice (some ⟨gI, 0, none⟩) 4 4))
  refine hK.out _ _ ⟨HI8.out.cells.1, HI8.out.cells.2.1, HI8.out.cells.2.2.1⟩ (fun hHeld => ?_)
  clear hK K hs0 hf0 HI7 HD7
  generalize w13.setCell ⟨b5, 0, none⟩ (.slice (some ⟨gI, 0, none⟩) 4 4) = w14 at HI8 HD8 hHeld ⊢
  refine pA 4 (some 6) (bA 5 31) rfl rfl HT_.out (by intro w'; go_simp; with_reducible rfl) (by simp only [Act.put, zq1, zq2, zq3, iw, jw]; rfl) ?_
  refine done_ (done_of HT_.out (by kernel_rfl)) ?_
  clear hHeld HT_ HW_
  simp only [onlyN]
  have HI9 := Az.mk (HI8.out.book (o' := .deferred none) HD8.out rfl (by have := HI8.out.lo.1; omega))
  have HT8 := Az.mk (run_takeDeferred (P := Tryz.prog) HD8.out)
  clear HI8 HD8
  go_wp2
  refine ⟨by simp, .inl ⟨_, _, rfl, HT8.out, ?_⟩⟩
  refine ⟨_, results_cst rfl _ _ b4 b5 #[.int .i64 3, .slice A5 4 c5] (.slice (some ⟨gI, 0, none⟩) 4 4) (.int .i64 0) rfl HI9.out.h4 rfl rfl HI9.out.cells.2.2.1 rfl, ?_⟩
  have hR := Kd.R_reads' HI9.out.out
  exact ⟨A5, c5, gI, rfl, hR.2.1, hR.2.2, C_blk (xs := [0, 1, 2, 3]) HI9.out.hI rfl (by decide), HI9.out.hb⟩
end Go.Proofs.YtkcfdddhnboieaaGreatDoor.NState
end
