/-
  Part 20 of the proof of cnfTextMatches_card: walks and lemmas.
-/
import Derived.Test.YtkcfdddhnboieaaGreatDoorKG19
import Derived.Test.YtkcfdddhnboieaaGreatDoorKG11
import Derived.Deep.CutBlock
set_option linter.unusedVariables false
set_option linter.unusedSimpArgs false
section
set_option maxRecDepth 100000
namespace Go.Proofs.YtkcfdddhnboieaaGreatDoor.NState
open Go Go.RowKit Go.Shelf QW.PrintWords QW.PrintLast QW.PrintMore NMap
def gV (gA : Nat) : Value := .agg #[.int .i64 2, .slice none 0 0, .slice (some ⟨gA, 0, none⟩) 1 1, .slice none 0 0]
def GOn (gA : Nat) (W : World) : Prop := W.heap[gA]? = some (.cells #[.int .i64 2, .int .i64 5] 109 (0, 0))
theorem below_nw0 (W : World) (o : Obj) : Below W.heap.size W (W.alloc o) := (Below.refl _ _).alloc (Nat.le_refl _) _
set_option maxHeartbeats 2000000
set_option maxRecDepth 100000
theorem first_at (gA : Nat) (W : World) : Calls Tryz.prog 129 #[gV gA] W fun e W' => e = .returned (.int .i64 3) ∧ Below W.heap.size W W' := by
 have HB : Az (Below W.heap.size W (W.alloc (.cells #[.int .i64 2, .slice none 0 0, .slice (some ⟨gA, 0, none⟩) 1 1, .slice none 0 0] 66))) := ⟨below_nw0 _ _⟩
 unfold gV
 go_enter Tryz.func129, Tryz.ntmps129
 go_wp2
 go_ret
 exact ⟨rfl, HB.out⟩
theorem size_at (gA : Nat) (W : World) : Calls Tryz.prog 102 #[gV gA] W fun e W' => e = .returned (.int .i64 4) ∧ Below W.heap.size W W' := by
 have HB : Az (Below W.heap.size W (W.alloc (.cells #[.int .i64 2, .slice none 0 0, .slice (some ⟨gA, 0, none⟩) 1 1, .slice none 0 0] 66))) := ⟨below_nw0 _ _⟩
 have HF : Az (∀ W, Calls Tryz.prog 129 #[gV gA] W fun e W' => e = .returned (.int .i64 3) ∧ Below W.heap.size W W') := ⟨first_at gA⟩
 have BX := Az.mk (blk_new W (.cells #[.int .i64 2, .slice none 0 0, .slice (some ⟨gA, 0, none⟩) 1 1, .slice none 0 0] 66))
 unfold gV at HF ⊢
 go_enter Tryz.func102, Tryz.ntmps102
 go_wp2_with fail
 have c0 := (bkc BX.out 0).trans rfl
 have c1 := (bkc BX.out 1).trans rfl
 have c2 := (bkc BX.out 2).trans rfl
 have c3 := (bkc BX.out 3).trans rfl
 generalize (W.alloc (.cells #[.int .i64 2, .slice none 0 0, .slice (some ⟨gA, 0, none⟩) 1 1, .slice none 0 0] 66)) = w0 at HB BX c0 c1 c2 c3 ⊢
 have HBd : Az (Below W.heap.size W w0.drew) := ⟨below_drew HB.out⟩
 have BXd : Az (w0.drew.heap[W.heap.size]? = some (.cells #[.int .i64 2, .slice none 0 0, .slice (some ⟨gA, 0, none⟩) 1 1, .slice none 0 0] 66 (0, 0))) := ⟨bkd BX.out⟩
 go_region_with (go_at_call 129; refine (HF.out _).mono ?_; rintro e w1 ⟨rfl, hb1⟩; have HB1 := Az.mk (bwt HBd.out hb1); have d2 := (bkc (blk_below BXd.out hb1) 2).trans rfl; clear hb1)
 all_goals
  go_wp2
  go_ret
  exact ⟨rfl, HB1.out⟩
theorem within_at (x n : Int) (hx : 0 ≤ x) (hn : 0 ≤ n ∧ n ≤ 1000000) (h : x < 2 * n) (W : World) : Calls Tryz.prog 128 #[.int .i64 x, .int .i64 n] W fun e W' => e = .returned (.bool true) ∧ W' = W := by
 have h1 : decide (0 ≤ x) = true := decide_eq_true hx
 have h2 : IntKind.i64.wrap (2 * n) = 2 * n := by rw [IntKind.wrap_i64]; omega
 have h3 : decide (x < 2 * n) = true := decide_eq_true h
 clear hx hn h
 go_enter Tryz.func128, Tryz.ntmps128
 go_wp2
 go_ret
 exact ⟨rfl, rfl⟩
theorem checkA_at (gA : Nat) (W : World) (hA : GOn gA W) : Calls Tryz.prog 90 #[gV gA] W fun e W' => e = .returned (.int .i64 0) ∧ Below W.heap.size W W' := by
 have HF : Az (∀ W, Calls Tryz.prog 129 #[gV gA] W fun e W' => e = .returned (.int .i64 3) ∧ Below W.heap.size W W') := ⟨first_at gA⟩
 have HZ : Az (∀ W, Calls Tryz.prog 102 #[gV gA] W fun e W' => e = .returned (.int .i64 4) ∧ Below W.heap.size W W') := ⟨size_at gA⟩
 have BX := Az.mk (blk_new W (.cells #[.int .i64 2, .slice none 0 0, .slice (some ⟨gA, 0, none⟩) 1 1, .slice none 0 0] 66))
 have HB : Az (Below W.heap.size W (W.alloc (.cells #[.int .i64 2, .slice none 0 0, .slice (some ⟨gA, 0, none⟩) 1 1, .slice none 0 0] 66))) := ⟨below_nw0 _ _⟩
 have hA1 : W.heap[gA]? = some (.cells #[.int .i64 2, .int .i64 5] 109 (0, 0)) := hA
 have HA := Az.mk (blk_below hA1 HB.out)
 unfold gV at HF HZ ⊢
 clear hA hA1
 go_enter Tryz.func90, Tryz.ntmps90
 go_upto_region 1 with fail
 have c0 := (bkc BX.out 0).trans rfl
 have c1 := (bkc BX.out 1).trans rfl
 have c2 := (bkc BX.out 2).trans rfl
 have c3 := (bkc BX.out 3).trans rfl
 generalize (W.alloc (.cells #[.int .i64 2, .slice none 0 0, .slice (some ⟨gA, 0, none⟩) 1 1, .slice none 0 0] 66)) = w0 at HB BX HA c0 c1 c2 c3 ⊢
 generalize W.heap.size = b0 at BX c0 c1 c2 c3 ⊢
 go_wp2_with (go_at_call 102; refine (HZ.out _).mono ?_; rintro e w1 ⟨rfl, hb1⟩; have HB1 := Az.mk (bwt HB.out hb1); have BX1 := Az.mk (blk_below BX.out hb1); have HA1 := Az.mk (blk_below HA.out hb1); clear hb1 c0 c1 c2 c3 HB BX HA; have c0 := (bkc BX1.out 0).trans rfl; have c1 := (bkc BX1.out 1).trans rfl; have c2 := (bkc BX1.out 2).trans rfl; have c3 := (bkc BX1.out 3).trans rfl)
 have a0 := (bkc HA1.out 0).trans rfl
 have a1 := (bkc HA1.out 1).trans rfl
 have HLT : Az (b0 < w1.heap.size ∧ gA < w1.heap.size) := ⟨blk_lt BX1.out, blk_lt HA1.out⟩
 refine wp_rolls 2 ?_
 show Code.wp _ _ (Exit.then (Rolls _ _ _ 1) _) _ _
 go_upto_region 9 with fail
 have HB2 := Az.mk (bwt HB1.out (below_nw0 w1 (.cells #[.int .i64 2, .int .i64 5] 109)))
 have BX2 := Az.mk (blk_below BX1.out (below_nw0 w1 (.cells #[.int .i64 2, .int .i64 5] 109)))
 have BN2 := Az.mk (blk_new w1 (.cells #[.int .i64 2, .int .i64 5] 109))
 clear c0 c1 c2 c3 a0 a1 HB1 BX1 HA1
 generalize (w1.alloc (.cells #[.int .i64 2, .int .i64 5] 109)) = w2 at HB2 BX2 BN2 ⊢
 generalize w1.heap.size = bn at BN2 ⊢
 have c0 := (bkc BX2.out 0).trans rfl
 have c1 := (bkc BX2.out 1).trans rfl
 have c2 := (bkc BX2.out 2).trans rfl
 have c3 := (bkc BX2.out 3).trans rfl
 go_wp2_with (first | (go_at_call 129; refine (HF.out _).mono ?_; rintro e w3 ⟨rfl, hb1⟩; have HB3 := Az.mk (bwt HB2.out hb1); have BX3 := Az.mk (blk_below BX2.out hb1); have BN3 := Az.mk (blk_below BN2.out hb1); clear hb1 c0 c1 c2 c3; have a0 := (bkc BN3.out 0).trans rfl; have a1 := (bkc BN3.out 1).trans rfl; have c1 := (bkc BX3.out 1).trans rfl; have c3 := (bkc BX3.out 3).trans rfl) | (go_at_call_of 128 (Value.int IntKind.i64 2); refine (within_at 2 3 (by decide) (by decide) (by decide) _).mono ?_; rintro e w4 ⟨rfl, rfl⟩) | (go_at_call_of 128 (Value.int IntKind.i64 5); refine (within_at 5 3 (by decide) (by decide) (by decide) _).mono ?_; rintro e w4 ⟨rfl, rfl⟩))
 show Code.wp _ _ (Exit.then (Rolls _ _ _ 0) _) _ _
 go_wp2
 refine wp_rolls 1 ?_
 show Code.wp _ _ (Exit.then (Rolls _ _ _ 0) _) _ _
 go_wp2
 refine wp_rolls 1 ?_
 show Code.wp _ _ (Exit.then (Rolls _ _ _ 0) _) _ _
 go_wp2
 go_ret
 exact ⟨rfl, HB3.out⟩
theorem nodesA_at (gA : Nat) (W : World) (hA : GOn gA W) : Calls Tryz.prog 46 #[gV gA] W fun e W' => e = .returned (.int .i64 4) ∧ Below W.heap.size W W' := by
 have HZ : Az (∀ W, Calls Tryz.prog 102 #[gV gA] W fun e W' => e = .returned (.int .i64 4) ∧ Below W.heap.size W W') := ⟨size_at gA⟩
 have HC : Az (∀ W, GOn gA W → Calls Tryz.prog 90 #[gV gA] W fun e W' => e = .returned (.int .i64 0) ∧ Below W.heap.size W W') := ⟨checkA_at gA⟩
 have BX := Az.mk (blk_new W (.cells #[.int .i64 2, .slice none 0 0, .slice (some ⟨gA, 0, none⟩) 1 1, .slice none 0 0] 66))
 have HB : Az (Below W.heap.size W (W.alloc (.cells #[.int .i64 2, .slice none 0 0, .slice (some ⟨gA, 0, none⟩) 1 1, .slice none 0 0] 66))) := ⟨below_nw0 _ _⟩
 have hA1 : W.heap[gA]? = some (.cells #[.int .i64 2, .int .i64 5] 109 (0, 0)) := hA
 have HA : Az (GOn gA (W.alloc (.cells #[.int .i64 2, .slice none 0 0, .slice (some ⟨gA, 0, none⟩) 1 1, .slice none 0 0] 66))) := ⟨blk_below hA1 HB.out⟩
 unfold gV at HC HZ ⊢
 clear hA hA1
 go_enter Tryz.func46, Tryz.ntmps46
 go_upto_region 1 with fail
 have c0 := (bkc BX.out 0).trans rfl
 have c1 := (bkc BX.out 1).trans rfl
 have c2 := (bkc BX.out 2).trans rfl
 have c3 := (bkc BX.out 3).trans rfl
 generalize (W.alloc (.cells #[.int .i64 2, .slice none 0 0, .slice (some ⟨gA, 0, none⟩) 1 1, .slice none 0 0] 66)) = w0 at HB BX HA c0 c1 c2 c3 ⊢
 generalize W.heap.size = b0 at BX c0 c1 c2 c3 ⊢
 go_wp2_with (first | (go_at_call 90; refine (HC.out _ HA.out).mono ?_; rintro e w1 ⟨rfl, hb1⟩; have HB1 := Az.mk (bwt HB.out hb1); have BX1 := Az.mk (blk_below BX.out hb1); clear hb1 c0 c1 c2 c3 HB BX HA; have c0 := (bkc BX1.out 0).trans rfl; have c1 := (bkc BX1.out 1).trans rfl; have c2 := (bkc BX1.out 2).trans rfl; have c3 := (bkc BX1.out 3).trans rfl) | (go_at_call 102; refine (HZ.out _).mono ?_; rintro e w2 ⟨rfl, hb2⟩; have HB2 := Az.mk (bwt HB1.out hb2); clear hb2))
 go_ret
 exact ⟨rfl, HB2.out⟩
end Go.Proofs.YtkcfdddhnboieaaGreatDoor.NState
end
