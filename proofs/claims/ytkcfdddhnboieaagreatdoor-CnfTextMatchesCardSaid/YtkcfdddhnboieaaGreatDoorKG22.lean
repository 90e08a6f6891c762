/-
  Part 22 of the proof of cnfTextMatches_card: walks and lemmas.
-/
import Derived.Test.YtkcfdddhnboieaaGreatDoorKG20
import Derived.Test.YtkcfdddhnboieaaGreatDoorKG21
set_option linter.unusedVariables false
set_option linter.unusedSimpArgs false
section
set_option maxHeartbeats 4000000
set_option maxRecDepth 100000
namespace Go.Proofs.YtkcfdddhnboieaaGreatDoor.NState
open Go Go.RowKit Go.Shelf QW.PrintWords QW.PrintLast QW.PrintMore NMap NIter
attribute [local go_sem] Oper.semAt_some
theorem backA_calls (A : Option Addr) (n c : Nat) (w : World) :
  Calls Tryz.prog 132 #[.slice A n c] w fun e w' =>
   e = .returned (.func (.func 153) #[] #[.pointer (some ⟨w.heap.size, 0, none⟩)]) ∧ w' = w.alloc (.cells #[.slice A n c] 63) := by
 go_enter Tryz.func132, Tryz.ntmps132
 go_wp2
 go_ret
 exact ⟨rfl, rfl⟩
structure BNeedA (bs gA : Nat) (W : World) : Prop where
 box : W.heap[bs]? = some (.cells #[.slice (some ⟨gA, 0, none⟩) 1 1] 63 (0, 0))
 row : W.heap[gA]? = some (.cells #[.int .i64 2, .int .i64 5] 109 (0, 0))
def BStepA (A B : World) : Prop := Below A.heap.size A B
def KeepAll (_ _ : World) : Prop := True
theorem backA_iter (bs gA : Nat) :
  IterAll2 Tryz.prog 153 #[.pointer (some ⟨bs, 0, none⟩)] (fun _ : Unit => #[.int .i64 0, .agg #[.int .i64 2, .int .i64 5]]) [()] (BNeedA bs gA) BStepA (fun _ _ => False) KeepAll := by
 intro l J W hN hS _ hY h0
 refine callsIn_wide.2 ?_
 have HN := Az.mk hN
 have HS := Az.mk hS
 have HY := Az.mk hY
 have H0 := Az.mk h0
 clear hN hS hY h0
 have hx0 : W.cell? ⟨bs, 0, none⟩ = some (.slice (some ⟨gA, 0, none⟩) 1 1) := (bkc (HN.out _ _ H0.out).box 0).trans rfl
 have a0 : W.cell? ⟨gA, 0, none⟩ = some (.int .i64 2) := (bkc (HN.out _ _ H0.out).row 0).trans rfl
 have a1 : W.cell? ⟨gA, 1, none⟩ = some (.int .i64 5) := (bkc (HN.out _ _ H0.out).row 1).trans rfl
 go_enter Tryz.func153, Tryz.ntmps153
 go_wp2
 refine wp_rolls 2 ?_
 show Code.wp _ _ (Exit.then (Rolls _ _ _ 1) _) _ _
 obtain ⟨fn, tmps, assign, body, hy2, hR2⟩ := HY.out [] () [] W rfl H0.out
 refine wpIn_wide (n := 0) |>.1 ?_
 gi_wp2
 refine ⟨rfl, hR2.mono ?_⟩
 rintro e W3 ⟨rfl, hJ3, _⟩
 have HJ3 := Az.mk hJ3
 clear hJ3 hx0 a0 a1 hy2 hR2
 gi_wp2
 show Code.wp _ _ (Exit.then (Rolls _ _ _ 0) _) _ _
 go_wp2
 go_end0
 exact ⟨⟨_, rfl⟩, HJ3.out⟩
end Go.Proofs.YtkcfdddhnboieaaGreatDoor.NState
end
