/-
  Part 23 of the proof of cnfTextMatches_card: walks and lemmas.
-/
import Derived.Test.YtkcfdddhnboieaaGreatDoorKG21
import Derived.OrdersIn
import Derived.Test.YtkcfdddhnboieaaGreatDoorKG3
set_option linter.unusedVariables false
set_option linter.unusedSimpArgs false
section
set_option maxRecDepth 100000
namespace Go.Proofs.YtkcfdddhnboieaaGreatDoor.NIter
open Go Go.RowKit
theorem noDefer_mem : ∀ (l : List Oper) (o : Oper), noDefer l = true → o ∈ l → ∀ c, o.op ≠ .defer c
 | [], o, _, h => by cases h
 | x :: l, o, hd, h => by
  simp only [noDefer, Bool.and_eq_true] at hd
  rcases List.mem_cons.1 h with rfl | h
  ·intro c hc; have := hd.1; rw [hc] at this; simp at this
  ·exact noDefer_mem l o hd.2 h
theorem wpOpIn_round {P : Program} {ops : Array Oper} {Q : Exit → Act → World → Prop} {l : Nat} (hlo : ¬ LetsOut Q) (hnd : noDefer ops.toList = true) {i : Nat} {K : Act → World → Prop} {a : Act} {w : World} (h : wpOp P ops Q i K a w) :
  wpOpIn (Fence.wide.inRound l) 0 P ops Q i K a w := by
 unfold wpOp at h
 unfold wpOpIn
 split
 ·rename_i hn
  simp only [hn] at h
  exact h
 ·rename_i o ho
  simp only [ho] at h
  have hdo : ∀ c, o.op ≠ .defer c := noDefer_mem _ _ hnd (by
   have := Array.mem_of_getElem? ho
   simpa using this)
  split
  ·rename_i hw
   rw [if_pos hw] at h
   have h := h.resolve_right (fun h2 => hlo h2.2)
   refine ⟨fun f _ => trivial, ?_⟩
   rw [show (Fence.wide.inRound l).round = some l from rfl, Oper.semAt_some l _ _ hdo]
   unfold Oper.wp at h
   revert h
   generalize (execOp a.eval o).run P w = r
   intro h
   rcases r with ⟨nx, w'⟩ | ⟨ha, w'⟩
   ·cases nx with
    | value v => exact h
    | skip => exact h
    | defer d => exact h
    | enter f args =>
     refine ⟨fun hh => by simp [Fence.wide] at hh, ?_⟩
     refine (CallsIn.inRound l (callsIn_wide.2 h)).mono ?_
     intro e w'' he
     cases e with
     | returned v => exact he
     | panicked ch => exact he
     | outgrown => exact he
    | row row args =>
     refine ⟨fun hh => by simp [Fence.wide] at hh, ?_⟩
     intro c cs hr
     obtain ⟨v, w'', h1, h2⟩ := h c cs
     exact ⟨v, w'', h1, stepsIn_wide.2 h2⟩
    | _ => exact h.elim
   ·cases ha with
    | panic v => exact h
    | _ => exact h.elim
  ·rename_i hw
   rw [if_neg hw] at h
   exact ⟨fun f _ => trivial, h⟩
theorem wpAnyIn_round {P : Program} {md : Region.Mode} {ops : Array Oper} {Q : Exit → Act → World → Prop} {l : Nat} (hlo : ¬ LetsOut Q) (hnd : noDefer ops.toList = true) : ∀ (fuel : Nat) (listed : Array Bool) (a : Act) (w : World),
  wpAny P md ops Q fuel listed a w → wpAnyIn (Fence.wide.inRound l) 0 P md ops Q fuel listed a w
 | 0, listed, a, w, h => h
 | fuel + 1, listed, a, w, h => by
  obtain ⟨h1, h2⟩ := h
  refine ⟨h1, fun i hi => ?_⟩
  exact wpOpIn_mono (fun a w => wpAnyIn_round hlo hnd fuel _ a w) (wpOpIn_round hlo hnd (h2 i hi))
theorem region_any_round {P : Program} {id : Nat} {ops : Array Oper} {Q : Exit → Act → World → Prop} {a : Act} {w : World} {l : Nat} (hm : P.follows .mixedOrders = true) (hlo : ¬ LetsOut Q) (hnd : noDefer ops.toList = true)
  (h : wpAny P .any ops Q ops.size (Array.replicate ops.size false) a w.drew) : (Code.region id ops true).wpIn (Fence.wide.inRound l) 0 P Q a w :=
 wpIn_region_any hm (wpAnyIn_round hlo hnd _ _ _ _ h)
theorem startR_ {P : Program} {ops : Array Oper} {Q : Exit → Act → World → Prop} {S : World → Prop} {ds : List Nat} {id n l0 : Nat} {a : Act} {w : World} (l : Array Bool) (hm : P.follows .mixedOrders = true) (hlo : ¬ LetsOut Q) (hnd : noDefer ops.toList = true) (hn : ops.size = n) (hl : Array.replicate n false = l) (hS : S w.drew)
  (h : S w.drew → QW.PrintLast.wpAnyLast P .any ops Q S ds n l a w.drew) : (Code.region id ops true).wpIn (Fence.wide.inRound l0) 0 P Q a w := by
 subst hn
 subst hl
 exact region_any_round hm hlo hnd (QW.PrintLast.wpAny_of_last _ _ _ _ (h hS))
end Go.Proofs.YtkcfdddhnboieaaGreatDoor.NIter
end
