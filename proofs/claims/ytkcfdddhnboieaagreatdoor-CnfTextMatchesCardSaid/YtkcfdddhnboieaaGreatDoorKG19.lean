/-
  Part 19 of the proof of cnfTextMatches_card: walks and lemmas.
-/
import Derived.Test.YtkcfdddhnboieaaGreatDoorKG6
import Derived.Control
set_option linter.unusedVariables false
set_option linter.unusedSimpArgs false
section
set_option maxRecDepth 100000
namespace Go.Proofs.YtkcfdddhnboieaaGreatDoor.NState
open Go
def Rolls (P : Program) (c : Code) (Q : Exit → Act → World → Prop) : Nat → Act → World → Prop
 | 0, _, _ => False
 | n + 1, a, w => c.wp P (Exit.then (Rolls P c Q n) Q) a w
theorem least_ {p : Nat → Prop} (h : ∃ n, p n) : ∃ n, p n ∧ ∀ m, p m → n ≤ m := by
 obtain ⟨n, hn⟩ := h
 induction n using Nat.strongRecOn with
 | _ n ih =>
  by_cases hm : ∃ m, m < n ∧ p m
  ·obtain ⟨m, hlt, hp⟩ := hm
   exact ih m hlt hp
  ·exact ⟨n, hn, fun m hp => Nat.le_of_not_lt (fun hlt => hm ⟨m, hlt, hp⟩)⟩
open Classical in
noncomputable def rollsM (P : Program) (c : Code) (Q : Exit → Act → World → Prop) (a : Act) (w : World) : Nat := if h : ∃ n, Rolls P c Q n a w then Classical.choose (least_ h) else 0
theorem wp_rolls {P : Program} {c : Code} {Q : Exit → Act → World → Prop} {a : Act} {w : World} (n : Nat) (h : Rolls P c Q n a w) : (Code.loop c).wp P Q a w := by
 refine wp_loop (fun a w => ∃ n, Rolls P c Q n a w) (rollsM P c Q) ⟨n, h⟩ ?_
 intro a w hx
 have hm : rollsM P c Q a w = Classical.choose (least_ hx) := dif_pos hx
 have hf := (Classical.choose_spec (least_ hx)).1
 rw [← hm] at hf
 cases hn : rollsM P c Q a w with
 | zero => rw [hn] at hf; exact hf.elim
 | succ m =>
  rw [hn] at hf
  refine Code.wp_mono (fun e a' w' q => ?_) hf
  cases e with
  | normal =>
   have h2 : ∃ n, Rolls P c Q n a' w' := ⟨m, q⟩
   refine ⟨h2, ?_⟩
   have h3 : rollsM P c Q a' w' = Classical.choose (least_ h2) := dif_pos h2
   rw [h3]
   exact Nat.lt_succ_of_le ((Classical.choose_spec (least_ h2)).2 m q)
  | _ => exact q
end Go.Proofs.YtkcfdddhnboieaaGreatDoor.NState
end
