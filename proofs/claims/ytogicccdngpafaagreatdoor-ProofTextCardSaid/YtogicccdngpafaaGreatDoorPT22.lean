/-
  Part 22 of the proof of proofText_card: walks and lemmas, packed by the session's own wip/pack.py out of its texts and of what the kit's print.sh printed.
-/
import Derived.Test.YtogicccdngpafaaGreatDoorPT20
import Derived.Test.YtogicccdngpafaaGreatDoorPT10
import Derived.Test.YtogicccdngpafaaGreatDoorPT14
import Derived.Test.YtogicccdngpafaaGreatDoorPT8
set_option linter.unusedVariables false
set_option linter.unusedSimpArgs false
section
set_option maxRecDepth 100000
namespace Go.Proofs.YtogicccdngpafaaGreatDoor.NPlain
open Go Go.RowKit Go.Lib QW.PrintWords QW.PrintLast QW.PrintMore NState
open NText (sb sb_list sb_size)
open PRFmt
theorem decDigits_len : ∀ (k u : Nat), u < 10 ^ (k + 1) → (decDigits u).length ≤ k + 1
 | 0, u, h => by rw [decDigits, dif_pos (by omega)]; simp
 | k + 1, u, h => by
  by_cases hu : u < 10
  ·rw [decDigits, dif_pos hu]; simp
  ·rw [decDigits, dif_neg hu, List.length_append]
   have : u / 10 < 10 ^ (k + 1) := by rw [Nat.pow_succ] at h; omega
   have := decDigits_len k (u / 10) this
   simp only [List.length_singleton]; omega
theorem decDigits_20 {u : Nat} (h : u < 18446744073709551616) : (decDigits u).length ≤ 20 := decDigits_len 19 u (Nat.lt_of_lt_of_le h (by decide))
def Fits (x : Int) : Prop := -9223372036854775808 ≤ x ∧ x ≤ 9223372036854775807
theorem itoa_len {x : Int} (h : Fits x) : (itoa x).length ≤ 21 := by
 unfold itoa
 obtain ⟨h0, h1⟩ := h
 split
 ·have := decDigits_20 (u := x.natAbs) (by omega); simp only [List.length_cons]; omega
 ·have := decDigits_20 (u := x.toNat) (by omega); omega
theorem numL_cons (x : Int) (l : List Int) : numL (x :: l) = itoa x ++ [32] ++ numL l := by simp [numL]
theorem numL_len (l : List Int) (hf : ∀ x ∈ l, Fits x) : (numL l).length ≤ 22 * l.length + 1 := by
 induction l with
 | nil => simp [numL]
 | cons x l ih =>
  have := ih (fun y hy => hf y (List.mem_cons_of_mem _ hy))
  have := itoa_len (hf x List.mem_cons_self)
  rw [numL_cons]; simp only [List.length_append, List.length_cons, List.length_nil]; omega
def FitsP (p : List Stp) : Prop := ∀ x ∈ p, (∀ y ∈ x.f0, Fits y) ∧ (∀ y ∈ x.f2, Fits y) ∧ x.f0.length ≤ 1000 ∧ x.f2.length ≤ 1000
end Go.Proofs.YtogicccdngpafaaGreatDoor.NPlain
end
