/-
  Part 30 of the proof of proofText_card: walks and lemmas, packed by the session's own wip/pack.py out of its texts and of what the kit's print.sh printed.
-/
import Derived.Test.YtogicccdngpafaaGreatDoorPT9
import Derived.Test.YtogicccdngpafaaGreatDoorRows
import Derived.Deep.Matrix
import Derived.Lib.SmallJoins
import Derived.OpenShut
set_option linter.unusedVariables false
set_option linter.unusedSimpArgs false
section
set_option maxRecDepth 100000
namespace Go.Proofs.YtogicccdngpafaaGreatDoor.NOpen
open Go Go.RowKit Go.ChangeShapes Go.WideShapes Go.Deep QW.PrintWords QW.PrintLast QW.PrintMore
section
variable {H : Type} {enc : TypeId × Value → H} {W : World} {base : Nat} {held : Bool}
theorem C_of_row {w : World} {k : IntKind} {A : Option Addr} {L C : Nat} {Z : List Int} (hL : L ≤ C) (hm : C ≤ maxLen) (hz : Z.length = C) (hn : A = none → C = 0) (hc : ∀ a', A = some a' → ∀ c, c < C → w.cell? (a'.add c) = some (.int k (Z.getD c 0))) :
  (Kd.int k).C w A (Z.take L).length (Z.take L) ∧ (Z.take L).length = L := by
 have hlen : (Z.take L).length = L := by simp; omega
 have hml : maxLen ≤ 9223372036854775807 := by decide
 refine ⟨Kd.C_of_reads (d := (0 : Int)) (h1 := fun _ => rfl) ⟨rfl, by omega, fun h0 => ?_⟩, hlen⟩
 cases A with
 | none => have := hn rfl; omega
 | some a =>
  refine ⟨a, rfl, fun j hj => ?_⟩
  rw [hc a rfl j (by omega)]
  congr 2
  have hj2 : j < L := by omega
  simp only [List.getD, List.getElem?_take, if_pos hj2]
end
end Go.Proofs.YtogicccdngpafaaGreatDoor.NOpen
end
