/-
  Part 34 of the proof of cnfMatches_card: walks and lemmas.
-/
import Derived.Test.YtkcfdddhnboieaaGreatDoorKE33
import Derived.Deep.Grids
set_option linter.unusedVariables false
set_option linter.unusedSimpArgs false
section
set_option maxRecDepth 100000
namespace Go.Proofs.YtkcfdddhnboieaaGreatDoor.NOpen
open Go Go.RowKit Go.ChangeShapes Go.WideShapes Go.Deep QW.PrintWords QW.PrintLast QW.PrintMore
theorem bools_read {H : Type} {enc : TypeId × Value → H} {W : World} {base : Nat} {held : Bool} {t e : TypeId} {a : Option Addr} {len cap : Nat} {d : DataW H} {ps : List MemPlace} (ht : Tryz.prog.underlying t = some (.slice e)) (he : Tryz.prog.underlying e = some .bool) (hc : Tryz.prog.cellsOf e = 1)
  (h : DataW.Trod enc Tryz.prog W base (fun _ => true) held t (.slice a len cap) d ps) : ∃ l : List Bool, len = l.length ∧ l.length ≤ cap ∧ Kd.C Kd.bool W a l.length l := by
 obtain ⟨fuel, hf⟩ := h
 rcases open_bools ht he hc hf with ⟨hcs, _⟩ | ⟨x, l, c, B, hcs, _, hl, hm, _, hcell⟩
 ·simp [Value.cells] at hcs
  obtain ⟨rfl, rfl, rfl⟩ := hcs
  exact ⟨[], rfl, Nat.le_refl _, Kd.C_nil _ _⟩
 ·simp [Value.cells] at hcs
  obtain ⟨rfl, rfl, rfl⟩ := hcs
  have hlen : ((List.range len).map B).length = len := by simp
  have hml : maxLen ≤ 9223372036854775807 := by decide
  obtain ⟨l, hl2, hB⟩ : ∃ l : List Bool, l.length = len ∧ ∀ j, j < len → l.getD j false = B j := ⟨(List.range len).map B, hlen, fun j hj => by simp [List.getD, hj]⟩
  have hle : l.length ≤ 9223372036854775807 := by omega
  subst hl2
  clear hlen
  refine ⟨l, rfl, hl, Kd.C_of_reads (enc := Value.bool) (d := false) (h1 := fun _ => rfl) ⟨rfl, hle, fun h0 => ?_⟩⟩
  refine ⟨x, rfl, fun j hj => ?_⟩
  rw [hcell j (by omega), hB j hj]
end Go.Proofs.YtkcfdddhnboieaaGreatDoor.NOpen
end
