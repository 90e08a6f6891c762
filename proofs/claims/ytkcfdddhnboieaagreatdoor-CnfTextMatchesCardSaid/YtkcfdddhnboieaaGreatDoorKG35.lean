/-
  Part 35 of the proof of cnfTextMatches_card: walks and lemmas.
-/
import Derived.Test.YtkcfdddhnboieaaGreatDoorKG6
import Derived.Test.YtkcfdddhnboieaaGreatDoorRows
import Derived.Deep.Matrix
import Derived.Lib.SmallJoins
import Derived.OpenShut
set_option linter.unusedVariables false
set_option linter.unusedSimpArgs false
section
set_option maxRecDepth 100000
namespace Go.Proofs.YtkcfdddhnboieaaGreatDoor.NOpen
open Go Go.RowKit Go.ChangeShapes Go.WideShapes Go.Deep QW.PrintWords QW.PrintLast QW.PrintMore
section
variable {H : Type} {enc : TypeId × Value → H} {W : World} {base : Nat} {held : Bool}
theorem C_of_row {w : World} {k : IntKind} {A : Option Addr} {L C : Nat} {Z : List Int} (hL : L ≤ C) (hm : C ≤ maxLen) (hz : Z.length = C) (hn : A = none → C = 0) (hc : ∀ a', A = some a' → ∀ c, c < C → w.cell? (a'.add c) = some (.int k (Z.getD c 0))) :
  (Kd.int k).C w A (Z.take L).length (Z.take L) ∧ (Z.take L).length = L := by
 have hlen : (Z.take L).length = L := by simp; omega
 have hml : maxLen ≤ 9223372036854775807 := by decide
 refine ⟨Kd.C_of_reads (d := (0 : Int)) (h1 := fun _ => rfl) ⟨rfl, by omega, fun h0 => ?_⟩, hlen⟩
 cases A with
 | none => have := hn rfl; omega
 | some a =>
  refine ⟨a, rfl, fun j hj => ?_⟩
  rw [hc a rfl j (by omega)]
  congr 2
  have hj2 : j < L := by omega
  simp only [List.getD, List.getElem?_take, if_pos hj2]
theorem rows_read {t e q : TypeId} {k : IntKind} {fuel : Nat} {a : Option Addr} {len cap : Nat} {x : DataW H × List MemPlace} (ht : Tryz.prog.underlying t = some (.slice e)) (he : Tryz.prog.underlying e = some (.slice q)) (hq : Tryz.prog.underlying q = some (.int k))
  (ce : Tryz.prog.cellsOf e = 1) (cq : Tryz.prog.cellsOf q = 1) (h : DataW.trod enc Tryz.prog W base (fun _ => true) held fuel t [.slice a len cap] = some x) :
  ∃ ls : List (List Int), len = ls.length ∧ ls.length ≤ cap ∧ Kd.C (Kd.slice q (Kd.int k)) W a ls.length ls := by
 rcases open_int_rows ht he hq ce cq h with ⟨hcs, _⟩ | ⟨a', len', cap', A, L, C, Z, hcs, _, hl, hm, _, hr⟩
 ·simp at hcs
  obtain ⟨rfl, rfl, rfl⟩ := hcs
  exact ⟨[], rfl, Nat.le_refl _, Kd.C_nil _ _⟩
 ·simp at hcs
  obtain ⟨rfl, rfl, rfl⟩ := hcs
  have hml : maxLen ≤ 9223372036854775807 := by decide
  refine ⟨(List.range len).map fun r => (Z r).take (L r), by simp, by simpa using hl, by simp, by simp; omega, fun _ => ⟨a', rfl, fun j p hj => ?_⟩⟩
  have hjl : j < len := by
   have := (List.getElem?_eq_some_iff.1 hj).1
   simpa using this
  have hp : (Z j).take (L j) = p := by
   rw [List.getElem?_map, List.getElem?_range hjl] at hj
   simpa using hj
  obtain ⟨r1, r2, r3, r4, _, r6, r7⟩ := hr j (by omega)
  obtain ⟨h1, h2⟩ := C_of_row (w := W) (k := k) (A := A j) (Z := Z j) r2 r3 r4 r6 (fun a'' ha c hc => (r7 a'' ha).2 c hc)
  refine ⟨[.slice (A j) (L j) (C j)], rfl, ?_, fun i u hu => ?_⟩
  ·rw [← hp]
   exact ⟨A j, C j, by rw [h2], by omega, h1⟩
  ·cases i with
   | zero => simp at hu; subst hu; simpa [Kd.slice] using r1
   | succ i => simp at hu
theorem cnf_read {b0 : Nat} {v : Value} {d : DataW H} {p : List MemPlace} (hv : Value.okWide Tryz.prog W .any b0 24 v) (h : DataW.Trod enc Tryz.prog W base (fun _ => true) held 24 v d p) :
  ∃ (vars : Int) (A : Option Addr) (c : Nat) (cls : List (List Int)), v = .agg #[.int .i64 vars, .slice A cls.length c] ∧ cls.length ≤ c ∧ Kd.C (Kd.slice 3 (Kd.int .i64)) W A cls.length cls := by
 obtain ⟨v0, v1, y0, y1, n, rfl, _, _, h0, h1⟩ := Joins.open_agg2 Tryz.underlying24 (by kernel_rfl) (by kernel_rfl) hv h
 obtain ⟨k, e1, _⟩ := DataW.trod_int Tryz.underlying3 h0
 obtain ⟨a, len, cap, e2⟩ := Joins.slice_form Tryz.underlying22 h1
 simp only [List.cons.injEq, and_true] at e1 e2
 subst e1 e2
 obtain ⟨ls, rfl, hc, hC⟩ := rows_read Tryz.underlying22 Tryz.underlying26 Tryz.underlying3 (by kernel_rfl) (by kernel_rfl) h1
 exact ⟨k, a, cap, ls, rfl, hc, hC⟩
end
end Go.Proofs.YtkcfdddhnboieaaGreatDoor.NOpen
end
