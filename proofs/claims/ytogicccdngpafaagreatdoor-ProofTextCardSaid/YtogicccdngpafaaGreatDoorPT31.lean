/-
  Part 31 of the proof of proofText_card: walks and lemmas, packed by the session's own wip/pack.py out of its texts and of what the kit's print.sh printed.
-/
import Derived.Test.YtogicccdngpafaaGreatDoorPT30
import Derived.Test.YtogicccdngpafaaGreatDoorPT12
import Derived.Test.YtogicccdngpafaaGreatDoorPT22
import Derived.Deep.Slices
set_option linter.unusedVariables false
set_option linter.unusedSimpArgs false
section
set_option maxRecDepth 100000
namespace Go.Proofs.YtogicccdngpafaaGreatDoor.NOpen
open Go Go.RowKit Go.ChangeShapes Go.WideShapes Go.Deep QW.PrintWords QW.PrintLast QW.PrintMore
open PSame (S42 k42 k42_mk)
open NState (Stp kStp)
open NPlain (Fits)
section
variable {H : Type} {enc : TypeId × Value → H} {W : World} {base : Nat} {held : Bool}
theorem fits_wf {y : Int} (h : (Lit.int .i64 y).wf = true) : Fits y := bounds_i64 h
theorem ints_cellB {t e : TypeId} {fuel : Nat} {v : Value} {y : DataW H × List MemPlace} (ht : Tryz.prog.underlying t = some (.slice e)) (he : Tryz.prog.underlying e = some (.int .i64)) (hc : Tryz.prog.cellsOf e = 1)
  (h : DataW.trod enc Tryz.prog W base (fun _ => true) held fuel t [v] = some y) : ∃ q : Option Addr × Nat × List Int, v = .slice q.1 q.2.2.length q.2.1 ∧ q.2.2.length ≤ q.2.1 ∧ (Kd.int .i64).C W q.1 q.2.2.length q.2.2 ∧ ∀ y ∈ q.2.2, Fits y := by
 rcases open_ints ht he hc h with ⟨hcs, _⟩ | ⟨x, l, c, zs, hcs, _, hl, hm, hz, _, hcell, hwz⟩
 ·simp at hcs
  exact ⟨(none, 0, []), hcs, Nat.le_refl _, Kd.C_nil _ _, fun y hy => by cases hy⟩
 ·simp at hcs
  have hz' : zs.length = c := by simpa using hz
  obtain ⟨h1, h2⟩ := C_of_row (w := W) (k := .i64) (A := some x) (Z := zs) hl hm hz' (fun h => by cases h) (fun a' ha i hi => by cases ha; exact hcell i (by omega))
  refine ⟨(some x, c, zs.take l), ?_, ?_, h1, fun y hy => fits_wf (hwz y (List.mem_of_mem_take hy))⟩
  ·simp only [h2]; exact hcs
  ·simp only [h2]; exact hl
theorem steps_readB {a : Option Addr} {len cap : Nat} {d : DataW H} {ps : List MemPlace} (h : DataW.Trod enc Tryz.prog W base (fun _ => true) held 25 (.slice a len cap) d ps) :
  ∃ p : List Stp, len = p.length ∧ p.length ≤ cap ∧ Kd.C kStp W a p.length p ∧ ∀ x ∈ p, (∀ y ∈ x.f0, Fits y) ∧ (∀ y ∈ x.f2, Fits y) := by
 obtain ⟨fuel, hf⟩ := h
 have c3 : Tryz.prog.cellsOf 42 = 3 := by kernel_rfl
 have cS : Tryz.prog.cellsOf 31 = 1 := by kernel_rfl
 have cB : Tryz.prog.cellsOf 4 = 1 := by kernel_rfl
 have cI : Tryz.prog.cellsOf 3 = 1 := by kernel_rfl
 rcases open_slice Tryz.underlying25 hf with ⟨hcs, _⟩ | ⟨x, l, c, m, n, D, Pl, hcs, _, hl, hm, hmm, _, hx⟩
 ·simp [Value.cells] at hcs
  obtain ⟨rfl, rfl, rfl⟩ := hcs
  exact ⟨[], rfl, Nat.le_refl _, Kd.C_nil _ _, fun x hx => by cases hx⟩
 ·simp [Value.cells] at hcs
  obtain ⟨rfl, rfl, rfl⟩ := hcs
  simp only [if_true] at hmm
  subst hmm
  have hml : maxLen ≤ 9223372036854775807 := by decide
  have each : ∀ i, i < m → ∃ q : (Option Addr × Nat × List Int) × Bool × (Option Addr × Nat × List Int),
    (q.1.2.2.length ≤ q.1.2.1 ∧ (Kd.int .i64).C W q.1.1 q.1.2.2.length q.1.2.2 ∧ ∀ y ∈ q.1.2.2, Fits y) ∧ (q.2.2.2.2.length ≤ q.2.2.2.1 ∧ (Kd.int .i64).C W q.2.2.1 q.2.2.2.2.length q.2.2.2.2 ∧ ∀ y ∈ q.2.2.2.2, Fits y) ∧
    W.cell? (x.add (i * 3)) = some (.slice q.1.1 q.1.2.2.length q.1.2.1) ∧ W.cell? (x.add (i * 3 + 1)) = some (.bool q.2.1) ∧ W.cell? (x.add (i * 3 + 2)) = some (.slice q.2.2.1 q.2.2.2.2.length q.2.2.2.1) := by
   intro i hi
   obtain ⟨cs', h1, h2⟩ := hx i hi
   rw [c3] at h1
   obtain ⟨_, hlen, hcell⟩ := World.cells?_some h1
   obtain ⟨xs, k, hk, hxy, _, hxl, hfl⟩ := DataW.trod_struct Tryz.underlying42 h2
   match xs, hxl, cs', hlen with
   | [y0, y1, y2], _, [v0, v1, v2], _ =>
    have g0 := hfl 0 _ rfl
    have g1 := hfl 1 _ rfl
    have g2 := hfl 2 _ rfl
    simp [cS, cB] at g0 g1 g2
    have e0 := hcell 0 (by omega)
    have e1 := hcell 1 (by omega)
    have e2 := hcell 2 (by omega)
    rw [Go.Deep.add_add] at e0 e1 e2
    obtain ⟨q0, r0, s0, t0⟩ := ints_cellB Tryz.underlying31 Tryz.underlying3 cI g0
    obtain ⟨b, r1, _⟩ := DataW.trod_bool Tryz.underlying4 g1
    obtain ⟨q2, r2, s2, t2⟩ := ints_cellB Tryz.underlying31 Tryz.underlying3 cI g2
    have r1' : v1 = .bool b := by simpa using r1
    subst r0 r1' r2
    exact ⟨(q0, b, q2), ⟨s0, t0⟩, ⟨s2, t2⟩, by simpa using e0, by simpa using e1, by simpa using e2⟩
  obtain ⟨q, hq⟩ := choose_lt each
  refine ⟨(List.range len).map fun i => ⟨(q i).1.2.2, (q i).2.1, (q i).2.2.2.2⟩, by simp, by simpa using hl, ⟨by simp, by simp; omega, fun _ => ⟨x, rfl, fun j p hj => ?_⟩⟩, fun z hz => ?_⟩
  have hjl : j < len := by
   have := (List.getElem?_eq_some_iff.1 hj).1
   simpa using this
  rw [List.getElem?_map, List.getElem?_range hjl] at hj
  obtain ⟨⟨a1, a2, _⟩, ⟨b1, b2, _⟩, e0, e1, e2⟩ := hq j (by omega)
  obtain rfl := Option.some.inj hj
  refine ⟨[.slice (q j).1.1 (q j).1.2.2.length (q j).1.2.1, .bool (q j).2.1, .slice (q j).2.2.1 (q j).2.2.2.2.length (q j).2.2.2.1], rfl, k42_mk W (⟨(q j).1.2.2, (q j).2.1, (q j).2.2.2.2⟩ : Stp) a1 a2 b1 b2, fun i u hu => ?_⟩
  match i, hu with
  | 0, hu => obtain rfl := Option.some.inj hu; exact e0
  | 1, hu => obtain rfl := Option.some.inj hu; exact e1
  | 2, hu => obtain rfl := Option.some.inj hu; exact e2
  | i + 3, hu => simp at hu
  obtain ⟨i, hi, rfl⟩ := List.mem_map.1 hz
  have := List.mem_range.1 hi
  obtain ⟨⟨_, _, a3⟩, ⟨_, _, b3⟩, _⟩ := hq i (by omega)
  exact ⟨a3, b3⟩
end
end Go.Proofs.YtogicccdngpafaaGreatDoor.NOpen
end
