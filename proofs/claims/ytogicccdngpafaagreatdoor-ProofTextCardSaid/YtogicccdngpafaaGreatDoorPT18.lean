/-
  Part 18 of the proof of proofText_card: walks and lemmas, packed by the session's own wip/pack.py out of its texts and of what the kit's print.sh printed.
-/
import Derived.Test.YtogicccdngpafaaGreatDoorPT15
import Derived.Test.YtogicccdngpafaaGreatDoorPT9
import Derived.Test.YtogicccdngpafaaGreatDoorPT17
import Derived.Shelf.Sort.Plain
import Derived.Ground.Names2Prog
import Derived.Shelf.Slices.In.SortNone
import Derived.Shelf.Slices.CompactI
set_option linter.unusedVariables false
set_option linter.unusedSimpArgs false
section
set_option maxRecDepth 100000
namespace Go.Proofs.YtogicccdngpafaaGreatDoor.NState
open Go Go.RowKit Go.Shelf Go.Sort QW.PrintWords QW.PrintLast QW.PrintMore NMap
theorem heap_putRow_same {α : Type} [Inhabited α] (enc : α → Value) (w : World) (g off : Nat) (d : Array α) {cs : Array Value} {e : TypeId} {fr : Nat × Nat} (h : w.heap[g]? = some (.cells cs e fr)) : (putRow enc w g off d).heap[g]? = some (.cells (putCells enc off d cs) e fr) := by
 simp [putRow, mapBlock, Array.getElem?_modify, h, onCells]
theorem heap_putRow_other {α : Type} [Inhabited α] (enc : α → Value) (w : World) (g off : Nat) (d : Array α) {k : Nat} (h : k ≠ g) : (putRow enc w g off d).heap[k]? = w.heap[k]? := by
 simp only [putRow, mapBlock, Array.getElem?_modify]
 rw [if_neg (fun e => h e.symm)]
theorem size_putRow {α : Type} [Inhabited α] (enc : α → Value) (w : World) (g off : Nat) (d : Array α) : (putRow enc w g off d).heap.size = w.heap.size := by
 simp [putRow, mapBlock]
theorem grown_putRow {α : Type} [Inhabited α] (enc : α → Value) (w : World) (g off q : Nat) (d : Array α) (os : Array Obj) : w.grownBy (grow (putRow enc (Sort.ahead w q) g off d) os) (some g) := by
 refine ⟨rfl, rfl, rfl, ?_, fun k hk hne => ?_⟩
 ·rw [size_grow, size_putRow]; exact Nat.le_add_right _ _
 ·have hne' : k ≠ g := fun e => hne (congrArg some e)
  rw [heap_grow_old _ _ (by rw [size_putRow]; exact hk), heap_putRow_other _ _ _ _ _ hne']; rfl
theorem R_putRow {base g c q : Nat} {e : Nat} {ok : Nat → Prop} {w : World} {xs ys : List Int} {os : Array Obj} (h : Kd.R (Kd.int .i64) e w base ok (.slice (some ⟨g, 0, none⟩) xs.length c) xs) (hl : ys.length = xs.length) :
  Kd.R (Kd.int .i64) e (grow (putRow (Value.int .i64) (Sort.ahead w q) g 0 ys.toArray) os) base ok (.slice (some ⟨g, 0, none⟩) xs.length c) ys := by
 have ho := Kd.own_of_R (enc := Value.int .i64) h
 refine Kd.R_of_own (enc := Value.int .i64) ?_ h.1
 rcases ho.2 with ⟨he, _⟩ | ⟨g', cap, cur, he, hg, hh, hnc, hcm, hcs, ht⟩
 ·cases he
 ·cases he
  rw [hl]
  refine ⟨by simp [encs, hl], .inr ⟨g, c, putCells (Value.int .i64) 0 ys.toArray cur, rfl, hg, ?_, hnc, hcm, ?_, ?_⟩⟩
  ·have hlt : g < w.heap.size := (Array.getElem?_eq_some_iff.1 hh).1
   rw [heap_grow_old _ _ (by rw [size_putRow]; exact hlt)]
   exact heap_putRow_same _ _ _ _ _ hh
  ·simpa [putCells] using hcs
  ·have hcl : xs.length ≤ cur.size := by
    have := congrArg List.length ht
    rw [List.length_take, Array.length_toList] at this
    simp only [encs, List.length_map] at this
    omega
   refine List.ext_getElem (by simp [encs, putCells]; omega) ?_
   intro i h1 h2
   simp only [encs, List.length_map] at h2
   rw [List.getElem_take, Array.getElem_toList]
   simp only [putCells, Array.getElem_mapIdx, encs, List.getElem_map]
   rw [if_pos (by simp; omega)]
   simp [h2]
theorem holds_of_R {base g c e : Nat} {ok : Nat → Prop} {w : World} {xs : List Int} (h : Kd.R (Kd.int .i64) e w base ok (.slice (some ⟨g, 0, none⟩) xs.length c) xs) : Holds (Value.int .i64) w g 0 xs.toArray := by
 intro j hj
 have hj' : j < xs.length := by simpa using hj
 obtain ⟨h1, h2⟩ := Kd.R_cell (0 : Int) h (j : Int) (Int.natCast_nonneg j) (by omega)
 simp only [Int.toNat_natCast] at h1 h2
 refine ⟨?_, by rw [Nat.zero_add]; exact h2⟩
 rw [Nat.zero_add, h1]
 congr 2
 simp [rdOf, List.getD, hj']
theorem R_block {base e : Nat} {ok : Nat → Prop} {w : World} {v : Value} {xs : List Int} (h : Kd.R (Kd.int .i64) e w base ok v xs) (hp : 0 < xs.length) : ∃ g c, v = .slice (some ⟨g, 0, none⟩) xs.length c ∧ g < w.heap.size ∧ xs.length ≤ c := by
 obtain ⟨inner, ho⟩ := Kd.R_own h
 rcases ho.2 with ⟨_, h0⟩ | ⟨g, cap, cur, rfl, hg, hh, hnc, _⟩
 ·omega
 ·exact ⟨g, cap, rfl, (Array.getElem?_eq_some_iff.1 hh).1, hnc⟩
theorem sort_calls {base : Nat} {ok : Nat → Prop} {W : World} {v : Value} {xs : List Int} (h : Kd.R (Kd.int .i64) 3 W base ok v xs) (hlen : xs.length < 4611686018427387904) :
  Calls Tryz.prog 39 #[v] W fun e W' => e = .returned (.tuple #[]) ∧ Kd.R (Kd.int .i64) 3 W' base ok v (xs.mergeSort fun x y => decide (x ≤ y)) ∧ W.grownBy W' v.ownBlock := by
 by_cases hp : 0 < xs.length
 ·obtain ⟨g, c, rfl, hg, hc⟩ := R_block h hp
  refine (Any.slices_Sort_int Tryz.lays189 g 0 c xs W (holds_of_R h) hg hlen).mono ?_
  rintro e W' ⟨rfl, q, os, rfl⟩
  exact ⟨rfl, R_putRow h (by simp), by simpa [Value.ownBlock] using grown_putRow (Value.int .i64) W g 0 q _ os⟩
 ·obtain ⟨A, c, rfl⟩ := Kd.R_slice h
  have h0 : xs = [] := List.eq_nil_of_length_eq_zero (by omega)
  subst h0
  refine (Any.slices_Sort_int_none Tryz.lays189 A c W).mono ?_
  rintro e W' ⟨rfl, rfl⟩
  exact ⟨rfl, by simpa using h, ⟨rfl, rfl, rfl, Nat.le_refl _, fun _ _ _ => rfl⟩⟩
theorem compact_le (xs : List Int) : (Lib.compact xs).length ≤ xs.length := by
 unfold Lib.compact Lib.compactUpTo
 rw [List.length_map]
 refine Nat.le_trans (List.length_filter_le _ _) ?_
 rw [List.length_range]; exact Nat.le_refl _
theorem compact_calls {base : Nat} {ok : Nat → Prop} {W : World} {v : Value} {xs : List Int} (h : Kd.R (Kd.int .i64) 3 W base ok v xs) (hlen : xs.length < 4611686018427387904) :
  Calls Tryz.prog 40 #[v] W fun e W' => ∃ v', e = .returned v' ∧ Kd.R (Kd.int .i64) 3 W' base ok v' (Lib.compact xs) ∧ W.grownBy W' v.ownBlock := by
 by_cases hp : 0 < xs.length
 ·obtain ⟨g, c, rfl, hg, hc⟩ := R_block h hp
  refine (Any.slices_Compact_int Tryz.laysNm220 g 0 c xs W (holds_of_R h) (by omega) hc).mono ?_
  rintro e W' ⟨rfl, q, rfl⟩
  have hcl := compact_le xs
  refine ⟨_, rfl, ?_, ?_⟩
  ·have h1 := R_putRow (q := q) (os := #[]) (ys := Lib.compact xs ++ List.replicate (xs.length - (Lib.compact xs).length) 0) h (by simp; omega)
   rw [grow_empty] at h1
   have h2 := Kd.R_take (m := (Lib.compact xs).length) h1 (by simp)
   rw [List.take_left' rfl] at h2
   exact h2
  ·have := grown_putRow (Value.int .i64) W g 0 q (Lib.compact xs ++ List.replicate (xs.length - (Lib.compact xs).length) 0).toArray #[]
   rw [grow_empty] at this
   simpa [Value.ownBlock] using this
 ·obtain ⟨A, c, rfl⟩ := Kd.R_slice h
  have h0 : xs = [] := List.eq_nil_of_length_eq_zero (by omega)
  subst h0
  refine (Any.slices_Compact_int_empty Tryz.laysNm220 A c W).mono ?_
  rintro e W' ⟨rfl, rfl⟩
  exact ⟨_, rfl, h, ⟨rfl, rfl, rfl, Nat.le_refl _, fun _ _ _ => rfl⟩⟩
end Go.Proofs.YtogicccdngpafaaGreatDoor.NState
end
