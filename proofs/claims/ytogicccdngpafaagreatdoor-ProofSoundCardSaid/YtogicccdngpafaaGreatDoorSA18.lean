/-
  Part 18 of the proof of proofSound_card: walks and lemmas, packed by the session's own wip/pack.py out of its texts and of what the kit's print.sh printed.
-/
import Derived.Test.YtogicccdngpafaaGreatDoorSA7
import Derived.Test.YtogicccdngpafaaGreatDoorSA17
import Derived.Test.YtogicccdngpafaaGreatDoorSA9
set_option linter.unusedVariables false
set_option linter.unusedSimpArgs false
section
set_option maxRecDepth 100000
namespace Go.Proofs.YtogicccdngpafaaGreatDoor.NPlain
open Go Go.RowKit QW.PrintWords QW.PrintLast QW.PrintMore NState
theorem hasT_ev0 (l : List Int) (x : Int) (hl : l.length ≤ 1000000000) : ∀ i : Nat, i ≤ l.length → Ev (fun k => PTree.netlabref32_Has.l0 k l x (i : Int)) ((l.drop i).contains x) := by
 refine down ?_ ?_
 ·refine Ev.succ ?_
  simp only [PTree.netlabref32_Has.l0]
  refine Ev.neg (by omega) ?_
  simp only [List.drop_length, List.contains_nil]
  exact Ev.pure _
 ·intro i hi ih
  refine Ev.succ ?_
  simp only [PTree.netlabref32_Has.l0]
  refine Ev.pos (by omega) (Ev.pos (by omega) ?_)
  rw [drop_rd hi, wrap_succ hi (by omega), List.contains_cons]
  by_cases he : rd l i = x
  ·refine Ev.pos he ?_
   exact Ev.pureOf (by rw [he]; simp)
  ·refine Ev.neg he ?_
   have hb : (x == rd l i) = false := by simpa using fun h => he h.symm
   rw [hb, Bool.false_or]
   exact ih
theorem hasT_ev (l : List Int) (x : Int) (hl : l.length ≤ 1000000000) : Ev (fun k => PTree.netlabref32_Has.f k l x) (l.contains x) := hasT_ev0 l x hl 0 (Nat.zero_le _)
theorem negatedT_ev0 (l : List Int) (hl : l.length ≤ 1000000000) : ∀ i : Nat, i ≤ l.length → Ev (fun k => PTree.netlabref33_negated.l0 k l ((l.take i).map fun x => wrap64 (-x)) (i : Int)) (l.map fun x => wrap64 (-x)) := by
 refine down ?_ ?_
 ·refine Ev.succ ?_
  simp only [PTree.netlabref33_negated.l0]
  refine Ev.neg (by omega) ?_
  rw [List.take_length]
  exact Ev.pure _
 ·intro i hi ih
  refine Ev.succ ?_
  simp only [PTree.netlabref33_negated.l0]
  refine Ev.pos (by omega) (Ev.pos (by omega) (Ev.pos (by simp; omega) ?_))
  rw [wrap_succ hi (by omega)]
  rw [List.take_succ_eq_append_getElem hi, List.map_append] at ih
  have e : rd l i = l[i] := by simp [rd, List.getD, hi]
  rw [e]
  exact ih
theorem negatedT_ev (l : List Int) (hl : l.length ≤ 1000000000) : Ev (fun k => PTree.netlabref33_negated.f k l) (l.map fun x => wrap64 (-x)) := by
 exact negatedT_ev0 l hl 0 (Nat.zero_le _)
theorem openT_ev0 (l A : List Int) (hl : l.length ≤ 1000000000) (hA : A.length ≤ 1000000000) : ∀ i : Nat, i ≤ l.length → ∀ out : List Int, out.length ≤ i → Ev (fun k => PTree.netlabref33_open.l0 k l A out (i : Int)) (openL A out (l.drop i)) := by
 refine down ?_ ?_
 ·intro out ho
  refine Ev.succ ?_
  simp only [PTree.netlabref33_open.l0]
  refine Ev.neg (by omega) ?_
  rw [List.drop_length]
  exact Ev.pure _
 ·intro i hi ih out ho
  refine Ev.succ ?_
  simp only [PTree.netlabref33_open.l0]
  refine Ev.pos (by omega) (Ev.pos (by omega) (Ev.bind (hasT_ev _ _ hA) ?_))
  rw [drop_rd hi, wrap_succ hi (by omega), openL]
  by_cases h0 : A.contains (wrap64 (-(rd l i))) = true
  ·rw [if_pos h0]
   exact Ev.pos h0 (ih out (by omega))
  rw [if_neg h0]
  refine Ev.neg h0 (Ev.bind (hasT_ev _ _ (by omega)) ?_)
  by_cases h1 : out.contains (rd l i) = true
  ·rw [if_pos h1]
   exact Ev.pos h1 (ih out (by omega))
  rw [if_neg h1]
  refine Ev.neg h1 (Ev.pos (by omega) ?_)
  exact ih _ (by simp; omega)
theorem openT_ev (l A : List Int) (hl : l.length ≤ 1000000000) (hA : A.length ≤ 1000000000) : Ev (fun k => PTree.netlabref33_open.f k l A) (openL A [] l) := openT_ev0 l A hl hA 0 (Nat.zero_le _) [] (Nat.le_refl _)
def false1L (A : List Int) : List (List Int) → Nat → Nat
 | [], _ => 0
 | l :: ls, i => if (openL A [] l).length = 0 then i + 1 else false1L A ls (i + 1)
theorem false1L_le (A : List Int) : ∀ (ls : List (List Int)) (i : Nat), false1L A ls i ≤ i + ls.length
 | [], i => by simp [false1L]
 | l :: ls, i => by
  rw [false1L]
  split
  ·simp
  ·have := false1L_le A ls (i + 1); simp only [List.length_cons]; omega
theorem rdTL {l : List (List Int)} {k : Nat} (h : k < l.length) : PTree.rL l (k : Int) = l[k] := by simp [PTree.rL, List.getD, h]
theorem false1_ev (vars : Int) (A : List Int) (cls : List (List Int)) (hc : cls.length ≤ 1000000) (hl : ∀ l ∈ cls, l.length ≤ 1000000) (hA : A.length ≤ 1000000) : Ev (fun k => PTree.netlabref33_false1.f k vars cls A) ((false1L A cls 0 : Nat) : Int) := by
 have key : ∀ i : Nat, i ≤ cls.length → Ev (fun k => PTree.netlabref33_false1.l0 k A (i : Int) vars cls) ((false1L A (cls.drop i) i : Nat) : Int) := by
  refine down ?_ ?_
  ·refine Ev.succ ?_
   simp only [PTree.netlabref33_false1.l0]
   refine Ev.neg (by omega) ?_
   rw [List.drop_length]
   exact Ev.pure _
  ·intro i hi ih
   refine Ev.succ ?_
   simp only [PTree.netlabref33_false1.l0]
   refine Ev.pos (by omega) (Ev.pos (by omega) ?_)
   rw [rdTL hi, wrap_succ hi (by omega), List.drop_eq_getElem_cons hi, false1L]
   have hli := hl _ (List.getElem_mem hi)
   refine Ev.bind (openT_ev cls[i] A (by omega) (by omega)) ?_
   by_cases h0 : (openL A [] cls[i]).length = 0
   ·rw [if_pos h0]
    exact Ev.pos (by omega) (Ev.pureOf (by omega))
   ·rw [if_neg h0]
    exact Ev.neg (by omega) ih
 have := key 0 (Nat.zero_le _)
 rw [List.drop_zero] at this
 exact this
def negL (A : List Int) : List Int := A.map fun x => wrap64 (-x)
def growL (cls : List (List Int)) : Nat → List Int → List Stp → List Stp × Int × Bool
 | 0, A, p => if 0 < false1L A cls 0 then (p ++ [⟨negL A, false, [((false1L A cls 0 : Nat) : Int)]⟩], ((cls.length + p.length + 1 : Nat) : Int), true) else (p, 0, false)
 | d + 1, A, p => if 0 < false1L A cls 0 then (p ++ [⟨negL A, false, [((false1L A cls 0 : Nat) : Int)]⟩], ((cls.length + p.length + 1 : Nat) : Int), true)
  else if (growL cls d (A ++ [((A.length + 1 : Nat) : Int)]) p).2.2 = false then ((growL cls d (A ++ [((A.length + 1 : Nat) : Int)]) p).1, 0, false)
  else if (growL cls d (A ++ [-((A.length + 1 : Nat) : Int)]) (growL cls d (A ++ [((A.length + 1 : Nat) : Int)]) p).1).2.2 = false then ((growL cls d (A ++ [-((A.length + 1 : Nat) : Int)]) (growL cls d (A ++ [((A.length + 1 : Nat) : Int)]) p).1).1, 0, false)
  else ((growL cls d (A ++ [-((A.length + 1 : Nat) : Int)]) (growL cls d (A ++ [((A.length + 1 : Nat) : Int)]) p).1).1 ++ [⟨negL A, false, [(growL cls d (A ++ [((A.length + 1 : Nat) : Int)]) p).2.1, (growL cls d (A ++ [-((A.length + 1 : Nat) : Int)]) (growL cls d (A ++ [((A.length + 1 : Nat) : Int)]) p).1).2.1]⟩],
   ((cls.length + (growL cls d (A ++ [-((A.length + 1 : Nat) : Int)]) (growL cls d (A ++ [((A.length + 1 : Nat) : Int)]) p).1).1.length + 1 : Nat) : Int), true)
theorem growL_hit {cls : List (List Int)} {d : Nat} {A : List Int} {p : List Stp} (h : 0 < false1L A cls 0) : growL cls d A p = (p ++ [⟨negL A, false, [((false1L A cls 0 : Nat) : Int)]⟩], ((cls.length + p.length + 1 : Nat) : Int), true) := by
 cases d with
 | zero => rw [growL, if_pos h]
 | succ d => rw [growL, if_pos h]
theorem growL_zero {cls : List (List Int)} {A : List Int} {p : List Stp} (h : ¬ 0 < false1L A cls 0) : growL cls 0 A p = (p, 0, false) := by rw [growL, if_neg h]
theorem growL_succ {cls : List (List Int)} {d : Nat} {A : List Int} {p : List Stp} (h : ¬ 0 < false1L A cls 0) {y z : List Stp × Int × Bool} (hy : growL cls d (A ++ [((A.length + 1 : Nat) : Int)]) p = y) (hz : growL cls d (A ++ [-((A.length + 1 : Nat) : Int)]) y.1 = z) :
  growL cls (d + 1) A p = if y.2.2 = false then (y.1, 0, false) else if z.2.2 = false then (z.1, 0, false) else (z.1 ++ [⟨negL A, false, [y.2.1, z.2.1]⟩], ((cls.length + z.1.length + 1 : Nat) : Int), true) := by
 subst hy
 subst hz
 rw [growL, if_neg h]
theorem growL_len (cls : List (List Int)) : ∀ (d : Nat) (A : List Int) (p : List Stp), (growL cls d A p).1.length + 1 ≤ p.length + 2 ^ (d + 1)
 | 0, A, p => by
  rw [growL]
  split <;> simp
 | d + 1, A, p => by
  have h1 := growL_len cls d (A ++ [((A.length + 1 : Nat) : Int)]) p
  have h2 := growL_len cls d (A ++ [-((A.length + 1 : Nat) : Int)]) (growL cls d (A ++ [((A.length + 1 : Nat) : Int)]) p).1
  have h3 : 2 ^ (d + 1 + 1) = 2 ^ (d + 1) + 2 ^ (d + 1) := by rw [Nat.pow_succ]; omega
  have h4 : 0 < 2 ^ (d + 1) := Nat.pow_pos (by decide)
  by_cases h : 0 < false1L A cls 0
  ·rw [growL_hit h]
   simp only [List.length_append, List.length_cons, List.length_nil]; omega
  ·rw [growL_succ h rfl rfl]
   split
   ·simp only; omega
   ·split
    ·simp only; omega
    ·simp only [List.length_append, List.length_cons, List.length_nil]; omega
theorem growL_sizes (cls : List (List Int)) (m : Nat) : ∀ (d : Nat) (A : List Int) (p : List Stp), A.length + d ≤ m → (∀ x ∈ p, x.f0.length ≤ m ∧ x.f2.length ≤ 40) → ∀ x ∈ (growL cls d A p).1, x.f0.length ≤ m ∧ x.f2.length ≤ 40
 | 0, A, p, hm, hp, x, hx => by
  rw [growL] at hx
  split at hx
  ·rcases List.mem_append.1 hx with h | h
   ·exact hp x h
   ·rw [List.mem_singleton] at h; subst h; simp [negL]; omega
  ·exact hp x hx
 | d + 1, A, p, hm, hp, x, hx => by
  have h1 := growL_sizes cls m d (A ++ [((A.length + 1 : Nat) : Int)]) p (by simp; omega) hp
  have h2 := growL_sizes cls m d (A ++ [-((A.length + 1 : Nat) : Int)]) _ (by simp; omega) h1
  by_cases h : 0 < false1L A cls 0
  ·rw [growL_hit h] at hx
   rcases List.mem_append.1 hx with h | h
   ·exact hp x h
   ·rw [List.mem_singleton] at h; subst h; simp [negL]; omega
  ·rw [growL_succ h rfl rfl] at hx
   split at hx
   ·exact h1 x hx
   ·split at hx
    ·exact h2 x hx
    ·rcases List.mem_append.1 hx with h | h
     ·exact h2 x h
     ·rw [List.mem_singleton] at h; subst h; simp [negL]; omega
end Go.Proofs.YtogicccdngpafaaGreatDoor.NPlain
end
