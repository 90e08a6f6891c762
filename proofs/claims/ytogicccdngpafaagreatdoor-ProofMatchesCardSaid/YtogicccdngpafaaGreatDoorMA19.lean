/-
  Part 19 of the proof of proofMatches_card: walks and lemmas, packed by the session's own wip/pack.py out of its texts and of what the kit's print.sh printed.
-/
import Derived.Test.YtogicccdngpafaaGreatDoorMA7
import Derived.Test.YtogicccdngpafaaGreatDoorMA17
import Derived.Test.YtogicccdngpafaaGreatDoorMA5
section
namespace Go.Proofs.YtogicccdngpafaaGreatDoor.NPlain
open Go Go.RowKit Go.Proofs.YtogicccdngpafaaGreatDoorW.PrintWords Go.Proofs.YtogicccdngpafaaGreatDoorW.PrintLast Go.Proofs.YtogicccdngpafaaGreatDoorW.PrintMore Go.Proofs.YtogicccdngpafaaGreatDoor.NState
def Ev {α : Type} (f : Nat → Option α) (r : α) : Prop := ∃ K, ∀ k, K ≤ k → f k = some r
theorem Ev.pure {α : Type} (r : α) : Ev (fun _ => some r) r := ⟨0, fun _ _ => rfl⟩
theorem Ev.pureOf {α : Type} {r r' : α} (h : r' = r) : Ev (fun _ => some r') r := h ▸ Ev.pure _
theorem Ev.succ {α : Type} {f : Nat → Option α} {r : α} (h : Ev (fun k => f (k + 1)) r) : Ev f r := by
 obtain ⟨K, h⟩ := h
 refine ⟨K + 1, fun k hk => ?_⟩
 obtain ⟨j, rfl⟩ : ∃ j, k = j + 1 := ⟨k - 1, by omega⟩
 exact h j (by omega)
theorem Ev.bind {α β : Type} {f : Nat → Option α} {g : Nat → α → Option β} {a : α} {r : β} (h1 : Ev f a) (h2 : Ev (fun k => g k a) r) : Ev (fun k => (f k).bind (g k)) r := by
 obtain ⟨K1, h1⟩ := h1
 obtain ⟨K2, h2⟩ := h2
 refine ⟨max K1 K2, fun k hk => ?_⟩
 show (f k).bind (g k) = _
 rw [h1 k (by omega)]; exact h2 k (by omega)
theorem Ev.pos {α : Type} {c : Prop} [Decidable c] {f g : Nat → Option α} {r : α} (hc : c) (h : Ev f r) : Ev (fun k => if c then f k else g k) r := by
 simpa only [if_pos hc] using h
theorem Ev.neg {α : Type} {c : Prop} [Decidable c] {f g : Nat → Option α} {r : α} (hc : ¬ c) (h : Ev g r) : Ev (fun k => if c then f k else g k) r := by
 simpa only [if_neg hc] using h
theorem down {P : Nat → Prop} {n : Nat} (hend : P n) (hstep : ∀ i, i < n → P (i + 1) → P i) : ∀ i, i ≤ n → P i := by
 intro i hi
 obtain ⟨d, hd⟩ : ∃ d, d = n - i := ⟨_, rfl⟩
 induction d generalizing i with
 | zero => rw [show i = n by omega]; exact hend
 | succ d ih => exact hstep i (by omega) (ih (i + 1) (by omega) (by omega))
theorem rdL {l : List (List Int)} {k : Nat} (h : k < l.length) : l.drop k = PRef.rd_L1 l k :: l.drop (k + 1) := by
 rw [List.drop_eq_getElem_cons h]; simp [PRef.rd_L1, List.getD, h]
theorem wneg {x : Int} (h1 : -4611686018427387904 ≤ x) (h2 : x ≤ 4611686018427387904) : wrap64 (-x) = -x := by unfold wrap64; omega
theorem wid {x : Int} (h1 : -4611686018427387904 ≤ x) (h2 : x ≤ 4611686018427387904) : wrap64 x = x := by unfold wrap64; omega
theorem has_ev0 (l : List Int) (x : Int) (hl : l.length ≤ 1000000000) : ∀ i : Nat, i ≤ l.length → Ev (fun k => PRef.netlabref32_Has.l0 k l x (i : Int)) ((l.drop i).contains x) := by
 refine down ?_ ?_
 ·refine Ev.succ ?_
  simp only [PRef.netlabref32_Has.l0]
  refine Ev.neg (by omega) ?_
  simp only [List.drop_length, List.contains_nil]
  exact Ev.pure _
 ·intro i hi ih
  refine Ev.succ ?_
  simp only [PRef.netlabref32_Has.l0]
  refine Ev.pos (by omega) (Ev.pos (by omega) ?_)
  rw [drop_rd hi, wrap_succ hi (by omega), List.contains_cons]
  by_cases he : rd l i = x
  ·refine Ev.pos he ?_
   exact Ev.pureOf (by rw [he]; simp)
  ·refine Ev.neg he ?_
   have hb : (x == rd l i) = false := by simpa using fun h => he h.symm
   rw [hb, Bool.false_or]
   exact ih
theorem has_ev (l : List Int) (x : Int) (hl : l.length ≤ 1000000000) : Ev (fun k => PRef.netlabref32_Has.f k l x) (l.contains x) := has_ev0 l x hl 0 (Nat.zero_le _)
theorem legal_ev0 (l : List Int) (v : Int) (hl : l.length ≤ 1000000000) : ∀ i : Nat, i ≤ l.length → Ev (fun k => PRef.netlabref33_legal.l0 k l v (i : Int)) (!(l.drop i).any (badLit v)) := by
 refine down ?_ ?_
 ·refine Ev.succ ?_
  simp only [PRef.netlabref33_legal.l0]
  refine Ev.neg (by omega) ?_
  simp only [List.drop_length, List.any_nil]
  exact Ev.pure _
 ·intro i hi ih
  refine Ev.succ ?_
  simp only [PRef.netlabref33_legal.l0]
  refine Ev.pos (by omega) (Ev.pos (by omega) ?_)
  rw [drop_rd hi, wrap_succ hi (by omega), List.any_cons]
  by_cases h0 : rd l i = 0
  ·exact Ev.pos h0 (Ev.pureOf (by simp [badLit, h0]))
  refine Ev.neg h0 ?_
  by_cases h1 : rd l i < wrap64 (-v)
  ·exact Ev.pos h1 (Ev.pureOf (by simp [badLit, h1]))
  refine Ev.neg h1 ?_
  by_cases h2 : rd l i > v
  ·exact Ev.pos h2 (Ev.pureOf (by simp [badLit, h2]))
  refine Ev.neg h2 ?_
  have hb : badLit v (rd l i) = false := by simp only [badLit, Bool.or_eq_false_iff, beq_eq_false_iff_ne, decide_eq_false_iff_not]; exact ⟨⟨h0, h1⟩, h2⟩
  rw [hb, Bool.false_or]
  exact ih
theorem legal_ev (l : List Int) (v : Int) (hl : l.length ≤ 1000000000) : Ev (fun k => PRef.netlabref33_legal.f k l v) (!l.any (badLit v)) := legal_ev0 l v hl 0 (Nat.zero_le _)
theorem trivial_ev0 (l : List Int) (hl : l.length ≤ 1000000000) : ∀ i : Nat, i ≤ l.length → Ev (fun k => PRef.netlabref33_trivial.l0 k l (i : Int)) ((l.drop i).any fun x => l.contains (wrap64 (-x))) := by
 refine down ?_ ?_
 ·refine Ev.succ ?_
  simp only [PRef.netlabref33_trivial.l0]
  refine Ev.neg (by omega) ?_
  simp only [List.drop_length, List.any_nil]
  exact Ev.pure _
 ·intro i hi ih
  refine Ev.succ ?_
  simp only [PRef.netlabref33_trivial.l0]
  refine Ev.pos (by omega) (Ev.pos (by omega) (Ev.bind (has_ev _ _ hl) ?_))
  rw [drop_rd hi, wrap_succ hi (by omega), List.any_cons]
  by_cases h0 : l.contains (wrap64 (-(rd l i))) = true
  ·exact Ev.pos h0 (Ev.pureOf (by rw [h0]; rfl))
  refine Ev.neg h0 ?_
  rw [Bool.not_eq_true] at h0
  rw [h0, Bool.false_or]
  exact ih
theorem trivial_ev (l : List Int) (hl : l.length ≤ 1000000000) : Ev (fun k => PRef.netlabref33_trivial.f k l) (l.any fun x => l.contains (wrap64 (-x))) := trivial_ev0 l hl 0 (Nat.zero_le _)
theorem negated_ev0 (l : List Int) (hl : l.length ≤ 1000000000) : ∀ i : Nat, i ≤ l.length → Ev (fun k => PRef.netlabref33_negated.l0 k l ((l.take i).map fun x => wrap64 (-x)) (i : Int)) (l.map fun x => wrap64 (-x)) := by
 refine down ?_ ?_
 ·refine Ev.succ ?_
  simp only [PRef.netlabref33_negated.l0]
  refine Ev.neg (by omega) ?_
  rw [List.take_length]
  exact Ev.pure _
 ·intro i hi ih
  refine Ev.succ ?_
  simp only [PRef.netlabref33_negated.l0]
  refine Ev.pos (by omega) (Ev.pos (by omega) (Ev.pos (by simp; omega) ?_))
  rw [wrap_succ hi (by omega)]
  rw [List.take_succ_eq_append_getElem hi, List.map_append] at ih
  have e : rd l i = l[i] := by simp [rd, List.getD, hi]
  rw [e]
  exact ih
theorem negated_ev (l : List Int) (hl : l.length ≤ 1000000000) : Ev (fun k => PRef.netlabref33_negated.f k l) (l.map fun x => wrap64 (-x)) := by
 exact negated_ev0 l hl 0 (Nat.zero_le _)
def openL (A : List Int) : List Int → List Int → List Int
 | out, [] => out
 | out, x :: xs => if A.contains (wrap64 (-x)) then openL A out xs else if out.contains x then openL A out xs else openL A (out ++ [x]) xs
theorem open_ev0 (l A : List Int) (hl : l.length ≤ 1000000000) (hA : A.length ≤ 1000000000) : ∀ i : Nat, i ≤ l.length → ∀ out : List Int, out.length ≤ i → Ev (fun k => PRef.netlabref33_open.l0 k l A out (i : Int)) (openL A out (l.drop i)) := by
 refine down ?_ ?_
 ·intro out ho
  refine Ev.succ ?_
  simp only [PRef.netlabref33_open.l0]
  refine Ev.neg (by omega) ?_
  rw [List.drop_length]
  exact Ev.pure _
 ·intro i hi ih out ho
  refine Ev.succ ?_
  simp only [PRef.netlabref33_open.l0]
  refine Ev.pos (by omega) (Ev.pos (by omega) (Ev.bind (has_ev _ _ hA) ?_))
  rw [drop_rd hi, wrap_succ hi (by omega), openL]
  by_cases h0 : A.contains (wrap64 (-(rd l i))) = true
  ·rw [if_pos h0]
   exact Ev.pos h0 (ih out (by omega))
  rw [if_neg h0]
  refine Ev.neg h0 (Ev.bind (has_ev _ _ (by omega)) ?_)
  by_cases h1 : out.contains (rd l i) = true
  ·rw [if_pos h1]
   exact Ev.pos h1 (ih out (by omega))
  rw [if_neg h1]
  refine Ev.neg h1 (Ev.pos (by omega) ?_)
  exact ih _ (by simp; omega)
theorem open_ev (l A : List Int) (hl : l.length ≤ 1000000000) (hA : A.length ≤ 1000000000) : Ev (fun k => PRef.netlabref33_open.f k l A) (openL A [] l) := open_ev0 l A hl hA 0 (Nat.zero_le _) [] (Nat.le_refl _)
theorem eqInts_ev0 (l : List Int) (hl : l.length ≤ 1000000000) : ∀ i : Nat, i ≤ l.length → Ev (fun k => PEqInts.netlabref32_EqInts.l0 k l l (i : Int)) true := by
 refine down ?_ ?_
 ·refine Ev.succ ?_
  simp only [PEqInts.netlabref32_EqInts.l0]
  exact Ev.neg (by omega) (Ev.pure _)
 ·intro i hi ih
  refine Ev.succ ?_
  simp only [PEqInts.netlabref32_EqInts.l0]
  refine Ev.pos (by omega) (Ev.pos (by omega) (Ev.pos (by omega) ?_))
  rw [wrap_succ hi (by omega)]
  simp only [if_true]
  exact ih
theorem eqInts_ev (l : List Int) (hl : l.length ≤ 1000000000) : Ev (fun k => PEqInts.netlabref32_EqInts.f k l l) true := by
 simp only [PEqInts.netlabref32_EqInts.f]
 exact Ev.pos trivial (eqInts_ev0 l hl 0 (Nat.zero_le _))
end Go.Proofs.YtogicccdngpafaaGreatDoor.NPlain
end
section
namespace Go.Proofs.YtogicccdngpafaaGreatDoor.NPlain
open Go Go.RowKit Go.Proofs.YtogicccdngpafaaGreatDoorW.PrintWords Go.Proofs.YtogicccdngpafaaGreatDoorW.PrintLast Go.Proofs.YtogicccdngpafaaGreatDoorW.PrintMore Go.Proofs.YtogicccdngpafaaGreatDoor.NState
def codeL : List Int → Int × Int
 | [] => (0, 0)
 | [x] => (x, 1)
 | _ :: _ :: _ => (0, 2)
theorem openL_len (A : List Int) : ∀ (l out : List Int), out.length ≤ (openL A out l).length
 | [], out => Nat.le_refl _
 | x :: xs, out => by
  rw [openL]
  split
  ·exact openL_len A xs out
  split
  ·exact openL_len A xs out
  ·have := openL_len A xs (out ++ [x])
   simp at this
   omega
theorem codeL_two {l : List Int} (h : 2 ≤ l.length) : codeL l = (0, 2) := by
 match l, h with
 | _ :: _ :: _, _ => rfl
theorem left_open1 {S A : List Int} (hS : ∀ x, S.contains x = A.contains x) : ∀ (l : List Int) (x : Int), leftL S x 1 l = codeL (openL A [x] l)
 | [], x => rfl
 | y :: ys, x => by
  rw [leftL, openL, hS]
  by_cases h0 : A.contains (wrap64 (-y)) = true
  ·rw [if_pos h0, if_pos (by rw [h0]; rfl)]
   exact left_open1 hS ys x
  rw [if_neg h0]
  rw [Bool.not_eq_true] at h0
  rw [h0]
  by_cases h1 : y = x
  ·subst h1
   rw [if_pos (by simp), if_pos (by simp)]
   exact left_open1 hS ys y
  ·have hb : (y == x) = false := by simpa using h1
   have hc : [x].contains y = false := by simp [h1]
   simp only [hb, hc, Bool.and_false, Bool.or_false, Bool.false_eq_true, if_false, if_true]
   exact (codeL_two (Nat.le_trans (by simp) (openL_len A ys ([x] ++ [y])))).symm
theorem left_open {S A : List Int} (hS : ∀ x, S.contains x = A.contains x) : ∀ (l : List Int), leftL S 0 0 l = codeL (openL A [] l)
 | [] => rfl
 | y :: ys => by
  rw [leftL, openL, hS]
  by_cases h0 : A.contains (wrap64 (-y)) = true
  ·rw [if_pos h0, if_pos (by rw [h0]; rfl)]
   exact left_open hS ys
  rw [if_neg h0]
  rw [Bool.not_eq_true] at h0
  rw [h0, if_neg (by simp), if_neg (by simp), if_neg (by simp)]
  exact left_open1 hS ys y
def free (S : List Int) (L : List Int) : Nat := (L.filter fun x => !S.contains x).length
theorem assume_eq : ∀ (l S : List Int), (∀ x ∈ l, x ≠ 0 ∧ wrap64 (-x) = -x) → assumeL S l = if (l.any fun x => S.contains x) || (l.any fun x => l.contains (wrap64 (-x))) then none else some ((l.map fun x => wrap64 (-x)).reverse ++ S)
 | [], S, _ => by simp [assumeL]
 | x :: xs, S, h => by
  have hx := h x List.mem_cons_self
  have hxs : ∀ y ∈ xs, y ≠ 0 ∧ wrap64 (-y) = -y := fun y hy => h y (List.mem_cons_of_mem _ hy)
  rw [assumeL]
  by_cases hs : S.contains x = true
  ·rw [if_pos hs, if_pos (by simp only [List.any_cons, hs]; rfl)]
  rw [if_neg hs, assume_eq xs _ hxs]
  rw [Bool.not_eq_true] at hs
  have e : ((xs.any fun y => (wrap64 (-x) :: S).contains y) || (xs.any fun y => xs.contains (wrap64 (-y)))) = (((x :: xs).any fun y => S.contains y) || ((x :: xs).any fun y => (x :: xs).contains (wrap64 (-y)))) := by
   rw [Bool.eq_iff_iff]
   simp only [List.any_cons, hs, Bool.false_or, Bool.or_eq_true, List.any_eq_true, List.contains_cons, beq_iff_eq, List.contains_iff_mem]
   rw [hx.2]
   constructor
   ·rintro (⟨y, hy, rfl | h1⟩ | ⟨y, hy, h1⟩)
    ·exact .inr (.inl (.inr hy))
    ·exact .inl ⟨y, hy, h1⟩
    ·exact .inr (.inr ⟨y, hy, .inr h1⟩)
   ·rintro (⟨y, hy, h1⟩ | (h1 | h1) | ⟨y, hy, h1 | h1⟩)
    ·exact .inl ⟨y, hy, .inr h1⟩
    ·exact absurd h1 (by have := hx.1; omega)
    ·exact .inl ⟨_, h1, .inl rfl⟩
    ·rw [(hxs y hy).2] at h1
     exact .inl ⟨y, hy, .inl (by omega)⟩
    ·exact .inr ⟨y, hy, h1⟩
  rw [e]
  split
  ·rfl
  ·simp
end Go.Proofs.YtogicccdngpafaaGreatDoor.NPlain
end
section
namespace Go.Proofs.YtogicccdngpafaaGreatDoor.NPlain
open Go Go.RowKit Go.Proofs.YtogicccdngpafaaGreatDoorW.PrintWords Go.Proofs.YtogicccdngpafaaGreatDoorW.PrintLast Go.Proofs.YtogicccdngpafaaGreatDoorW.PrintMore Go.Proofs.YtogicccdngpafaaGreatDoor.NState
def tot (cls : List (List Int)) : Nat := (cls.map List.length).sum
def chkL (vars : Int) (cls : List (List Int)) : Int :=
 if vars < 0 then 1 else if vars > 4096 ∨ cls.length > 16384 ∨ tot cls > 65536 then 5 else if cls.any (fun l => l.any (badLit vars)) then 1 else 0
theorem exists_ref (x v : Int) : PRef.netlabref32_legal.f x v = some (!badLit v x) := by
 unfold PRef.netlabref32_legal.f badLit
 by_cases h0 : x = 0
 ·simp [h0]
 by_cases h1 : x ≥ wrap64 (-v)
 ·rw [if_neg h0, if_pos h1]
  have e1 : (x == 0) = false := by simpa using h0
  have e2 : decide (x < wrap64 (-v)) = false := by simpa using h1
  rw [e1, e2]
  by_cases h2 : x ≤ v
  ·have e3 : decide (x > v) = false := by simpa using h2
   rw [e3]; simp [h2]
  ·have e3 : decide (x > v) = true := by simpa using h2
   rw [e3]; simp [h2]
 ·rw [if_neg h0, if_neg h1]
  have e2 : decide (x < wrap64 (-v)) = true := by simpa using h1
  rw [e2]; simp
theorem exists_code (x v : Int) : PCheck.cnf_exists.f x v = some (!badLit v x) := exists_ref x v
theorem check_ref2 (vars : Int) (cls : List (List Int)) (hc : cls.length ≤ 1000000000) (hl : ∀ l ∈ cls, l.length ≤ 1000000000) {r : Int} (i : Nat) (hi : i < cls.length) (h : Ev (fun k => PRef.netlabref32_Check.l1 k ((i + 1 : Nat) : Int) vars cls) r) :
  ∀ j : Nat, j ≤ (PRef.rd_L1 cls i).length → Ev (fun k => PRef.netlabref32_Check.l2 k (i : Int) (j : Int) vars cls) (if ((PRef.rd_L1 cls i).drop j).any (badLit vars) then 1 else r) := by
 have hlen : (PRef.rd_L1 cls i).length ≤ 1000000000 := by
  have e : PRef.rd_L1 cls i = cls[i] := by simp [PRef.rd_L1, List.getD, hi]
  rw [e]; exact hl _ (List.getElem_mem _)
 refine down ?_ ?_
 ·refine Ev.succ ?_
  simp only [PRef.netlabref32_Check.l2]
  refine Ev.pos (by omega) (Ev.pos (by omega) (Ev.neg (by omega) ?_))
  rw [List.drop_length, wrap_succ hi (by omega)]
  exact h
 ·intro j hj ih
  refine Ev.succ ?_
  simp only [PRef.netlabref32_Check.l2]
  refine Ev.pos (by omega) (Ev.pos (by omega) (Ev.pos (by omega) (Ev.pos (by omega) ?_)))
  rw [exists_ref, drop_rd hj, wrap_succ hj (by omega)]
  rw [List.any_cons]
  simp only [Option.bind_some]
  by_cases hb : badLit vars (rd (PRef.rd_L1 cls i) j) = true
  ·rw [hb]
   exact Ev.neg (by simp) (Ev.pureOf (by simp))
  ·rw [Bool.not_eq_true] at hb
   rw [hb]
   refine Ev.pos (by simp) ?_
   rw [Bool.false_or]
   exact ih
theorem check_ref1 (vars : Int) (cls : List (List Int)) (hc : cls.length ≤ 1000000000) (hl : ∀ l ∈ cls, l.length ≤ 1000000000) : ∀ i : Nat, i ≤ cls.length → Ev (fun k => PRef.netlabref32_Check.l1 k (i : Int) vars cls) (if (cls.drop i).any (fun l => l.any (badLit vars)) then 1 else 0) := by
 refine down ?_ ?_
 ·refine Ev.succ ?_
  simp only [PRef.netlabref32_Check.l1]
  rw [List.drop_length]
  exact Ev.neg (by omega) (Ev.pure _)
 ·intro i hi ih
  refine Ev.succ ?_
  simp only [PRef.netlabref32_Check.l1]
  refine Ev.pos (by omega) ?_
  have h2 := check_ref2 vars cls hc hl i hi ih 0 (Nat.zero_le _)
  rw [rdL hi, List.any_cons]
  rw [List.drop_zero] at h2
  by_cases hb : ((PRef.rd_L1 cls i).any (badLit vars)) = true
  ·rw [hb] at h2 ⊢; exact h2
  ·rw [Bool.not_eq_true] at hb
   rw [hb] at h2 ⊢
   rw [Bool.false_or]
   exact h2
theorem tot_drop {cls : List (List Int)} {i : Nat} (hi : i < cls.length) : tot (cls.drop i) = (PRef.rd_L1 cls i).length + tot (cls.drop (i + 1)) := by
 rw [rdL hi]; simp [tot]
theorem check_ref (vars : Int) (cls : List (List Int)) (hc : cls.length ≤ 1000000000) (ht : tot cls ≤ 1000000000) (hl : ∀ l ∈ cls, l.length ≤ 1000000000) : Ev (fun k => PRef.netlabref32_Check.f k vars cls) (chkL vars cls) := by
 unfold chkL PRef.netlabref32_Check.f
 by_cases h0 : vars < 0
 ·rw [if_pos h0]; exact Ev.pos h0 (Ev.pure _)
 rw [if_neg h0]
 refine Ev.neg h0 ?_
 have key : ∀ i : Nat, i ≤ cls.length → ∀ s : Nat, s + tot (cls.drop i) = tot cls → Ev (fun k => PRef.netlabref32_Check.l0 k (s : Int) (i : Int) vars cls) (if vars > 4096 ∨ cls.length > 16384 ∨ tot cls > 65536 then 5 else if cls.any (fun l => l.any (badLit vars)) then 1 else 0) := by
  refine down ?_ ?_
  ·intro s hs
   have hs' : s = tot cls := by rw [List.drop_length] at hs; simpa [tot] using hs
   refine Ev.succ ?_
   simp only [PRef.netlabref32_Check.l0]
   refine Ev.neg (by omega) ?_
   have h5 : ∀ x37 : Bool, (x37 = true → (vars > 4096 ∨ cls.length > 16384 ∨ tot cls > 65536)) → (x37 = false → ¬ (vars > 4096 ∨ cls.length > 16384 ∨ tot cls > 65536)) → Ev (fun k => PRef.netlabref32_Check.j1 k x37 vars cls) (if vars > 4096 ∨ cls.length > 16384 ∨ tot cls > 65536 then 5 else if cls.any (fun l => l.any (badLit vars)) then 1 else 0) := by
    intro b hb1 hb2
    refine Ev.succ ?_
    simp only [PRef.netlabref32_Check.j1]
    cases b with
    | true => rw [if_pos (hb1 rfl)]; exact Ev.pos rfl (Ev.pure _)
    | false =>
     rw [if_neg (hb2 rfl)]
     exact Ev.neg (by simp) (by have := check_ref1 vars cls hc hl 0 (Nat.zero_le _); rwa [List.drop_zero] at this)
   by_cases c1 : vars > 4096
   ·exact Ev.pos c1 (h5 true (fun _ => .inl c1) (fun h => by cases h))
   refine Ev.neg c1 ?_
   by_cases c2 : (cls.length : Int) > 16384
   ·exact Ev.pos c2 (h5 true (fun _ => .inr (.inl (by omega))) (fun h => by cases h))
   refine Ev.neg c2 ?_
   refine h5 _ (fun h => ?_) (fun h => ?_)
   ·have := of_decide_eq_true h; omega
   ·have := of_decide_eq_false h; omega
  ·intro i hi ih s hs
   rw [tot_drop hi] at hs
   refine Ev.succ ?_
   simp only [PRef.netlabref32_Check.l0]
   refine Ev.pos (by omega) (Ev.pos (by omega) ?_)
   have e : wrap64 ((s : Int) + ((PRef.rd_L1 cls i).length : Int)) = ((s + (PRef.rd_L1 cls i).length : Nat) : Int) := by rw [wid (by omega) (by omega)]; omega
   rw [e, wrap_succ hi (by omega)]
   exact ih _ (by omega)
 exact key 0 (Nat.zero_le _) 0 (by rw [List.drop_zero]; omega)
theorem check_code2 (vars : Int) (cls : List (List Int)) (hc : cls.length ≤ 1000000000) (hl : ∀ l ∈ cls, l.length ≤ 1000000000) {r : Int} (i : Nat) (hi : i < cls.length) (h : Ev (fun k => PCheck.cnf_Check.l1 k cls (cls.length : Int) ((i + 1 : Nat) : Int) vars cls) r) :
  ∀ j : Nat, j ≤ (PCheck.rd_L1 cls i).length → Ev (fun k => PCheck.cnf_Check.l2 k cls (cls.length : Int) (i : Int) (PCheck.rd_L1 cls i) ((PCheck.rd_L1 cls i).length : Int) (j : Int) vars cls) (if ((PCheck.rd_L1 cls i).drop j).any (badLit vars) then 1 else r) := by
 have hlen : (PCheck.rd_L1 cls i).length ≤ 1000000000 := by
  have e : PCheck.rd_L1 cls i = cls[i] := by simp [PCheck.rd_L1, List.getD, hi]
  rw [e]; exact hl _ (List.getElem_mem _)
 refine down ?_ ?_
 ·refine Ev.succ ?_
  simp only [PCheck.cnf_Check.l2]
  refine Ev.neg (by omega) ?_
  rw [List.drop_length, wrap_succ hi (by omega)]
  exact h
 ·intro j hj ih
  refine Ev.succ ?_
  simp only [PCheck.cnf_Check.l2]
  refine Ev.pos (by omega) (Ev.pos (by omega) (Ev.pos (by omega) ?_))
  rw [exists_code, drop_rd hj, wrap_succ hj (by omega)]
  rw [List.any_cons]
  simp only [Option.bind_some]
  by_cases hb : badLit vars (rd (PCheck.rd_L1 cls i) j) = true
  ·rw [hb]
   exact Ev.neg (by simp) (Ev.pureOf (by simp))
  ·rw [Bool.not_eq_true] at hb
   rw [hb]
   refine Ev.pos (by simp) ?_
   rw [Bool.false_or]
   exact ih
theorem check_code1 (vars : Int) (cls : List (List Int)) (hc : cls.length ≤ 1000000000) (hl : ∀ l ∈ cls, l.length ≤ 1000000000) : ∀ i : Nat, i ≤ cls.length → Ev (fun k => PCheck.cnf_Check.l1 k cls (cls.length : Int) (i : Int) vars cls) (if (cls.drop i).any (fun l => l.any (badLit vars)) then 1 else 0) := by
 refine down ?_ ?_
 ·refine Ev.succ ?_
  simp only [PCheck.cnf_Check.l1]
  rw [List.drop_length]
  exact Ev.neg (by omega) (Ev.pure _)
 ·intro i hi ih
  refine Ev.succ ?_
  simp only [PCheck.cnf_Check.l1]
  refine Ev.pos (by omega) (Ev.pos (by omega) (Ev.pos (by omega) ?_))
  have h2 := check_code2 vars cls hc hl i hi ih 0 (Nat.zero_le _)
  rw [rdL hi, List.any_cons]
  rw [List.drop_zero] at h2
  have e : PRef.rd_L1 cls i = PCheck.rd_L1 cls i := rfl
  rw [e]
  by_cases hb : ((PCheck.rd_L1 cls i).any (badLit vars)) = true
  ·rw [hb] at h2 ⊢; exact h2
  ·rw [Bool.not_eq_true] at hb
   rw [hb] at h2 ⊢
   rw [Bool.false_or]
   exact h2
theorem check_code (vars : Int) (cls : List (List Int)) (hc : cls.length ≤ 1000000000) (ht : tot cls ≤ 1000000000) (hl : ∀ l ∈ cls, l.length ≤ 1000000000) : Ev (fun k => PCheck.cnf_Check.f k vars cls) (chkL vars cls) := by
 unfold chkL PCheck.cnf_Check.f
 by_cases h0 : vars < 0
 ·rw [if_pos h0]; exact Ev.pos h0 (Ev.pure _)
 rw [if_neg h0]
 refine Ev.neg h0 ?_
 have key : ∀ i : Nat, i ≤ cls.length → ∀ s : Nat, s + tot (cls.drop i) = tot cls → Ev (fun k => PCheck.cnf_Check.l0 k (s : Int) cls (cls.length : Int) (i : Int) vars cls) (if vars > 4096 ∨ cls.length > 16384 ∨ tot cls > 65536 then 5 else if cls.any (fun l => l.any (badLit vars)) then 1 else 0) := by
  refine down ?_ ?_
  ·intro s hs
   have hs' : s = tot cls := by rw [List.drop_length] at hs; simpa [tot] using hs
   refine Ev.succ ?_
   simp only [PCheck.cnf_Check.l0]
   refine Ev.neg (by omega) ?_
   have h5 : ∀ x37 : Bool, (x37 = true → (vars > 4096 ∨ cls.length > 16384 ∨ tot cls > 65536)) → (x37 = false → ¬ (vars > 4096 ∨ cls.length > 16384 ∨ tot cls > 65536)) → Ev (fun k => PCheck.cnf_Check.j1 k x37 vars cls) (if vars > 4096 ∨ cls.length > 16384 ∨ tot cls > 65536 then 5 else if cls.any (fun l => l.any (badLit vars)) then 1 else 0) := by
    intro b hb1 hb2
    refine Ev.succ ?_
    simp only [PCheck.cnf_Check.j1]
    cases b with
    | true => rw [if_pos (hb1 rfl)]; exact Ev.pos rfl (Ev.pure _)
    | false =>
     rw [if_neg (hb2 rfl)]
     exact Ev.neg (by simp) (by have := check_code1 vars cls hc hl 0 (Nat.zero_le _); rwa [List.drop_zero] at this)
   by_cases c1 : vars > 4096
   ·exact Ev.pos c1 (h5 true (fun _ => .inl c1) (fun h => by cases h))
   refine Ev.neg c1 ?_
   by_cases c2 : (cls.length : Int) > 16384
   ·exact Ev.pos c2 (h5 true (fun _ => .inr (.inl (by omega))) (fun h => by cases h))
   refine Ev.neg c2 ?_
   refine h5 _ (fun h => ?_) (fun h => ?_)
   ·have := of_decide_eq_true h; omega
   ·have := of_decide_eq_false h; omega
  ·intro i hi ih s hs
   rw [tot_drop hi] at hs
   refine Ev.succ ?_
   simp only [PCheck.cnf_Check.l0]
   refine Ev.pos (by omega) (Ev.pos (by omega) (Ev.pos (by omega) ?_))
   have e : wrap64 ((s : Int) + ((PCheck.rd_L1 cls i).length : Int)) = ((s + (PRef.rd_L1 cls i).length : Nat) : Int) := by rw [wid (by have e : PCheck.rd_L1 cls i = PRef.rd_L1 cls i := rfl; rw [e]; omega) (by have e : PCheck.rd_L1 cls i = PRef.rd_L1 cls i := rfl; rw [e]; omega)]; have e : PCheck.rd_L1 cls i = PRef.rd_L1 cls i := rfl; rw [e]; omega
   rw [e, wrap_succ hi (by omega)]
   exact ih _ (by omega)
 exact key 0 (Nat.zero_le _) 0 (by rw [List.drop_zero]; omega)
theorem len_tot {cls : List (List Int)} {l : List Int} (h : l ∈ cls) : l.length ≤ tot cls := by
 induction cls with
 | nil => cases h
 | cons x xs ih =>
  simp only [tot, List.map_cons, List.sum_cons] at ih ⊢
  rcases List.mem_cons.1 h with rfl | h
  ·omega
  ·have := ih h; omega
def fewL (most : Nat) (cls : List (List Int)) : List (List Int) := (cls.take most).map fun l => l.take 12
theorem fewL_len (most : Nat) (cls : List (List Int)) : (fewL most cls).length ≤ most := by simp [fewL]; omega
theorem fewL_tot (most : Nat) (cls : List (List Int)) : tot (fewL most cls) ≤ 12 * most := by
 unfold tot fewL
 rw [List.map_map]
 have h : ∀ (n : Nat) (L : List (List Int)), L.length ≤ n → (L.map (List.length ∘ fun l => l.take 12)).sum ≤ 12 * n := by
  intro n
  induction n with
  | zero => intro L hL; have : L = [] := List.eq_nil_of_length_eq_zero (by omega); subst this; simp
  | succ n ih =>
   intro L hL
   cases L with
   | nil => simp
   | cons x xs =>
    have := ih xs (by simp at hL; omega)
    simp only [List.map_cons, List.sum_cons, Function.comp_apply, List.length_take]
    omega
 exact h most _ (by simp; omega)
theorem rdF {l : List (List Int)} {k : Nat} (h : k < l.length) : PFew.rd_L1 l k = l[k] := by simp [PFew.rd_L1, List.getD, h]
theorem few_ev (most : Nat) (hm : most ≤ 100000) (vars : Int) (cls : List (List Int)) : Ev (fun k => PFew.netlabref32_Few.f k vars cls (most : Int)) (vars, fewL most cls) := by
 have key : ∀ i : Nat, i ≤ min most cls.length → Ev (fun k => PFew.netlabref32_Few.l0 k (most : Int) (i : Int) vars cls vars ((cls.take i).map fun l => l.take 12)) (vars, fewL most cls) := by
  refine down ?_ ?_
  ·refine Ev.succ ?_
   simp only [PFew.netlabref32_Few.l0]
   have e : (cls.take (min most cls.length)).map (fun l => l.take 12) = fewL most cls := by
    unfold fewL
    congr 1
    rw [List.take_eq_take_iff]
    omega
   rw [e]
   by_cases h : most < cls.length
   ·exact Ev.pos (by omega) (Ev.neg (by omega) (Ev.pure _))
   ·exact Ev.neg (by omega) (Ev.pure _)
  ·intro i hi ih
   refine Ev.succ ?_
   simp only [PFew.netlabref32_Few.l0]
   have hic : i < cls.length := by omega
   rw [rdF hic, wrap_succ (n := 100000) (by omega) (by omega)]
   have hmn : mn ((cls[i].length : Nat) : Int) 12 = ((min cls[i].length 12 : Nat) : Int) := by unfold mn; split <;> omega
   rw [hmn]
   refine Ev.pos (by omega) (Ev.pos (by omega) (Ev.pos (by omega) (Ev.pos (by omega) (Ev.pos (by omega) (Ev.pos (by simp; omega) (Ev.pos (by simp; omega) ?_))))))
   have e : (cls.take i).map (fun l => l.take 12) ++ [([] : List Int) ++ cls[i].take ((min cls[i].length 12 : Nat) : Int).toNat] = (cls.take (i + 1)).map (fun l => l.take 12) := by
    rw [List.take_succ_eq_append_getElem hic, List.map_append]
    congr 1
    simp only [List.map_cons, List.map_nil, List.nil_append, Int.toNat_natCast]
    congr 1
    rw [List.take_eq_take_iff]
    omega
   rw [e]
   exact ih
 exact key 0 (Nat.zero_le _)
end Go.Proofs.YtogicccdngpafaaGreatDoor.NPlain
end
