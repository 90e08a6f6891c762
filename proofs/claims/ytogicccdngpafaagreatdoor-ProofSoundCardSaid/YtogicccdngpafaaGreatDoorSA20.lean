/-
  Part 20 of the proof of proofSound_card: walks and lemmas, packed by the session's own wip/pack.py out of its texts and of what the kit's print.sh printed.
-/
import Derived.Test.YtogicccdngpafaaGreatDoorSA7
import Derived.Test.YtogicccdngpafaaGreatDoorSA17
set_option linter.unusedVariables false
set_option linter.unusedSimpArgs false
section
set_option maxRecDepth 100000
namespace Go.Proofs.YtogicccdngpafaaGreatDoor.NPlain
open Go Go.RowKit QW.PrintWords QW.PrintLast QW.PrintMore NState
def tot (cls : List (List Int)) : Nat := (cls.map List.length).sum
def chkL (vars : Int) (cls : List (List Int)) : Int :=
 if vars < 0 then 1 else if vars > 4096 ∨ cls.length > 16384 ∨ tot cls > 65536 then 5 else if cls.any (fun l => l.any (badLit vars)) then 1 else 0
theorem exists_ref (x v : Int) : PRef.netlabref32_legal.f x v = some (!badLit v x) := by
 unfold PRef.netlabref32_legal.f badLit
 by_cases h0 : x = 0
 ·simp [h0]
 by_cases h1 : x ≥ wrap64 (-v)
 ·rw [if_neg h0, if_pos h1]
  have e1 : (x == 0) = false := by simpa using h0
  have e2 : decide (x < wrap64 (-v)) = false := by simpa using h1
  rw [e1, e2]
  by_cases h2 : x ≤ v
  ·have e3 : decide (x > v) = false := by simpa using h2
   rw [e3]; simp [h2]
  ·have e3 : decide (x > v) = true := by simpa using h2
   rw [e3]; simp [h2]
 ·rw [if_neg h0, if_neg h1]
  have e2 : decide (x < wrap64 (-v)) = true := by simpa using h1
  rw [e2]; simp
theorem exists_code (x v : Int) : PCheck.cnf_exists.f x v = some (!badLit v x) := exists_ref x v
theorem tot_drop {cls : List (List Int)} {i : Nat} (hi : i < cls.length) : tot (cls.drop i) = (PRef.rL cls i).length + tot (cls.drop (i + 1)) := by
 rw [rdL hi]; simp [tot]
theorem check_code2 (vars : Int) (cls : List (List Int)) (hc : cls.length ≤ 1000000000) (hl : ∀ l ∈ cls, l.length ≤ 1000000000) {r : Int} (i : Nat) (hi : i < cls.length) (h : Ev (fun k => PCheck.cnf_Check.l1 k cls (cls.length : Int) ((i + 1 : Nat) : Int) vars cls) r) :
  ∀ j : Nat, j ≤ (PCheck.rL cls i).length → Ev (fun k => PCheck.cnf_Check.l2 k cls (cls.length : Int) (i : Int) (PCheck.rL cls i) ((PCheck.rL cls i).length : Int) (j : Int) vars cls) (if ((PCheck.rL cls i).drop j).any (badLit vars) then 1 else r) := by
 have hlen : (PCheck.rL cls i).length ≤ 1000000000 := by
  have e : PCheck.rL cls i = cls[i] := by simp [PCheck.rL, List.getD, hi]
  rw [e]; exact hl _ (List.getElem_mem _)
 refine down ?_ ?_
 ·refine Ev.succ ?_
  simp only [PCheck.cnf_Check.l2]
  refine Ev.neg (by omega) ?_
  rw [List.drop_length, wrap_succ hi (by omega)]
  exact h
 ·intro j hj ih
  refine Ev.succ ?_
  simp only [PCheck.cnf_Check.l2]
  refine Ev.pos (by omega) (Ev.pos (by omega) (Ev.pos (by omega) ?_))
  rw [exists_code, drop_rd hj, wrap_succ hj (by omega)]
  rw [List.any_cons]
  simp only [Option.bind_some]
  by_cases hb : badLit vars (rd (PCheck.rL cls i) j) = true
  ·rw [hb]
   exact Ev.neg (by simp) (Ev.pureOf (by simp))
  ·rw [Bool.not_eq_true] at hb
   rw [hb]
   refine Ev.pos (by simp) ?_
   rw [Bool.false_or]
   exact ih
theorem check_code1 (vars : Int) (cls : List (List Int)) (hc : cls.length ≤ 1000000000) (hl : ∀ l ∈ cls, l.length ≤ 1000000000) : ∀ i : Nat, i ≤ cls.length → Ev (fun k => PCheck.cnf_Check.l1 k cls (cls.length : Int) (i : Int) vars cls) (if (cls.drop i).any (fun l => l.any (badLit vars)) then 1 else 0) := by
 refine down ?_ ?_
 ·refine Ev.succ ?_
  simp only [PCheck.cnf_Check.l1]
  rw [List.drop_length]
  exact Ev.neg (by omega) (Ev.pure _)
 ·intro i hi ih
  refine Ev.succ ?_
  simp only [PCheck.cnf_Check.l1]
  refine Ev.pos (by omega) (Ev.pos (by omega) (Ev.pos (by omega) ?_))
  have h2 := check_code2 vars cls hc hl i hi ih 0 (Nat.zero_le _)
  rw [rdL hi, List.any_cons]
  rw [List.drop_zero] at h2
  have e : PRef.rL cls i = PCheck.rL cls i := rfl
  rw [e]
  by_cases hb : ((PCheck.rL cls i).any (badLit vars)) = true
  ·rw [hb] at h2 ⊢; exact h2
  ·rw [Bool.not_eq_true] at hb
   rw [hb] at h2 ⊢
   rw [Bool.false_or]
   exact h2
theorem check_code (vars : Int) (cls : List (List Int)) (hc : cls.length ≤ 1000000000) (ht : tot cls ≤ 1000000000) (hl : ∀ l ∈ cls, l.length ≤ 1000000000) : Ev (fun k => PCheck.cnf_Check.f k vars cls) (chkL vars cls) := by
 unfold chkL PCheck.cnf_Check.f
 by_cases h0 : vars < 0
 ·rw [if_pos h0]; exact Ev.pos h0 (Ev.pure _)
 rw [if_neg h0]
 refine Ev.neg h0 ?_
 have key : ∀ i : Nat, i ≤ cls.length → ∀ s : Nat, s + tot (cls.drop i) = tot cls → Ev (fun k => PCheck.cnf_Check.l0 k (s : Int) cls (cls.length : Int) (i : Int) vars cls) (if vars > 4096 ∨ cls.length > 16384 ∨ tot cls > 65536 then 5 else if cls.any (fun l => l.any (badLit vars)) then 1 else 0) := by
  refine down ?_ ?_
  ·intro s hs
   have hs' : s = tot cls := by rw [List.drop_length] at hs; simpa [tot] using hs
   refine Ev.succ ?_
   simp only [PCheck.cnf_Check.l0]
   refine Ev.neg (by omega) ?_
   have h5 : ∀ x37 : Bool, (x37 = true → (vars > 4096 ∨ cls.length > 16384 ∨ tot cls > 65536)) → (x37 = false → ¬ (vars > 4096 ∨ cls.length > 16384 ∨ tot cls > 65536)) → Ev (fun k => PCheck.cnf_Check.j1 k x37 vars cls) (if vars > 4096 ∨ cls.length > 16384 ∨ tot cls > 65536 then 5 else if cls.any (fun l => l.any (badLit vars)) then 1 else 0) := by
    intro b hb1 hb2
    refine Ev.succ ?_
    simp only [PCheck.cnf_Check.j1]
    cases b with
    | true => rw [if_pos (hb1 rfl)]; exact Ev.pos rfl (Ev.pure _)
    | false =>
     rw [if_neg (hb2 rfl)]
     exact Ev.neg (by simp) (by have := check_code1 vars cls hc hl 0 (Nat.zero_le _); rwa [List.drop_zero] at this)
   by_cases c1 : vars > 4096
   ·exact Ev.pos c1 (h5 true (fun _ => .inl c1) (fun h => by cases h))
   refine Ev.neg c1 ?_
   by_cases c2 : (cls.length : Int) > 16384
   ·exact Ev.pos c2 (h5 true (fun _ => .inr (.inl (by omega))) (fun h => by cases h))
   refine Ev.neg c2 ?_
   refine h5 _ (fun h => ?_) (fun h => ?_)
   ·have := of_decide_eq_true h; omega
   ·have := of_decide_eq_false h; omega
  ·intro i hi ih s hs
   rw [tot_drop hi] at hs
   refine Ev.succ ?_
   simp only [PCheck.cnf_Check.l0]
   refine Ev.pos (by omega) (Ev.pos (by omega) (Ev.pos (by omega) ?_))
   have e : wrap64 ((s : Int) + ((PCheck.rL cls i).length : Int)) = ((s + (PRef.rL cls i).length : Nat) : Int) := by rw [wid (by have e : PCheck.rL cls i = PRef.rL cls i := rfl; rw [e]; omega) (by have e : PCheck.rL cls i = PRef.rL cls i := rfl; rw [e]; omega)]; have e : PCheck.rL cls i = PRef.rL cls i := rfl; rw [e]; omega
   rw [e, wrap_succ hi (by omega)]
   exact ih _ (by omega)
 exact key 0 (Nat.zero_le _) 0 (by rw [List.drop_zero]; omega)
def fewL (most : Nat) (cls : List (List Int)) : List (List Int) := (cls.take most).map fun l => l.take 12
theorem fewL_len (most : Nat) (cls : List (List Int)) : (fewL most cls).length ≤ most := by simp [fewL]; omega
end Go.Proofs.YtogicccdngpafaaGreatDoor.NPlain
end
