/-
  Part 28 of the proof of cnfTextMatches_card: walks and lemmas.
-/
import Derived.Test.YtkcfdddhnboieaaGreatDoorKG6
import Derived.Test.YtkcfdddhnboieaaGreatDoorKG27
import Derived.Test.YtkcfdddhnboieaaGreatDoorKG5
set_option linter.unusedVariables false
set_option linter.unusedSimpArgs false
section
set_option maxRecDepth 100000
namespace Go.Proofs.YtkcfdddhnboieaaGreatDoor.NPlain
open Go Go.RowKit Go.Shelf QW.PrintWords QW.PrintLast QW.PrintMore NState
open PCheck (cnf_Check.f)
open PSameC (netlabref32_Same.f netlabref32_EqClauses.f netlabref32_EqClauses.l0 netlabref32_EqInts.f netlabref32_EqInts.l0)
theorem rdF {l : List (List Int)} {k : Nat} (h : k < l.length) : PFew.rL l k = l[k] := by simp [PFew.rL, List.getD, h]
theorem few_ev (most : Nat) (hm : most ≤ 100000) (vars : Int) (cls : List (List Int)) : Ev (fun k => PFew.nfC.f k vars cls (most : Int)) (vars, fewL most cls) := by
 have key : ∀ i : Nat, i ≤ min most cls.length → Ev (fun k => PFew.nfC.l0 k (most : Int) (i : Int) vars cls vars ((cls.take i).map fun l => l.take 12)) (vars, fewL most cls) := by
  refine down ?_ ?_
  ·refine Ev.succ ?_
   simp only [PFew.nfC.l0]
   have e : (cls.take (min most cls.length)).map (fun l => l.take 12) = fewL most cls := by
    unfold fewL
    congr 1
    rw [List.take_eq_take_iff]
    omega
   rw [e]
   by_cases h : most < cls.length
   ·exact Ev.pos (by omega) (Ev.neg (by omega) (Ev.pure _))
   ·exact Ev.neg (by omega) (Ev.pure _)
  ·intro i hi ih
   refine Ev.succ ?_
   simp only [PFew.nfC.l0]
   have hic : i < cls.length := by omega
   rw [rdF hic, wrap_succ (n := 100000) (by omega) (by omega)]
   have hmn : mn ((cls[i].length : Nat) : Int) 12 = ((min cls[i].length 12 : Nat) : Int) := by unfold mn; split <;> omega
   rw [hmn]
   refine Ev.pos (by omega) (Ev.pos (by omega) (Ev.pos (by omega) (Ev.pos (by omega) (Ev.pos (by omega) (Ev.pos (by simp; omega) (Ev.pos (by simp; omega) ?_))))))
   have e : (cls.take i).map (fun l => l.take 12) ++ [([] : List Int) ++ cls[i].take ((min cls[i].length 12 : Nat) : Int).toNat] = (cls.take (i + 1)).map (fun l => l.take 12) := by
    rw [List.take_succ_eq_append_getElem hic, List.map_append]
    congr 1
    simp only [List.map_cons, List.map_nil, List.nil_append, Int.toNat_natCast]
    congr 1
    rw [List.take_eq_take_iff]
    omega
   rw [e]
   exact ih
 exact key 0 (Nat.zero_le _)
theorem eqInts_selfN (l : List Int) (hl : l.length ≤ 1000000000) : Ev (fun k => netlabref32_EqInts.f k l l) true := by
 have h : ∀ i, i ≤ l.length → Ev (fun k => netlabref32_EqInts.l0 k l l (i : Int)) true := by
  refine down (P := fun i => Ev (fun k => netlabref32_EqInts.l0 k l l (i : Int)) true) ?_ ?_
  ·refine Ev.succ ?_
   simp only [netlabref32_EqInts.l0]
   exact Ev.neg (by omega) (Ev.pure _)
  ·intro i hi ih
   refine Ev.succ ?_
   simp only [netlabref32_EqInts.l0]
   refine Ev.pos (by omega) (Ev.pos (by omega) (Ev.pos (by omega) (Ev.pos trivial ?_)))
   rw [show wrap64 ((i : Int) + 1) = ((i + 1 : Nat) : Int) by unfold wrap64; omega]
   exact ih
 unfold netlabref32_EqInts.f
 exact Ev.pos rfl (h 0 (Nat.zero_le _))
theorem same_self (v : Int) (L : List (List Int)) (hL : L.length ≤ 1000000000) (hl : ∀ l ∈ L, l.length ≤ 1000000000) : Ev (fun k => netlabref32_Same.f k v L v L) true := by
 have h : ∀ i, i ≤ L.length → Ev (fun k => netlabref32_EqClauses.l0 k L L (i : Int)) true := by
  refine down (P := fun i => Ev (fun k => netlabref32_EqClauses.l0 k L L (i : Int)) true) ?_ ?_
  ·refine Ev.succ ?_
   simp only [netlabref32_EqClauses.l0]
   exact Ev.neg (by omega) (Ev.pure _)
  ·intro i hi ih
   refine Ev.succ ?_
   simp only [netlabref32_EqClauses.l0]
   have e : PSameC.rL L (i : Int) = L[i] := by simp [PSameC.rL, hi]
   rw [e]
   refine Ev.pos (by omega) (Ev.pos (by omega) (Ev.pos (by omega) (Ev.bind (eqInts_selfN L[i] (hl _ (List.getElem_mem hi))) (Ev.pos rfl ?_))))
   rw [show wrap64 ((i : Int) + 1) = ((i + 1 : Nat) : Int) by unfold wrap64; omega]
   exact ih
 unfold netlabref32_Same.f netlabref32_EqClauses.f
 refine Ev.pos rfl (Ev.bind ?_ (Ev.pure _))
 exact Ev.pos rfl (h 0 (Nat.zero_le _))
theorem chk_lits {vars : Int} {cls : List (List Int)} (he : chkL vars cls = 0) : ∃ n : Nat, vars = n ∧ n ≤ 4096 ∧ ∀ l ∈ cls, ∀ x ∈ l, LitOk n x := by
 unfold chkL at he
 split at he
 ·cases he
 rename_i h0
 split at he
 ·cases he
 rename_i h1
 split at he
 ·cases he
 rename_i hany
 obtain ⟨n, rfl⟩ := Int.eq_ofNat_of_zero_le (show 0 ≤ vars by omega)
 refine ⟨n, rfl, by omega, fun l hl x hx => ?_⟩
 rw [Bool.not_eq_true, List.any_eq_false] at hany
 have h2 := hany l hl
 rw [Bool.not_eq_true, List.any_eq_false] at h2
 have hb : badLit (n : Int) x = false := Bool.not_eq_true _ ▸ h2 x hx
 have hw : wrap64 (-(n : Int)) = -(n : Int) := wneg (by omega) (by omega)
 simp only [badLit, Bool.or_eq_false_iff, beq_eq_false_iff_ne, decide_eq_false_iff_not, hw] at hb
 exact ⟨hb.1.1, by omega, by omega⟩
end Go.Proofs.YtkcfdddhnboieaaGreatDoor.NPlain
end
