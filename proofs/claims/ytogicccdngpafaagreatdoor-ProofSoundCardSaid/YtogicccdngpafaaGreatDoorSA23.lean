/-
  Part 23 of the proof of proofSound_card: walks and lemmas, packed by the session's own wip/pack.py out of its texts and of what the kit's print.sh printed.
-/
import Derived.Test.YtogicccdngpafaaGreatDoorSA21
import Derived.Test.YtogicccdngpafaaGreatDoorSA22
set_option linter.unusedVariables false
set_option linter.unusedSimpArgs false
section
set_option maxRecDepth 100000
namespace Go.Proofs.YtogicccdngpafaaGreatDoor.NPlain
open Go Go.RowKit QW.PrintWords QW.PrintLast QW.PrintMore NState
open PPropg (cnf_values_of.f cnf_values_set.f cnf_values_unit.l0 cnf_values_unit.j1 cnf_values_unit.f cnf_values_propagate.l0 cnf_values_propagate.l1 cnf_values_propagate.f)
def PropR (n : Nat) (cls : List (List Int)) (S : List Int) (r : Bool × List Int) : Prop :=
 (r.1 = true → ∃ T, Sub S T ∧ VOk n r.2 T ∧ Good cls T ∧ ∀ U, Good cls U → Sub S U → Sub T U) ∧ (r.1 = false → ¬ ∃ T, Sub S T ∧ Good cls T)
theorem sweep_ev {n : Nat} (hn : n ≤ 100000) (cls : List (List Int)) (hcl : cls.length ≤ 1000000000) (hl : ∀ l ∈ cls, l.length ≤ 1000000000 ∧ ∀ x ∈ l, LitOk n x) (m : Nat)
  (IH : ∀ (v S : List Int), VOk n v S → free S cls.flatten < m → ∃ r, Ev (fun k => cnf_values_propagate.l0 k v cls true) r ∧ PropR n cls S r) :
  ∀ i : Nat, i ≤ cls.length → ∀ (v S : List Int) (c : Bool), VOk n v S → free S cls.flatten ≤ m → (c = true → free S cls.flatten < m) → (c = false → ∀ l ∈ cls.take i, ¬ allF S l ∧ ∀ x, unitL S l x → S.contains x = true) →
   ∃ r, Ev (fun k => cnf_values_propagate.l1 k v cls c cls (cls.length : Int) (i : Int)) r ∧ PropR n cls S r := by
 refine down ?_ ?_
 ·intro v S c hv hm h1 h2
  cases c with
  | true =>
   obtain ⟨r, hr, hp⟩ := IH v S hv (h1 rfl)
   refine ⟨r, ?_, hp⟩
   refine Ev.succ ?_
   simp only [cnf_values_propagate.l1]
   exact Ev.neg (by omega) hr
  | false =>
   refine ⟨(true, v), ?_, fun _ => ⟨S, fun _ h => h, hv, fun l hl => h2 rfl l (by rw [List.take_length]; exact hl), fun _ _ h => h⟩, fun h => by cases h⟩
   refine Ev.succ ?_
   simp only [cnf_values_propagate.l1]
   refine Ev.neg (by omega) (Ev.succ ?_)
   simp only [cnf_values_propagate.l0]
   exact Ev.neg (by simp) (Ev.pure _)
 ·intro i hi ih v S c hv hm h1 h2
  have hrd : PCheck.rL cls i = cls[i] := by simp [PCheck.rL, List.getD, hi]
  have hmem : cls[i] ∈ cls := List.getElem_mem _
  have hu := unit_ev hn hv cls[i] (hl _ hmem).1 (hl _ hmem).2
  have hcase := unitS_is hn hv.cons cls[i] (hl _ hmem).2
  generalize unitS S 0 cls[i] = u at hu hcase
  have hbody : ∀ r, Ev (fun k => if u.2 = true then some (false, v) else if u.1 = 0 then cnf_values_propagate.l1 k v cls c cls (cls.length : Int) ((i + 1 : Nat) : Int) else (cnf_values_set.f v u.1).bind fun t => cnf_values_propagate.l1 k t cls true cls (cls.length : Int) ((i + 1 : Nat) : Int)) r → Ev (fun k => cnf_values_propagate.l1 k v cls c cls (cls.length : Int) (i : Int)) r := by
   intro r hr
   refine Ev.succ ?_
   simp only [cnf_values_propagate.l1]
   refine Ev.pos (by omega) (Ev.pos (by omega) (Ev.pos (by omega) ?_))
   rw [hrd, wrap_succ hi (by omega)]
   exact Ev.bind hu hr
  cases hcase with
  | conf hf =>
   exact ⟨(false, v), hbody _ (Ev.pos rfl (Ev.pure _)), (fun h => by cases h), fun _ ⟨T, hs, hg⟩ => good_conf hs hg hmem hf⟩
  | unit x hun hx hx0 =>
   have hxo : LitOk n x := (hl _ hmem).2 x hun.1
   have hcx : S.contains (-x) = false := by
    have := hun.2.1
    rwa [wneg (by have := hxo.2.1; omega) (by have := hxo.2.2; omega)] at this
   obtain ⟨v', he, hv'⟩ := set_ok hn hv hxo hcx
   have hlt := free_lt S x hx cls.flatten (List.mem_flatten.2 ⟨_, hmem, hun.1⟩)
   obtain ⟨r, hr, hp2, hp3⟩ := ih v' (x :: S) true hv' (by omega) (fun _ => by omega) (fun h => by cases h)
   refine ⟨r, hbody r ?_, fun h => ?_, fun h ⟨T, hs, hg⟩ => hp3 h ⟨T, hs.cons (good_unit hs hg hmem hun), hg⟩⟩
   ·refine Ev.neg (by simp) (Ev.neg hx0 ?_)
    simp only [he, Option.bind_some]
    exact hr
   ·obtain ⟨T, hs, hv, hg, hm⟩ := hp2 h
    exact ⟨T, hs.tail, hv, hg, fun U hU hsU => hm U hU (hsU.cons (good_unit hsU hU hmem hun))⟩
  | none hnf hall =>
   obtain ⟨r, hr, hp⟩ := ih v S c hv hm h1 (fun hc l hlm => by
    rw [List.take_succ_eq_append_getElem hi] at hlm
    rcases List.mem_append.1 hlm with h | h
    ·exact h2 hc l h
    ·simp at h; subst h; exact ⟨hnf, hall⟩)
   exact ⟨r, hbody r (Ev.neg (by simp) (Ev.pos rfl hr)), hp⟩
theorem prop_ev0 {n : Nat} (hn : n ≤ 100000) (cls : List (List Int)) (hcl : cls.length ≤ 1000000000) (hl : ∀ l ∈ cls, l.length ≤ 1000000000 ∧ ∀ x ∈ l, LitOk n x) : ∀ (m : Nat) (v S : List Int), VOk n v S → free S cls.flatten < m → ∃ r, Ev (fun k => cnf_values_propagate.l0 k v cls true) r ∧ PropR n cls S r
 | 0, v, S, _, h => absurd h (by omega)
 | m + 1, v, S, hv, h => by
  obtain ⟨r, hr, hp⟩ := sweep_ev hn cls hcl hl m (fun v S hv hf => prop_ev0 hn cls hcl hl m v S hv hf) 0 (Nat.zero_le _) v S false hv (by omega) (fun h => by cases h) (fun _ l h => by simp at h)
  refine ⟨r, ?_, hp⟩
  refine Ev.succ ?_
  simp only [cnf_values_propagate.l0]
  exact Ev.pos trivial hr
theorem prop_ev {n : Nat} (hn : n ≤ 100000) (cls : List (List Int)) (hcl : cls.length ≤ 1000000000) (hl : ∀ l ∈ cls, l.length ≤ 1000000000 ∧ ∀ x ∈ l, LitOk n x) {v S : List Int} (hv : VOk n v S) : ∃ r, Ev (fun k => cnf_values_propagate.f k v cls) r ∧ PropR n cls S r :=
 prop_ev0 hn cls hcl hl _ v S hv (Nat.lt_succ_self _)
theorem Mod.good {n : Nat} (hn : n ≤ 100000) {cls : List (List Int)} {M : List Int} (hl : ∀ l ∈ cls, ∀ x ∈ l, LitOk n x) (h : Mod n cls M) : Good cls M :=
 fun l hlm => ⟨mod_conf hn h (fun _ q => q) hlm (hl l hlm), fun _ hu => mod_unit hn h (fun _ q => q) hlm (hl l hlm) hu⟩
end Go.Proofs.YtogicccdngpafaaGreatDoor.NPlain
end
