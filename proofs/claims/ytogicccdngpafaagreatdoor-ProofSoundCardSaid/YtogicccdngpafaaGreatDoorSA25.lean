/-
  Part 25 of the proof of proofSound_card: walks and lemmas, packed by the session's own wip/pack.py out of its texts and of what the kit's print.sh printed.
-/
import Derived.Test.YtogicccdngpafaaGreatDoorSA18
import Derived.Test.YtogicccdngpafaaGreatDoorSA21
import Derived.Test.YtogicccdngpafaaGreatDoorSA11
import Derived.Test.YtogicccdngpafaaGreatDoorSA7
import Derived.Test.YtogicccdngpafaaGreatDoorSA22
import Derived.Test.YtogicccdngpafaaGreatDoorSA5
set_option linter.unusedVariables false
set_option linter.unusedSimpArgs false
section
set_option maxRecDepth 100000
namespace Go.Proofs.YtogicccdngpafaaGreatDoor.NPlain
open Go Go.RowKit QW.PrintWords QW.PrintLast QW.PrintMore NState
open PCheck (cnf_Check.f)
def Path (n : Nat) (A : List Int) : Prop := A.length ≤ n ∧ ∀ (i : Nat) (h : i < A.length), A[i] = ((i + 1 : Nat) : Int) ∨ A[i] = -((i + 1 : Nat) : Int)
theorem Path.nil (n : Nat) : Path n [] := ⟨Nat.zero_le _, fun i h => by simp at h⟩
theorem Path.snoc {n : Nat} {A : List Int} (h : Path n A) (hl : A.length < n) {x : Int} (hx : x = ((A.length + 1 : Nat) : Int) ∨ x = -((A.length + 1 : Nat) : Int)) : Path n (A ++ [x]) := by
 refine ⟨by simp; omega, fun i hi => ?_⟩
 by_cases e : i < A.length
 ·rw [List.getElem_append_left e]; exact h.2 i e
 ·have e2 : i = A.length := by simp at hi; omega
  subst e2
  rw [List.getElem_append_right (Nat.le_refl _)]
  simpa using hx
theorem Path.lit {n : Nat} {A : List Int} (h : Path n A) {x : Int} (hx : x ∈ A) : LitOk n x := by
 obtain ⟨i, hi, rfl⟩ := List.mem_iff_getElem.1 hx
 have h1 := h.1
 rcases h.2 i hi with e | e <;> rw [e] <;> exact ⟨by omega, by omega, by omega⟩
theorem Path.cons {n : Nat} {A : List Int} (h : Path n A) : Cons A := by
 intro x hx
 rw [List.contains_iff_mem] at hx
 cases hc : A.contains (-x) with
 | false => rfl
 | true =>
  rw [List.contains_iff_mem] at hc
  obtain ⟨i, hi, e1⟩ := List.mem_iff_getElem.1 hx
  obtain ⟨j, hj, e2⟩ := List.mem_iff_getElem.1 hc
  have h1 := h.2 i hi
  have h2 := h.2 j hj
  rw [e1] at h1
  rw [e2] at h2
  have hij : i = j := by omega
  subst hij
  rw [e1] at e2
  omega
theorem Path.tot {n : Nat} {A : List Int} (h : Path n A) (hl : A.length = n) : ∀ i : Nat, 1 ≤ i → i ≤ n → A.contains (i : Int) = true ∨ A.contains (-(i : Int)) = true := by
 intro i h1 h2
 have hi : i - 1 < A.length := by omega
 have e := h.2 (i - 1) hi
 have em := List.getElem_mem hi
 have e3 : ((i - 1 + 1 : Nat) : Int) = i := by omega
 rw [e3] at e
 rcases e with e | e
 ·rw [e] at em; left; rw [List.contains_iff_mem]; exact em
 ·rw [e] at em; right; rw [List.contains_iff_mem]; exact em
theorem tot_lit {n : Nat} {M : List Int} (h : ∀ i : Nat, 1 ≤ i → i ≤ n → M.contains (i : Int) = true ∨ M.contains (-(i : Int)) = true) {x : Int} (hx : LitOk n x) : M.contains x = true ∨ M.contains (-x) = true := by
 obtain ⟨h0, h1, h2⟩ := hx
 by_cases hn : x < 0
 ·obtain ⟨i, hi⟩ := Int.eq_ofNat_of_zero_le (show 0 ≤ -x by omega)
  have := h i (by omega) (by omega)
  rw [← hi, Int.neg_neg] at this
  exact this.symm
 ·obtain ⟨i, hi⟩ := Int.eq_ofNat_of_zero_le (show 0 ≤ x by omega)
  have := h i (by omega) (by omega)
  rw [← hi] at this
  exact this
theorem wneg_lit {n : Nat} (hn : n ≤ 100000) {x : Int} (h : LitOk n x) : wrap64 (-x) = -x := wneg (by have := h.2.1; omega) (by have := h.2.2; omega)
end Go.Proofs.YtogicccdngpafaaGreatDoor.NPlain
end
section
set_option maxRecDepth 100000
namespace Go.Proofs.YtogicccdngpafaaGreatDoor.NPlain
open Go Go.RowKit QW.PrintWords QW.PrintLast QW.PrintMore NState
open PSame (rd_T42)
def sT (x : Stp) : PFewT.S42 := ⟨x.f0, x.f1, x.f2⟩
theorem C_sT {w : World} {A : Option Addr} {n : Nat} {p : List Stp} (h : Kd.C kStp w A n p) : Kd.C PFewT.k42 w A n (p.map sT) := by
 obtain ⟨h1, h2, h3⟩ := h
 refine ⟨by simpa using h1, h2, fun hp => ?_⟩
 obtain ⟨ad, h4, h5⟩ := h3 hp
 refine ⟨ad, h4, fun j x hj => ?_⟩
 rw [List.getElem?_map] at hj
 cases hx : p[j]? with
 | none => rw [hx] at hj; cases hj
 | some y =>
  rw [hx] at hj
  obtain rfl := Option.some.inj hj
  exact h5 j y hx
def fewS (most : Nat) (p : List Stp) : List Stp := (p.take most).map fun x => ⟨x.f0.take 12, x.f1, x.f2.take 40⟩
theorem fewS_len (most : Nat) (p : List Stp) : (fewS most p).length ≤ most := by simp [fewS]; omega
theorem fewS_sizes {most : Nat} {p : List Stp} {x : Stp} (h : x ∈ fewS most p) : x.f0.length ≤ 12 ∧ x.f2.length ≤ 40 := by
 unfold fewS at h
 obtain ⟨y, _, rfl⟩ := List.mem_map.1 h
 simp; omega
theorem rdFT {p : List Stp} {i : Nat} (h : i < p.length) : PFewT.rd_T42 (p.map sT) (i : Int) = sT p[i] := by simp [PFewT.rd_T42, List.getD, h]
theorem fewS_ev (most : Nat) (hm : most ≤ 100000) (p : List Stp) : Ev (fun k => PFewT.nfT.f k (p.map sT) (most : Int)) ((fewS most p).map sT) := by
 have key : ∀ i : Nat, i ≤ min most p.length → Ev (fun k => PFewT.nfT.l0 k (p.map sT) (most : Int) ((fewS i p).map sT) (i : Int)) ((fewS most p).map sT) := by
  refine down ?_ ?_
  ·refine Ev.succ ?_
   simp only [PFewT.nfT.l0]
   have e : fewS (min most p.length) p = fewS most p := by
    unfold fewS
    congr 1
    rw [List.take_eq_take_iff]
    omega
   rw [e]
   by_cases h : most < p.length
   ·exact Ev.pos (by rw [List.length_map]; omega) (Ev.neg (by omega) (Ev.pure _))
   ·exact Ev.neg (by rw [List.length_map]; omega) (Ev.pure _)
  ·intro i hi ih
   refine Ev.succ ?_
   simp only [PFewT.nfT.l0]
   have hic : i < p.length := by omega
   rw [rdFT hic, wrap_succ (n := 100000) (by omega) (by omega)]
   have h1 : mn (((sT p[i]).f0.length : Nat) : Int) 12 = ((min p[i].f0.length 12 : Nat) : Int) := by simp only [sT]; unfold mn; split <;> omega
   have h2 : mn (((sT p[i]).f2.length : Nat) : Int) 40 = ((min p[i].f2.length 40 : Nat) : Int) := by simp only [sT]; unfold mn; split <;> omega
   rw [h1, h2]
   have hl := fewS_len i p
   have g1 : (sT p[i]).f0.length = p[i].f0.length := rfl
   have g2 : (sT p[i]).f2.length = p[i].f2.length := rfl
   refine Ev.pos (by rw [List.length_map]; omega) (Ev.pos (by omega) (Ev.pos (by omega) (Ev.pos (by omega) (Ev.pos (by omega) (Ev.pos (by simp; omega) (Ev.pos (by omega) (Ev.pos (by omega) (Ev.pos (by simp; omega) (Ev.pos (by rw [List.length_map]; omega) ?_)))))))))
   have e : (fewS i p).map sT ++ [(⟨([] : List Int) ++ (sT p[i]).f0.take ((min p[i].f0.length 12 : Nat) : Int).toNat, (sT p[i]).f1, ([] : List Int) ++ (sT p[i]).f2.take ((min p[i].f2.length 40 : Nat) : Int).toNat⟩ : PFewT.S42)] = (fewS (i + 1) p).map sT := by
    unfold fewS
    rw [List.take_succ_eq_append_getElem hic, List.map_append, List.map_append]
    congr 1
    simp only [List.map_cons, List.map_nil, List.nil_append, Int.toNat_natCast, sT]
    congr 2
    ·rw [List.take_eq_take_iff]; omega
    ·rw [List.take_eq_take_iff]; omega
   rw [e]
   exact ih
 exact key 0 (Nat.zero_le _)
end Go.Proofs.YtogicccdngpafaaGreatDoor.NPlain
end
