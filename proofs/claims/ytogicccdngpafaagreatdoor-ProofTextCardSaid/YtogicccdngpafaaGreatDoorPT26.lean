/-
  Part 26 of the proof of proofText_card: walks and lemmas, packed by the session's own wip/pack.py out of its texts and of what the kit's print.sh printed.
-/
import Derived.Test.YtogicccdngpafaaGreatDoorPT23
import Derived.Test.YtogicccdngpafaaGreatDoorPT25
import Derived.Test.YtogicccdngpafaaGreatDoorPT12
set_option linter.unusedVariables false
set_option linter.unusedSimpArgs false
section
set_option maxRecDepth 100000
namespace Go.Proofs.YtogicccdngpafaaGreatDoor.NText
open Go Go.RowKit Go.Lib QW.PrintWords
open NState (Stp kStp)
open NPlain (sT fewS fewS_len fewS_sizes)
open PFewT (S42 rd_T42 z42)
def Inv (xs : List S42) (L i a b : Nat) : Prop := xs.length = L ∧ ∀ j x, xs[j]? = some x → (x.f0.length ≤ 12 ∧ x.f2.length ≤ 40) ∧ (∀ m y, x.f0[m]? = some y → (j < i ∨ (j = i ∧ m < a)) → Lit9 y) ∧ (∀ m y, x.f2[m]? = some y → (j < i ∨ (j = i ∧ m < b)) → Lit9 y)
theorem rd_at {xs : List S42} {i : Nat} (h : i < xs.length) : xs[i]? = some (rd_T42 xs (i : Int)) := by
 unfold PFewT.rd_T42
 rw [List.getElem?_eq_getElem h]; simp [List.getD, h]
theorem Inv.set0 {xs : List S42} {L i a b k a' : Nat} {u : Int} (h : Inv xs L i a b) (hi : i < L) (hu : Lit9 u) (ha : ∀ m, m < a' → m < a ∨ m = k) : Inv (xs.set i ⟨(rd_T42 xs (i : Int)).f0.set k u, (rd_T42 xs (i : Int)).f1, (rd_T42 xs (i : Int)).f2⟩) L i a' b := by
 obtain ⟨hl, h2⟩ := h
 refine ⟨by rw [List.length_set]; exact hl, fun j x hj => ?_⟩
 by_cases hji : j = i
 ·subst hji
  rw [List.getElem?_set_self (by omega)] at hj
  injection hj with hj
  subst hj
  obtain ⟨⟨l0, l2⟩, g0, g2⟩ := h2 j _ (rd_at (by omega))
  refine ⟨⟨by simp only [List.length_set]; exact l0, l2⟩, fun m y hm hc => ?_, g2⟩
  simp only [List.getElem?_set] at hm
  by_cases hkm : k = m
  ·rw [if_pos hkm] at hm
   split at hm
   ·injection hm with hm; subst hm; exact hu
   ·cases hm
  ·rw [if_neg hkm] at hm
   refine g0 m y hm ?_
   rcases hc with hc | ⟨_, hc⟩
   ·exact .inl hc
   ·rcases ha m hc with h | h
    ·exact .inr ⟨rfl, h⟩
    ·exact absurd h.symm hkm
 ·rw [List.getElem?_set_ne (Ne.symm hji)] at hj
  obtain ⟨l, g0, g2⟩ := h2 j x hj
  exact ⟨l, fun m y hm hc => g0 m y hm (hc.elim .inl (fun h => absurd h.1 hji)), g2⟩
theorem Inv.set2 {xs : List S42} {L i a b k b' : Nat} {u : Int} (h : Inv xs L i a b) (hi : i < L) (hu : Lit9 u) (ha : ∀ m, m < b' → m < b ∨ m = k) : Inv (xs.set i ⟨(rd_T42 xs (i : Int)).f0, (rd_T42 xs (i : Int)).f1, (rd_T42 xs (i : Int)).f2.set k u⟩) L i a b' := by
 obtain ⟨hl, h2⟩ := h
 refine ⟨by rw [List.length_set]; exact hl, fun j x hj => ?_⟩
 by_cases hji : j = i
 ·subst hji
  rw [List.getElem?_set_self (by omega)] at hj
  injection hj with hj
  subst hj
  obtain ⟨⟨l0, l2⟩, g0, g2⟩ := h2 j _ (rd_at (by omega))
  refine ⟨⟨l0, by simp only [List.length_set]; exact l2⟩, g0, fun m y hm hc => ?_⟩
  simp only [List.getElem?_set] at hm
  by_cases hkm : k = m
  ·rw [if_pos hkm] at hm
   split at hm
   ·injection hm with hm; subst hm; exact hu
   ·cases hm
  ·rw [if_neg hkm] at hm
   refine g2 m y hm ?_
   rcases hc with hc | ⟨_, hc⟩
   ·exact .inl hc
   ·rcases ha m hc with h | h
    ·exact .inr ⟨rfl, h⟩
    ·exact absurd h.symm hkm
 ·rw [List.getElem?_set_ne (Ne.symm hji)] at hj
  obtain ⟨l, g0, g2⟩ := h2 j x hj
  exact ⟨l, g0, fun m y hm hc => g2 m y hm (hc.elim .inl (fun h => absurd h.1 hji))⟩
theorem Inv.len {xs : List S42} {L i a b : Nat} (h : Inv xs L i a b) (hi : i < L) : (rd_T42 xs (i : Int)).f0.length ≤ 12 ∧ (rd_T42 xs (i : Int)).f2.length ≤ 40 := (h.2 i _ (rd_at (by have := h.1; omega))).1
theorem Inv.lit {xs : List S42} {L i a b m : Nat} {y : Int} (h : Inv xs L i a b) (hi : i < L) (hm : (rd_T42 xs (i : Int)).f0[m]? = some y) (ha : m < a) : Lit9 y := (h.2 i _ (rd_at (by have := h.1; omega))).2.1 m y hm (.inr ⟨rfl, ha⟩)
theorem Inv.full0 {xs : List S42} {L i a b : Nat} (h : Inv xs L i a b) (hi : i < L) (ha : (rd_T42 xs (i : Int)).f0.length ≤ a) : Inv xs L i 12 b := by
 refine ⟨h.1, fun j x hj => ?_⟩
 obtain ⟨l, g0, g2⟩ := h.2 j x hj
 refine ⟨l, fun m y hm hc => g0 m y hm (hc.imp id (fun h2 => ⟨h2.1, ?_⟩)), g2⟩
 have e := rd_at (xs := xs) (i := i) (by have := h.1; omega)
 rw [h2.1, e] at hj
 injection hj with hj
 subst hj
 exact Nat.lt_of_lt_of_le (List.getElem?_eq_some_iff.1 hm).1 ha
theorem Inv.full2 {xs : List S42} {L i b : Nat} (h : Inv xs L i 12 b) (hi : i < L) (ha : (rd_T42 xs (i : Int)).f2.length ≤ b) : Inv xs L (i + 1) 0 0 := by
 refine ⟨h.1, fun j x hj => ?_⟩
 obtain ⟨l, g0, g2⟩ := h.2 j x hj
 have e := rd_at (xs := xs) (i := i) (by have := h.1; omega)
 refine ⟨l, fun m y hm hc => g0 m y hm ?_, fun m y hm hc => g2 m y hm ?_⟩
 ·have h3 := (List.getElem?_eq_some_iff.1 hm).1
  omega
 ·rcases Nat.lt_trichotomy j i with h1 | h1 | h1
  ·exact .inl h1
  ·refine .inr ⟨h1, ?_⟩
   subst h1
   rw [e] at hj
   injection hj with hj
   subst hj
   exact Nat.lt_of_lt_of_le (List.getElem?_eq_some_iff.1 hm).1 ha
  ·omega
theorem Inv.start (most : Nat) (p : List Stp) : Inv ((fewS most p).map sT) (fewS most p).length 0 0 0 := by
 refine ⟨List.length_map _, fun j x hj => ?_⟩
 rw [List.getElem?_map] at hj
 obtain ⟨y, hy, rfl⟩ := Option.map_eq_some_iff.1 hj
 have := fewS_sizes (List.mem_of_getElem? hy)
 exact ⟨this, fun m z _ hc => by omega, fun m z _ hc => by omega⟩
def ofT (x : S42) : Stp := ⟨x.f0, x.f1, x.f2⟩
theorem map_ofT (xs : List S42) : (xs.map ofT).map sT = xs := by
 rw [List.map_map]
 have : (sT ∘ ofT) = (id : S42 → S42) := by funext x; rfl
 rw [this, List.map_id]
theorem Inv.good {xs : List S42} {L i : Nat} (h : Inv xs L i 0 0) (hi : L ≤ i) : ∀ x ∈ xs.map ofT, Good x := by
 intro x hx
 obtain ⟨y, hy, rfl⟩ := List.mem_map.1 hx
 obtain ⟨j, hj⟩ := List.getElem?_of_mem hy
 have hjl := (List.getElem?_eq_some_iff.1 hj).1
 obtain ⟨⟨l0, l2⟩, g0, g2⟩ := h.2 j y hj
 have hl := h.1
 refine ⟨fun z hz => ?_, fun z hz => ?_, l0, l2⟩
 ·obtain ⟨m, hm⟩ := List.getElem?_of_mem (show z ∈ y.f0 from hz)
  exact g0 m z hm (.inl (by omega))
 ·obtain ⟨m, hm⟩ := List.getElem?_of_mem (show z ∈ y.f2 from hz)
  exact g2 m z hm (.inl (by omega))
theorem lit_up {t : Int} (h0 : 0 ≤ t) (h1 : t < 999999999) : Lit9 (wrap64 (1 + t)) := by
 unfold Lit9 wrap64; omega
theorem lit_neg {y : Int} (h : Lit9 y) : Lit9 (wrap64 (-y)) := by
 unfold Lit9 wrap64 at *; omega
def stT (x : S42) : S42 := ⟨if x.f1 = true then [] else x.f0, x.f1, x.f2⟩
def Off (xs ys : List S42) (i : Nat) : Prop := ys.length = xs.length ∧ ∀ j, ys[j]? = if j < i then (xs[j]?).map stT else xs[j]?
theorem Off.start (xs : List S42) : Off xs xs 0 := ⟨rfl, fun j => by rw [if_neg (by omega)]⟩
theorem Off.step {xs ys : List S42} {i : Nat} (h : Off xs ys i) (hi : i < xs.length) (hg : (rd_T42 ys (i : Int)).f1 = true) : Off xs (ys.set i ⟨[], (rd_T42 ys (i : Int)).f1, (rd_T42 ys (i : Int)).f2⟩) (i + 1) := by
 obtain ⟨hl, h2⟩ := h
 refine ⟨by rw [List.length_set]; exact hl, fun j => ?_⟩
 have e := rd_at (xs := ys) (i := i) (by omega)
 by_cases hji : j = i
 ·subst hji
  rw [List.getElem?_set_self (by omega), if_pos (by omega)]
  have h3 := h2 j
  rw [if_neg (by omega), e] at h3
  rw [← h3]
  simp only [Option.map_some, stT, hg, if_true]
 ·rw [List.getElem?_set_ne (Ne.symm hji), h2 j]
  by_cases hlt : j < i
  ·rw [if_pos hlt, if_pos (by omega)]
  ·rw [if_neg hlt, if_neg (by omega)]
theorem Off.keep {xs ys : List S42} {i : Nat} (h : Off xs ys i) (hi : i < xs.length) (hg : (rd_T42 ys (i : Int)).f1 = false) : Off xs ys (i + 1) := by
 obtain ⟨hl, h2⟩ := h
 refine ⟨hl, fun j => ?_⟩
 have e := rd_at (xs := ys) (i := i) (by omega)
 by_cases hji : j = i
 ·subst hji
  rw [if_pos (by omega)]
  have h3 := h2 j
  rw [if_neg (by omega), e] at h3
  rw [e, ← h3]
  simp only [Option.map_some, stT, hg, Bool.false_eq_true, if_false]
  congr 1
  show rd_T42 ys (j : Int) = ⟨_, _, _⟩
  rw [← hg]
 ·rw [h2 j]
  by_cases hlt : j < i
  ·rw [if_pos hlt, if_pos (by omega)]
  ·rw [if_neg hlt, if_neg (by omega)]
theorem Off.done {xs ys : List S42} {i : Nat} (h : Off xs ys i) (hi : xs.length ≤ i) : ys.map ofT = (xs.map ofT).map stripS := by
 have hy : ys = xs.map stT := by
  apply List.ext_getElem?
  intro j
  rw [h.2 j, List.getElem?_map]
  by_cases hj : j < i
  ·rw [if_pos hj]
  ·rw [if_neg hj, List.getElem?_eq_none (by omega)]; rfl
 rw [hy, List.map_map, List.map_map]
 rfl
end Go.Proofs.YtogicccdngpafaaGreatDoor.NText
end
