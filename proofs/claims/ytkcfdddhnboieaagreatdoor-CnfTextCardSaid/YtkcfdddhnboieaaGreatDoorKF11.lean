/-
  Part 11 of the proof of cnfText_card: walks and lemmas.
-/
import Derived.Test.YtkcfdddhnboieaaGreatDoorKF6
import Derived.Test.YtkcfdddhnboieaaGreatDoorKF10
set_option linter.unusedVariables false
set_option linter.unusedSimpArgs false
section
set_option maxRecDepth 100000
namespace Go.Proofs.YtkcfdddhnboieaaGreatDoor.NPlain
open Go Go.RowKit QW.PrintWords QW.PrintLast QW.PrintMore NState
open PPropagate (cnf_values_of.f cnf_values_set.f cnf_values_unit.l0 cnf_values_unit.j1 cnf_values_unit.f)
def valS (S : List Int) (x : Int) : Int := if S.contains x then 1 else if S.contains (-x) then -1 else 0
def Cons (S : List Int) : Prop := ∀ x, S.contains x = true → S.contains (-x) = false
structure VOk (n : Nat) (v S : List Int) : Prop where
 len : v.length = n + 1
 val : ∀ i : Nat, 1 ≤ i → i ≤ n → rd v (i : Int) = valS S i
 cons : Cons S
 lits : ∀ x, S.contains x = true → LitOk n x
theorem valS_neg {S : List Int} (h : Cons S) (x : Int) : valS S (-x) = -valS S x := by
 unfold valS
 rw [Int.neg_neg]
 have h1 := h x
 have h2 := h (-x)
 rw [Int.neg_neg] at h2
 cases hx : S.contains x <;> cases hy : S.contains (-x)
 ·simp
 ·simp
 ·simp
 ·rw [h1 hx] at hy; cases hy
theorem valS_cases (S : List Int) (x : Int) : valS S x = 1 ∨ valS S x = -1 ∨ valS S x = 0 := by
 unfold valS; split
 ·exact .inl rfl
 split
 ·exact .inr (.inl rfl)
 ·exact .inr (.inr rfl)
theorem of_ok {n : Nat} {v S : List Int} (hn : n ≤ 100000) (h : VOk n v S) {x : Int} (hx : LitOk n x) : cnf_values_of.f v x = some (valS S x) := by
 obtain ⟨h0, h1, h2⟩ := hx
 unfold cnf_values_of.f
 by_cases hneg : x < 0
 ·have e : wrap64 (-x) = ((-x).toNat : Int) := by rw [wneg (by omega) (by omega)]; omega
  rw [if_pos hneg, e, if_pos (by omega), if_pos (by have := h.len; omega), h.val _ (by omega) (by omega)]
  have e2 : (((-x).toNat : Nat) : Int) = -x := by omega
  rw [e2, valS_neg h.cons]
  rcases valS_cases S x with e | e | e <;> rw [e] <;> rfl
 ·have e : x = (x.toNat : Int) := by omega
  rw [if_neg hneg, if_pos (by omega), if_pos (by have := h.len; omega), e, h.val _ (by omega) (by omega)]
theorem valS_pos {S : List Int} {x : Int} : valS S x > 0 ↔ S.contains x = true := by
 unfold valS
 cases S.contains x <;> cases S.contains (-x) <;> simp
theorem valS_lt {S : List Int} (h : Cons S) {x : Int} : valS S x < 0 ↔ S.contains (-x) = true := by
 unfold valS
 have := h x
 cases hx : S.contains x <;> cases hy : S.contains (-x)
 ·simp
 ·simp
 ·simp
 ·rw [this hx] at hy; cases hy
theorem set_ok {n : Nat} {v S : List Int} (hn : n ≤ 100000) (h : VOk n v S) {x : Int} (hx : LitOk n x) (hc : S.contains (-x) = false) : ∃ v', cnf_values_set.f v x = some v' ∧ VOk n v' (x :: S) := by
 have hlits : ∀ y, (x :: S).contains y = true → LitOk n y := fun y hy => by
  rw [List.contains_cons, Bool.or_eq_true] at hy
  rcases hy with hy | hy
  ·have : y = x := by simpa using hy
   rw [this]; exact hx
  ·exact h.lits y hy
 obtain ⟨h0, h1, h2⟩ := hx
 have hcons : Cons (x :: S) := by
  intro y hy
  rw [List.contains_cons, Bool.or_eq_true] at hy
  rw [List.contains_cons, Bool.or_eq_false_iff]
  rcases hy with hy | hy
  ·have : y = x := by simpa using hy
   subst this
   exact ⟨by simp; omega, hc⟩
  ·refine ⟨?_, h.cons y hy⟩
   simp only [beq_eq_false_iff_ne]
   intro e
   rw [← e, Int.neg_neg, hy] at hc; cases hc
 have hval : ∀ i : Nat, 1 ≤ i → (i : Int) ≠ x → (i : Int) ≠ -x → valS (x :: S) i = valS S i := by
  intro i hi e1 e2
  unfold valS
  rw [List.contains_cons, List.contains_cons]
  have e3 : ((i : Int) == x) = false := by simpa using e1
  have e4 : (-(i : Int) == x) = false := by simp; omega
  rw [e3, e4, Bool.false_or, Bool.false_or]
 have hx1 : valS (x :: S) x = 1 := by unfold valS; rw [if_pos (by simp)]
 have hx2 : valS (x :: S) (-x) = -1 := by rw [valS_neg hcons, hx1]
 unfold cnf_values_set.f
 have key : ∀ (m : Nat) (t : Int), 1 ≤ m → m ≤ n → ((m : Int) = x ∨ (m : Int) = -x) → valS (x :: S) m = t → VOk n (v.set m t) (x :: S) := by
  intro m t hm1 hm2 hm3 ht
  refine ⟨by simp [h.len], fun i hi1 hi2 => ?_, hcons, hlits⟩
  have hl := h.len
  by_cases e : i = m
  ·subst e
   rw [ht]
   have hlt : i < v.length := by omega
   simp [rd, List.getD, List.getElem?_set, hlt]
  ·have : rd (v.set m t) (i : Int) = rd v i := by
    simp only [rd, List.getD, Int.toNat_natCast]
    rw [List.getElem?_set_ne (fun h => e h.symm)]
   rw [this, h.val i hi1 hi2, hval i hi1 (by omega) (by omega)]
 by_cases hneg : x < 0
 ·have e : wrap64 (-x) = ((-x).toNat : Int) := by rw [wneg (by omega) (by omega)]; omega
  rw [if_pos hneg, e, if_pos (by omega), if_pos (by have := h.len; omega)]
  refine ⟨_, rfl, ?_⟩
  rw [Int.toNat_natCast]
  exact key _ _ (by omega) (by omega) (.inr (by omega)) (by rw [show (((-x).toNat : Nat) : Int) = -x by omega]; exact hx2)
 ·rw [if_neg hneg, if_pos (by omega), if_pos (by have := h.len; omega)]
  refine ⟨_, rfl, ?_⟩
  exact key _ _ (by omega) (by omega) (.inl (by omega)) (by rw [show ((x.toNat : Nat) : Int) = x by omega]; exact hx1)
def unitS (S : List Int) : Int → List Int → Int × Bool
 | only, [] => (only, only == 0)
 | only, x :: xs => if S.contains x then (0, false) else if S.contains (-x) || x == only then unitS S only xs else if only = 0 then unitS S x xs else (0, false)
theorem unit_ev0 {n : Nat} {v S : List Int} (hn : n ≤ 100000) (h : VOk n v S) (l : List Int) (hlen : l.length ≤ 1000000000) (hl : ∀ x ∈ l, LitOk n x) : ∀ i : Nat, i ≤ l.length → ∀ only : Int, Ev (fun k => cnf_values_unit.l0 k v only l (l.length : Int) (i : Int)) (unitS S only (l.drop i)) := by
 refine down ?_ ?_
 ·intro only
  refine Ev.succ ?_
  simp only [cnf_values_unit.l0]
  rw [List.drop_length]
  exact Ev.neg (by omega) (Ev.pure _)
 ·intro i hi ih only
  have hx : LitOk n (rd l i) := by
   have e : rd l i = l[i] := by simp [rd, List.getD, hi]
   rw [e]; exact hl _ (List.getElem_mem _)
  refine Ev.succ ?_
  simp only [cnf_values_unit.l0]
  refine Ev.pos (by omega) (Ev.pos (by omega) (Ev.pos (by omega) ?_))
  rw [of_ok hn h hx, drop_rd hi, unitS]
  simp only [Option.bind_some]
  by_cases h1 : S.contains (rd l i) = true
  ·rw [if_pos h1]
   exact Ev.pos (valS_pos.2 h1) (Ev.pure _)
  rw [if_neg h1]
  refine Ev.neg (fun hh => h1 (valS_pos.1 hh)) ?_
  have hj : ∀ b : Bool, b = (S.contains (-(rd l i)) || rd l i == only) → Ev (fun k => cnf_values_unit.j1 k v only (rd l i) l (l.length : Int) (i : Int) b) (if (S.contains (-(rd l i)) || rd l i == only) = true then unitS S only (l.drop (i + 1)) else if only = 0 then unitS S (rd l i) (l.drop (i + 1)) else (0, false)) := by
   intro b hb
   refine Ev.succ ?_
   simp only [cnf_values_unit.j1]
   rw [← hb, wrap_succ hi (by omega)]
   cases b with
   | true => rw [if_pos rfl]; exact Ev.pos rfl (ih only)
   | false =>
    rw [if_neg (by simp)]
    refine Ev.neg (by simp) ?_
    by_cases h2 : only = 0
    ·rw [if_pos h2]; exact Ev.pos h2 (ih _)
    ·rw [if_neg h2]; exact Ev.neg h2 (Ev.pure _)
  by_cases h2 : S.contains (-(rd l i)) = true
  ·exact Ev.pos ((valS_lt h.cons).2 h2) (hj _ (by rw [h2]; rfl))
  ·refine Ev.neg (fun hh => h2 ((valS_lt h.cons).1 hh)) (hj _ ?_)
   rw [Bool.not_eq_true] at h2
   rw [h2, Bool.false_or]
theorem unit_ev {n : Nat} {v S : List Int} (hn : n ≤ 100000) (h : VOk n v S) (l : List Int) (hlen : l.length ≤ 1000000000) (hl : ∀ x ∈ l, LitOk n x) : Ev (fun k => cnf_values_unit.f k v l) (unitS S 0 l) := unit_ev0 hn h l hlen hl 0 (Nat.zero_le _) 0
inductive UnitIs (S l : List Int) : Int × Bool → Prop
 | conf : allF S l → UnitIs S l (0, true)
 | unit (x : Int) : unitL S l x → S.contains x = false → x ≠ 0 → UnitIs S l (x, false)
 | none : ¬ allF S l → (∀ x, unitL S l x → S.contains x = true) → UnitIs S l (0, false)
theorem unitS_is0 {n : Nat} (hn : n ≤ 100000) {S : List Int} (hc : Cons S) (L : List Int) (hL : ∀ x ∈ L, LitOk n x) : ∀ (l pre : List Int) (only : Int), L = pre ++ l → (∀ y ∈ pre, (y = only ∧ only ≠ 0) ∨ S.contains (-y) = true) → (only ≠ 0 → only ∈ pre ∧ S.contains only = false ∧ S.contains (-only) = false) → UnitIs S L (unitS S only l)
 | [], pre, only, hp, hpre, ho => by
  have hw : ∀ y ∈ L, wrap64 (-y) = -y := fun y hy => by obtain ⟨_, h1, h2⟩ := hL y hy; exact wneg (by omega) (by omega)
  rw [List.append_nil] at hp
  subst hp
  rw [unitS]
  by_cases h0 : only = 0
  ·subst h0
   refine .conf fun y hy => ?_
   rw [hw y hy]
   rcases hpre y hy with ⟨_, h⟩ | h
   ·exact absurd rfl h
   ·exact h
  ·have hb : (only == 0) = false := by simpa using h0
   rw [hb]
   obtain ⟨h1, h2, h3⟩ := ho h0
   refine .unit only ⟨h1, by rw [hw only h1]; exact h3, fun y hy => ?_⟩ h2 h0
   rw [hw y hy]
   rcases hpre y hy with ⟨h, _⟩ | h
   ·exact .inl h
   ·exact .inr h
 | x :: xs, pre, only, hp, hpre, ho => by
  have hw : ∀ y ∈ L, wrap64 (-y) = -y := fun y hy => by obtain ⟨_, h1, h2⟩ := hL y hy; exact wneg (by omega) (by omega)
  have hxL : x ∈ L := by rw [hp]; simp
  have hp' : L = (pre ++ [x]) ++ xs := by rw [hp]; simp
  rw [unitS]
  by_cases h1 : S.contains x = true
  ·rw [if_pos h1]
   refine .none (fun h => ?_) (fun y hy => ?_)
   ·have := h x hxL
    rw [hw x hxL, hc x h1] at this; cases this
   ·rcases hy.2.2 x hxL with h | h
    ·rw [← h]; exact h1
    ·rw [hw x hxL, hc x h1] at h; cases h
  rw [if_neg h1]
  rw [Bool.not_eq_true] at h1
  by_cases h2 : (S.contains (-x) || x == only) = true
  ·rw [if_pos h2]
   refine unitS_is0 hn hc L hL xs (pre ++ [x]) only hp' (fun y hy => ?_) (fun h => ⟨List.mem_append_left _ (ho h).1, (ho h).2⟩)
   rcases List.mem_append.1 hy with hy | hy
   ·exact hpre y hy
   ·simp at hy; subst hy
    rw [Bool.or_eq_true] at h2
    rcases h2 with h | h
    ·exact .inr h
    ·have e : y = only := by simpa using h
     exact .inl ⟨e, by rw [← e]; exact (hL y hxL).1⟩
  rw [if_neg h2]
  rw [Bool.not_eq_true, Bool.or_eq_false_iff] at h2
  by_cases h3 : only = 0
  ·rw [if_pos h3]
   refine unitS_is0 hn hc L hL xs (pre ++ [x]) x hp' (fun y hy => ?_) (fun _ => ⟨by simp, h1, h2.1⟩)
   rcases List.mem_append.1 hy with hy | hy
   ·rcases hpre y hy with ⟨_, h⟩ | h
    ·exact absurd h3 h
    ·exact .inr h
   ·simp at hy; subst hy; exact .inl ⟨rfl, (hL y hxL).1⟩
  ·rw [if_neg h3]
   obtain ⟨o1, o2, o3⟩ := ho h3
   have hoL : only ∈ L := by rw [hp]; exact List.mem_append_left _ o1
   refine .none (fun h => ?_) (fun y hy => ?_)
   ·have := h x hxL
    rw [hw x hxL, h2.1] at this; cases this
   ·rcases hy.2.2 x hxL with h | h
    ·rcases hy.2.2 only hoL with h' | h'
     ·rw [← h'] at h
      have := h2.2
      rw [h] at this; simp at this
     ·rw [hw only hoL, o3] at h'; cases h'
    ·rw [hw x hxL, h2.1] at h; cases h
theorem unitS_is {n : Nat} (hn : n ≤ 100000) {S : List Int} (hc : Cons S) (l : List Int) (hl : ∀ x ∈ l, LitOk n x) : UnitIs S l (unitS S 0 l) := unitS_is0 hn hc l hl l [] 0 rfl (fun _ h => by cases h) (fun h => absurd rfl h)
theorem VOk.start (n : Nat) : VOk n (List.replicate (n + 1) 0) [] := by
 refine ⟨by simp, fun i hi1 hi2 => ?_, fun x h => by simp at h, fun x h => by simp at h⟩
 have : i < n + 1 := by omega
 simp [rd, List.getD, valS, List.getElem?_replicate, this]
structure Mod (n : Nat) (cls : List (List Int)) (M : List Int) : Prop where
 cons : Cons M
 tot : ∀ i : Nat, 1 ≤ i → i ≤ n → M.contains (i : Int) = true ∨ M.contains (-(i : Int)) = true
 all : ∀ l ∈ cls, ∃ x ∈ l, M.contains x = true
theorem Mod.lit {n : Nat} {cls : List (List Int)} {M : List Int} (h : Mod n cls M) {x : Int} (hx : LitOk n x) : M.contains x = true ∨ M.contains (-x) = true := by
 obtain ⟨h0, h1, h2⟩ := hx
 by_cases hn : x < 0
 ·obtain ⟨i, hi⟩ := Int.eq_ofNat_of_zero_le (show 0 ≤ -x by omega)
  have := h.tot i (by omega) (by omega)
  rw [← hi, Int.neg_neg] at this
  exact this.symm
 ·obtain ⟨i, hi⟩ := Int.eq_ofNat_of_zero_le (show 0 ≤ x by omega)
  have := h.tot i (by omega) (by omega)
  rw [← hi] at this
  exact this
theorem mod_conf {n : Nat} (hn : n ≤ 100000) {cls : List (List Int)} {S M l : List Int} (h : Mod n cls M) (hs : Sub S M) (hl : l ∈ cls) (hlo : ∀ x ∈ l, LitOk n x) : ¬ allF S l := by
 intro hf
 obtain ⟨x, hx, hm⟩ := h.all l hl
 have h1 := hs _ (hf x hx)
 have hxo := hlo x hx
 rw [wneg (by have := hxo.2.1; omega) (by have := hxo.2.2; omega)] at h1
 rw [h.cons x hm] at h1; cases h1
theorem mod_unit {n : Nat} (hn : n ≤ 100000) {cls : List (List Int)} {S M l : List Int} {x : Int} (h : Mod n cls M) (hs : Sub S M) (hl : l ∈ cls) (hlo : ∀ x ∈ l, LitOk n x) (hu : unitL S l x) : M.contains x = true := by
 obtain ⟨y, hy, hm⟩ := h.all l hl
 rcases hu.2.2 y hy with e | e
 ·rw [← e]; exact hm
 ·have h1 := hs _ e
  have hyo := hlo y hy
  rw [wneg (by have := hyo.2.1; omega) (by have := hyo.2.2; omega)] at h1
  rw [h.cons y hm] at h1; cases h1
def fillM (S : List Int) : Nat → List Int
 | 0 => S
 | n + 1 => if (fillM S n).contains (-((n + 1 : Nat) : Int)) then fillM S n else ((n + 1 : Nat) : Int) :: fillM S n
theorem fillM_is {S : List Int} (hc : Cons S) : ∀ n, Cons (fillM S n) ∧ Sub S (fillM S n) ∧ ∀ i : Nat, 1 ≤ i → i ≤ n → (fillM S n).contains (i : Int) = true ∨ (fillM S n).contains (-(i : Int)) = true
 | 0 => ⟨hc, fun _ h => h, fun i h1 h2 => by omega⟩
 | n + 1 => by
  obtain ⟨h1, h2, h3⟩ := fillM_is hc n
  rw [fillM]
  by_cases h : (fillM S n).contains (-((n + 1 : Nat) : Int)) = true
  ·rw [if_pos h]
   refine ⟨h1, h2, fun i hi1 hi2 => ?_⟩
   by_cases e : i = n + 1
   ·subst e; exact .inr h
   ·exact h3 i hi1 (by omega)
  ·rw [if_neg h]
   refine ⟨?_, fun y hy => by rw [List.contains_cons, h2 y hy]; simp, fun i hi1 hi2 => ?_⟩
   ·intro y hy
    rw [List.contains_cons, Bool.or_eq_true] at hy
    rw [List.contains_cons, Bool.or_eq_false_iff]
    rcases hy with e | e
    ·have e' : y = ((n + 1 : Nat) : Int) := by simpa using e
     subst e'
     exact ⟨by simp; omega, by simpa using h⟩
    ·refine ⟨?_, h1 y e⟩
     cases hb : (-y == ((n + 1 : Nat) : Int)) with
     | false => rfl
     | true =>
      have e' : -y = ((n + 1 : Nat) : Int) := by simpa using hb
      have : y = -((n + 1 : Nat) : Int) := by omega
      rw [this] at e; exact absurd e h
   ·by_cases e : i = n + 1
    ·subst e; left; rw [List.contains_cons]; simp
    ·rcases h3 i hi1 (by omega) with q | q
     ·left; rw [List.contains_cons, q]; simp
     ·right; rw [List.contains_cons, q]; simp
theorem mod_of {n : Nat} {cls : List (List Int)} {S : List Int} (hc : Cons S) (hall : ∀ l ∈ cls, ∃ x ∈ l, S.contains x = true) : ∃ M, Mod n cls M ∧ Sub S M := by
 obtain ⟨h1, h2, h3⟩ := fillM_is hc n
 exact ⟨fillM S n, ⟨h1, h3, fun l hl => by obtain ⟨x, hx, hs⟩ := hall l hl; exact ⟨x, hx, h2 x hs⟩⟩, h2⟩
def und (S : List Int) (n : Nat) : Nat := ((List.range n).filter fun i => valS S ((i + 1 : Nat) : Int) == 0).length
theorem filter_len_le {α : Type} {p q : α → Bool} : ∀ l : List α, (∀ x ∈ l, p x = true → q x = true) → (l.filter p).length ≤ (l.filter q).length
 | [], _ => by simp
 | x :: l, h => by
  have ih := filter_len_le l (fun y hy => h y (List.mem_cons_of_mem _ hy))
  have hx := h x (by simp)
  simp only [List.filter_cons]
  cases hp : p x with
  | true => rw [hx hp]; simp; exact ih
  | false => cases q x <;> simp <;> omega
theorem filter_len_lt {α : Type} {p q : α → Bool} : ∀ l : List α, (∀ x ∈ l, p x = true → q x = true) → (∃ x ∈ l, p x = false ∧ q x = true) → (l.filter p).length < (l.filter q).length
 | [], _, ⟨x, h, _⟩ => by cases h
 | x :: l, h, ⟨y, hy, h1, h2⟩ => by
  have hle := filter_len_le l (fun z hz => h z (List.mem_cons_of_mem _ hz))
  have hx := h x (by simp)
  simp only [List.filter_cons]
  rcases List.mem_cons.1 hy with e | e
  ·subst e; rw [h1, h2]; simp; omega
  ·have ih := filter_len_lt l (fun z hz => h z (List.mem_cons_of_mem _ hz)) ⟨y, e, h1, h2⟩
   cases hp : p x with
   | true => rw [hx hp]; simp; exact ih
   | false => cases q x <;> simp <;> omega
theorem valS_zero {S : List Int} {x : Int} : valS S x = 0 ↔ S.contains x = false ∧ S.contains (-x) = false := by
 unfold valS
 cases S.contains x <;> cases S.contains (-x) <;> simp
theorem und_mono {S T : List Int} (h : Sub S T) (n : Nat) : und T n ≤ und S n := by
 unfold und
 refine filter_len_le _ (fun i _ hi => ?_)
 rw [beq_iff_eq, valS_zero] at hi ⊢
 constructor
 ·cases hc : S.contains ((i + 1 : Nat) : Int) with
  | false => rfl
  | true => rw [h _ hc] at hi; cases hi.1
 ·cases hc : S.contains (-((i + 1 : Nat) : Int)) with
  | false => rfl
  | true => rw [h _ hc] at hi; cases hi.2
theorem und_lt {S : List Int} {n : Nat} {x : Int} (hx : LitOk n x) (h : valS S x = 0) : und (x :: S) n < und S n := by
 unfold und
 refine filter_len_lt _ (fun i _ hi => ?_) ?_
 ·rw [beq_iff_eq, valS_zero] at hi ⊢
  rw [List.contains_cons, List.contains_cons, Bool.or_eq_false_iff, Bool.or_eq_false_iff] at hi
  exact ⟨hi.1.2, hi.2.2⟩
 ·obtain ⟨h0, h1, h2⟩ := hx
  have hz := valS_zero.1 h
  by_cases hn : x < 0
  ·obtain ⟨i, hi⟩ := Int.eq_ofNat_of_zero_le (show 0 ≤ -x - 1 by omega)
   refine ⟨i, List.mem_range.2 (by omega), ?_, ?_⟩
   ·have e : -((i + 1 : Nat) : Int) = x := by omega
    have : ¬ valS (x :: S) ((i + 1 : Nat) : Int) = 0 := fun hh => by
     have := (valS_zero.1 hh).2
     rw [e, List.contains_cons] at this; simp at this
    simpa using this
   ·have e : ((i + 1 : Nat) : Int) = -x := by omega
    rw [beq_iff_eq, e, valS_zero, Int.neg_neg]
    exact ⟨hz.2, hz.1⟩
  ·obtain ⟨i, hi⟩ := Int.eq_ofNat_of_zero_le (show 0 ≤ x - 1 by omega)
   have e : ((i + 1 : Nat) : Int) = x := by omega
   refine ⟨i, List.mem_range.2 (by omega), ?_, ?_⟩
   ·have : ¬ valS (x :: S) ((i + 1 : Nat) : Int) = 0 := fun hh => by
     have := (valS_zero.1 hh).1
     rw [e, List.contains_cons] at this; simp at this
    simpa using this
   ·rw [beq_iff_eq, e]; exact h
def litsOf (f : Nat → Bool) (n : Nat) : List Int := (List.range n).map fun i => if f i then ((i + 1 : Nat) : Int) else -((i + 1 : Nat) : Int)
theorem litsOf_pos {f : Nat → Bool} {n i : Nat} (hi : i < n) : (litsOf f n).contains ((i + 1 : Nat) : Int) = f i := by
 rw [Bool.eq_iff_iff, List.contains_iff_mem, litsOf, List.mem_map]
 constructor
 ·rintro ⟨j, _, h⟩
  cases hf : f j with
  | true =>
   rw [hf, if_pos rfl] at h
   have : j = i := by omega
   rw [← this, hf]
  | false => rw [hf, if_neg (by simp)] at h; omega
 ·intro h; exact ⟨i, List.mem_range.2 hi, by rw [h, if_pos rfl]⟩
theorem litsOf_neg {f : Nat → Bool} {n i : Nat} (hi : i < n) : (litsOf f n).contains (-((i + 1 : Nat) : Int)) = !f i := by
 rw [Bool.eq_iff_iff, List.contains_iff_mem, litsOf, List.mem_map]
 constructor
 ·rintro ⟨j, _, h⟩
  cases hf : f j with
  | true => rw [hf, if_pos rfl] at h; omega
  | false =>
   rw [hf, if_neg (by simp)] at h
   have : j = i := by omega
   rw [← this, hf]; rfl
 ·intro h; have h' : f i = false := by simpa using h
  exact ⟨i, List.mem_range.2 hi, by rw [h', if_neg (by simp)]⟩
theorem litsOf_ok {f : Nat → Bool} {n : Nat} {x : Int} (h : (litsOf f n).contains x = true) : LitOk n x := by
 rw [List.contains_iff_mem, litsOf, List.mem_map] at h
 obtain ⟨j, hj, h⟩ := h
 have := List.mem_range.1 hj
 unfold LitOk
 cases hf : f j <;> simp [hf] at h <;> omega
theorem litsOf_lit {f : Nat → Bool} {n : Nat} {x : Int} (hx : LitOk n x) : (litsOf f n).contains (-x) = !(litsOf f n).contains x := by
 obtain ⟨h0, h1, h2⟩ := hx
 by_cases hn : x < 0
 ·obtain ⟨i, hi⟩ := Int.eq_ofNat_of_zero_le (show 0 ≤ -x - 1 by omega)
  have e : x = -((i + 1 : Nat) : Int) := by omega
  rw [e, Int.neg_neg, litsOf_pos (by omega), litsOf_neg (by omega), Bool.not_not]
 ·obtain ⟨i, hi⟩ := Int.eq_ofNat_of_zero_le (show 0 ≤ x - 1 by omega)
  have e : x = ((i + 1 : Nat) : Int) := by omega
  rw [e, litsOf_pos (by omega), litsOf_neg (by omega)]
theorem litsOf_cons (f : Nat → Bool) (n : Nat) : Cons (litsOf f n) := fun x hx => by rw [litsOf_lit (litsOf_ok hx), hx]; rfl
def satB (cls : List (List Int)) (M : List Int) : Bool := cls.all fun l => l.any fun x => M.contains x
theorem satB_iff {cls : List (List Int)} {M : List Int} : satB cls M = true ↔ ∀ l ∈ cls, ∃ x ∈ l, M.contains x = true := by
 simp only [satB, List.all_eq_true, List.any_eq_true]
theorem litsOf_mod {cls : List (List Int)} {f : Nat → Bool} {n : Nat} (h : satB cls (litsOf f n) = true) : Mod n cls (litsOf f n) := by
 refine ⟨litsOf_cons f n, fun i h1 h2 => ?_, satB_iff.1 h⟩
 obtain ⟨j, rfl⟩ : ∃ j, i = j + 1 := ⟨i - 1, by omega⟩
 rw [litsOf_pos (by omega), litsOf_neg (by omega)]
 cases f j <;> simp
def subB (S M : List Int) : Bool := S.all fun y => M.contains y
theorem subB_iff {S M : List Int} : subB S M = true ↔ Sub S M := by
 unfold subB Sub
 rw [List.all_eq_true]
 exact ⟨fun h y hy => h y (List.contains_iff_mem.1 hy), fun h y hy => h y (List.contains_iff_mem.2 hy)⟩
def cntS (n : Nat) (cls : List (List Int)) (S : List Int) : Nat := (List.range (2 ^ n)).countP fun x => satB cls (litsOf x.testBit n) && subB S (litsOf x.testBit n)
theorem countP_congr' {α : Type} {p q : α → Bool} : ∀ l : List α, (∀ x ∈ l, p x = q x) → l.countP p = l.countP q
 | [], _ => rfl
 | x :: l, h => by
  rw [List.countP_cons, List.countP_cons, countP_congr' l (fun y hy => h y (List.mem_cons_of_mem _ hy)), h x (by simp)]
theorem countP_none {α : Type} {p : α → Bool} : ∀ l : List α, (∀ x ∈ l, p x = false) → l.countP p = 0
 | [], _ => rfl
 | x :: l, h => by rw [List.countP_cons, countP_none l (fun y hy => h y (List.mem_cons_of_mem _ hy)), h x (by simp)]; rfl
theorem countP_parts {α : Type} {p q r : α → Bool} : ∀ l : List α, (∀ x ∈ l, p x = (q x || r x) ∧ (q x && r x) = false) → l.countP p = l.countP q + l.countP r
 | [], _ => rfl
 | x :: l, h => by
  obtain ⟨h1, h2⟩ := h x (by simp)
  rw [List.countP_cons, List.countP_cons, List.countP_cons, countP_parts l (fun y hy => h y (List.mem_cons_of_mem _ hy)), h1]
  cases hq : q x <;> cases hr : r x <;> simp [hq, hr] at h2 ⊢ <;> omega
theorem cnt_none {n : Nat} {cls : List (List Int)} {S : List Int} (h : ∀ M, Mod n cls M → ¬ Sub S M) : cntS n cls S = 0 := by
 refine countP_none _ (fun x _ => ?_)
 cases hs : satB cls (litsOf x.testBit n) with
 | false => rfl
 | true =>
  cases hb : subB S (litsOf x.testBit n) with
  | false => rfl
  | true => exact absurd (subB_iff.1 hb) (h _ (litsOf_mod hs))
theorem cnt_split {n : Nat} {cls : List (List Int)} {S S' : List Int} {x : Int} (hsub : Sub S S') (hmod : ∀ M, Mod n cls M → Sub S M → Sub S' M) (hx : LitOk n x) : cntS n cls S = cntS n cls (x :: S') + cntS n cls ((-x) :: S') := by
 refine countP_parts _ (fun i _ => ?_)
 have hl := litsOf_lit (f := i.testBit) hx
 have hm : satB cls (litsOf i.testBit n) = true → Mod n cls (litsOf i.testBit n) := litsOf_mod
 generalize litsOf i.testBit n = M at hl hm
 have e1 : ∀ y : Int, subB (y :: S') M = (M.contains y && subB S' M) := fun y => rfl
 rw [e1, e1, hl]
 cases hs : satB cls M with
 | false => simp
 | true =>
  have e2 : subB S M = subB S' M := by
   rw [Bool.eq_iff_iff, subB_iff, subB_iff]
   exact ⟨hmod M (hm hs), fun h y hy => h y (hsub y hy)⟩
  rw [e2]
  cases M.contains x <;> cases subB S' M <;> simp
def agrB (S : List Int) (n x : Nat) : Bool := (List.range n).all fun i => (!S.contains ((i + 1 : Nat) : Int) || x.testBit i) && (!S.contains (-((i + 1 : Nat) : Int)) || !x.testBit i)
theorem agr_count {S : List Int} (hc : Cons S) : ∀ n : Nat, (List.range (2 ^ n)).countP (agrB S n) = 2 ^ und S n
 | 0 => by simp [agrB, und]
 | n + 1 => by
  have ih := agr_count hc n
  have hr : List.range (2 ^ (n + 1)) = List.range (2 ^ n) ++ (List.range (2 ^ n)).map (2 ^ n + ·) := by
   rw [Nat.pow_succ, Nat.mul_two, List.range_add]
  have h1 : (List.range (2 ^ n)).countP (agrB S (n + 1)) = if S.contains ((n + 1 : Nat) : Int) then 0 else (List.range (2 ^ n)).countP (agrB S n) := by
   by_cases h : S.contains ((n + 1 : Nat) : Int) = true
   ·rw [if_pos h]
    refine countP_none _ (fun x hx => ?_)
    have hx := Nat.testBit_lt_two_pow (List.mem_range.1 hx)
    unfold agrB
    rw [List.range_succ, List.all_append]
    simp only [List.all_cons, List.all_nil, hx, h]
    simp
   ·rw [if_neg h]
    refine countP_congr' _ (fun x hx => ?_)
    have hx := Nat.testBit_lt_two_pow (List.mem_range.1 hx)
    rw [Bool.not_eq_true] at h
    unfold agrB
    rw [List.range_succ, List.all_append]
    simp only [List.all_cons, List.all_nil, hx, h]
    simp
  have h2 : ((List.range (2 ^ n)).map (2 ^ n + ·)).countP (agrB S (n + 1)) = if S.contains (-((n + 1 : Nat) : Int)) then 0 else (List.range (2 ^ n)).countP (agrB S n) := by
   rw [List.countP_map]
   have hb : ∀ x ∈ List.range (2 ^ n), (2 ^ n + x).testBit n = true ∧ ∀ i < n, (2 ^ n + x).testBit i = x.testBit i := fun x hx => by
    rw [Nat.testBit_two_pow_add_eq, Nat.testBit_lt_two_pow (List.mem_range.1 hx)]
    exact ⟨rfl, fun i hi => Nat.testBit_two_pow_add_gt hi x⟩
   by_cases h : S.contains (-((n + 1 : Nat) : Int)) = true
   ·rw [if_pos h]
    refine countP_none _ (fun x hx => ?_)
    show agrB S (n + 1) (2 ^ n + x) = false
    unfold agrB
    rw [List.range_succ, List.all_append]
    simp only [List.all_cons, List.all_nil, (hb x hx).1, h]
    simp
   ·rw [if_neg h]
    refine countP_congr' _ (fun x hx => ?_)
    show agrB S (n + 1) (2 ^ n + x) = _
    rw [Bool.not_eq_true] at h
    unfold agrB
    rw [List.range_succ, List.all_append]
    simp only [List.all_cons, List.all_nil, (hb x hx).1, h]
    simp only [Bool.not_false, Bool.and_true, Bool.or_true, Bool.not_true, Bool.or_false]
    rw [Bool.eq_iff_iff, List.all_eq_true, List.all_eq_true]
    constructor
    ·intro hh i hi; have := hh i hi; rwa [(hb x hx).2 i (List.mem_range.1 hi)] at this
    ·intro hh i hi; rw [(hb x hx).2 i (List.mem_range.1 hi)]; exact hh i hi
  have hu : und S (n + 1) = und S n + if valS S ((n + 1 : Nat) : Int) == 0 then 1 else 0 := by
   unfold und
   rw [List.range_succ, List.filter_append, List.length_append]
   congr 1
   rw [List.filter_cons]
   split <;> simp
  rw [hr, List.countP_append, h1, h2, hu, ih]
  have hcc := hc ((n + 1 : Nat) : Int)
  unfold valS
  cases ha : S.contains ((n + 1 : Nat) : Int) <;> cases hb : S.contains (-((n + 1 : Nat) : Int))
  ·simp [Nat.pow_succ]; omega
  ·simp
  ·simp
  ·rw [hcc ha] at hb; cases hb
theorem cnt_full {n : Nat} {cls : List (List Int)} {S S' : List Int} (hc : Cons S') (hl : ∀ x, S'.contains x = true → LitOk n x) (hsub : Sub S S') (hmod : ∀ M, Mod n cls M → Sub S M → Sub S' M) (hall : ∀ l ∈ cls, ∃ x ∈ l, S'.contains x = true) : cntS n cls S = 2 ^ und S' n := by
 rw [← agr_count hc n]
 refine countP_congr' _ (fun i _ => ?_)
 have hag : agrB S' n i = subB S' (litsOf i.testBit n) := by
  rw [Bool.eq_iff_iff, subB_iff]
  unfold agrB
  rw [List.all_eq_true]
  constructor
  ·intro h y hy
   obtain ⟨h0, h1, h2⟩ := hl y hy
   by_cases hn : y < 0
   ·obtain ⟨j, hj⟩ := Int.eq_ofNat_of_zero_le (show 0 ≤ -y - 1 by omega)
    have e : y = -((j + 1 : Nat) : Int) := by omega
    have := h j (List.mem_range.2 (by omega))
    rw [e] at hy ⊢
    rw [hy, Bool.and_eq_true] at this
    rw [litsOf_neg (by omega)]; simpa using this.2
   ·obtain ⟨j, hj⟩ := Int.eq_ofNat_of_zero_le (show 0 ≤ y - 1 by omega)
    have e : y = ((j + 1 : Nat) : Int) := by omega
    have := h j (List.mem_range.2 (by omega))
    rw [e] at hy ⊢
    rw [hy, Bool.and_eq_true] at this
    rw [litsOf_pos (by omega)]; simpa using this.1
  ·intro h j hj
   have hj := List.mem_range.1 hj
   have p1 := h ((j + 1 : Nat) : Int)
   have p2 := h (-((j + 1 : Nat) : Int))
   rw [litsOf_pos hj] at p1
   rw [litsOf_neg hj] at p2
   cases ha : S'.contains ((j + 1 : Nat) : Int) <;> cases hb : S'.contains (-((j + 1 : Nat) : Int)) <;> simp_all
 rw [hag]
 have hm : satB cls (litsOf i.testBit n) = true → Mod n cls (litsOf i.testBit n) := litsOf_mod
 generalize litsOf i.testBit n = M at hm
 cases hb : subB S' M with
 | true =>
  have hs := subB_iff.1 hb
  rw [satB_iff.2 (fun l hlm => by obtain ⟨x, hx, hh⟩ := hall l hlm; exact ⟨x, hx, hs x hh⟩), subB_iff.2 (fun y hy => hs y (hsub y hy))]; rfl
 | false =>
  cases hs : satB cls M with
  | false => rfl
  | true =>
   cases hb2 : subB S M with
   | false => rfl
   | true => rw [subB_iff.2 (hmod M (hm hs) (subB_iff.1 hb2))] at hb; cases hb
structure CountIs (n : Nat) (cls : List (List Int)) (S : List Int) (c : Nat) : Prop where
 zero : c = 0 ↔ ¬ ∃ M, Mod n cls M ∧ Sub S M
 le : c ≤ 2 ^ und S n
 exact : c = cntS n cls S
theorem count_split {n : Nat} {cls : List (List Int)} {S S' : List Int} {x : Int} {a b : Nat} (hsub : Sub S S') (hmod : ∀ M, Mod n cls M → Sub S M → Sub S' M) (hx : LitOk n x) (hv : valS S' x = 0) (ha : CountIs n cls (x :: S') a) (hb : CountIs n cls ((-x) :: S') b) : CountIs n cls S (a + b) := by
 have hx' : LitOk n (-x) := ⟨by have := hx.1; omega, by have := hx.2.2; omega, by have := hx.2.1; omega⟩
 have hv' : valS S' (-x) = 0 := by rw [valS_zero] at hv ⊢; rw [Int.neg_neg]; exact ⟨hv.2, hv.1⟩
 refine ⟨?_, ?_, by rw [cnt_split hsub hmod hx, ha.exact, hb.exact]⟩
 ·have e : a + b = 0 ↔ a = 0 ∧ b = 0 := by omega
  rw [e, ha.zero, hb.zero]
  constructor
  ·rintro ⟨h1, h2⟩ ⟨M, hM, hs⟩
   have hs' := hmod M hM hs
   rcases hM.lit hx with q | q
   ·exact h1 ⟨M, hM, hs'.cons q⟩
   ·exact h2 ⟨M, hM, hs'.cons q⟩
  ·intro h
   exact ⟨fun ⟨M, hM, hs⟩ => h ⟨M, hM, fun y hy => hs.tail y (hsub y hy)⟩, fun ⟨M, hM, hs⟩ => h ⟨M, hM, fun y hy => hs.tail y (hsub y hy)⟩⟩
 ·have h1 := und_lt hx hv
  have h2 := und_lt hx' hv'
  have h3 := und_mono hsub n
  have h4 : 2 ^ und (x :: S') n ≤ 2 ^ (und S n - 1) := Nat.pow_le_pow_right (by decide) (by omega)
  have h5 : 2 ^ und ((-x) :: S') n ≤ 2 ^ (und S n - 1) := Nat.pow_le_pow_right (by decide) (by omega)
  have h6 : 2 ^ und S n = 2 ^ (und S n - 1) + 2 ^ (und S n - 1) := by
   obtain ⟨m, hm⟩ : ∃ m, und S n = m + 1 := ⟨und S n - 1, by omega⟩
   rw [hm, Nat.pow_succ, Nat.add_sub_cancel]; omega
  have := ha.le
  have := hb.le
  omega
theorem count_full {n : Nat} {cls : List (List Int)} {S S' : List Int} (hc : Cons S') (hl : ∀ x, S'.contains x = true → LitOk n x) (hmod : ∀ M, Mod n cls M → Sub S M → Sub S' M) (hsub : Sub S S') (hall : ∀ l ∈ cls, ∃ x ∈ l, S'.contains x = true) : CountIs n cls S (2 ^ und S' n) := by
 refine ⟨?_, Nat.pow_le_pow_right (by decide) (und_mono hsub n), (cnt_full hc hl hsub hmod hall).symm⟩
 have h0 : 0 < 2 ^ und S' n := Nat.pow_pos (by decide)
 constructor
 ·intro h; omega
 ·intro h
  obtain ⟨M, hM, hs⟩ := mod_of (n := n) hc hall
  exact absurd ⟨M, hM, fun y hy => hs y (hsub y hy)⟩ h
theorem count_none {n : Nat} {cls : List (List Int)} {S : List Int} (h : ∀ M, Mod n cls M → ¬ Sub S M) : CountIs n cls S 0 :=
 ⟨⟨fun _ ⟨M, hM, hs⟩ => h M hM hs, fun _ => rfl⟩, Nat.zero_le _, (cnt_none h).symm⟩
end Go.Proofs.YtkcfdddhnboieaaGreatDoor.NPlain
end
section
set_option maxRecDepth 100000
namespace Go.Proofs.YtkcfdddhnboieaaGreatDoor.NPlain
open Go Go.RowKit QW.PrintWords QW.PrintLast QW.PrintMore NState
open PPropagate (cnf_values_of.f cnf_values_set.f cnf_values_unit.l0 cnf_values_unit.j1 cnf_values_unit.f cnf_values_propagate.l0 cnf_values_propagate.l1 cnf_values_propagate.f)
def PropR (n : Nat) (cls : List (List Int)) (S : List Int) (r : Bool × List Int) : Prop :=
 (r.1 = true → ∃ T, Sub S T ∧ VOk n r.2 T ∧ Good cls T ∧ ∀ U, Good cls U → Sub S U → Sub T U) ∧ (r.1 = false → ¬ ∃ T, Sub S T ∧ Good cls T)
theorem sweep_ev {n : Nat} (hn : n ≤ 100000) (cls : List (List Int)) (hcl : cls.length ≤ 1000000000) (hl : ∀ l ∈ cls, l.length ≤ 1000000000 ∧ ∀ x ∈ l, LitOk n x) (m : Nat)
  (IH : ∀ (v S : List Int), VOk n v S → free S cls.flatten < m → ∃ r, Ev (fun k => cnf_values_propagate.l0 k v cls true) r ∧ PropR n cls S r) :
  ∀ i : Nat, i ≤ cls.length → ∀ (v S : List Int) (c : Bool), VOk n v S → free S cls.flatten ≤ m → (c = true → free S cls.flatten < m) → (c = false → ∀ l ∈ cls.take i, ¬ allF S l ∧ ∀ x, unitL S l x → S.contains x = true) →
   ∃ r, Ev (fun k => cnf_values_propagate.l1 k v cls c cls (cls.length : Int) (i : Int)) r ∧ PropR n cls S r := by
 refine down ?_ ?_
 ·intro v S c hv hm h1 h2
  cases c with
  | true =>
   obtain ⟨r, hr, hp⟩ := IH v S hv (h1 rfl)
   refine ⟨r, ?_, hp⟩
   refine Ev.succ ?_
   simp only [cnf_values_propagate.l1]
   exact Ev.neg (by omega) hr
  | false =>
   refine ⟨(true, v), ?_, fun _ => ⟨S, fun _ h => h, hv, fun l hl => h2 rfl l (by rw [List.take_length]; exact hl), fun _ _ h => h⟩, fun h => by cases h⟩
   refine Ev.succ ?_
   simp only [cnf_values_propagate.l1]
   refine Ev.neg (by omega) (Ev.succ ?_)
   simp only [cnf_values_propagate.l0]
   exact Ev.neg (by simp) (Ev.pure _)
 ·intro i hi ih v S c hv hm h1 h2
  have hrd : PPropagate.rL cls i = cls[i] := by simp [PPropagate.rL, List.getD, hi]
  have hmem : cls[i] ∈ cls := List.getElem_mem _
  have hu := unit_ev hn hv cls[i] (hl _ hmem).1 (hl _ hmem).2
  have hcase := unitS_is hn hv.cons cls[i] (hl _ hmem).2
  generalize unitS S 0 cls[i] = u at hu hcase
  have hbody : ∀ r, Ev (fun k => if u.2 = true then some (false, v) else if u.1 = 0 then cnf_values_propagate.l1 k v cls c cls (cls.length : Int) ((i + 1 : Nat) : Int) else (cnf_values_set.f v u.1).bind fun t => cnf_values_propagate.l1 k t cls true cls (cls.length : Int) ((i + 1 : Nat) : Int)) r → Ev (fun k => cnf_values_propagate.l1 k v cls c cls (cls.length : Int) (i : Int)) r := by
   intro r hr
   refine Ev.succ ?_
   simp only [cnf_values_propagate.l1]
   refine Ev.pos (by omega) (Ev.pos (by omega) (Ev.pos (by omega) ?_))
   rw [hrd, wrap_succ hi (by omega)]
   exact Ev.bind hu hr
  cases hcase with
  | conf hf =>
   exact ⟨(false, v), hbody _ (Ev.pos rfl (Ev.pure _)), (fun h => by cases h), fun _ ⟨T, hs, hg⟩ => good_conf hs hg hmem hf⟩
  | unit x hun hx hx0 =>
   have hxo : LitOk n x := (hl _ hmem).2 x hun.1
   have hcx : S.contains (-x) = false := by
    have := hun.2.1
    rwa [wneg (by have := hxo.2.1; omega) (by have := hxo.2.2; omega)] at this
   obtain ⟨v', he, hv'⟩ := set_ok hn hv hxo hcx
   have hlt := free_lt S x hx cls.flatten (List.mem_flatten.2 ⟨_, hmem, hun.1⟩)
   obtain ⟨r, hr, hp2, hp3⟩ := ih v' (x :: S) true hv' (by omega) (fun _ => by omega) (fun h => by cases h)
   refine ⟨r, hbody r ?_, fun h => ?_, fun h ⟨T, hs, hg⟩ => hp3 h ⟨T, hs.cons (good_unit hs hg hmem hun), hg⟩⟩
   ·refine Ev.neg (by simp) (Ev.neg hx0 ?_)
    simp only [he, Option.bind_some]
    exact hr
   ·obtain ⟨T, hs, hv, hg, hm⟩ := hp2 h
    exact ⟨T, hs.tail, hv, hg, fun U hU hsU => hm U hU (hsU.cons (good_unit hsU hU hmem hun))⟩
  | none hnf hall =>
   obtain ⟨r, hr, hp⟩ := ih v S c hv hm h1 (fun hc l hlm => by
    rw [List.take_succ_eq_append_getElem hi] at hlm
    rcases List.mem_append.1 hlm with h | h
    ·exact h2 hc l h
    ·simp at h; subst h; exact ⟨hnf, hall⟩)
   exact ⟨r, hbody r (Ev.neg (by simp) (Ev.pos rfl hr)), hp⟩
theorem prop_ev0 {n : Nat} (hn : n ≤ 100000) (cls : List (List Int)) (hcl : cls.length ≤ 1000000000) (hl : ∀ l ∈ cls, l.length ≤ 1000000000 ∧ ∀ x ∈ l, LitOk n x) : ∀ (m : Nat) (v S : List Int), VOk n v S → free S cls.flatten < m → ∃ r, Ev (fun k => cnf_values_propagate.l0 k v cls true) r ∧ PropR n cls S r
 | 0, v, S, _, h => absurd h (by omega)
 | m + 1, v, S, hv, h => by
  obtain ⟨r, hr, hp⟩ := sweep_ev hn cls hcl hl m (fun v S hv hf => prop_ev0 hn cls hcl hl m v S hv hf) 0 (Nat.zero_le _) v S false hv (by omega) (fun h => by cases h) (fun _ l h => by simp at h)
  refine ⟨r, ?_, hp⟩
  refine Ev.succ ?_
  simp only [cnf_values_propagate.l0]
  exact Ev.pos trivial hr
theorem prop_ev {n : Nat} (hn : n ≤ 100000) (cls : List (List Int)) (hcl : cls.length ≤ 1000000000) (hl : ∀ l ∈ cls, l.length ≤ 1000000000 ∧ ∀ x ∈ l, LitOk n x) {v S : List Int} (hv : VOk n v S) : ∃ r, Ev (fun k => cnf_values_propagate.f k v cls) r ∧ PropR n cls S r :=
 prop_ev0 hn cls hcl hl _ v S hv (Nat.lt_succ_self _)
theorem Mod.good {n : Nat} (hn : n ≤ 100000) {cls : List (List Int)} {M : List Int} (hl : ∀ l ∈ cls, ∀ x ∈ l, LitOk n x) (h : Mod n cls M) : Good cls M :=
 fun l hlm => ⟨mod_conf hn h (fun _ q => q) hlm (hl l hlm), fun _ hu => mod_unit hn h (fun _ q => q) hlm (hl l hlm) hu⟩
end Go.Proofs.YtkcfdddhnboieaaGreatDoor.NPlain
end
