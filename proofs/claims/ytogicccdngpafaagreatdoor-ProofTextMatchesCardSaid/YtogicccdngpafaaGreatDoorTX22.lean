/-
  Part 22 of the proof of proofTextMatches_card: walks and lemmas, packed by the session's own wip/pack.py out of its texts and of what the kit's print.sh printed.
-/
import Derived.Test.YtogicccdngpafaaGreatDoorTX20
import Derived.Test.YtogicccdngpafaaGreatDoorTX10
import Derived.Test.YtogicccdngpafaaGreatDoorTX14
import Derived.Test.YtogicccdngpafaaGreatDoorTX8
set_option linter.unusedVariables false
set_option linter.unusedSimpArgs false
section
set_option maxRecDepth 100000
namespace Go.Proofs.YtogicccdngpafaaGreatDoor.NPlain
open Go Go.RowKit Go.Lib QW.PrintWords QW.PrintLast QW.PrintMore NState
open NText (sb sb_list sb_size)
open PRFmt
theorem sb_append (a b : List UInt8) : sb a ++ sb b = sb (a ++ b) := by
 apply ByteArray.ext
 apply Array.ext'
 simp [sb]
theorem decDigits_len : ∀ (k u : Nat), u < 10 ^ (k + 1) → (decDigits u).length ≤ k + 1
 | 0, u, h => by rw [decDigits, dif_pos (by omega)]; simp
 | k + 1, u, h => by
  by_cases hu : u < 10
  ·rw [decDigits, dif_pos hu]; simp
  ·rw [decDigits, dif_neg hu, List.length_append]
   have : u / 10 < 10 ^ (k + 1) := by rw [Nat.pow_succ] at h; omega
   have := decDigits_len k (u / 10) this
   simp only [List.length_singleton]; omega
theorem decDigits_20 {u : Nat} (h : u < 18446744073709551616) : (decDigits u).length ≤ 20 := decDigits_len 19 u (Nat.lt_of_lt_of_le h (by decide))
theorem digit_cut {d : Nat} (h : d < 10) : (⟨#[48, 49, 50, 51, 52, 53, 54, 55, 56, 57]⟩ : ByteArray).extract d (d + 1) = sb [UInt8.ofNat (48 + d)] := by
 have : d = 0 ∨ d = 1 ∨ d = 2 ∨ d = 3 ∨ d = 4 ∨ d = 5 ∨ d = 6 ∨ d = 7 ∨ d = 8 ∨ d = 9 := by omega
 rcases this with rfl | rfl | rfl | rfl | rfl | rfl | rfl | rfl | rfl | rfl <;> rfl
theorem long_ev (u : Nat) : u < 18446744073709551616 → Ev (fun k => netlabref32_long.f k (u : Int)) (sb (decDigits u)) := by
 induction u using Nat.strongRecOn with
 | _ u ih =>
 intro h
 refine Ev.succ ?_
 have ht : Int.tmod (u : Int) 10 = ((u % 10 : Nat) : Int) := by rw [Int.tmod_eq_emod_of_nonneg (by omega)]; omega
 have hd : Int.tdiv (u : Int) 10 = ((u / 10 : Nat) : Int) := by rw [Int.tdiv_eq_ediv_of_nonneg (by omega)]; omega
 have hw : IntKind.u64.wrap (((u % 10 : Nat) : Int) + 1) = ((u % 10 + 1 : Nat) : Int) := by
  rw [IntKind.wrap_u64]; omega
 have hw2 : IntKind.u64.wrap ((u / 10 : Nat) : Int) = ((u / 10 : Nat) : Int) := by
  rw [IntKind.wrap_u64]; omega
 simp only [netlabref32_long.f, ht, hd, hw, hw2]
 refine Ev.pos (by omega) (Ev.pos (by omega) (Ev.pos (by omega) ?_))
 by_cases hu : u < 10
 ·refine Ev.pos (by omega) ?_
  refine Ev.pureOf ?_
  simp only [Int.toNat_natCast]
  rw [digit_cut (by omega), decDigits, dif_pos hu, Nat.mod_eq_of_lt hu]
 ·refine Ev.neg (by omega) ?_
  refine Ev.bind (ih (u / 10) (by omega) (by omega)) ?_
  simp only [Int.toNat_natCast]
  rw [digit_cut (by omega)]
  refine Ev.pos (by have := decDigits_20 (u := u / 10) (by omega); rw [sb_size, sb_size]; simp; omega) ?_
  refine Ev.pureOf ?_
  rw [sb_append]
  conv => rhs; rw [decDigits, dif_neg hu]
def Fits (x : Int) : Prop := -9223372036854775808 ≤ x ∧ x ≤ 9223372036854775807
theorem itoa_len {x : Int} (h : Fits x) : (itoa x).length ≤ 21 := by
 unfold itoa
 obtain ⟨h0, h1⟩ := h
 split
 ·have := decDigits_20 (u := x.natAbs) (by omega); simp only [List.length_cons]; omega
 ·have := decDigits_20 (u := x.toNat) (by omega); omega
theorem digits_ev {x : Int} (h : Fits x) : Ev (fun k => netlabref32_Digits.f k x) (sb (itoa x)) := by
 obtain ⟨h0, h1⟩ := h
 simp only [netlabref32_Digits.f]
 by_cases hx : x < 0
 ·refine Ev.pos hx ?_
  have e : IntKind.u64.wrap (IntKind.u64.wrap (wrap64 (-(wrap64 (x + 1)))) + 1) = (x.natAbs : Int) := by
   unfold wrap64; rw [IntKind.wrap_u64, IntKind.wrap_u64]; omega
  rw [e]
  refine Ev.bind (long_ev x.natAbs (by omega)) ?_
  refine Ev.pos (by have := decDigits_20 (u := x.natAbs) (by omega); rw [sb_size]; omega) ?_
  refine Ev.pureOf ?_
  have : (⟨#[45]⟩ : ByteArray) = sb [45] := rfl
  rw [this, sb_append]
  unfold itoa; rw [if_pos hx]; rfl
 ·refine Ev.neg hx ?_
  have e : IntKind.u64.wrap x = (x.toNat : Int) := by rw [IntKind.wrap_u64]; omega
  rw [e]
  refine Ev.bind (long_ev x.toNat (by omega)) ?_
  refine Ev.pureOf ?_
  unfold itoa; rw [if_neg hx]
theorem numL_cons (x : Int) (l : List Int) : numL (x :: l) = itoa x ++ [32] ++ numL l := by simp [numL]
theorem words_ev0 (l : List Int) (hf : ∀ x ∈ l, Fits x) (hl : l.length ≤ 1000000) : ∀ i : Nat, i ≤ l.length → ∀ acc : List UInt8, acc.length + 30 * (l.length - i) ≤ 1000000000000 → Ev (fun k => netlabref33_words.l0 k l (sb acc) (i : Int)) (sb (acc ++ numL (l.drop i))) := by
 refine down ?_ ?_
 ·intro acc ha
  refine Ev.succ ?_
  simp only [netlabref33_words.l0]
  refine Ev.neg (by omega) (Ev.pos (by rw [sb_size]; omega) ?_)
  refine Ev.pureOf ?_
  have : (⟨#[48]⟩ : ByteArray) = sb [48] := rfl
  rw [this, sb_append, List.drop_length]; rfl
 ·intro i hi ih acc ha
  refine Ev.succ ?_
  simp only [netlabref33_words.l0]
  have hx : Fits (rd l (i : Int)) := by
   have : rd l (i : Int) = l[i] := by simp [rd, List.getD, hi]
   rw [this]; exact hf _ (List.getElem_mem _)
  have hn := itoa_len hx
  refine Ev.pos (by omega) (Ev.pos (by omega) (Ev.bind (digits_ev hx) ?_))
  rw [sb_append]
  refine Ev.pos (by rw [sb_size, sb_size]; omega) (Ev.pos (by rw [sb_size]; simp only [List.length_append]; omega) ?_)
  have : (⟨#[32]⟩ : ByteArray) = sb [32] := rfl
  rw [this, sb_append, wrap_succ hi (by omega)]
  have h2 := ih (acc ++ itoa (rd l (i : Int)) ++ [32]) (by simp only [List.length_append, List.length_singleton]; omega)
  rw [drop_rd hi, numL_cons]
  simpa only [List.append_assoc] using h2
theorem words_ev (l : List Int) (hf : ∀ x ∈ l, Fits x) (hl : l.length ≤ 1000000) : Ev (fun k => netlabref33_words.f k l) (sb (numL l)) := by
 have h := words_ev0 l hf hl 0 (Nat.zero_le _) [] (by simp; omega)
 simp only [List.nil_append, List.drop_zero] at h
 exact h
theorem numL_len (l : List Int) (hf : ∀ x ∈ l, Fits x) : (numL l).length ≤ 22 * l.length + 1 := by
 induction l with
 | nil => simp [numL]
 | cons x l ih =>
  have := ih (fun y hy => hf y (List.mem_cons_of_mem _ hy))
  have := itoa_len (hf x List.mem_cons_self)
  rw [numL_cons]; simp only [List.length_append, List.length_cons, List.length_nil]; omega
def sF (x : Stp) : S42 := ⟨x.f0, x.f1, x.f2⟩
theorem C_sF {w : World} {A : Option Addr} {n : Nat} {p : List Stp} (h : Kd.C kStp w A n p) : Kd.C k42 w A n (p.map sF) := by
 obtain ⟨h1, h2, h3⟩ := h
 refine ⟨by simpa using h1, h2, fun hp => ?_⟩
 obtain ⟨ad, h4, h5⟩ := h3 hp
 refine ⟨ad, h4, fun j x hj => ?_⟩
 rw [List.getElem?_map] at hj
 cases hx : p[j]? with
 | none => rw [hx] at hj; cases hj
 | some y =>
  rw [hx] at hj
  obtain rfl := Option.some.inj hj
  exact h5 j y hx
theorem rdSF {p : List Stp} {i : Nat} (h : i < p.length) : rd_T42 (p.map sF) (i : Int) = sF p[i] := by simp [rd_T42, List.getD, h]
def FitsP (p : List Stp) : Prop := ∀ x ∈ p, (∀ y ∈ x.f0, Fits y) ∧ (∀ y ∈ x.f2, Fits y) ∧ x.f0.length ≤ 1000 ∧ x.f2.length ≤ 1000
theorem text_ev0 (p : List Stp) (hf : FitsP p) (hl : p.length ≤ 1000000) : ∀ i : Nat, i ≤ p.length → ∀ (n : Int) (acc : List UInt8), 0 ≤ n → n + (p.length - i : Nat) ≤ 1000000000 → acc.length + 100000 * (p.length - i) ≤ 1000000000000000 →
  Ev (fun k => netlabref33_Text.l0 k n (p.map sF) (sb acc) (i : Int)) (sb (acc ++ fmtL n (p.drop i))) := by
 refine down ?_ ?_
 ·intro n acc h0 hn ha
  refine Ev.succ ?_
  simp only [netlabref33_Text.l0, List.length_map]
  refine Ev.neg (by omega) ?_
  refine Ev.pureOf ?_
  rw [List.drop_length]; simp [fmtL]
 ·intro i hi ih n acc h0 hn ha
  refine Ev.succ ?_
  simp only [netlabref33_Text.l0, List.length_map]
  rw [rdSF hi]
  obtain ⟨f0, f2, l0, l2⟩ := hf p[i] (List.getElem_mem _)
  have k0 := numL_len _ f0
  have k2 := numL_len _ f2
  have e1 : (⟨#[10]⟩ : ByteArray) = sb [10] := rfl
  have e2 : (⟨#[32]⟩ : ByteArray) = sb [32] := rfl
  have e3 : (⟨#[32, 100, 32]⟩ : ByteArray) = sb [32, 100, 32] := rfl
  have hd : p.drop i = p[i] :: p.drop (i + 1) := List.drop_eq_getElem_cons hi
  have hpl : p.length - (i + 1) + 1 = p.length - i := by omega
  generalize p[i] = x at f0 f2 l0 l2 k0 k2 hd
  show Ev (fun k => if (i : Int) < (p.length : Int) then _ else _) _
  refine Ev.pos (by omega) (Ev.pos (by omega) ?_)
  by_cases hg : x.f1 = true
  ·refine Ev.pos hg ?_
   have hn1 : Fits n := ⟨by omega, by omega⟩
   have hi1 := itoa_len hn1
   refine Ev.bind (digits_ev hn1) ?_
   simp only [e1, e2, e3, sb_append, sb_size, List.length_append]
   refine Ev.pos (by omega) (Ev.pos (by omega) (Ev.bind (words_ev x.f2 f2 (by omega)) ?_))
   simp only [sb_append, sb_size, List.length_append, List.length_cons, List.length_nil]
   refine Ev.pos (by omega) (Ev.pos (by omega) ?_)
   rw [wrap_succ hi (by omega)]
   have h2 := ih n (acc ++ itoa n ++ [32, 100, 32] ++ numL x.f2 ++ [10]) h0 (by omega) (by simp only [List.length_append, List.length_cons, List.length_nil]; omega)
   rw [hd]
   have hx : fmtL n (x :: p.drop (i + 1)) = itoa n ++ [32, 100, 32] ++ numL x.f2 ++ [10] ++ fmtL n (p.drop (i + 1)) := by simp [fmtL, fmtX, fmtN, hg]
   rw [hx]
   simpa only [List.append_assoc] using h2
  ·refine Ev.neg hg ?_
   have hn1 : Fits (n + 1) := ⟨by omega, by omega⟩
   have hi1 := itoa_len hn1
   have hw : wrap64 (n + 1) = n + 1 := by unfold wrap64; omega
   rw [hw]
   refine Ev.bind (digits_ev hn1) ?_
   simp only [e1, e2, e3, sb_append, sb_size, List.length_append, List.length_cons, List.length_nil]
   refine Ev.pos (by omega) (Ev.pos (by omega) (Ev.bind (words_ev x.f0 f0 (by omega)) ?_))
   simp only [sb_append, sb_size, List.length_append, List.length_cons, List.length_nil]
   refine Ev.pos (by omega) (Ev.pos (by omega) (Ev.bind (words_ev x.f2 f2 (by omega)) ?_))
   simp only [sb_append, sb_size, List.length_append, List.length_cons, List.length_nil]
   refine Ev.pos (by omega) (Ev.pos (by omega) ?_)
   rw [wrap_succ hi (by omega)]
   have h2 := ih (n + 1) (acc ++ itoa (n + 1) ++ [32] ++ numL x.f0 ++ [32] ++ numL x.f2 ++ [10]) (by omega) (by omega) (by simp only [List.length_append, List.length_cons, List.length_nil]; omega)
   rw [hd]
   have hx : fmtL n (x :: p.drop (i + 1)) = itoa (n + 1) ++ [32] ++ numL x.f0 ++ [32] ++ numL x.f2 ++ [10] ++ fmtL (n + 1) (p.drop (i + 1)) := by simp [fmtL, fmtX, fmtN, hg]
   rw [hx]
   simpa only [List.append_assoc] using h2
theorem refFormat_ev (n : Int) (p : List Stp) (hf : FitsP p) (hl : p.length ≤ 1000000) : Ev (fun k => netlabref33_Format.f k n (p.map sF)) (sb (formatF n p).1, (formatF n p).2) := by
 have he : (⟨#[]⟩ : ByteArray) = sb [] := rfl
 simp only [netlabref33_Format.f]
 unfold formatF
 by_cases h0 : n < 0
 ·refine Ev.pos h0 (Ev.succ ?_)
  simp only [netlabref33_Format.j0]
  refine Ev.pos (by trivial) ?_
  exact Ev.pureOf (by rw [if_pos (Or.inl h0), he])
 ·refine Ev.neg h0 (Ev.succ ?_)
  simp only [netlabref33_Format.j0]
  by_cases h1 : 16384 < n
  ·refine Ev.pos (decide_eq_true h1) ?_
   exact Ev.pureOf (by rw [if_pos (Or.inr h1), he])
  ·refine Ev.neg (by simpa using h1) ?_
   have ht : Ev (fun k => netlabref33_Text.f k n (p.map sF)) (sb (fmtL n p)) := by
    have h := text_ev0 p hf hl 0 (Nat.zero_le _) n [] (by omega) (by omega) (by simp; omega)
    simp only [List.nil_append, List.drop_zero] at h
    exact h
   refine Ev.bind ht ?_
   have hz := sb_size (fmtL n p)
   have hr : ¬ (n < 0 ∨ 16384 < n) := by omega
   by_cases h2 : 65536 < (fmtL n p).length
   ·refine Ev.pos (by rw [hz]; omega) ?_
    exact Ev.pureOf (by rw [if_neg hr, if_pos h2, he])
   ·refine Ev.neg (by rw [hz]; omega) ?_
    exact Ev.pureOf (by rw [if_neg hr, if_neg h2])
end Go.Proofs.YtogicccdngpafaaGreatDoor.NPlain
end
