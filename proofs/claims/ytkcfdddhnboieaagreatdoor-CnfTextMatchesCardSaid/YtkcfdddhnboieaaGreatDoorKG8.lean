/-
  Part 8 of the proof of cnfTextMatches_card: walks and lemmas.
-/
import Derived.Lib.DecodeN
import Derived.Lib.IndexAny
import Derived.Lib.IndexBytes
import Derived.Lib.TrimU
import Derived.Laws.RangeAny
set_option linter.unusedVariables false
set_option linter.unusedSimpArgs false
section
set_option maxRecDepth 100000
namespace Go.Proofs.YtkcfdddhnboieaaGreatDoor.NText
open Go Go.Lib
theorem decodeN_high {n b0 b1 b2 b3 c k : Nat} (h : decodeN n b0 b1 b2 b3 = (c, k)) (hn : 1 ≤ n) (h0 : 128 ≤ b0) (h3' : b0 < 256) : 128 ≤ c ∧ c ≤ 1114111 ∧ 1 ≤ k ∧ k ≤ n ∧ k ≤ 4 ∧ (1 < k → 128 ≤ b1) ∧ (2 < k → 128 ≤ b2) ∧ (3 < k → 128 ≤ b3) := by
 unfold decodeN at h
 repeat' split at h
 all_goals (injection h with e1 e2; subst e1 e2; omega)
theorem get_of {s : ByteArray} {j : Nat} {b : UInt8} (h : s.data.toList[j]? = some b) : s.get! j = b := by
 obtain ⟨d⟩ := s
 show d[j]! = b
 have h' : d[j]? = some b := by rw [← Array.getElem?_toList]; exact h
 simp [getElem!_def, h']
theorem decode_skip (s : ByteArray) (i : Nat) (x : UInt8) (hx : s.data.toList[i]? = some x) (ha : 128 ≤ x.toNat) :
  ∃ c k, Utf8.decode s i = (c, k) ∧ 128 ≤ c ∧ c ≤ 1114111 ∧ 1 ≤ k ∧ i + k ≤ s.size ∧ ∀ j b, i ≤ j → j < i + k → s.data.toList[j]? = some b → 128 ≤ b.toNat := by
 have hi : i < s.size := by rw [size_eq]; exact (List.getElem?_eq_some_iff.1 hx).1
 obtain ⟨⟨c, k⟩, hd⟩ : ∃ p, Utf8.decode s i = p := ⟨_, rfl⟩
 refine ⟨c, k, hd, ?_⟩
 rw [decode_at, get_of hx] at hd
 obtain ⟨h1, h2, h3, h4, h5, h6, h7, h8⟩ := decodeN_high hd (by omega) ha (UInt8.toNat_lt _)
 refine ⟨h1, h2, h3, by omega, fun j b hj hk hb => ?_⟩
 have hg := get_of hb
 obtain ⟨o, rfl⟩ : ∃ o, j = i + o := ⟨j - i, by omega⟩
 match o, hg with
 | 0, hg => rw [Nat.add_zero, hx] at hb; cases hb; exact ha
 | 1, hg => rw [← hg]; exact h6 (by omega)
 | 2, hg => rw [← hg]; exact h7 (by omega)
 | 3, hg => rw [← hg]; exact h8 (by omega)
 | o + 4, hg => omega
theorem encode_high (r : Nat) (h : 128 ≤ r) : (∃ a b : UInt8, Utf8.encode r = ⟨#[a, b]⟩ ∧ 128 ≤ b.toNat) ∨ (∃ a b c : UInt8, Utf8.encode r = ⟨#[a, b, c]⟩ ∧ 128 ≤ c.toNat) ∨ (∃ a b c d : UInt8, Utf8.encode r = ⟨#[a, b, c, d]⟩ ∧ 128 ≤ d.toNat) := by
 have hc : ∃ c : Nat, (if Utf8.valid (r : Int) then (r : Int).toNat else Utf8.runeError) = c ∧ 128 ≤ c := by
  refine ⟨_, rfl, ?_⟩
  split
  ·simpa using h
  ·decide
 obtain ⟨c, hc, h1⟩ := hc
 have hb : ∀ n : Nat, 128 ≤ (UInt8.ofNat (0x80 + n % 64)).toNat := fun n => by
  rw [UInt8.toNat_ofNat']; omega
 unfold Utf8.encode
 simp only [hc]
 rw [if_neg (by omega)]
 split
 ·exact .inl ⟨_, _, rfl, hb _⟩
 ·split
  ·exact .inr (.inl ⟨_, _, _, rfl, hb _⟩)
  ·exact .inr (.inr ⟨_, _, _, _, rfl, hb _⟩)
theorem noAny_run {l cs : List UInt8} {i j : Nat} (h : NoAny l cs i) (hc : ∀ b ∈ cs, b.toNat < 128) (hb : ∀ k b, i ≤ k → k < j → l[k]? = some b → 128 ≤ b.toNat) : NoAny l cs j := fun k b hk hkb => by
 by_cases e : k < i
 ·exact h k b e hkb
 ·have := hb k b (by omega) hk hkb
  cases hcon : cs.contains b with
  | false => rfl
  | true => have := hc b (by simpa using hcon); omega
end Go.Proofs.YtkcfdddhnboieaaGreatDoor.NText
end
