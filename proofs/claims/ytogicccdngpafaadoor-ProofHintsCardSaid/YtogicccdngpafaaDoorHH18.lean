/-
  Part 18 of the proof of proofHints_card: walks and lemmas, packed by the session's own wip/pack.py out of its texts and of what the kit's print.sh printed.
-/
import Derived.Test.YtogicccdngpafaaDoorHH7
import Derived.Test.YtogicccdngpafaaDoorHH17
import Derived.Test.YtogicccdngpafaaDoorHH9
section
namespace Go.Proofs.YtogicccdngpafaaDoor.NPlain
open Go Go.RowKit Go.Proofs.YtogicccdngpafaaDoorW.PrintWords Go.Proofs.YtogicccdngpafaaDoorW.PrintLast Go.Proofs.YtogicccdngpafaaDoorW.PrintMore Go.Proofs.YtogicccdngpafaaDoor.NState
def allF (S l : List Int) : Prop := ∀ y ∈ l, S.contains (wrap64 (-y)) = true
def unitL (S l : List Int) (x : Int) : Prop := x ∈ l ∧ S.contains (wrap64 (-x)) = false ∧ ∀ y ∈ l, y = x ∨ S.contains (wrap64 (-y)) = true
theorem openL_mem_iff (A : List Int) : ∀ (l out : List Int) (y : Int), y ∈ openL A out l ↔ y ∈ out ∨ (y ∈ l ∧ A.contains (wrap64 (-y)) = false)
  | [], out, y => by simp [openL]
  | x :: xs, out, y => by
    rw [openL]
    by_cases h0 : A.contains (wrap64 (-x)) = true
    · rw [if_pos h0, openL_mem_iff A xs out y]
      constructor
      · rintro (h | ⟨h, h1⟩)
        · exact .inl h
        · exact .inr ⟨List.mem_cons_of_mem _ h, h1⟩
      · rintro (h | ⟨h, h1⟩)
        · exact .inl h
        · rcases List.mem_cons.1 h with rfl | h
          · rw [h0] at h1; cases h1
          · exact .inr ⟨h, h1⟩
    rw [if_neg h0]
    rw [Bool.not_eq_true] at h0
    by_cases h2 : out.contains x = true
    · rw [if_pos h2, openL_mem_iff A xs out y]
      constructor
      · rintro (h | ⟨h, h1⟩)
        · exact .inl h
        · exact .inr ⟨List.mem_cons_of_mem _ h, h1⟩
      · rintro (h | ⟨h, h1⟩)
        · exact .inl h
        · rcases List.mem_cons.1 h with rfl | h
          · exact .inl (List.contains_iff_mem.1 h2)
          · exact .inr ⟨h, h1⟩
    · rw [if_neg h2, openL_mem_iff A xs (out ++ [x]) y]
      constructor
      · rintro (h | ⟨h, h1⟩)
        · rcases List.mem_append.1 h with h | h
          · exact .inl h
          · simp at h; subst h; exact .inr ⟨List.mem_cons_self, h0⟩
        · exact .inr ⟨List.mem_cons_of_mem _ h, h1⟩
      · rintro (h | ⟨h, h1⟩)
        · exact .inl (List.mem_append_left _ h)
        · rcases List.mem_cons.1 h with rfl | h
          · exact .inl (List.mem_append_right _ (by simp))
          · exact .inr ⟨h, h1⟩
theorem openL_nodup (A : List Int) : ∀ (l out : List Int), out.Nodup → (openL A out l).Nodup
  | [], out, h => h
  | x :: xs, out, h => by
    rw [openL]
    split
    · exact openL_nodup A xs out h
    split
    · exact openL_nodup A xs out h
    · rename_i h2
      refine openL_nodup A xs _ (List.nodup_append.2 ⟨h, by simp, ?_⟩)
      intro a ha b hb hab
      simp at hb; subst hb; subst hab
      exact h2 (List.contains_iff_mem.2 ha)
theorem openL_nil {A l : List Int} : openL A [] l = [] ↔ allF A l := by
  rw [List.eq_nil_iff_forall_not_mem]
  constructor
  · intro h y hy
    cases hc : A.contains (wrap64 (-y)) with
    | true => rfl
    | false => exact absurd ((openL_mem_iff A l [] y).2 (.inr ⟨hy, hc⟩)) (h y)
  · intro h y hy
    rcases (openL_mem_iff A l [] y).1 hy with h1 | ⟨h1, h2⟩
    · cases h1
    · rw [h y h1] at h2; cases h2
theorem one_of {L : List Int} {x : Int} (hn : L.Nodup) (hx : x ∈ L) (h : ∀ y ∈ L, y = x) : L = [x] := by
  match L, hn, hx, h with
  | [a], _, _, h => rw [h a (by simp)]
  | a :: b :: q, hn, _, h =>
    have h1 := h a (by simp)
    have h2 := h b (by simp)
    simp [h1, h2] at hn
theorem openL_one {A l : List Int} {x : Int} : openL A [] l = [x] ↔ unitL A l x := by
  constructor
  · intro h
    have hm := openL_mem_iff A l []
    rw [h] at hm
    have hx := (hm x).1 (by simp)
    rcases hx with hx | ⟨hx1, hx2⟩
    · cases hx
    refine ⟨hx1, hx2, fun y hy => ?_⟩
    cases hc : A.contains (wrap64 (-y)) with
    | true => exact .inr rfl
    | false => exact .inl (by simpa using (hm y).2 (.inr ⟨hy, hc⟩))
  · rintro ⟨h1, h2, h3⟩
    refine one_of (openL_nodup A l [] List.nodup_nil) ((openL_mem_iff A l [] x).2 (.inr ⟨h1, h2⟩)) (fun y hy => ?_)
    rcases (openL_mem_iff A l [] y).1 hy with h | ⟨ha, hb⟩
    · cases h
    · rcases h3 y ha with h | h
      · exact h
      · rw [h] at hb; cases hb
def Sub (S T : List Int) : Prop := ∀ y, S.contains y = true → T.contains y = true
def Good (cls : List (List Int)) (T : List Int) : Prop := ∀ l ∈ cls, ¬ allF T l ∧ ∀ x, unitL T l x → T.contains x = true
theorem good_conf {cls : List (List Int)} {S T l : List Int} (hs : Sub S T) (hg : Good cls T) (hl : l ∈ cls) : ¬ allF S l := fun h => (hg l hl).1 fun y hy => hs _ (h y hy)
theorem good_unit {cls : List (List Int)} {S T l : List Int} {x : Int} (hs : Sub S T) (hg : Good cls T) (hl : l ∈ cls) (hu : unitL S l x) : T.contains x = true := by
  obtain ⟨h1, h2, h3⟩ := hu
  refine (hg l hl).2 x ⟨h1, ?_, fun y hy => ?_⟩
  · cases hc : T.contains (wrap64 (-x)) with
    | false => rfl
    | true =>
      exact absurd (fun y hy => by
        rcases h3 y hy with rfl | h
        · exact hc
        · exact hs _ h) (hg l hl).1
  · rcases h3 y hy with h | h
    · exact .inl h
    · exact .inr (hs _ h)
theorem Sub.cons {S T : List Int} {x : Int} (h : Sub S T) (hx : T.contains x = true) : Sub (x :: S) T := by
  intro y hy
  rw [List.contains_cons, Bool.or_eq_true] at hy
  rcases hy with e | e
  · have : y = x := by simpa using e
    rw [this]; exact hx
  · exact h y e
theorem Sub.tail {S T : List Int} {x : Int} (h : Sub (x :: S) T) : Sub S T := fun y hy => h y (by rw [List.contains_cons, hy]; simp)
theorem left0 {S l : List Int} : (leftL S 0 0 l).2 = 0 ↔ allF S l := by
  rw [left_open (S := S) (A := S) (fun _ => rfl), ← openL_nil]
  match openL S [] l with
  | [] => simp [codeL]
  | [_] => simp [codeL]
  | _ :: _ :: _ => simp [codeL]
theorem left1 {S l : List Int} {x : Int} : leftL S 0 0 l = (x, 1) ↔ unitL S l x := by
  rw [left_open (S := S) (A := S) (fun _ => rfl), ← openL_one]
  match openL S [] l with
  | [] => simp [codeL]
  | [_] => simp [codeL]
  | _ :: _ :: _ => simp [codeL]
theorem scan_keep {S : List Int} : ∀ (ls : List (List Int)) (i u o : Int), 0 ≤ i → 0 < u → 0 < (scanL S i u o ls).2.1
  | [], i, u, o, _, h => h
  | l :: ls, i, u, o, hi, h => by
    rw [scanL]
    split
    · exact h
    split
    · exact scan_keep ls _ _ _ (by omega) (by omega)
    · exact scan_keep ls _ _ _ (by omega) h
theorem scan_none {S : List Int} : ∀ (ls : List (List Int)) (i u o : Int), 0 ≤ i → (scanL S i u o ls).1 = 0 → ∀ l ∈ ls, ¬ allF S l
  | l :: ls, i, u, o, hi, h, l', hl' => by
    rw [scanL] at h
    by_cases h0 : (leftL S 0 0 l).2 = 0
    · rw [if_pos h0] at h
      exact absurd h (by show ¬ (i + 1 = 0); omega)
    rw [if_neg h0] at h
    rcases List.mem_cons.1 hl' with rfl | hl'
    · exact fun hf => h0 (left0.2 hf)
    · by_cases h1 : (leftL S 0 0 l).2 = 1 ∧ S.contains (leftL S 0 0 l).1 = false ∧ u = 0
      · rw [if_pos h1] at h
        exact scan_none ls _ _ _ (by omega) h l' hl'
      · rw [if_neg h1] at h
        exact scan_none ls _ _ _ (by omega) h l' hl'
theorem scan_zero {S : List Int} : ∀ (ls : List (List Int)) (i o : Int), 0 ≤ i → (scanL S i 0 o ls).1 = 0 → (scanL S i 0 o ls).2.1 = 0 → ∀ l ∈ ls, ∀ x, unitL S l x → S.contains x = true
  | l :: ls, i, o, hi, h, h2, l', hl', x, hx => by
    rw [scanL] at h h2
    by_cases h0 : (leftL S 0 0 l).2 = 0
    · rw [if_pos h0] at h
      exact absurd h (by show ¬ (i + 1 = 0); omega)
    rw [if_neg h0] at h h2
    by_cases h1 : (leftL S 0 0 l).2 = 1 ∧ S.contains (leftL S 0 0 l).1 = false ∧ (0 : Int) = 0
    · rw [if_pos h1] at h h2
      have := scan_keep (S := S) ls (i + 1) (i + 1) (leftL S 0 0 l).1 (by omega) (by omega)
      omega
    · rw [if_neg h1] at h h2
      rcases List.mem_cons.1 hl' with rfl | hl'
      · cases hc : S.contains x with
        | true => rfl
        | false =>
          rw [left1.2 hx] at h1
          exact absurd ⟨rfl, hc, rfl⟩ h1
      · exact scan_zero ls _ _ (by omega) h h2 l' hl' x hx
theorem scan_hit {S : List Int} : ∀ (ls : List (List Int)) (i u o : Int), 0 ≤ i → (scanL S i u o ls).1 ≠ 0 → ∃ j l, (scanL S i u o ls).1 = i + (j : Nat) + 1 ∧ ls[j]? = some l ∧ allF S l
  | [], i, u, o, _, h => absurd rfl h
  | l :: ls, i, u, o, hi, h => by
    rw [scanL] at h ⊢
    by_cases h0 : (leftL S 0 0 l).2 = 0
    · rw [if_pos h0]
      exact ⟨0, l, by show i + 1 = _; omega, rfl, left0.1 h0⟩
    rw [if_neg h0] at h ⊢
    by_cases h1 : (leftL S 0 0 l).2 = 1 ∧ S.contains (leftL S 0 0 l).1 = false ∧ u = 0
    · rw [if_pos h1] at h ⊢
      obtain ⟨j, l', e, hl, hf⟩ := scan_hit ls _ _ _ (by omega) h
      exact ⟨j + 1, l', by rw [e]; omega, hl, hf⟩
    · rw [if_neg h1] at h ⊢
      obtain ⟨j, l', e, hl, hf⟩ := scan_hit ls _ _ _ (by omega) h
      exact ⟨j + 1, l', by rw [e]; omega, hl, hf⟩
theorem scan_same {S : List Int} : ∀ (ls : List (List Int)) (i u o : Int), 0 ≤ i → 0 < u → (scanL S i u o ls).2 = (u, o)
  | [], i, u, o, _, h => rfl
  | l :: ls, i, u, o, hi, h => by
    rw [scanL]
    split
    · rfl
    split
    · rename_i h1; omega
    · exact scan_same ls _ _ _ (by omega) h
theorem scan_unit2 {S : List Int} : ∀ (ls : List (List Int)) (i o : Int), 0 ≤ i → (scanL S i 0 o ls).2.1 ≠ 0 → ∃ j l, (scanL S i 0 o ls).2.1 = i + (j : Nat) + 1 ∧ ls[j]? = some l ∧ leftL S 0 0 l = ((scanL S i 0 o ls).2.2, 1) ∧ S.contains (scanL S i 0 o ls).2.2 = false
  | [], i, o, _, h => absurd rfl h
  | l :: ls, i, o, hi, h => by
    rw [scanL] at h ⊢
    by_cases h0 : (leftL S 0 0 l).2 = 0
    · rw [if_pos h0] at h
      exact absurd rfl h
    rw [if_neg h0] at h ⊢
    by_cases h1 : (leftL S 0 0 l).2 = 1 ∧ S.contains (leftL S 0 0 l).1 = false ∧ (0 : Int) = 0
    · rw [if_pos h1, scan_same ls _ _ _ (by omega) (by omega)]
      refine ⟨0, l, by show i + 1 = _; omega, rfl, ?_, h1.2.1⟩
      rw [← h1.1]
    · rw [if_neg h1] at h ⊢
      obtain ⟨j, l', e, hl, hf⟩ := scan_unit2 ls _ _ (by omega) h
      exact ⟨j + 1, l', by rw [e]; omega, hl, hf⟩
theorem hint_res (cls : List (List Int)) (P : List (Option (List Int))) (hP : ∀ (j : Nat) l, cls[j]? = some l → lookP P ((j : Int) + 1) = some l) : ∀ (k : Nat) (S out : List Int) (r : List Int × Int), hintL k S out cls = some r →
    (r = ([], 8) ∧ ∃ T, Sub S T ∧ Good cls T) ∨ (r.2 = 0 ∧ (¬ ∃ T, Sub S T ∧ Good cls T) ∧ ∃ hs : List Int, r.1 = out ++ hs ∧ ∀ i : Int, deriveL P S i hs = (i + hs.length, true))
  | 0, S, out, r, h => by simp [hintL] at h
  | k + 1, S, out, r, h => by
    rw [hintL] at h
    split at h
    · by_cases h1 : (scanL S 0 0 0 cls).1 = 0
      · rw [if_pos h1] at h
        by_cases h2 : (scanL S 0 0 0 cls).2.1 = 0
        · rw [if_pos h2] at h
          refine .inl ⟨(Option.some.inj h).symm, S, fun _ h => h, fun l hl => ⟨scan_none cls _ _ _ (by omega) h1 l hl, scan_zero cls _ _ (by omega) h1 h2 l hl⟩⟩
        · rw [if_neg h2] at h
          obtain ⟨j, l, e, hl, hleft, hc⟩ := scan_unit2 cls 0 0 (by omega) h2
          have hmem : l ∈ cls := List.mem_of_getElem? hl
          have hun := left1.1 hleft
          rcases hint_res cls P hP k _ _ r h with ⟨hr, T, hs, hg⟩ | ⟨hr, hno, hs, he, hd⟩
          · exact .inl ⟨hr, T, hs.tail, hg⟩
          · refine .inr ⟨hr, fun ⟨T, hsT, hg⟩ => hno ⟨T, hsT.cons (good_unit hsT hg hmem hun), hg⟩, (scanL S 0 0 0 cls).2.1 :: hs, by rw [he]; simp, fun i => ?_⟩
            rw [deriveL]
            have e' : (scanL S 0 0 0 cls).2.1 = (j : Int) + 1 := by omega
            rw [e', hP j l hl]
            dsimp only
            rw [hleft]
            dsimp only
            rw [if_neg (by decide), if_neg (by rintro (h | h); exact absurd h (by decide); rw [hc] at h; cases h), hd]
            simp; omega
      · rw [if_neg h1] at h
        obtain ⟨j, l, e, hl, hf⟩ := scan_hit cls 0 0 0 (by omega) h1
        have hr := (Option.some.inj h).symm
        subst hr
        refine .inr ⟨rfl, fun ⟨T, hsT, hg⟩ => good_conf hsT hg (List.mem_of_getElem? hl) hf, [(scanL S 0 0 0 cls).1], rfl, fun i => ?_⟩
        rw [deriveL]
        have e' : (scanL S 0 0 0 cls).1 = (j : Int) + 1 := by omega
        rw [e', hP j l hl]
        simp only
        rw [if_pos (left0.2 hf)]
        simp
    · cases h
end Go.Proofs.YtogicccdngpafaaDoor.NPlain
end
section
namespace Go.Proofs.YtogicccdngpafaaDoor.NPlain
open Go Go.RowKit Go.Proofs.YtogicccdngpafaaDoorW.PrintWords Go.Proofs.YtogicccdngpafaaDoorW.PrintLast Go.Proofs.YtogicccdngpafaaDoorW.PrintMore Go.Proofs.YtogicccdngpafaaDoor.NState
open Go.Proofs.YtogicccdngpafaaDoor.PPropagate (cnf_values_of.f cnf_values_set.f cnf_values_unit.l0 cnf_values_unit.j1 cnf_values_unit.f cnf_values_propagate.l0 cnf_values_propagate.l1 cnf_values_propagate.f)
def LitOk (n : Nat) (x : Int) : Prop := x ≠ 0 ∧ -(n : Int) ≤ x ∧ x ≤ n
def valS (S : List Int) (x : Int) : Int := if S.contains x then 1 else if S.contains (-x) then -1 else 0
def Cons (S : List Int) : Prop := ∀ x, S.contains x = true → S.contains (-x) = false
structure VOk (n : Nat) (v S : List Int) : Prop where
  len : v.length = n + 1
  val : ∀ i : Nat, 1 ≤ i → i ≤ n → rd v (i : Int) = valS S i
  cons : Cons S
theorem valS_neg {S : List Int} (h : Cons S) (x : Int) : valS S (-x) = -valS S x := by
  unfold valS
  rw [Int.neg_neg]
  have h1 := h x
  have h2 := h (-x)
  rw [Int.neg_neg] at h2
  cases hx : S.contains x <;> cases hy : S.contains (-x)
  · simp
  · simp
  · simp
  · rw [h1 hx] at hy; cases hy
theorem valS_cases (S : List Int) (x : Int) : valS S x = 1 ∨ valS S x = -1 ∨ valS S x = 0 := by
  unfold valS; split
  · exact .inl rfl
  split
  · exact .inr (.inl rfl)
  · exact .inr (.inr rfl)
theorem of_ok {n : Nat} {v S : List Int} (hn : n ≤ 100000) (h : VOk n v S) {x : Int} (hx : LitOk n x) : cnf_values_of.f v x = some (valS S x) := by
  obtain ⟨h0, h1, h2⟩ := hx
  unfold cnf_values_of.f
  by_cases hneg : x < 0
  · have e : wrap64 (-x) = ((-x).toNat : Int) := by rw [wneg (by omega) (by omega)]; omega
    rw [if_pos hneg, e, if_pos (by omega), if_pos (by have := h.len; omega), h.val _ (by omega) (by omega)]
    have e2 : (((-x).toNat : Nat) : Int) = -x := by omega
    rw [e2, valS_neg h.cons]
    rcases valS_cases S x with e | e | e <;> rw [e] <;> rfl
  · have e : x = (x.toNat : Int) := by omega
    rw [if_neg hneg, if_pos (by omega), if_pos (by have := h.len; omega), e, h.val _ (by omega) (by omega)]
theorem valS_pos {S : List Int} {x : Int} : valS S x > 0 ↔ S.contains x = true := by
  unfold valS
  cases S.contains x <;> cases S.contains (-x) <;> simp
theorem valS_lt {S : List Int} (h : Cons S) {x : Int} : valS S x < 0 ↔ S.contains (-x) = true := by
  unfold valS
  have := h x
  cases hx : S.contains x <;> cases hy : S.contains (-x)
  · simp
  · simp
  · simp
  · rw [this hx] at hy; cases hy
theorem set_ok {n : Nat} {v S : List Int} (hn : n ≤ 100000) (h : VOk n v S) {x : Int} (hx : LitOk n x) (hc : S.contains (-x) = false) : ∃ v', cnf_values_set.f v x = some v' ∧ VOk n v' (x :: S) := by
  obtain ⟨h0, h1, h2⟩ := hx
  have hcons : Cons (x :: S) := by
    intro y hy
    rw [List.contains_cons, Bool.or_eq_true] at hy
    rw [List.contains_cons, Bool.or_eq_false_iff]
    rcases hy with hy | hy
    · have : y = x := by simpa using hy
      subst this
      exact ⟨by simp; omega, hc⟩
    · refine ⟨?_, h.cons y hy⟩
      simp only [beq_eq_false_iff_ne]
      intro e
      rw [← e, Int.neg_neg, hy] at hc; cases hc
  have hval : ∀ i : Nat, 1 ≤ i → (i : Int) ≠ x → (i : Int) ≠ -x → valS (x :: S) i = valS S i := by
    intro i hi e1 e2
    unfold valS
    rw [List.contains_cons, List.contains_cons]
    have e3 : ((i : Int) == x) = false := by simpa using e1
    have e4 : (-(i : Int) == x) = false := by simp; omega
    rw [e3, e4, Bool.false_or, Bool.false_or]
  have hx1 : valS (x :: S) x = 1 := by unfold valS; rw [if_pos (by simp)]
  have hx2 : valS (x :: S) (-x) = -1 := by rw [valS_neg hcons, hx1]
  unfold cnf_values_set.f
  have key : ∀ (m : Nat) (t : Int), 1 ≤ m → m ≤ n → ((m : Int) = x ∨ (m : Int) = -x) → valS (x :: S) m = t → VOk n (v.set m t) (x :: S) := by
    intro m t hm1 hm2 hm3 ht
    refine ⟨by simp [h.len], fun i hi1 hi2 => ?_, hcons⟩
    have hl := h.len
    by_cases e : i = m
    · subst e
      rw [ht]
      have hlt : i < v.length := by omega
      simp [rd, List.getD, List.getElem?_set, hlt]
    · have : rd (v.set m t) (i : Int) = rd v i := by
        simp only [rd, List.getD, Int.toNat_natCast]
        rw [List.getElem?_set_ne (fun h => e h.symm)]
      rw [this, h.val i hi1 hi2, hval i hi1 (by omega) (by omega)]
  by_cases hneg : x < 0
  · have e : wrap64 (-x) = ((-x).toNat : Int) := by rw [wneg (by omega) (by omega)]; omega
    rw [if_pos hneg, e, if_pos (by omega), if_pos (by have := h.len; omega)]
    refine ⟨_, rfl, ?_⟩
    rw [Int.toNat_natCast]
    exact key _ _ (by omega) (by omega) (.inr (by omega)) (by rw [show (((-x).toNat : Nat) : Int) = -x by omega]; exact hx2)
  · rw [if_neg hneg, if_pos (by omega), if_pos (by have := h.len; omega)]
    refine ⟨_, rfl, ?_⟩
    exact key _ _ (by omega) (by omega) (.inl (by omega)) (by rw [show ((x.toNat : Nat) : Int) = x by omega]; exact hx1)
def unitS (S : List Int) : Int → List Int → Int × Bool
  | only, [] => (only, only == 0)
  | only, x :: xs => if S.contains x then (0, false) else if S.contains (-x) || x == only then unitS S only xs else if only = 0 then unitS S x xs else (0, false)
theorem unit_ev0 {n : Nat} {v S : List Int} (hn : n ≤ 100000) (h : VOk n v S) (l : List Int) (hlen : l.length ≤ 1000000000) (hl : ∀ x ∈ l, LitOk n x) : ∀ i : Nat, i ≤ l.length → ∀ only : Int, Ev (fun k => cnf_values_unit.l0 k v only l (l.length : Int) (i : Int)) (unitS S only (l.drop i)) := by
  refine down ?_ ?_
  · intro only
    refine Ev.succ ?_
    simp only [cnf_values_unit.l0]
    rw [List.drop_length]
    exact Ev.neg (by omega) (Ev.pure _)
  · intro i hi ih only
    have hx : LitOk n (rd l i) := by
      have e : rd l i = l[i] := by simp [rd, List.getD, hi]
      rw [e]; exact hl _ (List.getElem_mem _)
    refine Ev.succ ?_
    simp only [cnf_values_unit.l0]
    refine Ev.pos (by omega) (Ev.pos (by omega) (Ev.pos (by omega) ?_))
    rw [of_ok hn h hx, drop_rd hi, unitS]
    simp only [Option.bind_some]
    by_cases h1 : S.contains (rd l i) = true
    · rw [if_pos h1]
      exact Ev.pos (valS_pos.2 h1) (Ev.pure _)
    rw [if_neg h1]
    refine Ev.neg (fun hh => h1 (valS_pos.1 hh)) ?_
    have hj : ∀ b : Bool, b = (S.contains (-(rd l i)) || rd l i == only) → Ev (fun k => cnf_values_unit.j1 k v only (rd l i) l (l.length : Int) (i : Int) b) (if (S.contains (-(rd l i)) || rd l i == only) = true then unitS S only (l.drop (i + 1)) else if only = 0 then unitS S (rd l i) (l.drop (i + 1)) else (0, false)) := by
      intro b hb
      refine Ev.succ ?_
      simp only [cnf_values_unit.j1]
      rw [← hb, wrap_succ hi (by omega)]
      cases b with
      | true => rw [if_pos rfl]; exact Ev.pos rfl (ih only)
      | false =>
        rw [if_neg (by simp)]
        refine Ev.neg (by simp) ?_
        by_cases h2 : only = 0
        · rw [if_pos h2]; exact Ev.pos h2 (ih _)
        · rw [if_neg h2]; exact Ev.neg h2 (Ev.pure _)
    by_cases h2 : S.contains (-(rd l i)) = true
    · exact Ev.pos ((valS_lt h.cons).2 h2) (hj _ (by rw [h2]; rfl))
    · refine Ev.neg (fun hh => h2 ((valS_lt h.cons).1 hh)) (hj _ ?_)
      rw [Bool.not_eq_true] at h2
      rw [h2, Bool.false_or]
theorem unit_ev {n : Nat} {v S : List Int} (hn : n ≤ 100000) (h : VOk n v S) (l : List Int) (hlen : l.length ≤ 1000000000) (hl : ∀ x ∈ l, LitOk n x) : Ev (fun k => cnf_values_unit.f k v l) (unitS S 0 l) := unit_ev0 hn h l hlen hl 0 (Nat.zero_le _) 0
inductive UnitIs (S l : List Int) : Int × Bool → Prop
  | conf : allF S l → UnitIs S l (0, true)
  | unit (x : Int) : unitL S l x → S.contains x = false → x ≠ 0 → UnitIs S l (x, false)
  | none : ¬ allF S l → (∀ x, unitL S l x → S.contains x = true) → UnitIs S l (0, false)
theorem unitS_is0 {n : Nat} (hn : n ≤ 100000) {S : List Int} (hc : Cons S) (L : List Int) (hL : ∀ x ∈ L, LitOk n x) : ∀ (l pre : List Int) (only : Int), L = pre ++ l → (∀ y ∈ pre, (y = only ∧ only ≠ 0) ∨ S.contains (-y) = true) → (only ≠ 0 → only ∈ pre ∧ S.contains only = false ∧ S.contains (-only) = false) → UnitIs S L (unitS S only l)
  | [], pre, only, hp, hpre, ho => by
    have hw : ∀ y ∈ L, wrap64 (-y) = -y := fun y hy => by obtain ⟨_, h1, h2⟩ := hL y hy; exact wneg (by omega) (by omega)
    rw [List.append_nil] at hp
    subst hp
    rw [unitS]
    by_cases h0 : only = 0
    · subst h0
      refine .conf fun y hy => ?_
      rw [hw y hy]
      rcases hpre y hy with ⟨_, h⟩ | h
      · exact absurd rfl h
      · exact h
    · have hb : (only == 0) = false := by simpa using h0
      rw [hb]
      obtain ⟨h1, h2, h3⟩ := ho h0
      refine .unit only ⟨h1, by rw [hw only h1]; exact h3, fun y hy => ?_⟩ h2 h0
      rw [hw y hy]
      rcases hpre y hy with ⟨h, _⟩ | h
      · exact .inl h
      · exact .inr h
  | x :: xs, pre, only, hp, hpre, ho => by
    have hw : ∀ y ∈ L, wrap64 (-y) = -y := fun y hy => by obtain ⟨_, h1, h2⟩ := hL y hy; exact wneg (by omega) (by omega)
    have hxL : x ∈ L := by rw [hp]; simp
    have hp' : L = (pre ++ [x]) ++ xs := by rw [hp]; simp
    rw [unitS]
    by_cases h1 : S.contains x = true
    · rw [if_pos h1]
      refine .none (fun h => ?_) (fun y hy => ?_)
      · have := h x hxL
        rw [hw x hxL, hc x h1] at this; cases this
      · rcases hy.2.2 x hxL with h | h
        · rw [← h]; exact h1
        · rw [hw x hxL, hc x h1] at h; cases h
    rw [if_neg h1]
    rw [Bool.not_eq_true] at h1
    by_cases h2 : (S.contains (-x) || x == only) = true
    · rw [if_pos h2]
      refine unitS_is0 hn hc L hL xs (pre ++ [x]) only hp' (fun y hy => ?_) (fun h => ⟨List.mem_append_left _ (ho h).1, (ho h).2⟩)
      rcases List.mem_append.1 hy with hy | hy
      · exact hpre y hy
      · simp at hy; subst hy
        rw [Bool.or_eq_true] at h2
        rcases h2 with h | h
        · exact .inr h
        · have e : y = only := by simpa using h
          exact .inl ⟨e, by rw [← e]; exact (hL y hxL).1⟩
    rw [if_neg h2]
    rw [Bool.not_eq_true, Bool.or_eq_false_iff] at h2
    by_cases h3 : only = 0
    · rw [if_pos h3]
      refine unitS_is0 hn hc L hL xs (pre ++ [x]) x hp' (fun y hy => ?_) (fun _ => ⟨by simp, h1, h2.1⟩)
      rcases List.mem_append.1 hy with hy | hy
      · rcases hpre y hy with ⟨_, h⟩ | h
        · exact absurd h3 h
        · exact .inr h
      · simp at hy; subst hy; exact .inl ⟨rfl, (hL y hxL).1⟩
    · rw [if_neg h3]
      obtain ⟨o1, o2, o3⟩ := ho h3
      have hoL : only ∈ L := by rw [hp]; exact List.mem_append_left _ o1
      refine .none (fun h => ?_) (fun y hy => ?_)
      · have := h x hxL
        rw [hw x hxL, h2.1] at this; cases this
      · rcases hy.2.2 x hxL with h | h
        · rcases hy.2.2 only hoL with h' | h'
          · rw [← h'] at h
            have := h2.2
            rw [h] at this; simp at this
          · rw [hw only hoL, o3] at h'; cases h'
        · rw [hw x hxL, h2.1] at h; cases h
theorem unitS_is {n : Nat} (hn : n ≤ 100000) {S : List Int} (hc : Cons S) (l : List Int) (hl : ∀ x ∈ l, LitOk n x) : UnitIs S l (unitS S 0 l) := unitS_is0 hn hc l hl l [] 0 rfl (fun _ h => by cases h) (fun h => absurd rfl h)
def PropR (n : Nat) (cls : List (List Int)) (S : List Int) (r : Bool × List Int) : Prop :=
  r.2.length = n + 1 ∧ (r.1 = true → ∃ T, Sub S T ∧ Good cls T) ∧ (r.1 = false → ¬ ∃ T, Sub S T ∧ Good cls T)
theorem sweep_ev {n : Nat} (hn : n ≤ 100000) (cls : List (List Int)) (hcl : cls.length ≤ 1000000000) (hl : ∀ l ∈ cls, l.length ≤ 1000000000 ∧ ∀ x ∈ l, LitOk n x) (m : Nat)
    (IH : ∀ (v S : List Int), VOk n v S → free S cls.flatten < m → ∃ r, Ev (fun k => cnf_values_propagate.l0 k v cls true) r ∧ PropR n cls S r) :
    ∀ i : Nat, i ≤ cls.length → ∀ (v S : List Int) (c : Bool), VOk n v S → free S cls.flatten ≤ m → (c = true → free S cls.flatten < m) → (c = false → ∀ l ∈ cls.take i, ¬ allF S l ∧ ∀ x, unitL S l x → S.contains x = true) →
      ∃ r, Ev (fun k => cnf_values_propagate.l1 k v cls c cls (cls.length : Int) (i : Int)) r ∧ PropR n cls S r := by
  refine down ?_ ?_
  · intro v S c hv hm h1 h2
    cases c with
    | true =>
      obtain ⟨r, hr, hp⟩ := IH v S hv (h1 rfl)
      refine ⟨r, ?_, hp⟩
      refine Ev.succ ?_
      simp only [cnf_values_propagate.l1]
      exact Ev.neg (by omega) hr
    | false =>
      refine ⟨(true, v), ?_, hv.len, fun _ => ⟨S, fun _ h => h, fun l hl => h2 rfl l (by rw [List.take_length]; exact hl)⟩, fun h => by cases h⟩
      refine Ev.succ ?_
      simp only [cnf_values_propagate.l1]
      refine Ev.neg (by omega) (Ev.succ ?_)
      simp only [cnf_values_propagate.l0]
      exact Ev.neg (by simp) (Ev.pure _)
  · intro i hi ih v S c hv hm h1 h2
    have hrd : PPropagate.rd_L1 cls i = cls[i] := by simp [PPropagate.rd_L1, List.getD, hi]
    have hmem : cls[i] ∈ cls := List.getElem_mem _
    have hu := unit_ev hn hv cls[i] (hl _ hmem).1 (hl _ hmem).2
    have hcase := unitS_is hn hv.cons cls[i] (hl _ hmem).2
    generalize unitS S 0 cls[i] = u at hu hcase
    have hbody : ∀ r, Ev (fun k => if u.2 = true then some (false, v) else if u.1 = 0 then cnf_values_propagate.l1 k v cls c cls (cls.length : Int) ((i + 1 : Nat) : Int) else (cnf_values_set.f v u.1).bind fun t => cnf_values_propagate.l1 k t cls true cls (cls.length : Int) ((i + 1 : Nat) : Int)) r → Ev (fun k => cnf_values_propagate.l1 k v cls c cls (cls.length : Int) (i : Int)) r := by
      intro r hr
      refine Ev.succ ?_
      simp only [cnf_values_propagate.l1]
      refine Ev.pos (by omega) (Ev.pos (by omega) (Ev.pos (by omega) ?_))
      rw [hrd, wrap_succ hi (by omega)]
      exact Ev.bind hu hr
    cases hcase with
    | conf hf =>
      exact ⟨(false, v), hbody _ (Ev.pos rfl (Ev.pure _)), hv.len, (fun h => by cases h), fun _ ⟨T, hs, hg⟩ => good_conf hs hg hmem hf⟩
    | unit x hun hx hx0 =>
      have hxo : LitOk n x := (hl _ hmem).2 x hun.1
      have hcx : S.contains (-x) = false := by
        have := hun.2.1
        rwa [wneg (by have := hxo.2.1; omega) (by have := hxo.2.2; omega)] at this
      obtain ⟨v', he, hv'⟩ := set_ok hn hv hxo hcx
      have hlt := free_lt S x hx cls.flatten (List.mem_flatten.2 ⟨_, hmem, hun.1⟩)
      obtain ⟨r, hr, hp1, hp2, hp3⟩ := ih v' (x :: S) true hv' (by omega) (fun _ => by omega) (fun h => by cases h)
      refine ⟨r, hbody r ?_, hp1, fun h => ?_, fun h ⟨T, hs, hg⟩ => hp3 h ⟨T, hs.cons (good_unit hs hg hmem hun), hg⟩⟩
      · refine Ev.neg (by simp) (Ev.neg hx0 ?_)
        simp only [he, Option.bind_some]
        exact hr
      · obtain ⟨T, hs, hg⟩ := hp2 h
        exact ⟨T, hs.tail, hg⟩
    | none hnf hall =>
      obtain ⟨r, hr, hp⟩ := ih v S c hv hm h1 (fun hc l hlm => by
        rw [List.take_succ_eq_append_getElem hi] at hlm
        rcases List.mem_append.1 hlm with h | h
        · exact h2 hc l h
        · simp at h; subst h; exact ⟨hnf, hall⟩)
      exact ⟨r, hbody r (Ev.neg (by simp) (Ev.pos rfl hr)), hp⟩
theorem prop_ev0 {n : Nat} (hn : n ≤ 100000) (cls : List (List Int)) (hcl : cls.length ≤ 1000000000) (hl : ∀ l ∈ cls, l.length ≤ 1000000000 ∧ ∀ x ∈ l, LitOk n x) : ∀ (m : Nat) (v S : List Int), VOk n v S → free S cls.flatten < m → ∃ r, Ev (fun k => cnf_values_propagate.l0 k v cls true) r ∧ PropR n cls S r
  | 0, v, S, _, h => absurd h (by omega)
  | m + 1, v, S, hv, h => by
    obtain ⟨r, hr, hp⟩ := sweep_ev hn cls hcl hl m (fun v S hv hf => prop_ev0 hn cls hcl hl m v S hv hf) 0 (Nat.zero_le _) v S false hv (by omega) (fun h => by cases h) (fun _ l h => by simp at h)
    refine ⟨r, ?_, hp⟩
    refine Ev.succ ?_
    simp only [cnf_values_propagate.l0]
    exact Ev.pos trivial hr
theorem prop_ev {n : Nat} (hn : n ≤ 100000) (cls : List (List Int)) (hcl : cls.length ≤ 1000000000) (hl : ∀ l ∈ cls, l.length ≤ 1000000000 ∧ ∀ x ∈ l, LitOk n x) {v S : List Int} (hv : VOk n v S) : ∃ r, Ev (fun k => cnf_values_propagate.f k v cls) r ∧ PropR n cls S r :=
  prop_ev0 hn cls hcl hl _ v S hv (Nat.lt_succ_self _)
theorem VOk.start (n : Nat) : VOk n (List.replicate (n + 1) 0) [] := by
  refine ⟨by simp, fun i hi1 hi2 => ?_, fun x h => by simp at h⟩
  have : i < n + 1 := by omega
  simp [rd, List.getD, valS, List.getElem?_replicate, this]
def assumeV : List Int → List Int → Option (List Int)
  | v, [] => some v
  | v, y :: ys => (cnf_values_of.f v y).bind fun t => if t < 0 then none else (cnf_values_set.f v y).bind fun v' => assumeV v' ys
theorem assumeV_eq {n : Nat} (hn : n ≤ 100000) : ∀ (l v S : List Int), VOk n v S → (∀ x ∈ l, LitOk n x) →
    (assumeL S l = none ∧ assumeV v (l.map fun x => -x) = none) ∨ ∃ S' v', assumeL S l = some S' ∧ assumeV v (l.map fun x => -x) = some v' ∧ VOk n v' S'
  | [], v, S, h, _ => .inr ⟨S, v, rfl, rfl, h⟩
  | x :: xs, v, S, h, hl => by
    have hx := hl x List.mem_cons_self
    obtain ⟨x0, x1, x2⟩ := hx
    have hw : wrap64 (-x) = -x := wneg (by omega) (by omega)
    have hnx : LitOk n (-x) := ⟨by omega, by omega, by omega⟩
    rw [assumeL, List.map_cons, assumeV, of_ok hn h hnx, hw]
    simp only [Option.bind_some]
    by_cases hs : S.contains x = true
    · have hlt : valS S (-x) < 0 := (valS_lt h.cons).2 (by rw [Int.neg_neg]; exact hs)
      rw [if_pos hs, if_pos hlt]
      exact .inl ⟨rfl, rfl⟩
    · have hlt : ¬ valS S (-x) < 0 := fun hh => hs (by have := (valS_lt h.cons).1 hh; rwa [Int.neg_neg] at this)
      rw [if_neg hs, if_neg hlt]
      obtain ⟨v', he, hv'⟩ := set_ok hn h hnx (by rw [Int.neg_neg]; exact (Bool.not_eq_true _).mp hs)
      rw [he]
      simp only [Option.bind_some]
      exact assumeV_eq hn xs v' (-x :: S) hv' (fun y hy => hl y (List.mem_cons_of_mem _ hy))
end Go.Proofs.YtogicccdngpafaaDoor.NPlain
end
