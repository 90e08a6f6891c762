/-
  Part 24 of the proof of proofComplete_card: walks and lemmas, packed by the session's own wip/pack.py out of its texts and of what the kit's print.sh printed.
-/
import Derived.Test.YtogicccdngpafaaGreatDoorCA18
import Derived.Test.YtogicccdngpafaaGreatDoorCA22
import Derived.Test.YtogicccdngpafaaGreatDoorCA11
import Derived.Test.YtogicccdngpafaaGreatDoorCA20
import Derived.Test.YtogicccdngpafaaGreatDoorCA17
section
namespace Go.Proofs.YtogicccdngpafaaGreatDoor.NPlain
open Go Go.RowKit Go.Proofs.YtogicccdngpafaaGreatDoorW.PrintWords Go.Proofs.YtogicccdngpafaaGreatDoorW.PrintLast Go.Proofs.YtogicccdngpafaaGreatDoorW.PrintMore Go.Proofs.YtogicccdngpafaaGreatDoor.NState
open Go.Proofs.YtogicccdngpafaaGreatDoor.PCheck (cnf_Check.f)
def Path (n : Nat) (A : List Int) : Prop := A.length ≤ n ∧ ∀ (i : Nat) (h : i < A.length), A[i] = ((i + 1 : Nat) : Int) ∨ A[i] = -((i + 1 : Nat) : Int)
theorem Path.nil (n : Nat) : Path n [] := ⟨Nat.zero_le _, fun i h => by simp at h⟩
theorem Path.snoc {n : Nat} {A : List Int} (h : Path n A) (hl : A.length < n) {x : Int} (hx : x = ((A.length + 1 : Nat) : Int) ∨ x = -((A.length + 1 : Nat) : Int)) : Path n (A ++ [x]) := by
 refine ⟨by simp; omega, fun i hi => ?_⟩
 by_cases e : i < A.length
 ·rw [List.getElem_append_left e]; exact h.2 i e
 ·have e2 : i = A.length := by simp at hi; omega
  subst e2
  rw [List.getElem_append_right (Nat.le_refl _)]
  simpa using hx
theorem Path.lit {n : Nat} {A : List Int} (h : Path n A) {x : Int} (hx : x ∈ A) : LitOk n x := by
 obtain ⟨i, hi, rfl⟩ := List.mem_iff_getElem.1 hx
 have h1 := h.1
 rcases h.2 i hi with e | e <;> rw [e] <;> exact ⟨by omega, by omega, by omega⟩
theorem Path.cons {n : Nat} {A : List Int} (h : Path n A) : Cons A := by
 intro x hx
 rw [List.contains_iff_mem] at hx
 cases hc : A.contains (-x) with
 | false => rfl
 | true =>
  rw [List.contains_iff_mem] at hc
  obtain ⟨i, hi, e1⟩ := List.mem_iff_getElem.1 hx
  obtain ⟨j, hj, e2⟩ := List.mem_iff_getElem.1 hc
  have h1 := h.2 i hi
  have h2 := h.2 j hj
  rw [e1] at h1
  rw [e2] at h2
  have hij : i = j := by omega
  subst hij
  rw [e1] at e2
  omega
theorem Path.tot {n : Nat} {A : List Int} (h : Path n A) (hl : A.length = n) : ∀ i : Nat, 1 ≤ i → i ≤ n → A.contains (i : Int) = true ∨ A.contains (-(i : Int)) = true := by
 intro i h1 h2
 have hi : i - 1 < A.length := by omega
 have e := h.2 (i - 1) hi
 have em := List.getElem_mem hi
 have e3 : ((i - 1 + 1 : Nat) : Int) = i := by omega
 rw [e3] at e
 rcases e with e | e
 ·rw [e] at em; left; rw [List.contains_iff_mem]; exact em
 ·rw [e] at em; right; rw [List.contains_iff_mem]; exact em
theorem tot_lit {n : Nat} {M : List Int} (h : ∀ i : Nat, 1 ≤ i → i ≤ n → M.contains (i : Int) = true ∨ M.contains (-(i : Int)) = true) {x : Int} (hx : LitOk n x) : M.contains x = true ∨ M.contains (-x) = true := by
 obtain ⟨h0, h1, h2⟩ := hx
 by_cases hn : x < 0
 ·obtain ⟨i, hi⟩ := Int.eq_ofNat_of_zero_le (show 0 ≤ -x by omega)
  have := h i (by omega) (by omega)
  rw [← hi, Int.neg_neg] at this
  exact this.symm
 ·obtain ⟨i, hi⟩ := Int.eq_ofNat_of_zero_le (show 0 ≤ x by omega)
  have := h i (by omega) (by omega)
  rw [← hi] at this
  exact this
theorem Path.fresh {n : Nat} {A : List Int} (h : Path n A) {x : Int} (hx : x = ((A.length + 1 : Nat) : Int) ∨ x = -((A.length + 1 : Nat) : Int)) : A.contains x = false := by
 cases hc : A.contains x with
 | false => rfl
 | true =>
  rw [List.contains_iff_mem] at hc
  obtain ⟨i, hi, e⟩ := List.mem_iff_getElem.1 hc
  have h1 := h.2 i hi
  rw [e] at h1
  omega
theorem wneg_lit {n : Nat} (hn : n ≤ 100000) {x : Int} (h : LitOk n x) : wrap64 (-x) = -x := wneg (by have := h.2.1; omega) (by have := h.2.2; omega)
theorem false1_is (A : List Int) : ∀ (ls : List (List Int)) (i : Nat), (false1L A ls i = 0 ∧ ∀ l ∈ ls, ¬ allF A l) ∨ ∃ j : Nat, ∃ h : j < ls.length, false1L A ls i = i + j + 1 ∧ allF A ls[j]
 | [], i => .inl ⟨rfl, fun l h => by cases h⟩
 | l :: ls, i => by
  rw [false1L]
  by_cases h : (openL A [] l).length = 0
  ·rw [if_pos h]; exact .inr ⟨0, by simp, by omega, openL_nil.1 (List.eq_nil_of_length_eq_zero h)⟩
  ·rw [if_neg h]
   rcases false1_is A ls (i + 1) with ⟨h1, h2⟩ | ⟨j, hj, h1, h2⟩
   ·refine .inl ⟨h1, fun m hm => ?_⟩
    rcases List.mem_cons.1 hm with e | e
    ·subst e; exact fun hh => h (by rw [openL_nil.2 hh]; rfl)
    ·exact h2 m e
   ·exact .inr ⟨j + 1, by simp; omega, by rw [h1]; omega, by simpa using h2⟩
theorem derive_conf {P : List (Option (List Int))} {S l : List Int} {h : Int} {hs : List Int} {i : Int} (hl : lookP P h = some l) (hf : allF S l) : deriveL P S i (h :: hs) = (i + 1, true) := by
 rw [deriveL, hl]
 dsimp only
 rw [if_pos (left0.2 hf)]
theorem derive_unit {P : List (Option (List Int))} {S l : List Int} {x h : Int} {hs : List Int} {i : Int} (hl : lookP P h = some l) (hu : unitL S l x) (hc : S.contains x = false) : deriveL P S i (h :: hs) = deriveL P (x :: S) (i + 1) hs := by
 rw [deriveL, hl]
 dsimp only
 rw [left1.2 hu]
 dsimp only
 rw [if_neg (by decide), if_neg (by rintro (h | h); exact absurd h (by decide); rw [hc] at h; cases h)]
theorem allF_congr {S A l : List Int} (h : ∀ y, S.contains y = A.contains y) (hf : allF A l) : allF S l := fun y hy => by rw [h]; exact hf y hy
theorem look_cls {cls : List (List Int)} {Q : List (Option (List Int))} {j : Nat} (h : j < cls.length) : lookP (cls.map some ++ Q) ((j + 1 : Nat) : Int) = some cls[j] := by
 unfold lookP
 rw [if_pos (by omega)]
 have e : (((j + 1 : Nat) : Int) - 1).toNat = j := by omega
 rw [e, List.getElem?_append_left (by simpa using h)]
 simp [h]
theorem look_step {cls : List (List Int)} {g : List Stp} {i : Nat} {x : Stp} (h : g[i]? = some x) : lookP (cls.map some ++ g.map fun y => some y.f0) ((cls.length + i + 1 : Nat) : Int) = some x.f0 := by
 unfold lookP
 rw [if_pos (by omega)]
 have e : (((cls.length + i + 1 : Nat) : Int) - 1).toNat = cls.length + i := by omega
 rw [e, List.getElem?_append_right (by simp)]
 simp [h]
theorem accL_snoc {vars : Int} {x : Stp} {u : Int} (hx : x.f1 = false) (hb : x.f0.any (badLit vars) = false) : ∀ (p : List Stp) (us : List Int) (P : List (Option (List Int))), accL vars P us p → (∀ y ∈ p, y.f1 = false) → deriveF (P ++ p.map fun y => some y.f0) x.f0 x.f2 = (u, true) → accL vars P (us ++ [u]) (p ++ [x])
 | [], [], P, _, _, hd => by
  simp only [List.map_nil, List.append_nil] at hd
  show accL vars P [u] [x]
  rw [accL]
  exact .inr ⟨hx, hb, hd, by simp [accL]⟩
 | [], _ :: _, _, h, _, _ => by simp [accL] at h
 | _ :: _, [], _, h, _, _ => by simp [accL] at h
 | y :: p, v :: us, P, h, ha, hd => by
  rw [accL] at h
  show accL vars P (v :: (us ++ [u])) (y :: (p ++ [x]))
  rw [accL]
  rcases h with ⟨h1, _⟩ | ⟨h1, h2, h3, h4⟩
  ·rw [ha y (by simp)] at h1; cases h1
  ·refine .inr ⟨h1, h2, h3, accL_snoc hx hb p us _ h4 (fun z hz => ha z (List.mem_cons_of_mem _ hz)) ?_⟩
   rw [List.append_assoc]
   exact hd
theorem mem_negL {n : Nat} (hn : n ≤ 100000) {A : List Int} (h : Path n A) {y : Int} (hy : y ∈ negL A) : ∃ a ∈ A, y = -a ∧ wrap64 (-y) = a ∧ LitOk n a := by
 obtain ⟨a, ha, rfl⟩ := List.mem_map.1 hy
 have hl := h.lit ha
 have e := wneg_lit hn hl
 refine ⟨a, ha, e, ?_, hl⟩
 rw [e, Int.neg_neg]
 have h1 := hl.2.1
 have h2 := hl.2.2
 unfold wrap64; omega
theorem neg_ok {n : Nat} (hn : n ≤ 100000) {A : List Int} (h : Path n A) : (negL A).any (badLit n) = false := by
 rw [List.any_eq_false]
 intro y hy
 obtain ⟨a, _, e, _, hl⟩ := mem_negL hn h hy
 have h0 := hl.1
 have h1 := hl.2.1
 have h2 := hl.2.2
 have hw : wrap64 (-(n : Int)) = -(n : Int) := wneg (by omega) (by omega)
 unfold badLit
 rw [hw]
 have e1 : (y == 0) = false := by simp; omega
 have e2 : decide (y < -(n : Int)) = false := decide_eq_false (by omega)
 have e3 : decide (y > (n : Int)) = false := decide_eq_false (by omega)
 rw [e1, e2, e3]; simp
theorem derive_neg {n : Nat} (hn : n ≤ 100000) {A : List Int} (h : Path n A) (P : List (Option (List Int))) (hs : List Int) : deriveF P (negL A) hs = (0, true) ∨ ∃ S : List Int, (∀ y, S.contains y = A.contains y) ∧ deriveF P (negL A) hs = deriveL P S 0 hs := by
 have ha := assume_eq (negL A) [] (fun y hy => by
  obtain ⟨a, _, e, e2, hl⟩ := mem_negL hn h hy
  exact ⟨by have := hl.1; omega, by rw [e2, e, Int.neg_neg]⟩)
 unfold deriveF
 rw [ha]
 split
 ·rename_i heq
  exact .inl rfl
 ·rename_i S heq
  refine .inr ⟨S, fun y => ?_, rfl⟩
  split at heq
  ·cases heq
  ·have e := Option.some.inj heq
   rw [← e, Bool.eq_iff_iff]
   simp only [List.append_nil, List.contains_iff_mem, List.mem_reverse, List.mem_map]
   constructor
   ·rintro ⟨z, hz, rfl⟩
    obtain ⟨a, ha', _, e2, _⟩ := mem_negL hn h hz
    rw [e2]; exact ha'
   ·intro hy
    have hm : wrap64 (-y) ∈ negL A := List.mem_map.2 ⟨y, hy, rfl⟩
    obtain ⟨a, ha', e1, e2, _⟩ := mem_negL hn h hm
    have hl := h.lit hy
    refine ⟨_, hm, ?_⟩
    rw [wneg_lit hn hl, Int.neg_neg]
    have h1 := hl.2.1
    have h2 := hl.2.2
    unfold wrap64; omega
structure GrowIs (n : Nat) (cls : List (List Int)) (A : List Int) (p : List Stp) (g : List Stp × Int × Bool) : Prop where
 acc : ∃ us, accL n (cls.map some) us g.1
 add : ∀ x ∈ g.1, x.f1 = false
 pre : ∃ t, g.1 = p ++ t
 yes : g.2.2 = true → (¬ ∃ M, Mod n cls M ∧ Sub A M) ∧ ∃ (i : Nat) (x : Stp), g.2.1 = ((cls.length + i + 1 : Nat) : Int) ∧ g.1[i]? = some x ∧ x.f0 = negL A
 no : g.2.2 = false → ∃ M, Mod n cls M ∧ Sub A M
 imp : ∀ x ∈ g.1, x ∈ p ∨ ∃ A', Path n A' ∧ x.f0 = negL A' ∧ ¬ ∃ M, Mod n cls M ∧ Sub A' M
theorem sub_app {A M : List Int} {x : Int} (h : Sub (A ++ [x]) M) : Sub A M := fun y hy => h y (by
 rw [List.contains_iff_mem] at hy ⊢
 exact List.mem_append_left _ hy)
theorem app_sub {A M : List Int} {x : Int} (h : Sub A M) (hx : M.contains x = true) : Sub (A ++ [x]) M := fun y hy => by
 rw [List.contains_iff_mem] at hy
 rcases List.mem_append.1 hy with e | e
 ·exact h y (List.contains_iff_mem.2 e)
 ·rw [List.mem_singleton] at e; subst e; exact hx
theorem grow_hit_is {n : Nat} (hn : n ≤ 100000) {cls : List (List Int)} (hlo : ∀ l ∈ cls, ∀ x ∈ l, LitOk n x) {A : List Int} {p : List Stp} {us : List Int} (hP : Path n A) (hacc : accL n (cls.map some) us p) (hadd : ∀ x ∈ p, x.f1 = false) (h : 0 < false1L A cls 0) :
  GrowIs n cls A p (p ++ [⟨negL A, false, [((false1L A cls 0 : Nat) : Int)]⟩], ((cls.length + p.length + 1 : Nat) : Int), true) := by
 rcases false1_is A cls 0 with ⟨h1, _⟩ | ⟨j, hj, h1, h2⟩
 ·omega
 have hno : ¬ ∃ M, Mod n cls M ∧ Sub A M := fun ⟨M, hM, hs⟩ => mod_conf hn hM hs (List.getElem_mem hj) (hlo _ (List.getElem_mem hj)) h2
 obtain ⟨u, hu⟩ : ∃ u, deriveF (cls.map some ++ p.map fun y => some y.f0) (negL A) [((false1L A cls 0 : Nat) : Int)] = (u, true) := by
  rcases derive_neg hn hP (cls.map some ++ p.map fun y => some y.f0) [((false1L A cls 0 : Nat) : Int)] with e | ⟨S, hS, e⟩
  ·exact ⟨0, e⟩
  ·refine ⟨0 + 1, ?_⟩
   rw [e, h1]
   have e2 : 0 + j + 1 = j + 1 := by omega
   rw [e2]
   exact derive_conf (look_cls hj) (allF_congr hS h2)
 refine ⟨⟨us ++ [u], accL_snoc rfl (neg_ok hn hP) p us _ hacc hadd hu⟩, fun x hx => ?_, ⟨[_], rfl⟩, fun _ => ⟨hno, p.length, ⟨negL A, false, [((false1L A cls 0 : Nat) : Int)]⟩, rfl, by simp, rfl⟩, (fun h => by cases h), fun x hx => ?_⟩
 ·rcases List.mem_append.1 hx with e | e
  ·exact hadd x e
  ·rw [List.mem_singleton] at e; subst e; rfl
 ·rcases List.mem_append.1 hx with e | e
  ·exact .inl e
  ·rw [List.mem_singleton] at e; subst e; exact .inr ⟨A, hP, rfl, hno⟩
theorem grow_is {n : Nat} (hn : n ≤ 100000) {cls : List (List Int)} (hlo : ∀ l ∈ cls, ∀ x ∈ l, LitOk n x) : ∀ (d : Nat) (A : List Int) (p : List Stp) (us : List Int), Path n A → A.length + d = n → accL n (cls.map some) us p → (∀ x ∈ p, x.f1 = false) → GrowIs n cls A p (growL cls d A p)
 | 0, A, p, us, hP, hd, hacc, hadd => by
  by_cases h : 0 < false1L A cls 0
  ·rw [growL_hit h]; exact grow_hit_is hn hlo hP hacc hadd h
  ·rw [growL_zero h]
   refine ⟨⟨us, hacc⟩, hadd, ⟨[], by simp⟩, (fun h => by cases h), fun _ => ?_, fun x hx => .inl hx⟩
   rcases false1_is A cls 0 with ⟨_, h2⟩ | ⟨j, hj, h1, _⟩
   ·refine ⟨A, ⟨hP.cons, hP.tot (by omega), fun l hl => ?_⟩, fun _ h => h⟩
    have h3 := h2 l hl
    unfold allF at h3
    obtain ⟨x, hx⟩ := Classical.not_forall.1 h3
    obtain ⟨hxl, hx⟩ := Classical.not_imp.1 hx
    have hxo := hlo l hl x hxl
    rw [wneg_lit hn hxo] at hx
    exact ⟨x, hxl, (tot_lit (hP.tot (by omega)) hxo).resolve_right hx⟩
   ·omega
 | d + 1, A, p, us, hP, hd, hacc, hadd => by
  by_cases h : 0 < false1L A cls 0
  ·rw [growL_hit h]; exact grow_hit_is hn hlo hP hacc hadd h
  ·have hv : A.length < n := by omega
   have hPy := hP.snoc hv (.inl rfl)
   have hPz := hP.snoc hv (.inr rfl)
   have hy := grow_is hn hlo d _ p us hPy (by simp; omega) hacc hadd
   obtain ⟨usy, haccy⟩ := hy.acc
   have hz := grow_is hn hlo d _ _ usy hPz (by simp; omega) haccy hy.add
   rw [growL_succ h rfl rfl]
   generalize growL cls d (A ++ [((A.length + 1 : Nat) : Int)]) p = y at hy haccy hz ⊢
   generalize growL cls d (A ++ [-((A.length + 1 : Nat) : Int)]) y.1 = z at hz ⊢
   have hpz : ∃ t, z.1 = p ++ t := by
    obtain ⟨t1, e1⟩ := hy.pre
    obtain ⟨t2, e2⟩ := hz.pre
    exact ⟨t1 ++ t2, by rw [e2, e1, List.append_assoc]⟩
   have himp : ∀ x ∈ z.1, x ∈ p ∨ ∃ A', Path n A' ∧ x.f0 = negL A' ∧ ¬ ∃ M, Mod n cls M ∧ Sub A' M := fun x hx => by
    rcases hz.imp x hx with e | e
    ·exact hy.imp x e
    ·exact .inr e
   by_cases hyo : y.2.2 = false
   ·rw [if_pos hyo]
    obtain ⟨M, hM, hs⟩ := hy.no hyo
    exact ⟨hy.acc, hy.add, hy.pre, (fun h => by cases h), fun _ => ⟨M, hM, sub_app hs⟩, hy.imp⟩
   ·rw [if_neg hyo]
    by_cases hzo : z.2.2 = false
    ·rw [if_pos hzo]
     obtain ⟨M, hM, hs⟩ := hz.no hzo
     exact ⟨hz.acc, hz.add, hpz, (fun h => by cases h), fun _ => ⟨M, hM, sub_app hs⟩, himp⟩
    ·rw [if_neg hzo]
     obtain ⟨hny, iy, xy, ey, gy, fy⟩ := hy.yes (by simpa using hyo)
     obtain ⟨hnz, iz, xz, ez, gz, fz⟩ := hz.yes (by simpa using hzo)
     have gy' : z.1[iy]? = some xy := by
      obtain ⟨t2, e2⟩ := hz.pre
      rw [e2, List.getElem?_append_left (List.getElem?_eq_some_iff.1 gy).1]; exact gy
     have hLv : LitOk n ((A.length + 1 : Nat) : Int) := ⟨by omega, by omega, by omega⟩
     have hno : ¬ ∃ M, Mod n cls M ∧ Sub A M := fun ⟨M, hM, hs⟩ => by
      rcases hM.lit hLv with q | q
      ·exact hny ⟨M, hM, app_sub hs q⟩
      ·exact hnz ⟨M, hM, app_sub hs q⟩
     obtain ⟨usz, haccz⟩ := hz.acc
     obtain ⟨u, hu⟩ : ∃ u, deriveF (cls.map some ++ z.1.map fun y => some y.f0) (negL A) [y.2.1, z.2.1] = (u, true) := by
      rcases derive_neg hn hP (cls.map some ++ z.1.map fun y => some y.f0) [y.2.1, z.2.1] with e | ⟨S, hS, e⟩
      ·exact ⟨0, e⟩
      ·refine ⟨0 + 1 + 1, ?_⟩
       have l1 := look_step (cls := cls) gy'
       have l2 := look_step (cls := cls) gz
       rw [fy] at l1
       rw [fz] at l2
       have hwv : wrap64 (-((A.length + 1 : Nat) : Int)) = -((A.length + 1 : Nat) : Int) := wneg_lit hn hLv
       have hwv2 : wrap64 (- -((A.length + 1 : Nat) : Int)) = ((A.length + 1 : Nat) : Int) := by
        rw [Int.neg_neg]; have := hLv.2.2; unfold wrap64; omega
       rw [e, ey, ez, derive_unit l1 (x := -((A.length + 1 : Nat) : Int)) ?_ ?_, derive_conf l2 ?_]
       ·intro w hw
        obtain ⟨a, ha, _, e2, _⟩ := mem_negL hn hPz hw
        rw [e2, List.contains_cons]
        rcases List.mem_append.1 ha with q | q
        ·rw [hS, List.contains_iff_mem.2 q]; simp
        ·rw [List.mem_singleton] at q; rw [q]; simp
       ·refine ⟨?_, ?_, fun w hw => ?_⟩
        ·unfold negL; rw [List.map_append]; simp only [List.map_cons, List.map_nil, hwv]; simp
        ·rw [hwv2, hS]; exact hP.fresh (.inl rfl)
        ·obtain ⟨a, ha, e1, e2, _⟩ := mem_negL hn hPy hw
         rcases List.mem_append.1 ha with q | q
         ·right; rw [e2, hS]; exact List.contains_iff_mem.2 q
         ·rw [List.mem_singleton] at q; left; rw [e1, q]
       ·rw [hS]; exact hP.fresh (.inr rfl)
     refine ⟨⟨usz ++ [u], accL_snoc rfl (neg_ok hn hP) z.1 usz _ haccz hz.add hu⟩, fun x hx => ?_, ?_, fun _ => ⟨hno, z.1.length, ⟨negL A, false, [y.2.1, z.2.1]⟩, rfl, by simp, rfl⟩, (fun h => by cases h), fun x hx => ?_⟩
     ·rcases List.mem_append.1 hx with e | e
      ·exact hz.add x e
      ·rw [List.mem_singleton] at e; subst e; rfl
     ·obtain ⟨t, e⟩ := hpz
      exact ⟨t ++ [⟨negL A, false, [y.2.1, z.2.1]⟩], by rw [e, List.append_assoc]⟩
     ·rcases List.mem_append.1 hx with e | e
      ·exact himp x e
      ·rw [List.mem_singleton] at e; subst e; exact .inr ⟨A, hP, rfl, hno⟩
theorem en_pos : ∀ (xs : List Stp) (en i : Int), 0 ≤ i → (0 ≤ en ∨ ∃ x ∈ xs, x.f1 = false ∧ x.f0 = []) → 0 ≤ enOf en i xs
 | [], en, i, _, h => by
  rcases h with h | ⟨x, hx, _⟩
  ·exact h
  ·cases hx
 | y :: xs, en, i, hi, h => by
  rw [enOf]
  refine en_pos xs _ _ (by omega) ?_
  rcases h with h | ⟨x, hx, h1, h2⟩
  ·left
   split
   ·exact h
   ·split <;> omega
  ·rcases List.mem_cons.1 hx with e | e
   ·subst e
    left
    rw [if_neg (by rw [h1]; simp), h2]
    by_cases he : en < 0
    ·rw [if_pos ⟨he, rfl⟩]; exact hi
    ·rw [if_neg (fun h => he h.1)]; omega
   ·exact .inr ⟨x, e, h1, h2⟩
theorem tree_run {n : Nat} (hn : n ≤ 100000) {cls : List (List Int)} (hlo : ∀ l ∈ cls, ∀ x ∈ l, LitOk n x) {k : Nat} (hc : cnf_Check.f k n cls = some 0) (hl : (growL cls n [] []).1.length ≤ 65536) (hok : (growL cls n [] []).2.2 = true) :
  ∃ us, runF k n cls (growL cls n [] []).1 = some ⟨us, byOf 0 (growL cls n [] []).1, enOf (-1) 0 (growL cls n [] []).1, 0, 0⟩ := by
 have h := grow_is hn hlo n [] [] [] (Path.nil n) (by simp) (by simp [accL]) (fun x hx => by cases hx)
 obtain ⟨us, hus⟩ := h.acc
 obtain ⟨_, i, x, _, hx, h0⟩ := h.yes hok
 have hm := List.mem_of_getElem? hx
 exact ⟨us, acc_runF hc hl hus (en_pos _ _ _ (Int.le_refl _) (.inr ⟨x, hm, h.add x hm, h0⟩))⟩
end Go.Proofs.YtogicccdngpafaaGreatDoor.NPlain
end
section
namespace Go.Proofs.YtogicccdngpafaaGreatDoor.NPlain
open Go Go.RowKit Go.Proofs.YtogicccdngpafaaGreatDoorW.PrintWords Go.Proofs.YtogicccdngpafaaGreatDoorW.PrintLast Go.Proofs.YtogicccdngpafaaGreatDoorW.PrintMore Go.Proofs.YtogicccdngpafaaGreatDoor.NState
open Go.Proofs.YtogicccdngpafaaGreatDoor.PCheck (cnf_Check.f)
open Go.Proofs.YtogicccdngpafaaGreatDoor.PSame (rd_T42)
theorem fewL_id {x : List (List Int)} {m : Nat} (h : x.length ≤ m) (hl : ∀ l ∈ x, l.length ≤ 12) : fewL m x = x := by
 unfold fewL
 rw [List.take_of_length_le h]
 conv => rhs; rw [← List.map_id x]
 exact List.map_congr_left (fun l hm => List.take_of_length_le (hl l hm))
def unitsL (A : List Int) : List (List Int) := A.map fun a => [a]
theorem mod_units {n : Nat} {x : List (List Int)} {A M : List Int} (h : Mod n (x ++ unitsL A) M) : Mod n x M ∧ Sub A M := by
 refine ⟨⟨h.cons, h.tot, fun l hl => h.all l (List.mem_append_left _ hl)⟩, fun a ha => ?_⟩
 obtain ⟨y, hy, hm⟩ := h.all [a] (List.mem_append_right _ (List.mem_map.2 ⟨a, List.contains_iff_mem.1 ha, rfl⟩))
 rw [List.mem_singleton] at hy
 rw [← hy]; exact hm
structure PCGood (k n : Nat) (x : List (List Int)) (p : List Stp) (at_ : Int) (i : Nat) (A : List Int) (r : RunR) : Prop where
 run : runF k n x p = some r
 re : r.e = 0
 rat : r.at_ = 0
 bring : PFit.netlabref20_Bring.f at_ (p.length : Int) = some (i : Int)
 hi : i < p.length
 step : (rd_T42 p (i : Int)).f0 = negL A
 lA : A.length ≤ 6
 lits : ∀ a ∈ A, LitOk n a
 few : PFew.netlabref32_Few.f k n x 30 = some ((n : Int), x)
 chk : cnf_Check.f k n (x ++ unitsL A) = some 0
 none_ : ¬ ∃ M, Mod n (x ++ unitsL A) M
structure PCOwed (k : Nat) (vars : Int) (cls : List (List Int)) (at_ : Int) (n : Nat) (x : List (List Int)) (p : List Stp) (gi : Int) (ok : Bool) : Prop where
 fit : PFit.netlabref32_Fit.f k vars cls 6 30 = some ((n : Int), x)
 hn : n ≤ 6
 lx : x.length ≤ 30
 lxs : ∀ l ∈ x, l.length ≤ 12 ∧ ∀ y ∈ l, LitOk n y
 chk : cnf_Check.f k n x = some 0
 grow : growL x n [] [] = (p, gi, ok)
 lp : p.length ≤ 200
 yes : ok = true → (¬ ∃ M, Mod n x M) ∧ ∃ i A r, PCGood k n x p at_ i A r
 no : ok = false → ∃ M, Mod n x M
theorem pc_owed (vars : Int) (cls : List (List Int)) (at_ : Int) : ∃ k n x p gi ok, PCOwed k vars cls at_ n x p gi ok := by
 obtain ⟨n, x, hn, hLl, hLok, kf, hkf⟩ := fit_ev 6 30 (by decide) (by decide) vars cls
 have hfine : Fine n x := ⟨by omega, hLok⟩
 have hlo : ∀ l ∈ x, ∀ y ∈ l, LitOk n y := fun l hl => (hLok l hl).2
 obtain ⟨⟨p, gi, ok⟩, hg⟩ : ∃ g, growL x n [] [] = g := ⟨_, rfl⟩
 have hpow : 2 ^ (n + 1) ≤ 128 := Nat.le_trans (Nat.pow_le_pow_right (by decide) (show n + 1 ≤ 7 by omega)) (by decide)
 have lg := growL_len x n [] []
 rw [hg] at lg
 have lp : p.length ≤ 200 := by simp only [List.length_nil] at lg; omega
 have hgi := grow_is (by omega) hlo n [] [] [] (Path.nil n) (by simp) (by simp [accL]) (fun x hx => by cases hx)
 have hrun := fun (k : Nat) (hc : cnf_Check.f k n x = some 0) => tree_run (show n ≤ 100000 by omega) hlo hc (by rw [hg]; show p.length ≤ 65536; omega)
 rw [hg] at hgi hrun
 obtain ⟨K1, h1⟩ := check_fine (by omega) hfine
 have hsub : ∀ M : List Int, Sub [] M := fun M y hy => by simp at hy
 cases ok with
 | false =>
  refine ⟨kf + K1, n, x, p, gi, false, hkf _ (by omega), hn, hLl, hLok, h1 _ (by omega), hg, lp, (fun h => by cases h), fun _ => ?_⟩
  obtain ⟨M, hM, _⟩ := hgi.no rfl
  exact ⟨M, hM⟩
 | true =>
  obtain ⟨hno, i0, x0, _, hx0, _⟩ := hgi.yes rfl
  have hpos : 0 < p.length := Nat.lt_of_le_of_lt (Nat.zero_le _) (List.getElem?_eq_some_iff.1 hx0).1
  obtain ⟨i, hb, hb0, hb1⟩ := bring_ok at_ (m := (p.length : Int)) (by omega) (by omega)
  obtain ⟨i, rfl⟩ := Int.eq_ofNat_of_zero_le hb0
  have hil : i < p.length := by omega
  rcases hgi.imp p[i] (List.getElem_mem hil) with h | ⟨A, hA, hfA, hnA⟩
  ·cases h
  ·have lA : A.length ≤ 6 := by have := hA.1; omega
   have hf2 : Fine n (x ++ unitsL A) := by
    refine ⟨by simp [unitsL]; omega, fun l hl => ?_⟩
    rcases List.mem_append.1 hl with h | h
    ·exact hLok l h
    ·obtain ⟨a, ha, rfl⟩ := List.mem_map.1 h
     refine ⟨by simp, fun y hy => ?_⟩
     rw [List.mem_singleton] at hy; subst hy; exact hA.lit ha
   obtain ⟨K2, h2⟩ := check_fine (by omega) hf2
   obtain ⟨K3, h3⟩ := few_ev 30 (by decide) n x
   rw [fewL_id hLl (fun l hl => (hLok l hl).1)] at h3
   obtain ⟨us, hus⟩ := hrun (kf + K1 + K2 + K3) (h1 _ (by omega)) rfl
   refine ⟨kf + K1 + K2 + K3, n, x, p, gi, true, hkf _ (by omega), hn, hLl, hLok, h1 _ (by omega), hg, lp, fun _ => ⟨fun ⟨M, hM⟩ => hno ⟨M, hM, hsub M⟩, i, A, _, hus, rfl, rfl, hb, hil, ?_, lA, fun a ha => hA.lit ha, h3 _ (by omega), h2 _ (by omega), fun ⟨M, hM⟩ => hnA ⟨M, (mod_units hM).1, (mod_units hM).2⟩⟩, (fun h => by cases h)⟩
   rw [rdS hil]; exact hfA
end Go.Proofs.YtogicccdngpafaaGreatDoor.NPlain
end
