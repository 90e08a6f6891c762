/-
  Part 30 of the proof of cnfMatches_card: walks and lemmas.
-/
import Derived.Test.YtkcfdddhnboieaaGreatDoorKE17
import Derived.Test.YtkcfdddhnboieaaGreatDoorKE29
import Derived.Test.YtkcfdddhnboieaaGreatDoorKE28
import Derived.Test.YtkcfdddhnboieaaGreatDoorKE27
import Derived.Test.YtkcfdddhnboieaaGreatDoorKE11
import Derived.Test.YtkcfdddhnboieaaGreatDoorKE5
set_option linter.unusedVariables false
set_option linter.unusedSimpArgs false
section
set_option maxRecDepth 100000
namespace Go.Proofs.YtkcfdddhnboieaaGreatDoor.NPlain
open Go Go.RowKit Go.Shelf QW.PrintWords QW.PrintLast QW.PrintMore NState
theorem exists_ref (x v : Int) : PRPropg.netlabref32_legal.f x v = some (!badLit v x) := PRPropg.legal_code x v
theorem check_ref (vars : Int) (cls : List (List Int)) (hc : cls.length ≤ 1000000000) (ht : tot cls ≤ 1000000000) (_hl : ∀ l ∈ cls, l.length ≤ 1000000000) : Ev (fun k => PRPropg.netlabref32_Check.f k vars cls) (chkL vars cls) := ⟨0, fun _ _ => if_pos ⟨hc, ht⟩⟩
theorem has_ev0 (l : List Int) (x : Int) (hl : l.length ≤ 1000000000) : ∀ i : Nat, i ≤ l.length → Ev (fun k => PRPropg.netlabref32_Has.l0 k l x (i : Int)) ((l.drop i).contains x) := by
 refine down ?_ ?_
 ·refine Ev.succ ?_
  simp only [PRPropg.netlabref32_Has.l0]
  refine Ev.neg (by omega) ?_
  simp only [List.drop_length, List.contains_nil]
  exact Ev.pure _
 ·intro i hi ih
  refine Ev.succ ?_
  simp only [PRPropg.netlabref32_Has.l0]
  refine Ev.pos (by omega) (Ev.pos (by omega) ?_)
  rw [drop_rd hi, wrap_succ hi (by omega), List.contains_cons]
  by_cases he : rd l i = x
  ·refine Ev.pos he ?_
   exact Ev.pureOf (by rw [he]; simp)
  ·refine Ev.neg he ?_
   have hb : (x == rd l i) = false := by simpa using fun h => he h.symm
   rw [hb, Bool.false_or]
   exact ih
theorem has_ev (l : List Int) (x : Int) (hl : l.length ≤ 1000000000) : Ev (fun k => PRPropg.netlabref32_Has.f k l x) (l.contains x) := has_ev0 l x hl 0 (Nat.zero_le _)
theorem trivial_ev0 (l : List Int) (hl : l.length ≤ 1000000000) : ∀ i : Nat, i ≤ l.length → Ev (fun k => PRPropg.netlabref32_trivial.l0 k l (i : Int)) ((l.drop i).any fun x => l.contains (wrap64 (-x))) := by
 refine down ?_ ?_
 ·refine Ev.succ ?_
  simp only [PRPropg.netlabref32_trivial.l0]
  refine Ev.neg (by omega) ?_
  simp only [List.drop_length, List.any_nil]
  exact Ev.pure _
 ·intro i hi ih
  refine Ev.succ ?_
  simp only [PRPropg.netlabref32_trivial.l0]
  refine Ev.pos (by omega) (Ev.pos (by omega) (Ev.bind (has_ev _ _ hl) ?_))
  rw [drop_rd hi, wrap_succ hi (by omega), List.any_cons]
  by_cases h0 : l.contains (wrap64 (-(rd l i))) = true
  ·exact Ev.pos h0 (Ev.pureOf (by rw [h0]; rfl))
  refine Ev.neg h0 ?_
  rw [Bool.not_eq_true] at h0
  rw [h0, Bool.false_or]
  exact ih
theorem trivial_ev (l : List Int) (hl : l.length ≤ 1000000000) : Ev (fun k => PRPropg.netlabref32_trivial.f k l) (l.any fun x => l.contains (wrap64 (-x))) := trivial_ev0 l hl 0 (Nat.zero_le _)
theorem abs_code {n : Nat} (hn : n ≤ 100000) {x : Int} (hx : LitOk n x) : PRPropg.netlabref32_Abs.f x = some (absI x) := by
 obtain ⟨_, h1, h2⟩ := hx
 unfold PRPropg.netlabref32_Abs.f absI
 by_cases h : x < 0
 ·rw [if_pos h, if_pos h, wneg (by omega) (by omega)]
 ·rw [if_neg h, if_neg h]
theorem before_code {n : Nat} (hn : n ≤ 100000) {x y : Int} (hx : LitOk n x) (hy : LitOk n y) : PRPropg.netlabref32_before.f x y = some (ltOf cmpI x y) := by
 rw [← befB_eq hn hx hy]
 unfold PRPropg.netlabref32_before.f befB
 rw [abs_code hn hx, abs_code hn hy]
 simp only [Option.bind_some]
 by_cases h1 : absI x < absI y
 ·rw [if_pos h1]; simp [h1]
 ·rw [if_neg h1]
  by_cases h2 : absI x = absI y
  ·rw [if_pos h2]; simp [h2]
  ·rw [if_neg h2]; simp [h1, h2]
theorem before_code2 {n : Nat} (hn : n ≤ 100000) {x y : Int} (hx : LitOk n x) (hy : LitOk n y) : PRCmp.netlabref32_before.f x y = some (ltOf cmpI x y) := before_code hn hx hy
theorem rd_mem {l : List Int} {i : Nat} (h : i < l.length) : rd l i ∈ l := by
 have e : rd l i = l[i] := by simp [rd, List.getD, h]
 rw [e]; exact List.getElem_mem h
theorem rd_get {l : List Int} {i : Nat} (h : i < l.length) : rd l i = l[i] := by simp [rd, List.getD, h]
theorem sorted_ev1 {n : Nat} (hn : n ≤ 100000) (l : List Int) (hlen : l.length ≤ 1000000000) (hl : ∀ x ∈ l, LitOk n x) (i : Nat) (hi : i < l.length) (out : List Int) (ho : ∀ x ∈ out, LitOk n x) (hol : out.length ≤ 1000000000) {r : List Int}
  (h : Ev (fun k => PRPropg.netlabref32_Sorted.l0 k l (insL (ltOf cmpI) (rd l i) out) ((i + 1 : Nat) : Int)) r) :
  ∀ j : Nat, j ≤ (out.takeWhile fun a => ltOf cmpI a (rd l i)).length → Ev (fun k => PRPropg.netlabref32_Sorted.l1 k l out (i : Int) (j : Int)) r := by
 have hx := hl _ (rd_mem hi)
 have hple := tw_len_le (fun a => ltOf cmpI a (rd l i)) out
 have e1 := take_tw (fun a => ltOf cmpI a (rd l i)) out
 have e2 := drop_tw (fun a => ltOf cmpI a (rd l i)) out
 have hb := tw_before (fun a => ltOf cmpI a (rd l i)) out
 have hs := tw_stop (fun a => ltOf cmpI a (rd l i)) out
 have e : insL (ltOf cmpI) (rd l i) out = out.take (out.takeWhile fun a => ltOf cmpI a (rd l i)).length ++ [rd l i] ++ out.drop (out.takeWhile fun a => ltOf cmpI a (rd l i)).length := by
  rw [e1, e2, List.append_assoc]; rfl
 rw [e] at h
 clear e e1 e2
 obtain ⟨p, hp⟩ : ∃ p, (out.takeWhile fun a => ltOf cmpI a (rd l i)).length = p := ⟨_, rfl⟩
 rw [hp] at h hple ⊢
 simp only [hp] at hb hs
 refine down ?_ ?_
 ·refine Ev.succ ?_
  simp only [PRPropg.netlabref32_Sorted.l1, Option.bind_some, List.nil_append, List.length_nil, Int.toNat_natCast]
  have k1 : 0 + (out.take p).length < 17592186044416 := by rw [List.length_take]; omega
  have k2 : (out.take p).length < 17592186044416 := by omega
  have k3 : (out.take p ++ [rd l i]).length + (out.drop p).length < 17592186044416 := by rw [List.length_append, List.length_take, List.length_drop]; simp; omega
  have w : wrap64 ((i : Int) + 1) = ((i + 1 : Nat) : Int) := wrap_succ hi (by omega)
  rw [w]
  by_cases hpl : p < out.length
  ·refine Ev.pos (by omega) (Ev.pos (by omega) (Ev.pos (by omega) (Ev.pos (by omega) ?_)))
   rw [rd_get hpl, before_code hn (ho _ (List.getElem_mem hpl)) hx]
   simp only [Option.bind_some]
   exact Ev.neg (by rw [hs hpl]; simp) (Ev.pos (by omega) (Ev.pos k1 (Ev.pos k2 (Ev.pos k3 h))))
  ·exact Ev.neg (by omega) (Ev.pos (by omega) (Ev.pos (by omega) (Ev.pos k1 (Ev.pos (by omega) (Ev.pos (by omega) (Ev.pos k2 (Ev.pos k3 h)))))))
 ·intro j hj ih
  have hjl : j < out.length := by omega
  refine Ev.succ ?_
  simp only [PRPropg.netlabref32_Sorted.l1]
  refine Ev.pos (by omega) (Ev.pos (by omega) (Ev.pos (by omega) (Ev.pos (by omega) ?_)))
  rw [rd_get hjl, before_code hn (ho _ (List.getElem_mem hjl)) hx, wrap_succ hjl (by omega)]
  simp only [Option.bind_some]
  exact Ev.pos (hb j hjl hj) ih
theorem sorted_ev {n : Nat} (hn : n ≤ 100000) (l : List Int) (hlen : l.length ≤ 1000000000) (hl : ∀ x ∈ l, LitOk n x) : Ev (fun k => PRPropg.netlabref32_Sorted.f k l) (sortR [] l) := by
 have h : ∀ i : Nat, i ≤ l.length → ∀ out : List Int, (∀ x ∈ out, LitOk n x) → out.length ≤ i → Ev (fun k => PRPropg.netlabref32_Sorted.l0 k l out (i : Int)) (sortR out (l.drop i)) := by
  refine down ?_ ?_
  ·intro out _ _
   refine Ev.succ ?_
   simp only [PRPropg.netlabref32_Sorted.l0]
   rw [List.drop_length]
   exact Ev.neg (by omega) (Ev.pure _)
  ·intro i hi ih out ho hol
   refine Ev.succ ?_
   simp only [PRPropg.netlabref32_Sorted.l0]
   refine Ev.pos (by omega) (Ev.pos (by omega) (Ev.bind (has_ev out (rd l i) (by omega)) ?_))
   rw [drop_rd hi]
   have e : sortR out (rd l i :: l.drop (i + 1)) = sortR (putI out (rd l i)) (l.drop (i + 1)) := rfl
   rw [e]
   unfold putI
   by_cases hc : out.contains (rd l i) = true
   ·rw [if_pos hc]
    refine Ev.pos hc ?_
    rw [wrap_succ hi (by omega)]
    exact ih out ho (by omega)
   ·rw [if_neg hc]
    refine Ev.neg hc ?_
    refine sorted_ev1 hn l hlen hl i hi out ho (by omega) (ih _ (fun x hx => ?_) (by rw [len_insL]; omega)) 0 (Nat.zero_le _)
    rcases (mem_insL _ _ _).1 hx with rfl | hx
    ·exact hl _ (rd_mem hi)
    ·exact ho x hx
 exact h 0 (Nat.zero_le _) [] (fun x hx => by cases hx) (Nat.zero_le _)
theorem cmpR_nl (b : List Int) : cmpR [] b = 0 - (b.length : Int) := by cases b <;> rfl
theorem cmpR_nr (a : List Int) : cmpR a [] = (a.length : Int) := by cases a <;> simp [cmpR]
theorem compare_ev {n : Nat} (hn : n ≤ 100000) (a b : List Int) (hla : a.length ≤ 1000000000) (hlb : b.length ≤ 1000000000) (ha : ∀ x ∈ a, LitOk n x) (hb : ∀ x ∈ b, LitOk n x) : Ev (fun k => PRCmp.netlabref32_Compare.f k a b) (cmpR a b) := by
 have h : ∀ i : Nat, i ≤ min a.length b.length → Ev (fun k => PRCmp.netlabref32_Compare.l0 k a b (i : Int)) (cmpR (a.drop i) (b.drop i)) := by
  refine down ?_ ?_
  ·have hf : ∀ i : Nat, i = min a.length b.length → Ev (fun k => PRCmp.netlabref32_Compare.j1 k a b (i : Int) false) (cmpR (a.drop i) (b.drop i)) := fun i hi => by
    refine Ev.succ ?_
    simp only [PRCmp.netlabref32_Compare.j1]
    refine Ev.neg (by simp) (Ev.pureOf ?_)
    have w : wrap64 ((a.length : Int) - (b.length : Int)) = (a.length : Int) - (b.length : Int) := wid (by omega) (by omega)
    rw [w]
    by_cases hle : a.length ≤ b.length
    ·have e : a.drop i = [] := List.drop_eq_nil_of_le (by omega)
     rw [e, cmpR_nl, List.length_drop]; omega
    ·have e : b.drop i = [] := List.drop_eq_nil_of_le (by omega)
     rw [e, cmpR_nr, List.length_drop]; omega
   refine Ev.succ ?_
   simp only [PRCmp.netlabref32_Compare.l0]
   by_cases hla : ((min a.length b.length : Nat) : Int) < (a.length : Int)
   ·refine Ev.pos hla ?_
    rw [decide_eq_false (by omega)]
    exact hf _ rfl
   ·exact Ev.neg hla (hf _ rfl)
  ·intro i hi ih
   have h1 : i < a.length := by omega
   have h2 : i < b.length := by omega
   have hx := ha _ (rd_mem h1)
   have hy := hb _ (rd_mem h2)
   refine Ev.succ ?_
   simp only [PRCmp.netlabref32_Compare.l0]
   refine Ev.pos (by omega) ?_
   rw [decide_eq_true (by omega)]
   refine Ev.succ ?_
   simp only [PRCmp.netlabref32_Compare.j1]
   refine Ev.pos trivial (Ev.pos (by omega) (Ev.pos (by omega) (Ev.pos (by omega) ?_)))
   rw [before_code2 hn hx hy, before_code2 hn hy hx, drop_rd h1, drop_rd h2, cmpR, wrap_succ h1 (by omega)]
   simp only [Option.bind_some]
   by_cases c1 : ltOf cmpI (rd a i) (rd b i) = true
   ·rw [if_pos c1]
    exact Ev.pos c1 (Ev.pure _)
   ·rw [if_neg c1]
    refine Ev.neg c1 ?_
    by_cases c2 : ltOf cmpI (rd b i) (rd a i) = true
    ·rw [if_pos c2]
     exact Ev.pos c2 (Ev.pure _)
    ·rw [if_neg c2]
     exact Ev.neg c2 ih
 exact h 0 (Nat.zero_le _)
theorem free_congr {S T : List Int} (h : ∀ y, S.contains y = T.contains y) (L : List Int) : free S L = free T L := by
 unfold free
 rw [show (fun x => !S.contains x) = fun x => !T.contains x from funext fun x => by rw [h]]
theorem units_ev2 {n : Nat} (cls : List (List Int)) (S : List Int) (hS : S.length ≤ 1000000000) (c : Bool) (i : Nat) (hi : i < cls.length) (hll : cls[i].length ≤ 1000000000) {r : List Int × Bool}
  (hend : Ev (fun k => PRPropg.netlabref32_Units.l2 k S c (i : Int) (cls[i].filter fun x => !S.contains (wrap64 (-x))) (cls[i].any S.contains) (cls[i].length : Int) (n : Int) cls) r) :
  ∀ j : Nat, j ≤ cls[i].length → Ev (fun k => PRPropg.netlabref32_Units.l2 k S c (i : Int) ((cls[i].take j).filter fun x => !S.contains (wrap64 (-x))) ((cls[i].take j).any S.contains) (j : Int) (n : Int) cls) r := by
 have hrd : PRPropg.rL cls (i : Int) = cls[i] := by simp [PRPropg.rL, List.getD, hi]
 generalize cls[i] = l at hll hend hrd ⊢
 refine down ?_ ?_
 ·rw [List.take_length]; exact hend
 ·intro j hj ih
  refine Ev.succ ?_
  simp only [PRPropg.netlabref32_Units.l2, hrd]
  refine Ev.pos (by omega) (Ev.pos (by omega) (Ev.pos (by omega) (Ev.pos (by omega) ?_)))
  have hlen : ((l.take j).filter fun x => !S.contains (wrap64 (-x))).length < 17592186044416 := Nat.lt_of_le_of_lt (List.length_filter_le _ _) (by rw [List.length_take]; omega)
  rw [List.take_succ_eq_append_getElem hj, List.filter_append, List.any_append, ← rd_get hj, List.filter_cons, List.filter_nil, List.any_cons, List.any_nil, Bool.or_false] at ih
  rw [wrap_succ hj (by omega)]
  generalize (l.take j).filter (fun x => !S.contains (wrap64 (-x))) = o at hlen ih ⊢
  by_cases hd : (l.take j).any S.contains = true
  ·rw [hd] at ih ⊢
   refine Ev.pos rfl (Ev.bind (has_ev S _ hS) ?_)
   rw [Bool.true_or] at ih
   by_cases h2 : S.contains (wrap64 (-(rd l j))) = true
   ·rw [h2] at ih
    exact Ev.pos h2 (by simpa using ih)
   ·rw [Bool.not_eq_true] at h2
    rw [h2] at ih
    exact Ev.neg (by rw [h2]; simp) (Ev.pos hlen (by simpa using ih))
  ·rw [Bool.not_eq_true] at hd
   rw [hd] at ih ⊢
   refine Ev.neg (by simp) (Ev.bind (has_ev S _ hS) (Ev.bind (has_ev S _ hS) ?_))
   rw [Bool.false_or] at ih
   by_cases h2 : S.contains (wrap64 (-(rd l j))) = true
   ·rw [h2] at ih
    exact Ev.pos h2 (by simpa using ih)
   ·rw [Bool.not_eq_true] at h2
    rw [h2] at ih
    exact Ev.neg (by rw [h2]; simp) (Ev.pos hlen (by simpa using ih))
theorem units_ev1 {n : Nat} (hn : n ≤ 100000) (cls : List (List Int)) (hcl : cls.length ≤ 1000000000) (hl : ∀ l ∈ cls, l.length ≤ 1000000000 ∧ ∀ x ∈ l, LitOk n x) (m B : Nat) (hB : B ≤ 1000000000)
  (IH : ∀ S : List Int, S.Pairwise SI → (∀ x ∈ S, LitOk n x) → S.length + free S cls.flatten ≤ B → free S cls.flatten < m → ∃ r, Ev (fun k => PRPropg.netlabref32_Units.l0 k S true (n : Int) cls) r ∧ RefR n cls S r ∧ r.1.length ≤ B) :
  ∀ i : Nat, i ≤ cls.length → ∀ (S : List Int) (c : Bool), S.Pairwise SI → (∀ x ∈ S, LitOk n x) → S.length + free S cls.flatten ≤ B → free S cls.flatten ≤ m → (c = true → free S cls.flatten < m) → (c = false → ∀ l ∈ cls.take i, openR S l ≠ [] ∧ ((openR S l).length = 1 → l.any S.contains = true)) →
   ∃ r, Ev (fun k => PRPropg.netlabref32_Units.l1 k S c (i : Int) (n : Int) cls) r ∧ RefR n cls S r ∧ r.1.length ≤ B := by
 refine down ?_ ?_
 ·intro S c hp hlo hb hm h1 h2
  cases c with
  | true =>
   obtain ⟨r, hr, hr2⟩ := IH S hp hlo hb (h1 rfl)
   refine ⟨r, ?_, hr2⟩
   refine Ev.succ ?_
   simp only [PRPropg.netlabref32_Units.l1]
   exact Ev.neg (by omega) hr
  | false =>
   refine ⟨(S, !trivR S), ?_, refR_stop hn hp hlo (fun l hlm => (hl l hlm).2) (fun l hlm => h2 rfl l (by rw [List.take_length]; exact hlm)), by show S.length ≤ B; omega⟩
   refine Ev.succ ?_
   simp only [PRPropg.netlabref32_Units.l1]
   refine Ev.neg (by omega) (Ev.succ ?_)
   simp only [PRPropg.netlabref32_Units.l0]
   exact Ev.neg (by simp) (Ev.bind (trivial_ev S (by omega)) (Ev.pure _))
 ·intro i hi ih S c hp hlo hb hm h1 h2
  have hmem : cls[i] ∈ cls := List.getElem_mem _
  have hll := hl _ hmem
  have hrd : PRPropg.rL cls (i : Int) = cls[i] := by simp [PRPropg.rL, List.getD, hi]
  have hbody : ∀ r, Ev (fun k => PRPropg.netlabref32_Units.l2 k S c (i : Int) (cls[i].filter fun x => !S.contains (wrap64 (-x))) (cls[i].any S.contains) (cls[i].length : Int) (n : Int) cls) r → Ev (fun k => PRPropg.netlabref32_Units.l1 k S c (i : Int) (n : Int) cls) r := fun r hr => by
   have h3 := units_ev2 (n := n) cls S (by omega) c i hi hll.1 hr 0 (Nat.zero_le _)
   refine Ev.succ ?_
   simp only [PRPropg.netlabref32_Units.l1]
   exact Ev.pos (by omega) h3
  have hsort : Ev (fun k => PRPropg.netlabref32_Sorted.f k (cls[i].filter fun x => !S.contains (wrap64 (-x)))) (openR S cls[i]) := sorted_ev hn _ (Nat.le_trans (List.length_filter_le _ _) hll.1) (fun x hx => hll.2 x (List.mem_filter.1 hx).1)
  have hstay : openR S cls[i] ≠ [] → ((openR S cls[i]).length = 1 → cls[i].any S.contains = true) → ∃ r, Ev (fun k => PRPropg.netlabref32_Units.l1 k S c ((i + 1 : Nat) : Int) (n : Int) cls) r ∧ RefR n cls S r ∧ r.1.length ≤ B := fun a b =>
   ih S c hp hlo hb hm h1 (fun hc l hlm => by
    rw [List.take_succ_eq_append_getElem hi] at hlm
    rcases List.mem_append.1 hlm with h | h
    ·exact h2 hc l h
    ·rw [List.mem_singleton] at h
     subst h
     exact ⟨a, b⟩)
  have hend : ∀ r, Ev (fun k => if ((openR S cls[i]).length : Int) = 0 then some (([] : List Int), false) else if cls[i].any S.contains = true then PRPropg.netlabref32_Units.l1 k S c ((i + 1 : Nat) : Int) (n : Int) cls else if ((openR S cls[i]).length : Int) = 1 then (if 0 < ((openR S cls[i]).length : Int) then (if S.length < 17592186044416 then (PRPropg.netlabref32_Sorted.f k (S ++ [rd (openR S cls[i]) 0])).bind fun t179 => PRPropg.netlabref32_Units.l1 k t179 true ((i + 1 : Nat) : Int) (n : Int) cls else none) else none) else PRPropg.netlabref32_Units.l1 k S c ((i + 1 : Nat) : Int) (n : Int) cls) r → Ev (fun k => PRPropg.netlabref32_Units.l1 k S c (i : Int) (n : Int) cls) r := fun r hr => by
   refine hbody r (Ev.succ ?_)
   simp only [PRPropg.netlabref32_Units.l2, hrd]
   rw [wrap_succ hi (by omega)]
   exact Ev.pos (by omega) (Ev.pos (by omega) (Ev.neg (by omega) (Ev.bind hsort hr)))
  by_cases h0 : openR S cls[i] = []
  ·refine ⟨([], false), hend _ (Ev.pos (by rw [h0]; rfl) (Ev.pure _)), refR_conf hmem (openR_nil h0) [], Nat.zero_le _⟩
  have h0' : ¬ ((openR S cls[i]).length : Int) = 0 := fun h => h0 (List.eq_nil_of_length_eq_zero (by omega))
  by_cases hd : cls[i].any S.contains = true
  ·obtain ⟨r, hr, hr2⟩ := hstay h0 (fun _ => hd)
   exact ⟨r, hend r (Ev.neg h0' (Ev.pos hd hr)), hr2⟩
  by_cases h3 : (openR S cls[i]).length = 1
  ·obtain ⟨x, hx⟩ := List.length_eq_one_iff.1 h3
   have hu := openR_one hx
   have hxo : LitOk n x := hll.2 x hu.1
   have hxS : S.contains x = false := by
    cases hc : S.contains x with
    | false => rfl
    | true => exact absurd (List.any_eq_true.2 ⟨x, hu.1, hc⟩) hd
   have hS' : ∀ y, (sortR [] (S ++ [x])).contains y = true ↔ S.contains y = true ∨ y = x := fun y => by
    rw [List.contains_iff_mem, mem_sortR, List.contains_iff_mem]; simp
   have hfr : free (sortR [] (S ++ [x])) cls.flatten = free (x :: S) cls.flatten := free_congr (fun y => by
    rw [Bool.eq_iff_iff, hS' y, List.contains_cons, Bool.or_eq_true, beq_iff_eq, or_comm]) _
   have hlt := free_lt S x hxS cls.flatten (List.mem_flatten.2 ⟨_, hmem, hu.1⟩)
   have hln := sortR_len (S ++ [x]) []
   rw [List.length_append, List.length_nil, List.length_singleton] at hln
   have hlo' : ∀ y ∈ S ++ [x], LitOk n y := fun y hy => by
    rcases List.mem_append.1 hy with hy | hy
    ·exact hlo y hy
    ·rw [List.mem_singleton.1 hy]; exact hxo
   obtain ⟨r, hr, hr2, hr3⟩ := ih (sortR [] (S ++ [x])) true (sortR_pair _ [] List.Pairwise.nil) (fun y hy => hlo' y (by rcases (mem_sortR _ _ _).1 hy with h | h; exact h; cases h)) (by omega) (by omega) (fun _ => by omega) (fun h => by cases h)
   refine ⟨r, hend r (Ev.neg h0' (Ev.neg hd (Ev.pos (by omega) (Ev.pos (by omega) (Ev.pos (by omega) ?_))))), refR_unit hmem hu hS' hr2, hr3⟩
   rw [hx]
   exact Ev.bind (sorted_ev hn _ (by rw [List.length_append]; simp; omega) hlo') hr
  ·obtain ⟨r, hr, hr2⟩ := hstay h0 (fun h => absurd h h3)
   exact ⟨r, hend r (Ev.neg h0' (Ev.neg hd (Ev.neg (by omega) hr))), hr2⟩
theorem units_ev0 {n : Nat} (hn : n ≤ 100000) (cls : List (List Int)) (hcl : cls.length ≤ 1000000000) (hl : ∀ l ∈ cls, l.length ≤ 1000000000 ∧ ∀ x ∈ l, LitOk n x) (B : Nat) (hB : B ≤ 1000000000) : ∀ (m : Nat) (S : List Int), S.Pairwise SI → (∀ x ∈ S, LitOk n x) → S.length + free S cls.flatten ≤ B → free S cls.flatten < m → ∃ r, Ev (fun k => PRPropg.netlabref32_Units.l0 k S true (n : Int) cls) r ∧ RefR n cls S r ∧ r.1.length ≤ B
 | 0, S, _, _, _, h => absurd h (by omega)
 | m + 1, S, hp, hlo, hb, h => by
  obtain ⟨r, hr, hr2⟩ := units_ev1 hn cls hcl hl m B hB (fun S a b c d => units_ev0 hn cls hcl hl B hB m S a b c d) 0 (Nat.zero_le _) S false hp hlo hb (by omega) (fun h => by cases h) (fun _ l h => by simp at h)
  refine ⟨r, ?_, hr2⟩
  refine Ev.succ ?_
  simp only [PRPropg.netlabref32_Units.l0]
  exact Ev.pos trivial hr
theorem legalR_ev (vars : Int) (cls : List (List Int)) (ls : List Int) (hls : ls.length ≤ 1000000000) {r : List Int × Bool × Int} (hend : ls.any (badLit vars) = false → Ev (fun k => PRPropg.netlabref32_Propagate.l0 k ls (ls.length : Int) vars cls) r) (hbad : ls.any (badLit vars) = true → r = ([], false, 1)) :
  ∀ j : Nat, j ≤ ls.length → (ls.take j).any (badLit vars) = false → Ev (fun k => PRPropg.netlabref32_Propagate.l0 k ls (j : Int) vars cls) r := by
 refine down ?_ ?_
 ·rw [List.take_length]; exact hend
 ·intro j hj ih hn
  have e : (ls.take (j + 1)).any (badLit vars) = badLit vars (rd ls j) := by
   rw [List.take_succ_eq_append_getElem hj, List.any_append, hn, ← rd_get hj]; simp
  refine Ev.succ ?_
  simp only [PRPropg.netlabref32_Propagate.l0]
  refine Ev.pos (by omega) (Ev.pos (by omega) ?_)
  rw [exists_ref, wrap_succ hj (by omega)]
  simp only [Option.bind_some]
  cases hb : badLit vars (rd ls j) with
  | true =>
   refine Ev.neg (by simp) (Ev.pureOf ?_)
   exact (hbad (List.any_eq_true.2 ⟨_, rd_mem hj, hb⟩)).symm
  | false => exact Ev.pos (by simp) (ih (by rw [e]; exact hb))
theorem rprop_law (vars : Int) (cls : List (List Int)) (ls : List Int) (hcl : cls.length ≤ 1000) (hl : ∀ l ∈ cls, l.length ≤ 1000) (hls : ls.length ≤ 1000) : ∃ r c er, Ev (fun k => PRPropg.netlabref32_Propagate.f k vars cls ls) (r, c, er) ∧ r.length ≤ 1000000000 ∧
  ((chkL vars cls ≠ 0 ∧ r = [] ∧ c = false ∧ er = chkL vars cls) ∨ (chkL vars cls = 0 ∧ ls.any (badLit vars) = true ∧ r = [] ∧ c = false ∧ er = 1) ∨ (∃ n : Nat, vars = n ∧ n ≤ 4096 ∧ chkL vars cls = 0 ∧ ls.any (badLit vars) = false ∧ (∀ x ∈ ls, LitOk n x) ∧ er = 0 ∧ ∃ K, ∀ k, K ≤ k → PropIs k n cls ls r c)) := by
 have ht := tot_le 1000 cls hl
 have hck := check_ref vars cls (by omega) (by omega) (fun l h => by have := hl l h; omega)
 by_cases he : chkL vars cls = 0
 ·have hv : 0 ≤ vars ∧ vars ≤ 4096 := by
   have he' := he
   unfold chkL at he'
   split at he'
   ·cases he'
   split at he'
   ·cases he'
   ·omega
  have hlit : ∀ x, badLit vars x = false → LitOk vars.toNat x := fun x hb => by
   have hw : wrap64 (-vars) = -vars := wneg (by omega) (by omega)
   simp only [badLit, Bool.or_eq_false_iff, beq_eq_false_iff_ne, decide_eq_false_iff_not, hw] at hb
   exact ⟨hb.1.1, by omega, by omega⟩
  have hclo : ∀ l ∈ cls, ∀ x ∈ l, LitOk vars.toNat x := fun l h x hx => hlit x (by
   have he' := he
   unfold chkL at he'
   rw [if_neg (by omega)] at he'
   split at he'
   ·cases he'
   split at he'
   ·cases he'
   ·rename_i hany
    rw [Bool.not_eq_true, List.any_eq_false] at hany
    have := hany l h
    rw [Bool.not_eq_true, List.any_eq_false] at this
    exact Bool.not_eq_true _ ▸ this x hx)
  by_cases hb : ls.any (badLit vars) = true
  ·refine ⟨[], false, 1, ?_, Nat.zero_le _, .inr (.inl ⟨he, hb, rfl, rfl, rfl⟩)⟩
   exact Ev.bind hck (Ev.pos he (legalR_ev vars cls ls (by omega) (fun h => by rw [hb] at h; cases h) (fun _ => rfl) 0 (Nat.zero_le _) (by simp)))
  ·rw [Bool.not_eq_true] at hb
   obtain ⟨n, rfl⟩ := Int.eq_ofNat_of_zero_le hv.1
   have hn : n ≤ 4096 := by omega
   rw [Int.toNat_natCast] at hlit hclo
   have hlo : ∀ x ∈ ls, LitOk n x := fun x hx => hlit x (by rw [List.any_eq_false] at hb; exact Bool.not_eq_true _ ▸ hb x hx)
   have hlo2 : ∀ x ∈ sortR [] ls, LitOk n x := fun x hx => hlo x (by rcases (mem_sortR _ _ _).1 hx with h | h; exact h; cases h)
   have hlen := sortR_len ls []
   rw [List.length_nil, Nat.zero_add] at hlen
   have hfa := free_all (sortR [] ls) cls.flatten
   rw [tot_flatten] at hfa
   have hll : ∀ l ∈ cls, l.length ≤ 1000000000 ∧ ∀ x ∈ l, LitOk n x := fun l h => ⟨by have := hl l h; omega, hclo l h⟩
   obtain ⟨⟨T, ok⟩, hr, hr2, hr3⟩ := units_ev0 (n := n) (by omega) cls (by omega) hll 100000000 (by omega) _ (sortR [] ls) (sortR_pair ls [] List.Pairwise.nil) hlo2 (by omega) (Nat.lt_succ_self _)
   have hun : Ev (fun k => PRPropg.netlabref32_Units.f k (n : Int) cls ls) (T, ok) := Ev.bind (sorted_ev (n := n) (by omega) ls (by omega) hlo) hr
   have hpb := prop_both hn (by omega) hll hlo hr2
   refine ⟨if ok = true then T else [], !ok, 0, ?_, ?_, .inr (.inr ⟨n, rfl, hn, he, hb, hlo, rfl, hpb⟩)⟩
   ·refine Ev.bind hck (Ev.pos he (legalR_ev n cls ls (by omega) (fun _ => ?_) (fun h => by rw [hb] at h; cases h) 0 (Nat.zero_le _) (by simp)))
    refine Ev.succ ?_
    simp only [PRPropg.netlabref32_Propagate.l0]
    refine Ev.neg (by omega) (Ev.bind hun ?_)
    cases ok with
    | true => exact Ev.pos rfl (Ev.pure _)
    | false => exact Ev.neg (by simp) (Ev.pure _)
   ·cases ok with
    | true => exact Nat.le_trans hr3 (by omega)
    | false => exact Nat.zero_le _
 ·exact ⟨[], false, chkL vars cls, Ev.bind hck (Ev.neg he (Ev.pure _)), Nat.zero_le _, .inl ⟨he, rfl, rfl, rfl⟩⟩
end Go.Proofs.YtkcfdddhnboieaaGreatDoor.NPlain
namespace Go.Proofs.YtkcfdddhnboieaaGreatDoor.NState
open NPlain (sortR trivR cmpR)
structure RNOk (k : Nat) (vars : Int) (cls : List (List Int)) : Prop where
 chk : PRPropg.netlabref32_Check.f k vars cls = some 0
 srt : ∀ l ∈ cls, PRPropg.netlabref32_Sorted.f k l = some (sortR [] l)
 trv : ∀ l ∈ cls, PRPropg.netlabref32_trivial.f k (sortR [] l) = some (trivR (sortR [] l))
 cmp : ∀ a ∈ cls.map (sortR []), ∀ b ∈ cls.map (sortR []), PRCmp.netlabref32_Compare.f k a b = some (cmpR a b)
end Go.Proofs.YtkcfdddhnboieaaGreatDoor.NState
end
section
set_option maxRecDepth 100000
namespace Go.Proofs.YtkcfdddhnboieaaGreatDoor.NPlain
open Go Go.RowKit Go.Shelf QW.PrintWords QW.PrintLast QW.PrintMore NState
open PCheck (cnf_Check.f)
open PSameC (netlabref32_Same.f netlabref32_EqClauses.f netlabref32_EqClauses.l0 netlabref32_EqInts.f netlabref32_EqInts.l0)
open PModels (netlabref32_All.f)
theorem rdF {l : List (List Int)} {k : Nat} (h : k < l.length) : PFew.rL l k = l[k] := by simp [PFew.rL, List.getD, h]
theorem few_ev (most : Nat) (hm : most ≤ 100000) (vars : Int) (cls : List (List Int)) : Ev (fun k => PFew.nfC.f k vars cls (most : Int)) (vars, fewL most cls) := by
 have key : ∀ i : Nat, i ≤ min most cls.length → Ev (fun k => PFew.nfC.l0 k (most : Int) (i : Int) vars cls vars ((cls.take i).map fun l => l.take 12)) (vars, fewL most cls) := by
  refine down ?_ ?_
  ·refine Ev.succ ?_
   simp only [PFew.nfC.l0]
   have e : (cls.take (min most cls.length)).map (fun l => l.take 12) = fewL most cls := by
    unfold fewL
    congr 1
    rw [List.take_eq_take_iff]
    omega
   rw [e]
   by_cases h : most < cls.length
   ·exact Ev.pos (by omega) (Ev.neg (by omega) (Ev.pure _))
   ·exact Ev.neg (by omega) (Ev.pure _)
  ·intro i hi ih
   refine Ev.succ ?_
   simp only [PFew.nfC.l0]
   have hic : i < cls.length := by omega
   rw [rdF hic, wrap_succ (n := 100000) (by omega) (by omega)]
   have hmn : mn ((cls[i].length : Nat) : Int) 12 = ((min cls[i].length 12 : Nat) : Int) := by unfold mn; split <;> omega
   rw [hmn]
   refine Ev.pos (by omega) (Ev.pos (by omega) (Ev.pos (by omega) (Ev.pos (by omega) (Ev.pos (by omega) (Ev.pos (by simp; omega) (Ev.pos (by simp; omega) ?_))))))
   have e : (cls.take i).map (fun l => l.take 12) ++ [([] : List Int) ++ cls[i].take ((min cls[i].length 12 : Nat) : Int).toNat] = (cls.take (i + 1)).map (fun l => l.take 12) := by
    rw [List.take_succ_eq_append_getElem hic, List.map_append]
    congr 1
    simp only [List.map_cons, List.map_nil, List.nil_append, Int.toNat_natCast]
    congr 1
    rw [List.take_eq_take_iff]
    omega
   rw [e]
   exact ih
 exact key 0 (Nat.zero_le _)
theorem eqInts_selfN (l : List Int) (hl : l.length ≤ 1000000000) : Ev (fun k => netlabref32_EqInts.f k l l) true := by
 have h : ∀ i, i ≤ l.length → Ev (fun k => netlabref32_EqInts.l0 k l l (i : Int)) true := by
  refine down (P := fun i => Ev (fun k => netlabref32_EqInts.l0 k l l (i : Int)) true) ?_ ?_
  ·refine Ev.succ ?_
   simp only [netlabref32_EqInts.l0]
   exact Ev.neg (by omega) (Ev.pure _)
  ·intro i hi ih
   refine Ev.succ ?_
   simp only [netlabref32_EqInts.l0]
   refine Ev.pos (by omega) (Ev.pos (by omega) (Ev.pos (by omega) (Ev.pos trivial ?_)))
   rw [show wrap64 ((i : Int) + 1) = ((i + 1 : Nat) : Int) by unfold wrap64; omega]
   exact ih
 unfold netlabref32_EqInts.f
 exact Ev.pos rfl (h 0 (Nat.zero_le _))
theorem same_self (v : Int) (L : List (List Int)) (hL : L.length ≤ 1000000000) (hl : ∀ l ∈ L, l.length ≤ 1000000000) : Ev (fun k => netlabref32_Same.f k v L v L) true := by
 have h : ∀ i, i ≤ L.length → Ev (fun k => netlabref32_EqClauses.l0 k L L (i : Int)) true := by
  refine down (P := fun i => Ev (fun k => netlabref32_EqClauses.l0 k L L (i : Int)) true) ?_ ?_
  ·refine Ev.succ ?_
   simp only [netlabref32_EqClauses.l0]
   exact Ev.neg (by omega) (Ev.pure _)
  ·intro i hi ih
   refine Ev.succ ?_
   simp only [netlabref32_EqClauses.l0]
   have e : PSameC.rL L (i : Int) = L[i] := by simp [PSameC.rL, hi]
   rw [e]
   refine Ev.pos (by omega) (Ev.pos (by omega) (Ev.pos (by omega) (Ev.bind (eqInts_selfN L[i] (hl _ (List.getElem_mem hi))) (Ev.pos rfl ?_))))
   rw [show wrap64 ((i : Int) + 1) = ((i + 1 : Nat) : Int) by unfold wrap64; omega]
   exact ih
 unfold netlabref32_Same.f netlabref32_EqClauses.f
 refine Ev.pos rfl (Ev.bind ?_ (Ev.pure _))
 exact Ev.pos rfl (h 0 (Nat.zero_le _))
theorem eqInts_refl (l : List Int) (hl : l.length ≤ 1000000000) : Ev (fun k => netlabref32_EqInts.f k l l) true := eqInts_selfN l hl
theorem Ev.at {α : Type} {f : Nat → Option α} {r : α} (h : Ev f r) : ∃ K, ∀ k, K ≤ k → f k = some r := h
theorem ev_all {α β : Type} {f : Nat → α → Option β} {g : α → β} : ∀ L : List α, (∀ x ∈ L, Ev (fun k => f k x) (g x)) → ∃ K, ∀ k, K ≤ k → ∀ x ∈ L, f k x = some (g x)
 | [], _ => ⟨0, fun _ _ _ h => by cases h⟩
 | a :: t, h => by
  obtain ⟨K1, h1⟩ := ev_all t (fun x hx => h x (List.mem_cons_of_mem _ hx))
  obtain ⟨K2, h2⟩ := h a (by simp)
  refine ⟨max K1 K2, fun k hk x hx => ?_⟩
  rcases List.mem_cons.1 hx with rfl | hx
  ·exact h2 k (by omega)
  ·exact h1 k (by omega) x hx
theorem chk_lits {vars : Int} {cls : List (List Int)} (he : chkL vars cls = 0) : ∃ n : Nat, vars = n ∧ n ≤ 4096 ∧ ∀ l ∈ cls, ∀ x ∈ l, LitOk n x := by
 unfold chkL at he
 split at he
 ·cases he
 rename_i h0
 split at he
 ·cases he
 rename_i h1
 split at he
 ·cases he
 rename_i hany
 obtain ⟨n, rfl⟩ := Int.eq_ofNat_of_zero_le (show 0 ≤ vars by omega)
 refine ⟨n, rfl, by omega, fun l hl x hx => ?_⟩
 rw [Bool.not_eq_true, List.any_eq_false] at hany
 have h2 := hany l hl
 rw [Bool.not_eq_true, List.any_eq_false] at h2
 have hb : badLit (n : Int) x = false := Bool.not_eq_true _ ▸ h2 x hx
 have hw : wrap64 (-(n : Int)) = -(n : Int) := wneg (by omega) (by omega)
 simp only [badLit, Bool.or_eq_false_iff, beq_eq_false_iff_ne, decide_eq_false_iff_not, hw] at hb
 exact ⟨hb.1.1, by omega, by omega⟩
structure MOwed (k : Nat) (vars : Int) (cls L : List (List Int)) (m : List Bool) (lt : List Int) (r : List Int) (c : Bool) (er : Int) : Prop where
 few : PFew.nfC.f k vars cls 60 = some (vars, L)
 chk : cnf_Check.f k vars L = some (chkL vars L)
 chkR : PRPropg.netlabref32_Check.f k vars L = some (chkL vars L)
 ok1 : ∀ l ∈ sortedC L, ClsOk k trivA l
 rn : chkL vars L = 0 → RNOk k vars L ∧ L.foldl stepC [] = normL trivA L
 lit : chkL vars L = 0 → (m.length : Int) = vars → m.length ≤ 100000 ∧ ∀ l ∈ L, ∀ x ∈ l, LitOk m.length x
 all : chkL vars L = 0 → (m.length : Int) = vars → netlabref32_All.f k vars L m = some (L.all fun l => l.any (trueB m))
 prp : PRPropg.netlabref32_Propagate.f k vars L lt = some (r, c, er)
 pis : (chkL vars L ≠ 0 ∧ r = [] ∧ c = false ∧ er = chkL vars L) ∨ (chkL vars L = 0 ∧ lt.any (badLit vars) = true ∧ r = [] ∧ c = false ∧ er = 1) ∨ (∃ n : Nat, vars = n ∧ n ≤ 4096 ∧ chkL vars L = 0 ∧ lt.any (badLit vars) = false ∧ (∀ x ∈ lt, LitOk n x) ∧ er = 0 ∧ PropIs k n L lt r c)
 eqi : netlabref32_EqInts.f k r r = some true
 same : netlabref32_Same.f k (normF (chkL vars L) vars L).1 (normF (chkL vars L) vars L).2.1 (normF (chkL vars L) vars L).1 (normF (chkL vars L) vars L).2.1 = some true
 sameX : netlabref32_Same.f k vars L vars L = some true
theorem mowed (vars : Int) (cls : List (List Int)) (m : List Bool) (l0 : List Int) : ∃ k r c er, MOwed k vars cls (fewL 60 cls) m (l0.take 12) r c er := by
 have hL := fewL_len 60 cls
 have hl12 : ∀ l ∈ fewL 60 cls, l.length ≤ 12 := fun l hl => by
  obtain ⟨y, _, rfl⟩ := List.mem_map.1 hl
  rw [List.length_take]; omega
 obtain ⟨K1, h1⟩ := few_ev 60 (by decide) vars cls
 generalize fewL 60 cls = L at hL hl12 h1 ⊢
 have ht := tot_le 12 L hl12
 have hll : ∀ l ∈ L, l.length ≤ 1000000000 := fun l hl => by have := hl12 l hl; omega
 obtain ⟨K2, h2⟩ := check_code vars L (by omega) (by omega) hll
 obtain ⟨K3, h3⟩ := check_ref vars L (by omega) (by omega) hll
 have hsl : ∀ l ∈ sortedC L, l.length ≤ 12 := fun l hl => by
  obtain ⟨y, hy, rfl⟩ := (mem_sortedC L l).1 hl
  exact Nat.le_trans (clauseS_len y) (hl12 y hy)
 obtain ⟨K4, h4⟩ := clsOk_all (sortedC L) (fun l hl => by have := hsl l hl; omega)
 have hlt : (l0.take 12).length ≤ 12 := by rw [List.length_take]; omega
 obtain ⟨r, c, er, ⟨K5, h5⟩, hr, h6⟩ := rprop_law vars L (l0.take 12) (by omega) (fun l hl => by have := hl12 l hl; omega) (by omega)
 obtain ⟨K7, h7⟩ := eqInts_refl r hr
 obtain ⟨K8, h8⟩ := same_self vars L (by omega) hll
 have hnl : (normF (chkL vars L) vars L).2.1.length ≤ 1000000000 ∧ ∀ l ∈ (normF (chkL vars L) vars L).2.1, l.length ≤ 1000000000 := by
  unfold normF
  split
  ·refine ⟨Nat.le_trans (normL_len _ _) (by omega), fun l hl => ?_⟩
   have := hsl l (List.mem_filter.1 hl).1
   omega
  ·exact ⟨Nat.zero_le _, fun l hl => by cases hl⟩
 obtain ⟨K9, h9⟩ := same_self (normF (chkL vars L) vars L).1 _ hnl.1 hnl.2
 have h10 : ∃ K, ∀ k, K ≤ k → chkL vars L = 0 → (RNOk k vars L ∧ L.foldl stepC [] = normL trivA L) ∧ ((m.length : Int) = vars → (m.length ≤ 100000 ∧ ∀ l ∈ L, ∀ x ∈ l, LitOk m.length x) ∧ netlabref32_All.f k vars L m = some (L.all fun l => l.any (trueB m))) := by
  by_cases he : chkL vars L = 0
  ·obtain ⟨n, rfl, hn, hlo⟩ := chk_lits he
   have hn' : n ≤ 100000 := by omega
   have hso : ∀ l ∈ L, ∀ x ∈ sortR [] l, LitOk n x := fun l hl x hx => hlo l hl x (by rcases (mem_sortR _ _ _).1 hx with h | h; exact h; cases h)
   have hsz : ∀ l ∈ L, (sortR [] l).length ≤ 12 := fun l hl => by have := sortR_len l []; have := hl12 l hl; simp only [List.length_nil] at *; omega
   obtain ⟨Ka, ha⟩ := ev_all (f := fun k l => PRPropg.netlabref32_Sorted.f k l) (g := fun l => sortR [] l) L (fun l hl => sorted_ev hn' l (hll l hl) (hlo l hl))
   obtain ⟨Kb, hb⟩ := ev_all (f := fun k l => PRPropg.netlabref32_trivial.f k (sortR [] l)) (g := fun l => trivR (sortR [] l)) L (fun l hl => trivial_ev _ (by have := hsz l hl; omega))
   obtain ⟨Kc, hc⟩ := ev_all (f := fun k a => PRPropg.netlabref32_Check.f k (n : Int) L) (g := fun _ => (0 : Int)) [()] (fun _ _ => by have := check_ref n L (by omega) (by omega) hll; rwa [he] at this)
   have hd : ∃ K, ∀ k, K ≤ k → ∀ a ∈ L.map (sortR []), ∀ b ∈ L.map (sortR []), PRCmp.netlabref32_Compare.f k a b = some (cmpR a b) := by
    obtain ⟨K, hK⟩ := ev_all (f := fun k (p : List Int × List Int) => PRCmp.netlabref32_Compare.f k p.1 p.2) (g := fun p => cmpR p.1 p.2) ((L.map (sortR [])).flatMap fun a => (L.map (sortR [])).map fun b => (a, b)) (fun p hp => by
     obtain ⟨a, ha, hp⟩ := List.mem_flatMap.1 hp
     obtain ⟨b, hb, rfl⟩ := List.mem_map.1 hp
     obtain ⟨x, hx, rfl⟩ := List.mem_map.1 ha
     obtain ⟨y, hy, rfl⟩ := List.mem_map.1 hb
     exact compare_ev hn' (sortR [] x) (sortR [] y) (Nat.le_trans (hsz x hx) (by decide)) (Nat.le_trans (hsz y hy) (by decide)) (hso x hx) (hso y hy))
    exact ⟨K, fun k hk a ha b hb => hK k hk (a, b) (List.mem_flatMap.2 ⟨a, ha, List.mem_map.2 ⟨b, hb, rfl⟩⟩)⟩
   obtain ⟨Kd, hd⟩ := hd
   have hal : ∃ K, ∀ k, K ≤ k → (m.length : Int) = (n : Int) → netlabref32_All.f k (n : Int) L m = some (L.all fun l => l.any (trueB m)) := by
    by_cases hm : (m.length : Int) = (n : Int)
    ·have hmn : m.length = n := by omega
     obtain ⟨K, hK⟩ := all_ev (n : Int) (m := m) (by omega) L (by omega) (fun l hl => ⟨hll l hl, by rw [hmn]; exact hlo l hl⟩)
     exact ⟨K, fun k hk _ => hK k hk⟩
    ·exact ⟨0, fun _ _ h => absurd h hm⟩
   obtain ⟨Ke, hE⟩ := hal
   refine ⟨max (max Ka Kb) (max (max Kc Kd) Ke), fun k hk _ => ⟨⟨⟨hc k (by omega) () (by simp), fun l hl => ha k (by omega) l hl, fun l hl => hb k (by omega) l hl, hd k (by omega)⟩, normR_eq hn' L hlo⟩, fun hm => ⟨⟨by omega, ?_⟩, hE k (by omega) hm⟩⟩⟩
   have hmn : m.length = n := by omega
   rw [hmn]; exact hlo
  ·exact ⟨0, fun _ _ h => absurd h he⟩
 obtain ⟨K10, h10⟩ := h10
 have h11 : ∃ K, ∀ k, K ≤ k → (chkL vars L ≠ 0 ∧ r = [] ∧ c = false ∧ er = chkL vars L) ∨ (chkL vars L = 0 ∧ (l0.take 12).any (badLit vars) = true ∧ r = [] ∧ c = false ∧ er = 1) ∨ (∃ n : Nat, vars = n ∧ n ≤ 4096 ∧ chkL vars L = 0 ∧ (l0.take 12).any (badLit vars) = false ∧ (∀ x ∈ l0.take 12, LitOk n x) ∧ er = 0 ∧ PropIs k n L (l0.take 12) r c) := by
  rcases h6 with h | h | ⟨n, a, b, c, d, e, f, K, hK⟩
  ·exact ⟨0, fun _ _ => .inl h⟩
  ·exact ⟨0, fun _ _ => .inr (.inl h)⟩
  ·exact ⟨K, fun k hk => .inr (.inr ⟨n, a, b, c, d, e, f, hK k hk⟩)⟩
 obtain ⟨K11, h11⟩ := h11
 obtain ⟨k, hk⟩ : ∃ k, max (max (max K1 K2) (max K3 K4)) (max (max (max K5 K7) (max K8 K9)) (max K10 K11)) = k := ⟨_, rfl⟩
 exact ⟨k, r, c, er, h1 k (by omega), h2 k (by omega), h3 k (by omega), h4 k (by omega), fun he => (h10 k (by omega) he).1, fun he hm => ((h10 k (by omega) he).2 hm).1, fun he hm => ((h10 k (by omega) he).2 hm).2, h5 k (by omega), h11 k (by omega), h7 k (by omega), h9 k (by omega), h8 k (by omega)⟩
end Go.Proofs.YtkcfdddhnboieaaGreatDoor.NPlain
end
section
set_option maxHeartbeats 8000000
set_option maxRecDepth 100000
namespace Go.Proofs.YtkcfdddhnboieaaGreatDoor.NState
open Go Go.RowKit Go.Shelf Go.Sort Go.Lib QW.PrintWords QW.PrintLast QW.PrintMore NMap
open PRPropg (netlabref32_Check.f netlabref32_Check.calls netlabref32_Sorted.f netlabref32_Sorted.calls netlabref32_trivial.f netlabref32_trivial.calls)
open PRCmp (netlabref32_Compare.f netlabref32_Compare.calls)
open PCheck (rL at_L1)
open NPlain (sortR trivR cmpR putC stepC insL take_tw drop_tw tw_before tw_stop tw_len_le)
structure RS (w : World) (BO : Nat) (vars : Int) (A1 : Option Addr) (c1 n : Nat) (vo : Value) (outs : List Cl) (ok : Nat → Prop) (W : World) : Prop where
 bc : W.heap[w.heap.size]? = some (.cells #[.int .i64 vars, .slice A1 n c1] 24 (0, 0))
 br : W.heap[w.heap.size + 1]? = some (.cells #[.int .i64 0, .slice none 0 0] 24 (0, 0))
 bo : W.heap[BO]? = some (.cells #[.int .i64 vars, vo] 24 (0, 0))
 row : kCl.R 26 W w.heap.size ok vo outs
 ins : ∀ x ∈ outs, InI W w.heap.size x
 hb : Below w.heap.size w W
section
variable {w : World} {BO : Nat} {vars : Int} {A1 : Option Addr} {c1 n : Nat} {vo : Value} {outs : List Cl} {ok : Nat → Prop} {W W' w1 : World}
theorem RS.below (h : RS w BO vars A1 c1 n vo outs ok W) (hb : Below W.heap.size W W') : RS w BO vars A1 c1 n vo outs ok W' :=
 ⟨blk_below h.bc hb, blk_below h.br hb, blk_below h.bo hb, Kd.R_below h.row hb, fun x hx => (h.ins x hx).below hb, bwt h.hb hb⟩
theorem RS.grown {v v1 : Value} {ys : List Cl} {okn : Nat → Prop} (h : RS w BO vars A1 c1 n vo outs (fun k => True ∧ some k ≠ v.ownBlock) W) (hn : kCl.R 26 W w.heap.size okn v ys) (hb : Below w.heap.size w w1) (hg : W.grownBy w1 v.ownBlock) (hat : v1.ownBlock = v.ownBlock ∨ ∃ b, v1.ownBlock = some b ∧ W.heap.size ≤ b) :
  RS w BO vars A1 c1 n vo outs (fun k => True ∧ some k ≠ v1.ownBlock) w1 :=
 ⟨bkg h.bc hg (Kd.R_ne hn h.bc (by decide)), bkg h.br hg (Kd.R_ne hn h.br (by decide)), bkg h.bo hg (Kd.R_ne hn h.bo (by decide)), Kd.R_after (ok := fun _ => True) h.row hg hat, fun x hx => (h.ins x hx).over hn hg, hb⟩
theorem RS.apart (h : RS w BO vars A1 c1 n vo outs ok W) : RS w BO vars A1 c1 n vo outs (fun k => True ∧ some k ≠ (Value.slice none 0 0).ownBlock) W := { h with row := Kd.R_mono h.row (fun k _ => ⟨trivial, by simp [Value.ownBlock]⟩) }
end
theorem step_fold {cls : List (List Int)} {i : Nat} (hi : i < cls.length) : (cls.take (i + 1)).foldl stepC [] = stepC ((cls.take i).foldl stepC []) cls[i] := by
 rw [List.take_succ_eq_append_getElem hi, List.foldl_append]; rfl
theorem gd_get {α : Type} {d : α} {xs : List α} {i : Nat} (h : i < xs.length) : xs.getD i d = xs[i] := by simp [h]
theorem putC_at {outs : List Cl} {s : List Int} {p : Nat} (hp : ((outs.map Cl.l).takeWhile fun a => decide (cmpR a s < 0)).length = p) (A4 : Option Addr) (c4 : Nat) :
  (∀ h : p < outs.length, cmpR outs[p].l s = 0 → putC (outs.map Cl.l) s = outs.map Cl.l) ∧ ((∀ h : p < outs.length, cmpR outs[p].l s ≠ 0) → putC (outs.map Cl.l) s = (outs.take p ++ [(⟨A4, c4, s⟩ : Cl)] ++ outs.drop p).map Cl.l) := by
 have e1 := take_tw (fun a => decide (cmpR a s < 0)) (outs.map Cl.l)
 have e2 := drop_tw (fun a => decide (cmpR a s < 0)) (outs.map Cl.l)
 unfold putC
 rw [hp] at e1 e2
 simp only [hp, List.length_map]
 constructor
 ·intro h h0
  rw [if_pos]
  refine ⟨h, ?_⟩
  rw [gd_get (by rw [List.length_map]; exact h), List.getElem_map]
  exact h0
 ·intro h
  rw [if_neg]
  ·unfold insL
   rw [← e1, ← e2]
   simp [List.map_append, List.map_take, List.map_drop]
  ·rintro ⟨h1, h2⟩
   rw [gd_get (by rw [List.length_map]; exact h1), List.getElem_map] at h2
   exact h h1 h2
theorem rnormal_calls (k : Nat) (vars : Int) (A1 : Option Addr) (c1 : Nat) (cls : List (List Int)) (w : World) (hr1 : Kd.C (Kd.slice 3 (Kd.int .i64)) w A1 cls.length cls) (hc1 : cls.length ≤ c1) (hok : RNOk k vars cls) (hlen : cls.length ≤ 1000) :
  Calls Tryz.prog 16 #[.agg #[.int .i64 vars, .slice A1 cls.length c1]] w (NormalPost w vars (cls.foldl stepC []) 0) := by
 have HR1 := Az.mk hr1
 have HC1 := Az.mk hc1
 have HOK := Az.mk hok
 have HLEN := Az.mk hlen
 clear hr1 hc1 hok hlen
 have hu24 := Tryz.underlying24
 obtain ⟨i0, hi0, _, hsz, _⟩ := info_parts infoInts
 have HI0 := Az.mk hi0
 have HSZ := Az.mk hsz
 clear hi0 hsz
 go_enter Tryz.func16, Tryz.ntmps16
 go_wp2_with fail
 refine (netlabref32_Check.calls k vars A1 c1 cls 0 _ (Kd.C_alloc (Kd.C_alloc HR1.out _) _) HC1.out HOK.out.chk).mono ?_
 rintro e w1 ⟨rfl, hb1⟩
 have BC : Az (w1.heap[w.heap.size]? = some (.cells #[.int .i64 vars, .slice A1 cls.length c1] 24 (0, 0))) := ⟨blk_below (bka (blk_new w _) _) hb1⟩
 have BR : Az (w1.heap[w.heap.size + 1]? = some (.cells #[.int .i64 0, .slice none 0 0] 24 (0, 0))) := ⟨blk_below (blk_alloc_at (by simp) _) hb1⟩
 have HB : Az (Below w.heap.size w w1) := ⟨bwt (bwa (bwa (Below.refl _ _) _) _) hb1⟩
 have HS1 : Az (w.heap.size + 2 ≤ w1.heap.size) := ⟨by have := hb1.size; simp at this; omega⟩
 clear hb1
 have hx0 : w1.cell? ⟨w.heap.size, 0, none⟩ = some (.int .i64 vars) := (bkc BC.out 0).trans rfl
 have HS0 : Az (RS w w1.heap.size vars A1 c1 cls.length (.slice none 0 0) [] (fun _ => True) (w1.alloc (.cells #[.int .i64 vars, .slice none 0 0] 24))) := ⟨⟨bka BC.out _, bka BR.out _, blk_new w1 _, Kd.R_nil _ _ _ _ _, (fun x hx => by cases hx), bwa HB.out _⟩⟩
 clear BC BR HB
 go_wp2
 clear hx0
 generalize w1.heap.size = BO at HS0 HS1 ⊢
 generalize (w1.alloc (.cells #[.int .i64 vars, .slice none 0 0] 24)) = w2 at HS0 ⊢
 go_loopw [6] (fun v6 wr => ∃ (i : Nat) (vo : Value) (outs : List Cl), v6 = .int .i64 i ∧ i ≤ cls.length ∧ Az (outs.map Cl.l = (cls.take i).foldl stepC [] ∧ outs.length ≤ i ∧ ∀ x ∈ outs, x.l ∈ cls.map (sortR [])) ∧ Az (RS w BO vars A1 c1 cls.length vo outs (fun _ => True) wr)) (fun v6 _ => cls.length - (intOf v6).toNat)
 case atStart => exact ⟨0, _, [], rfl, Nat.zero_le _, ⟨rfl, Nat.le_refl _, fun x hx => by cases hx⟩, HS0⟩
 case round =>
  clear HS0
  obtain ⟨i, vo, outs, rfl, hi, HO, HS⟩ := hrel
  have hx1 : wr.cell? ⟨w.heap.size, 1, none⟩ = some (.slice A1 cls.length c1) := (bkc HS.out.bc 1).trans rfl
  by_cases hlt : i < cls.length
  ·obtain ⟨ad, A', c', rfl, hcc, hl1, hC1⟩ := at_L1 (Kd.C_below HR1.out HS.out.hb) (i : Int) (by omega) (by omega)
   have hrd : rL cls (i : Int) = cls[i] := by simp [rL, List.getD, hlt]
   have HSTEP : Az ((cls.take (i + 1)).foldl stepC [] = stepC (outs.map Cl.l) (rL cls (i : Int))) := ⟨by rw [step_fold hlt, HO.out.1, hrd]⟩
   have HM : Az (rL cls (i : Int) ∈ cls) := ⟨by rw [hrd]; exact List.getElem_mem _⟩
   clear hrd
   generalize rL cls (i : Int) = l at hcc hl1 hC1 HSTEP HM
   simp only [Int.toNat_natCast] at hcc
   have hso := netlabref32_Sorted.calls k A' c' l (sortR [] l) wr hC1 hl1 (HOK.out.srt l HM.out)
   have HTR := Az.mk (HOK.out.trv l HM.out)
   have HSM : Az (sortR [] l ∈ cls.map (sortR [])) := ⟨List.mem_map_of_mem HM.out⟩
   have HST2 : Az (stepC (outs.map Cl.l) l = if trivR (sortR [] l) = true then outs.map Cl.l else putC (outs.map Cl.l) (sortR [] l)) := ⟨rfl⟩
   clear hC1
   generalize sortR [] l = s at hso HTR HSM HST2
   go_wp2_with fail
   refine hso.mono ?_
   rintro e w4 ⟨v4, rfl, hr4, hb4⟩
   obtain ⟨A4, c4, e4⟩ := Kd.R_slice hr4
   subst e4
   have HI4 : Az (InI w4 w.heap.size ⟨A4, c4, s⟩) := ⟨Kd.R_lower hr4 HS.out.hb.size⟩
   have HS4 := Az.mk (HS.out.below hb4)
   clear hr4 hb4 hso hx1 hcc hl1 HS
   have htr := netlabref32_trivial.calls k A4 c4 s (trivR s) w4 HI4.out.reads.2 HI4.out.reads.1 HTR.out
   clear HTR
   cases ht : trivR s with
   | true =>
    rw [ht] at htr HST2
    rw [if_pos rfl] at HST2
    go_wp2_with (go_at_call 55; refine htr.mono ?_; rintro e w5 ⟨rfl, hd⟩; have HS5 := Az.mk (HS4.out.below hd.below); clear hd)
    go_roundw
    case rel => exact ⟨i + 1, vo, outs, by rw [wrap_succ hlt (by have := HLEN.out; omega)], by omega, ⟨by rw [HSTEP.out, HST2.out], by have := HO.out.2.1; omega, HO.out.2.2⟩, HS5⟩
    case measure => exact meas_x hlt (wrap_succ hlt (by have := HLEN.out; omega))
   | false =>
    rw [ht] at htr HST2
    rw [if_neg (by simp)] at HST2
    obtain ⟨Ao, co, eo⟩ := Kd.R_slice HS4.out.row
    subst eo
    go_wp2_with (go_at_call 55; refine htr.mono ?_; rintro e wd ⟨rfl, hd⟩; have HSD := Az.mk (HS4.out.below hd.below); have HID := Az.mk (HI4.out.below hd.below); clear hd)
    clear htr HS4 HI4
    obtain ⟨p, hp⟩ : ∃ p, ((outs.map Cl.l).takeWhile fun a => decide (cmpR a s < 0)).length = p := ⟨_, rfl⟩
    have HPL : Az (p ≤ outs.length) := ⟨by have := tw_len_le (fun a => decide (cmpR a s < 0)) (outs.map Cl.l); rw [hp, List.length_map] at this; exact this⟩
    have HPB : Az (∀ j (h : j < outs.length), j < p → cmpR outs[j].l s < 0) := ⟨fun j h hj => by
     have := tw_before (fun a => decide (cmpR a s < 0)) (outs.map Cl.l) j (by rw [List.length_map]; exact h) (by rw [hp]; exact hj)
     rw [List.getElem_map] at this
     exact of_decide_eq_true this⟩
    have HPS : Az (∀ h : p < outs.length, ¬ cmpR outs[p].l s < 0) := ⟨fun h => by
     have := tw_stop (fun a => decide (cmpR a s < 0)) (outs.map Cl.l) (by rw [hp, List.length_map]; exact h)
     simp only [hp, List.getElem_map] at this
     exact of_decide_eq_false this⟩
    have HPT : Az ((∀ h : p < outs.length, cmpR outs[p].l s = 0 → putC (outs.map Cl.l) s = outs.map Cl.l) ∧ ((∀ h : p < outs.length, cmpR outs[p].l s ≠ 0) → putC (outs.map Cl.l) s = (outs.take p ++ [(⟨A4, c4, s⟩ : Cl)] ++ outs.drop p).map Cl.l)) := ⟨putC_at hp A4 c4⟩
    clear hp
    go_loopw [8] (fun v8 wq => ∃ j : Nat, v8 = .int .i64 j ∧ j ≤ p ∧ Az (RS w BO vars (some ad) c1 cls.length (.slice Ao outs.length co) outs (fun _ => True) wq) ∧ Az (InI wq w.heap.size ⟨A4, c4, s⟩)) (fun v8 _ => outs.length - (intOf v8).toNat)
    case atStart => exact ⟨0, rfl, Nat.zero_le _, HSD, HID⟩
    case round =>
     clear HSD HID
     obtain ⟨j, rfl, hj, HSQ, HIQ⟩ := hrel
     have hx := (bkc HSQ.out.bo 1).trans rfl
     by_cases hjl : j < outs.length
     ·have hjb : decide ((j : Int) < (outs.length : Int)) = true := decide_eq_true (by omega)
      obtain ⟨g, cg, eo, hgb, hgl, cl⟩ := Kd.R_form HSQ.out.row (by omega)
      injection eo with ea en ec
      subst ea
      clear en ec cl
      obtain ⟨hz, hzf⟩ := Kd.R_celln (⟨none, 0, []⟩ : Cl) HSQ.out.row (j : Int) (by omega) (by omega)
      simp only [Int.toNat_natCast] at hz
      have HXE : Az (rdOf (⟨none, 0, []⟩ : Cl) outs (j : Int) = outs[j]) := ⟨rdOf_get hjl⟩
      have HXM : Az (rdOf (⟨none, 0, []⟩ : Cl) outs (j : Int) ∈ outs) := ⟨by rw [HXE.out]; exact List.getElem_mem _⟩
      generalize rdOf (⟨none, 0, []⟩ : Cl) outs (j : Int) = x at HXE HXM hz
      unfold encCl at hz
      have HCM := Az.mk (HOK.out.cmp x.l (HO.out.2.2 x HXM.out) s HSM.out)
      have hxr := (HSQ.out.ins x HXM.out).reads
      have hcmp := netlabref32_Compare.calls k x.a x.c x.l A4 c4 s (cmpR x.l s) wr hxr.2 hxr.1 HIQ.out.reads.2 HIQ.out.reads.1 HCM.out
      clear hxr hzf hgb hgl
      obtain ⟨cv, hcv⟩ : ∃ cv, cmpR x.l s = cv := ⟨_, rfl⟩
      rw [hcv] at hcmp HCM
      have HCV := Az.mk hcv
      clear hcv
      by_cases hjp : j < p
      ·have hlb : decide (cv < 0) = true := decide_eq_true (by rw [← HCV.out, HXE.out]; exact HPB.out j hjl hjp)
       go_wp2_with (go_at_call 56; refine hcmp.mono ?_; rintro e wv ⟨rfl, hd⟩; have HSV := Az.mk (HSQ.out.below hd.below); have HIV := Az.mk (HIQ.out.below hd.below); clear hd)
       go_roundw
       case rel => exact ⟨j + 1, by rw [wrap_succ hjl (by have := HO.out.2.1; have := HLEN.out; omega)], by omega, HSV, HIV⟩
       case measure => exact meas_x hjl (wrap_succ hjl (by have := HO.out.2.1; have := HLEN.out; omega))
      ·obtain rfl : j = p := by omega
       have hlb : decide (cv < 0) = false := decide_eq_false (by rw [← HCV.out, HXE.out]; exact HPS.out hjl)
       by_cases hc0 : cv = 0
       ·have hce : (cv == 0) = true := by rw [hc0]; rfl
        have HNW : Az (putC (outs.map Cl.l) s = outs.map Cl.l) := ⟨HPT.out.1 hjl (by rw [← HXE.out, HCV.out, hc0])⟩
        clear hc0
        go_wp2_with (first | (go_at_call 56; refine hcmp.mono ?_; rintro e wv ⟨rfl, hd⟩; have HSV := Az.mk (HSQ.out.below hd.below); have HIV := Az.mk (HIQ.out.below hd.below); replace hx := (hd.below.cell (World.block_lt_of_cell? _ _ hx)).trans hx; replace hz := (hd.below.cell (World.block_lt_of_cell? _ _ hz)).trans hz; have hcmp2 := netlabref32_Compare.calls k x.a x.c x.l A4 c4 s cv wv (HSV.out.ins x HXM.out).reads.2 (HSV.out.ins x HXM.out).reads.1 HIV.out.reads.2 HIV.out.reads.1 HCM.out; clear hd hcmp) | (go_at_call 56; refine hcmp2.mono ?_; rintro e wi ⟨rfl, hd⟩; have HSI := Az.mk (HSV.out.below hd.below); clear hd))
        go_roundw
        case rel => exact ⟨i + 1, _, outs, by rw [wrap_succ hlt (by have := HLEN.out; omega)], by omega, ⟨by rw [HSTEP.out, HST2.out, HNW.out], by have := HO.out.2.1; omega, HO.out.2.2⟩, HSI⟩
        case measure => exact meas_x hlt (wrap_succ hlt (by have := HLEN.out; omega))
       ·have hce : (cv == 0) = false := by simpa using hc0
        have HNW : Az (putC (outs.map Cl.l) s = (outs.take j ++ [(⟨A4, c4, s⟩ : Cl)] ++ outs.drop j).map Cl.l) := ⟨HPT.out.2 (fun _ h => hc0 (by rw [← HCV.out, HXE.out]; exact h))⟩
        clear hc0
        go_upto_region 14 with (first | (go_at_call 56; refine hcmp.mono ?_; rintro e wv ⟨rfl, hd⟩; have HSV := Az.mk (HSQ.out.below hd.below); have HIV := Az.mk (HIQ.out.below hd.below); replace hx := (hd.below.cell (World.block_lt_of_cell? _ _ hx)).trans hx; replace hz := (hd.below.cell (World.block_lt_of_cell? _ _ hz)).trans hz; have hcmp2 := netlabref32_Compare.calls k x.a x.c x.l A4 c4 s cv wv (HSV.out.ins x HXM.out).reads.2 (HSV.out.ins x HXM.out).reads.1 HIV.out.reads.2 HIV.out.reads.1 HCM.out; clear hd hcmp) | (go_at_call 56; refine hcmp2.mono ?_; rintro e wi ⟨rfl, hd⟩; have HSI := Az.mk (HSV.out.below hd.below); have HII := Az.mk (HIV.out.below hd.below); clear hd))
        clear hx hz hcmp2 hlb hce hjb
        have hx := (bkc HSI.out.bo 1).trans rfl
        have hroom := (Kd.R_reads' HSI.out.row).2.1
        have hcut1 := cut_to (P := Tryz.prog) 22 26 .i64 Tryz.underlying22 HI0.out (some ⟨g, 0, none⟩) outs.length co (j : Int) (by omega) (by have := HPL.out; omega) hroom
        have hcut2 := cut_from (P := Tryz.prog) 22 26 .i64 Tryz.underlying22 HI0.out 1 HSZ.out (some ⟨g, 0, none⟩) outs.length co (j : Int) (by omega) (by have := HPL.out; omega)
        have q1 : ((j : Int) ≤ (outs.length : Int)) = True := eq_true (by have := HPL.out; omega)
        have q2 : ((0 : Int) ≤ (j : Int)) = True := eq_true (by omega)
        simp only [Int.toNat_natCast] at hcut1 hcut2
        have HT1 : Az ((outs.take j).length = j) := ⟨by rw [List.length_take]; have := HPL.out; omega⟩
        obtain ⟨AD, hAD⟩ : ∃ A1 : Option Addr, A1 = (if co = j then (some ⟨g, 0, none⟩) else ((some ⟨g, 0, none⟩) : Option Addr).map (·.add (j * 1))) := ⟨_, rfl⟩
        obtain ⟨cd, hcd⟩ : ∃ x, x = co - j := ⟨_, rfl⟩
        obtain ⟨md, hmd⟩ : ∃ x, x = outs.length - j := ⟨_, rfl⟩
        rw [← hAD, ← hcd, ← hmd] at hcut2
        have HT2 : Az ((outs.drop j).length = md ∧ md = outs.length - j) := ⟨by rw [hmd]; exact List.length_drop, hmd⟩
        have HAD := Az.mk hAD
        clear hAD hcd hmd
        have HTL : Az (outs.length ≤ 1000) := ⟨by have := HO.out.2.1; have := HLEN.out; omega⟩
        have HCT := Az.mk (Kd.C_take (m := j) (Kd.R_reads' HSI.out.row).2.2 HPL.out)
        go_wp2_with (first | ((with_reducible refine gate_builtin (b := .append) (xs := #[.tmp 66, .tmp 70]) rfl ?_); at_builtin; go_loud (refine Kd.R_append_rows kCl (w0 := w) w.heap.size rfl (.tmp 66) (.tmp 70) 22 26 (.slice none 0 0) 24 rfl Tryz.underlying22 infoInts rfl (by decide) (by decide) (.slice none 0 0) ([] : List Cl) (outs.take j) (some ⟨g, 0, none⟩) j co (fun k_ => some k_ ≠ (Value.slice (some ⟨g, 0, none⟩) outs.length co).ownBlock) (fun _ => False) rfl rfl ?aO ?aR (fun _ _ h => h) (fun _ h => h.elim) ?aF ?aB ?aS ?aL ?_); (case aO => exact Kd.R_nil _ _ _ _ _); (case aR => have hq := HCT.out; rw [HT1.out] at hq; exact hq); (case aF => exact fun k_ hk => Kd.fresh' (Kd.R_lt HSI.out.row) k_ hk); (case aB => exact HSI.out.hb); (case aS => exact HSI.out.hb.size); (case aL => have := HTL.out; have := HPL.out; simp; omega); intro v1 wa ho hb hg hat; rw [List.nil_append] at ho; go_loud (have HSA := Az.mk (RS.grown (HSI.out.apart) (Kd.R_nil _ _ _ _ (fun _ => True)) hb hg hat); have HIA : Az (InI wa w.heap.size ⟨A4, c4, s⟩) := ⟨HII.out.over (b' := w.heap.size) (xs := []) (Kd.R_nil _ _ _ _ (fun _ => True)) hg⟩; have HNA := Az.mk ho; clear ho hb hg hat hx)) | ((with_reducible refine gate_builtin (b := .append) (xs := #[.tmp 72, .tmp 74]) rfl ?_); at_builtin; go_loud (refine Kd.R_append kCl (w0 := w) w.heap.size rfl (.tmp 72) (.tmp 74) 22 26 (.slice none 0 0) 24 rfl Tryz.underlying22 infoInts rfl (by decide) (by decide) v1 (outs.take j) (⟨A4, c4, s⟩ : Cl) [.slice A4 s.length c4] (fun k_ => some k_ ≠ (Value.slice (some ⟨g, 0, none⟩) outs.length co).ownBlock) (fun _ => False) rfl rfl ?aP (fun _ hk => hk.elim) ?aF ?aO ?aB ?aS ?aL ?_); (case aP => exact rfl); (case aF => exact fun k_ hk => Kd.fresh' (Kd.R_lt HSA.out.row) k_ hk); (case aO => exact HNA.out); (case aB => exact HSA.out.hb); (case aS => exact HSA.out.hb.size); (case aL => have := HTL.out; have := HT1.out; have := HPL.out; simp; omega); intro v2 wb ho hb hg hat; have HSB := Az.mk (RS.grown HSA.out HNA.out hb hg hat); have HIB : Az (InI wb w.heap.size ⟨A4, c4, s⟩) := ⟨HIA.out.over HNA.out hg⟩; have HNB := Az.mk ho; have HCD : Az (Kd.C kCl wb AD (outs.drop j).length (outs.drop j)) := ⟨by rw [HAD.out]; exact Kd.C_drop (m := j) (c := co) (Kd.R_reads' HSB.out.row).2.2 HPL.out (Kd.R_reads' HSB.out.row).2.1⟩; have hx := (bkc HSB.out.bo 1).trans rfl; clear ho hb hg hat HSA HNA HIA) | ((with_reducible refine gate_builtin (b := .append) (xs := #[.tmp 76, .tmp 80]) rfl ?_); at_builtin; go_loud (refine Kd.R_append_rows kCl (w0 := w) w.heap.size rfl (.tmp 76) (.tmp 80) 22 26 (.slice none 0 0) 24 rfl Tryz.underlying22 infoInts rfl (by decide) (by decide) v2 (outs.take j ++ [(⟨A4, c4, s⟩ : Cl)]) (outs.drop j) AD md cd (fun k_ => some k_ ≠ (Value.slice (some ⟨g, 0, none⟩) outs.length co).ownBlock) (fun _ => False) rfl rfl ?aO ?aR (fun _ _ h => h) (fun _ h => h.elim) ?aF ?aB ?aS ?aL ?_); (case aO => exact HNB.out); (case aR => have hq := HCD.out; rw [HT2.out.1] at hq; exact hq); (case aF => exact fun k_ hk => Kd.fresh' (Kd.R_lt HSB.out.row) k_ hk); (case aB => exact HSB.out.hb); (case aS => exact HSB.out.hb.size); (case aL => have := HTL.out; have := HT1.out; have := HPL.out; have := HT2.out.2; simp; omega); intro v3 wc ho hb hg hat; obtain ⟨A9, c9, e9⟩ := Kd.R_slice ho; obtain ⟨q9, hq9⟩ : ∃ q, (outs.take j ++ [(⟨A4, c4, s⟩ : Cl)] ++ outs.drop j).length = q := ⟨_, rfl⟩; rw [hq9] at e9; clear hq9; subst e9; go_loud (have HSC := Az.mk (RS.grown HSB.out HNB.out hb hg hat); have HIC : Az (InI wc w.heap.size ⟨A4, c4, s⟩) := ⟨HIB.out.over HNB.out hg⟩; have HNC := Az.mk ho; have hxc := (bkc HSC.out.bo 1).trans rfl; have hfc := bkf HSC.out.bo 1; clear ho hb hg hat HSB HNB HIB hx)))
        go_roundw
        case rel =>
         have hall : ∀ y ∈ outs.take j ++ [(⟨A4, c4, s⟩ : Cl)] ++ outs.drop j, y ∈ outs ∨ y = ⟨A4, c4, s⟩ := fun y hy => by
          rcases List.mem_append.1 hy with hy | hy
          ·rcases List.mem_append.1 hy with hy | hy
           ·exact .inl (List.mem_of_mem_take hy)
           ·exact .inr (List.mem_singleton.1 hy)
          ·exact .inl (List.mem_of_mem_drop hy)
         refine ⟨i + 1, .slice A9 q9 c9, outs.take j ++ [(⟨A4, c4, s⟩ : Cl)] ++ outs.drop j, by rw [wrap_succ hlt (by have := HLEN.out; omega)], by omega, ⟨by rw [HSTEP.out, HST2.out, HNW.out], by have h1 := HT1.out; have h2 := HT2.out.1; have h3 := HT2.out.2; have := HO.out.2.1; have := HPL.out; simp only [List.length_append, List.length_singleton]; omega, fun y hy => by rcases hall y hy with h | h; exact HO.out.2.2 y h; rw [h]; exact HSM.out⟩, ⟨?_⟩⟩
         refine ⟨blk_far HSC.out.bc (p := ⟨BO, 1, none⟩) (by have := HS1.out; show w.heap.size ≠ BO; omega) _, blk_far HSC.out.br (p := ⟨BO, 1, none⟩) (by have := HS1.out; show w.heap.size + 1 ≠ BO; omega) _, blk_set HSC.out.bo 1 _, R_setFar (Kd.R_mono HNC.out (fun _ _ => trivial)) HSC.out.bo (ne_one (by decide)) _, fun y hy => ?_, bws HSC.out.hb (by have := HS1.out; omega)⟩
         rcases hall y hy with h | h
         ·exact R_setFar (HSC.out.ins y h) HSC.out.bo (ne_one (by decide)) _
         ·rw [h]; exact R_setFar HIC.out HSC.out.bo (ne_one (by decide)) _
        case measure => exact meas_x hlt (wrap_succ hlt (by have := HLEN.out; omega))
     ·obtain rfl : j = outs.length := by have := HPL.out; omega
      obtain rfl : outs.length = p := by have := HPL.out; omega
      have hjb : decide ((outs.length : Int) < (outs.length : Int)) = false := decide_eq_false (by omega)
      have HNW : Az (putC (outs.map Cl.l) s = (outs.take outs.length ++ [(⟨A4, c4, s⟩ : Cl)] ++ outs.drop outs.length).map Cl.l) := ⟨HPT.out.2 (fun h => by omega)⟩
      go_upto_region 14 with fail
      have HSI := HSQ
      have HII := HIQ
      clear hx hjb
      have hx := (bkc HSI.out.bo 1).trans rfl
      have hroom := (Kd.R_reads' HSI.out.row).2.1
      have hcut1 := cut_to (P := Tryz.prog) 22 26 .i64 Tryz.underlying22 HI0.out Ao outs.length co (outs.length : Int) (by omega) (by have := HPL.out; omega) hroom
      have hcut2 := cut_from (P := Tryz.prog) 22 26 .i64 Tryz.underlying22 HI0.out 1 HSZ.out Ao outs.length co (outs.length : Int) (by omega) (by have := HPL.out; omega)
      have q1 : ((outs.length : Int) ≤ (outs.length : Int)) = True := eq_true (by have := HPL.out; omega)
      have q2 : ((0 : Int) ≤ (outs.length : Int)) = True := eq_true (by omega)
      simp only [Int.toNat_natCast] at hcut1 hcut2
      have HT1 : Az ((outs.take outs.length).length = outs.length) := ⟨by rw [List.length_take]; have := HPL.out; omega⟩
      obtain ⟨AD, hAD⟩ : ∃ A1 : Option Addr, A1 = (if co = outs.length then Ao else (Ao : Option Addr).map (·.add (outs.length * 1))) := ⟨_, rfl⟩
      obtain ⟨cd, hcd⟩ : ∃ x, x = co - outs.length := ⟨_, rfl⟩
      obtain ⟨md, hmd⟩ : ∃ x, x = outs.length - outs.length := ⟨_, rfl⟩
      rw [← hAD, ← hcd, ← hmd] at hcut2
      have HT2 : Az ((outs.drop outs.length).length = md ∧ md = outs.length - outs.length) := ⟨by rw [hmd]; exact List.length_drop, hmd⟩
      have HAD := Az.mk hAD
      clear hAD hcd hmd
      have HTL : Az (outs.length ≤ 1000) := ⟨by have := HO.out.2.1; have := HLEN.out; omega⟩
      have HCT := Az.mk (Kd.C_take (m := outs.length) (Kd.R_reads' HSI.out.row).2.2 HPL.out)
      go_wp2_with (first | ((with_reducible refine gate_builtin (b := .append) (xs := #[.tmp 66, .tmp 70]) rfl ?_); at_builtin; go_loud (refine Kd.R_append_rows kCl (w0 := w) w.heap.size rfl (.tmp 66) (.tmp 70) 22 26 (.slice none 0 0) 24 rfl Tryz.underlying22 infoInts rfl (by decide) (by decide) (.slice none 0 0) ([] : List Cl) (outs.take outs.length) Ao outs.length co (fun k_ => some k_ ≠ (Value.slice Ao outs.length co).ownBlock) (fun _ => False) rfl rfl ?aO ?aR (fun _ _ h => h) (fun _ h => h.elim) ?aF ?aB ?aS ?aL ?_); (case aO => exact Kd.R_nil _ _ _ _ _); (case aR => have hq := HCT.out; rw [HT1.out] at hq; exact hq); (case aF => exact fun k_ hk => Kd.fresh' (Kd.R_lt HSI.out.row) k_ hk); (case aB => exact HSI.out.hb); (case aS => exact HSI.out.hb.size); (case aL => have := HTL.out; have := HPL.out; simp; omega); intro v1 wa ho hb hg hat; rw [List.nil_append] at ho; go_loud (have HSA := Az.mk (RS.grown (HSI.out.apart) (Kd.R_nil _ _ _ _ (fun _ => True)) hb hg hat); have HIA : Az (InI wa w.heap.size ⟨A4, c4, s⟩) := ⟨HII.out.over (b' := w.heap.size) (xs := []) (Kd.R_nil _ _ _ _ (fun _ => True)) hg⟩; have HNA := Az.mk ho; clear ho hb hg hat hx)) | ((with_reducible refine gate_builtin (b := .append) (xs := #[.tmp 72, .tmp 74]) rfl ?_); at_builtin; go_loud (refine Kd.R_append kCl (w0 := w) w.heap.size rfl (.tmp 72) (.tmp 74) 22 26 (.slice none 0 0) 24 rfl Tryz.underlying22 infoInts rfl (by decide) (by decide) v1 (outs.take outs.length) (⟨A4, c4, s⟩ : Cl) [.slice A4 s.length c4] (fun k_ => some k_ ≠ (Value.slice Ao outs.length co).ownBlock) (fun _ => False) rfl rfl ?aP (fun _ hk => hk.elim) ?aF ?aO ?aB ?aS ?aL ?_); (case aP => exact rfl); (case aF => exact fun k_ hk => Kd.fresh' (Kd.R_lt HSA.out.row) k_ hk); (case aO => exact HNA.out); (case aB => exact HSA.out.hb); (case aS => exact HSA.out.hb.size); (case aL => have := HTL.out; have := HT1.out; have := HPL.out; simp; omega); intro v2 wb ho hb hg hat; have HSB := Az.mk (RS.grown HSA.out HNA.out hb hg hat); have HIB : Az (InI wb w.heap.size ⟨A4, c4, s⟩) := ⟨HIA.out.over HNA.out hg⟩; have HNB := Az.mk ho; have HCD : Az (Kd.C kCl wb AD (outs.drop outs.length).length (outs.drop outs.length)) := ⟨by rw [HAD.out]; exact Kd.C_drop (m := outs.length) (c := co) (Kd.R_reads' HSB.out.row).2.2 HPL.out (Kd.R_reads' HSB.out.row).2.1⟩; have hx := (bkc HSB.out.bo 1).trans rfl; clear ho hb hg hat HSA HNA HIA) | ((with_reducible refine gate_builtin (b := .append) (xs := #[.tmp 76, .tmp 80]) rfl ?_); at_builtin; go_loud (refine Kd.R_append_rows kCl (w0 := w) w.heap.size rfl (.tmp 76) (.tmp 80) 22 26 (.slice none 0 0) 24 rfl Tryz.underlying22 infoInts rfl (by decide) (by decide) v2 (outs.take outs.length ++ [(⟨A4, c4, s⟩ : Cl)]) (outs.drop outs.length) AD md cd (fun k_ => some k_ ≠ (Value.slice Ao outs.length co).ownBlock) (fun _ => False) rfl rfl ?aO ?aR (fun _ _ h => h) (fun _ h => h.elim) ?aF ?aB ?aS ?aL ?_); (case aO => exact HNB.out); (case aR => have hq := HCD.out; rw [HT2.out.1] at hq; exact hq); (case aF => exact fun k_ hk => Kd.fresh' (Kd.R_lt HSB.out.row) k_ hk); (case aB => exact HSB.out.hb); (case aS => exact HSB.out.hb.size); (case aL => have := HTL.out; have := HT1.out; have := HPL.out; have := HT2.out.2; simp; omega); intro v3 wc ho hb hg hat; obtain ⟨A9, c9, e9⟩ := Kd.R_slice ho; obtain ⟨q9, hq9⟩ : ∃ q, (outs.take outs.length ++ [(⟨A4, c4, s⟩ : Cl)] ++ outs.drop outs.length).length = q := ⟨_, rfl⟩; rw [hq9] at e9; clear hq9; subst e9; go_loud (have HSC := Az.mk (RS.grown HSB.out HNB.out hb hg hat); have HIC : Az (InI wc w.heap.size ⟨A4, c4, s⟩) := ⟨HIB.out.over HNB.out hg⟩; have HNC := Az.mk ho; have hxc := (bkc HSC.out.bo 1).trans rfl; have hfc := bkf HSC.out.bo 1; clear ho hb hg hat HSB HNB HIB hx)))
      go_roundw
      case rel =>
       have hall : ∀ y ∈ outs.take outs.length ++ [(⟨A4, c4, s⟩ : Cl)] ++ outs.drop outs.length, y ∈ outs ∨ y = ⟨A4, c4, s⟩ := fun y hy => by
        rcases List.mem_append.1 hy with hy | hy
        ·rcases List.mem_append.1 hy with hy | hy
         ·exact .inl (List.mem_of_mem_take hy)
         ·exact .inr (List.mem_singleton.1 hy)
        ·exact .inl (List.mem_of_mem_drop hy)
       refine ⟨i + 1, .slice A9 q9 c9, outs.take outs.length ++ [(⟨A4, c4, s⟩ : Cl)] ++ outs.drop outs.length, by rw [wrap_succ hlt (by have := HLEN.out; omega)], by omega, ⟨by rw [HSTEP.out, HST2.out, HNW.out], by have h1 := HT1.out; have h2 := HT2.out.1; have h3 := HT2.out.2; have := HO.out.2.1; have := HPL.out; simp only [List.length_append, List.length_singleton]; omega, fun y hy => by rcases hall y hy with h | h; exact HO.out.2.2 y h; rw [h]; exact HSM.out⟩, ⟨?_⟩⟩
       refine ⟨blk_far HSC.out.bc (p := ⟨BO, 1, none⟩) (by have := HS1.out; show w.heap.size ≠ BO; omega) _, blk_far HSC.out.br (p := ⟨BO, 1, none⟩) (by have := HS1.out; show w.heap.size + 1 ≠ BO; omega) _, blk_set HSC.out.bo 1 _, R_setFar (Kd.R_mono HNC.out (fun _ _ => trivial)) HSC.out.bo (ne_one (by decide)) _, fun y hy => ?_, bws HSC.out.hb (by have := HS1.out; omega)⟩
       rcases hall y hy with h | h
       ·exact R_setFar (HSC.out.ins y h) HSC.out.bo (ne_one (by decide)) _
       ·rw [h]; exact R_setFar HIC.out HSC.out.bo (ne_one (by decide)) _
      case measure => exact meas_x hlt (wrap_succ hlt (by have := HLEN.out; omega))
  ·obtain rfl : i = cls.length := by omega
   rw [List.take_length] at HO
   have hc0 := (bkc HS.out.bo 0).trans rfl
   have hc1 := (bkc HS.out.bo 1).trans rfl
   obtain ⟨Ao, co, hvo⟩ := Kd.R_slice HS.out.row
   subst hvo
   have hr0 := (bkc HS.out.br 0).trans rfl
   have hr1 := (bkc HS.out.br 1).trans rfl
   have hf0 := bkf HS.out.br 0
   have hf1 := bkf HS.out.br 1
   go_wp2
   refine bodyPost_ret (results_ct rfl _ _ (w.heap.size + 1) 24 #[.int .i64 vars, .slice Ao outs.length co] (0, 0) _ rfl (blk_set (blk_set HS.out.br 0 _) 1 _) hu24 rfl (by kernel_rfl)) rfl ?_
   have hno : outs.length = (cls.foldl stepC []).length := by
    have := congrArg List.length HO.out.1
    rwa [List.length_map] at this
   have hrr := Kd.R_reads' HS.out.row
   refine ⟨Ao, co, by rw [hno]; rfl, by rw [← hno]; exact hrr.2.1, ?_, bws (bws HS.out.hb (by omega)) (by omega)⟩
   rw [← hno]
   have hR2 := R_setFar (i := 1) (R_setFar (i := 0) HS.out.row HS.out.br (ne_one (by decide)) (.int .i64 vars)) (blk_set HS.out.br 0 (.int .i64 vars)) (ne_one (by decide)) (.slice Ao outs.length co)
   have hI2 : ∀ x ∈ outs, InI _ w.heap.size x := fun x hx => R_setFar (i := 1) (R_setFar (i := 0) (HS.out.ins x hx) HS.out.br (ne_one (by decide)) (.int .i64 vars)) (blk_set HS.out.br 0 (.int .i64 vars)) (ne_one (by decide)) (.slice Ao outs.length co)
   have hC2 := C_cls (Kd.R_reads' hR2).2.2 (fun x hx => (hI2 x hx).reads) 3
   rw [show outs.map Cl.l = cls.foldl stepC [] from HO.out.1] at hC2
   exact hC2
end Go.Proofs.YtkcfdddhnboieaaGreatDoor.NState
end
section
set_option maxHeartbeats 4000000
set_option maxRecDepth 100000
namespace Go.Proofs.YtkcfdddhnboieaaGreatDoor.NState
open Go Go.RowKit Go.Shelf QW.PrintWords QW.PrintLast QW.PrintMore NMap
open PRPropg (netlabref32_Check.f netlabref32_Check.calls)
open PCheck (cnf_Check.f)
open PModels (netlabref32_All.f netlabref32_All.calls)
open NPlain (LitOk trivA chkL stepC)
theorem reval_calls (k : Nat) (vars : Int) (A1 : Option Addr) (c1 : Nat) (cls : List (List Int)) (A2 : Option Addr) (c2 : Nat) (m : List Bool) (e0 : Int) (w : World) (hr1 : Kd.C (Kd.slice 3 (Kd.int .i64)) w A1 cls.length cls) (hc1 : cls.length ≤ c1) (hr2 : Kd.C Kd.bool w A2 m.length m) (hc2 : m.length ≤ c2) (hck : netlabref32_Check.f k vars cls = some e0)
  (hall : e0 = 0 → (m.length : Int) = vars → netlabref32_All.f k vars cls m = some (cls.all fun l => l.any (trueB m))) :
  Calls Tryz.prog 18 #[.agg #[.int .i64 vars, .slice A1 cls.length c1], .slice A2 m.length c2] w (EvalPost w (evalF e0 vars cls m)) := by
 have HR1 := Az.mk hr1
 have HR2 := Az.mk hr2
 have HC1 := Az.mk hc1
 have HC2 := Az.mk hc2
 have HCK := Az.mk hck
 have HALL := Az.mk hall
 have HEV : Az (evalF e0 vars cls m = if e0 = 0 then (if (m.length : Int) = vars then (cls.all fun l => l.any (trueB m), 0) else (false, 12)) else (false, e0)) := ⟨rfl⟩
 generalize evalF e0 vars cls m = res at HEV ⊢
 clear hr1 hc1 hr2 hc2 hck hall
 have hu24 := Tryz.underlying24
 go_enter Tryz.func18, Tryz.ntmps18
 go_wp2_with fail
 refine (netlabref32_Check.calls k vars A1 c1 cls e0 _ (Kd.C_alloc HR1.out _) HC1.out HCK.out).mono ?_
 rintro e w1 ⟨rfl, hb1⟩
 have BK : Az (w1.heap[w.heap.size]? = some (.cells #[.int .i64 vars, .slice A1 cls.length c1] 24 (0, 0))) := ⟨blk_below (blk_new w _) hb1⟩
 have HB : Az (Below w.heap.size w w1) := ⟨bwt (bwa (Below.refl _ _) _) hb1⟩
 clear hb1
 have hx0 : w1.cell? ⟨w.heap.size, 0, none⟩ = some (.int .i64 vars) := (bkc BK.out 0).trans rfl
 have hx1 : w1.cell? ⟨w.heap.size, 1, none⟩ = some (.slice A1 cls.length c1) := (bkc BK.out 1).trans rfl
 by_cases he : e0 = 0
 ·subst he
  rw [if_pos rfl] at HEV
  by_cases hl : (m.length : Int) = vars
  ·rw [if_pos hl] at HEV
   have HA := Az.mk (HALL.out rfl hl)
   have hlb : ((m.length : Int) != vars) = false := by simpa using hl
   clear hl HALL HCK
   go_wp2_with fail
   refine (netlabref32_All.calls k vars A1 c1 cls A2 c2 m _ w1 (Kd.C_below HR1.out HB.out) HC1.out (Kd.C_below HR2.out HB.out) HC2.out HA.out).mono ?_
   rintro e w2 ⟨rfl, hb2⟩
   go_wp2
   first | go_ret2 | go_ret3 | go_ret
   exact ⟨by rw [HEV.out]; rfl, bwt HB.out hb2⟩
  ·rw [if_neg hl] at HEV
   have hlb : ((m.length : Int) != vars) = true := by simpa using hl
   clear hl HALL
   go_wp2
   first | go_ret2 | go_ret3 | go_ret
   exact ⟨by rw [HEV.out]; rfl, HB.out⟩
 ·rw [if_neg he] at HEV
  have heb : (e0 != 0) = true := by simpa using he
  clear he HALL
  go_wp2
  first | go_ret2 | go_ret3 | go_ret
  exact ⟨by rw [HEV.out]; rfl, HB.out⟩
theorem rnormal_bad (k : Nat) (vars : Int) (A1 : Option Addr) (c1 : Nat) (cls : List (List Int)) (e0 : Int) (w : World) (hr1 : Kd.C (Kd.slice 3 (Kd.int .i64)) w A1 cls.length cls) (hc1 : cls.length ≤ c1) (hck : netlabref32_Check.f k vars cls = some e0) (he : e0 ≠ 0) :
  Calls Tryz.prog 16 #[.agg #[.int .i64 vars, .slice A1 cls.length c1]] w (NormalPost w 0 [] e0) := by
 have HR1 := Az.mk hr1
 have HC1 := Az.mk hc1
 have HCK := Az.mk hck
 have heb : (e0 != 0) = true := by simpa using he
 clear hr1 hc1 hck he
 have hu24 := Tryz.underlying24
 go_enter Tryz.func16, Tryz.ntmps16
 go_wp2_with fail
 refine (netlabref32_Check.calls k vars A1 c1 cls e0 _ (Kd.C_alloc (Kd.C_alloc HR1.out _) _) HC1.out HCK.out).mono ?_
 rintro e w1 ⟨rfl, hb1⟩
 have BR : Az (w1.heap[w.heap.size + 1]? = some (.cells #[.int .i64 0, .slice none 0 0] 24 (0, 0))) := ⟨blk_below (blk_alloc_at (by simp) _) hb1⟩
 have HB : Az (Below w.heap.size w w1) := ⟨bwt (bwa (bwa (Below.refl _ _) _) _) hb1⟩
 clear hb1
 have hr0 : w1.cell? ⟨w.heap.size + 1, 0, none⟩ = some (.int .i64 0) := (bkc BR.out 0).trans rfl
 have hr1 : w1.cell? ⟨w.heap.size + 1, 1, none⟩ = some (.slice none 0 0) := (bkc BR.out 1).trans rfl
 have hf0 : w1.frozen? ⟨w.heap.size + 1, 0, none⟩ = false := bkf BR.out 0
 have hf1 : w1.frozen? ⟨w.heap.size + 1, 1, none⟩ = false := bkf BR.out 1
 go_wp2
 refine bodyPost_ret (results_ct rfl _ _ (w.heap.size + 1) 24 #[.int .i64 0, .slice none 0 0] (0, 0) _ rfl (blk_set (blk_set BR.out 0 _) 1 _) hu24 rfl (by kernel_rfl)) rfl ?_
 exact ⟨none, 0, rfl, Nat.le_refl _, Kd.C_nil _ _, bws (bws HB.out (by omega)) (by omega)⟩
theorem rnormal_any (k : Nat) (vars : Int) (A1 : Option Addr) (c1 : Nat) (cls : List (List Int)) (w : World) (hr1 : Kd.C (Kd.slice 3 (Kd.int .i64)) w A1 cls.length cls) (hc1 : cls.length ≤ c1) (hck : netlabref32_Check.f k vars cls = some (chkL vars cls)) (hlen : cls.length ≤ 1000) (hrn : chkL vars cls = 0 → RNOk k vars cls ∧ cls.foldl stepC [] = normL trivA cls) :
  Calls Tryz.prog 16 #[.agg #[.int .i64 vars, .slice A1 cls.length c1]] w (NormalPost w (normF (chkL vars cls) vars cls).1 (normF (chkL vars cls) vars cls).2.1 (normF (chkL vars cls) vars cls).2.2) := by
 by_cases h : chkL vars cls = 0
 ·obtain ⟨h1, h2⟩ := hrn h
  have e : normF (chkL vars cls) vars cls = (vars, cls.foldl stepC [], 0) := by rw [h2]; exact if_pos h
  rw [e]
  exact rnormal_calls k vars A1 c1 cls w hr1 hc1 h1 hlen
 ·have e : normF (chkL vars cls) vars cls = (0, [], chkL vars cls) := if_neg h
  rw [e]
  exact rnormal_bad k vars A1 c1 cls _ w hr1 hc1 hck h
theorem propagate_any (k : Nat) (vars : Int) (A1 : Option Addr) (c1 : Nat) (cls : List (List Int)) (A0 : Option Addr) (c0 : Nat) (lt : List Int) (r : List Int) (c : Bool) (er : Int) (w : World)
  (hr1 : Kd.C (Kd.slice 3 (Kd.int .i64)) w A1 cls.length cls) (hc1 : cls.length ≤ c1) (hr0 : Kd.C (Kd.int .i64) w A0 lt.length lt) (hck : cnf_Check.f k vars cls = some (chkL vars cls))
  (h : (chkL vars cls ≠ 0 ∧ r = [] ∧ c = false ∧ er = chkL vars cls) ∨ (chkL vars cls = 0 ∧ lt.any (badLit vars) = true ∧ r = [] ∧ c = false ∧ er = 1) ∨ (∃ n : Nat, vars = n ∧ n ≤ 4096 ∧ chkL vars cls = 0 ∧ lt.any (badLit vars) = false ∧ (∀ x ∈ lt, LitOk n x) ∧ er = 0 ∧ PropIs k n cls lt r c)) :
  Calls Tryz.prog 19 #[.agg #[.int .i64 vars, .slice A1 cls.length c1], .slice A0 lt.length c0] w (PropPost w r c er) := by
 rcases h with ⟨h1, rfl, rfl, rfl⟩ | ⟨h1, h2, rfl, rfl, rfl⟩ | ⟨n, rfl, hn, h1, h2, h3, rfl, h4⟩
 ·exact propagate_bad k vars A1 c1 cls A0 c0 lt.length _ w hr1 hc1 hck h1
 ·rw [h1] at hck
  exact propagate_arg k vars A1 c1 cls A0 c0 lt w hr1 hc1 hr0 hck h2
 ·rw [h1] at hck
  exact propagate_calls k n A1 c1 cls A0 c0 lt r c w hn hr1 hc1 hr0 hck h2 h3 h4
end Go.Proofs.YtkcfdddhnboieaaGreatDoor.NState
end
