/-
  Part 24 of the proof of proofTrims_card: walks and lemmas, packed by the session's own wip/pack.py out of its texts and of what the kit's print.sh printed.
-/
import Derived.Test.YtogicccdngpafaaDoorTA14
import Derived.Test.YtogicccdngpafaaDoorTA18
import Derived.Test.YtogicccdngpafaaDoorTA22
import Derived.Test.YtogicccdngpafaaDoorTA23
import Derived.Test.YtogicccdngpafaaDoorTA5
import Derived.Test.YtogicccdngpafaaDoorTA17
section
namespace Go.Proofs.YtogicccdngpafaaDoor.NPlain
open Go Go.RowKit Go.Proofs.YtogicccdngpafaaDoorW.PrintWords Go.Proofs.YtogicccdngpafaaDoorW.PrintLast Go.Proofs.YtogicccdngpafaaDoorW.PrintMore Go.Proofs.YtogicccdngpafaaDoor.NState
open Go.Proofs.YtogicccdngpafaaDoor.PCheck (cnf_Check.f)
open Go.Proofs.YtogicccdngpafaaDoor.PSame (rd_T45)
theorem has_at (l : List Int) (x : Int) (hl : l.length ≤ 1000000000) : ∀ d i, l.length - i = d → i ≤ l.length → ∀ k, d < k → PHas.netlabref32_Has.l0 k l x (i : Int) = some ((l.drop i).contains x) := by
 intro d
 induction d with
 | zero =>
  intro i hd hi k hk
  obtain ⟨k, rfl⟩ : ∃ m, k = m + 1 := ⟨k - 1, by omega⟩
  have e : i = l.length := by omega
  subst e
  simp only [PHas.netlabref32_Has.l0]
  rw [if_neg (Int.lt_irrefl _), List.drop_length]
  rfl
 | succ d ih =>
  intro i hd hi k hk
  obtain ⟨k, rfl⟩ : ∃ m, k = m + 1 := ⟨k - 1, by omega⟩
  have hil : i < l.length := by omega
  have hn := ih (i + 1) (by omega) (by omega) k (by omega)
  simp only [PHas.netlabref32_Has.l0]
  rw [if_pos (Int.ofNat_lt.2 hil), if_pos (Int.natCast_nonneg i), wrap_succ hil (by omega), drop_rd hil, List.contains_cons]
  by_cases he : rd l i = x
  ·rw [if_pos he, he]; simp
  ·rw [if_neg he]
   have hb : (x == rd l i) = false := by simpa using fun h => he h.symm
   rw [hb, Bool.false_or]
   exact hn
theorem has_all (k : Nat) (l : List Int) (x : Int) (hl : l.length < k) (h9 : l.length ≤ 1000000000) : PHas.netlabref32_Has.f k l x = some (l.contains x) := has_at l x h9 l.length 0 (by omega) (Nat.zero_le _) k hl
theorem run_evT (n : Nat) (x : List (List Int)) (q : List Stp) (hn : n ≤ 4096) (hf : Fine n x) (hq : q.length ≤ 65536) : ∃ K r, ∀ k, K ≤ k → runF k n x q = some r ∧ cnf_Check.f k n x = some 0 := by
 obtain ⟨K, hK⟩ := check_fine hn hf
 replace hK : ∀ k, K ≤ k → cnf_Check.f k n x = some 0 := hK
 refine ⟨K, runL n (x.map some) [] [] (-1) 0 q, fun k hk => ⟨?_, hK k hk⟩⟩
 unfold runF
 rw [hK k hk, Option.bind_some, if_pos rfl, if_pos hq]
theorem run_us {k : Nat} {vars : Int} {x : List (List Int)} {q : List Stp} {r : RunR} (hr : runF k vars x q = some r) (hx : ∀ y ∈ q, y.f2.length ≤ 1000000) : ∀ u ∈ r.used, u ≤ 268435455 := by
 intro u hu
 have : r.used = [] ∨ ∃ P, r = runL vars P [] [] (-1) 0 q := by
  unfold runF at hr
  obtain ⟨e0, _, hr⟩ := Option.bind_eq_some_iff.mp hr
  split at hr
  ·split at hr
   ·exact .inr ⟨_, (Option.some.inj hr).symm⟩
   ·left; rw [← Option.some.inj hr]
  ·left; rw [← Option.some.inj hr]
 rcases this with h | ⟨P, h⟩
 ·rw [h] at hu; cases hu
 ·rw [h] at hu
  have hgen : ∀ (xs : List Stp) (P : List (Option (List Int))) (us byL : List Int) (en i : Int), (∀ y ∈ xs, y.f2.length ≤ 1000000) → (∀ u ∈ us, u ≤ 268435455) → ∀ u ∈ (runL vars P us byL en i xs).used, u ≤ 268435455 := by
   intro xs
   induction xs with
   | nil => intro P us byL en i _ h u hu; exact h u hu
   | cons y ys ih =>
    intro P us byL en i hy h u hu
    have hr := (stepF_range vars P y.f0 y.f1 y.f2).2
    have hyl := hy y (by simp)
    have h' : ∀ u ∈ us ++ [(stepF vars P y.f0 y.f1 y.f2).2.1], u ≤ 268435455 := by
     intro u hu
     rcases List.mem_append.1 hu with hu | hu
     ·exact h u hu
     ·rw [List.mem_singleton] at hu; omega
    rw [runL] at hu
    split at hu
    ·exact h u hu
    split at hu
    ·exact ih _ _ _ _ _ (fun z hz => hy z (List.mem_cons_of_mem _ hz)) h' u hu
    ·exact ih _ _ _ _ _ (fun z hz => hy z (List.mem_cons_of_mem _ hz)) h' u hu
  exact hgen q P [] [] (-1) 0 hx (fun u hu => by cases hu) u hu
theorem sorted_len {n : Nat} {l : List Int} (hs : l.Pairwise (· < ·)) (hb : ∀ x ∈ l, 1 ≤ x ∧ x ≤ (n : Int)) : l.length ≤ n + 1 := by
 have h1 : (l.map Int.toNat).Nodup := by
  rw [List.nodup_iff_pairwise_ne, List.pairwise_map]
  refine List.Pairwise.imp_of_mem ?_ hs
  intro a b ha hb' hab
  have := hb a ha
  have := hb b hb'
  omega
 have := List.Nodup.length_le_of_subset h1 (l₂ := List.range (n + 1)) (fun y hy => by
  obtain ⟨x, hx, rfl⟩ := List.mem_map.1 hy
  have := hb x hx
  rw [List.mem_range]; omega)
 simpa using this
structure PTGood (k n : Nat) (x : List (List Int)) (q t : List Stp) (c : List Int) (r' : RunR) : Prop where
 run : runF k n x t = some r'
 e : r'.e = 0
 trim : trimF x.length t r' = (t, 0)
 core : coreF x.length t r' = (c, 0)
 us : ∀ u ∈ r'.used, u ≤ 268435455
 same : PSame.netlabref33_Same.f k t t = some true
 eq : PEqInts.netlabref32_EqInts.f k c c = some true
 le : t.length ≤ q.length
 pos : 0 < t.length
 last : (rd_T45 t ((t.length - 1 : Nat) : Int)).f0 = []
 noGone : ∀ i : Nat, i < t.length → (rd_T45 t (i : Int)).f1 = false
 later : ∀ j : Nat, j < t.length → j ≠ t.length - 1 → ∃ i : Nat, i < t.length ∧ j < i ∧ ((x.length + j + 1 : Nat) : Int) ∈ (rd_T45 t (i : Int)).f2
 sizes : ∀ y ∈ t, y.f0.length ≤ 12 ∧ y.f2.length ≤ 40
 has : ∀ (i : Nat) (y : Int), i < t.length → PHas.netlabref32_Has.f k (rd_T45 t (i : Int)).f2 y = some ((rd_T45 t (i : Int)).f2.contains y)
structure PTOwed (k : Nat) (vars : Int) (cls : List (List Int)) (more : List Stp) (n : Nat) (x : List (List Int)) (m q : List Stp) (r : RunR) (t : List Stp) (c : List Int) : Prop where
 fit : PFit.netlabref32_Fit.f k vars cls 6 30 = some ((n : Int), x)
 hn : n ≤ 6
 lx : x.length ≤ 40
 lxs : ∀ l ∈ x, l.length ≤ 12
 fewT : PFewT.netlabref33_Few.f k (more.map sT) 10 = some (m.map sT)
 hq : q = (growL x n [] []).1 ++ m
 lm : m.length ≤ 10
 lq : q.length ≤ 200
 lqs : ∀ y ∈ q, y.f0.length ≤ 12 ∧ y.f2.length ≤ 40
 run : runF k n x q = some r
 us : ∀ u ∈ r.used, u ≤ 268435455
 trim : trimF x.length q r = (t, r.e)
 core : coreF x.length q r = (c, r.e)
 good : r.e = 0 → ∃ r', PTGood k n x q t c r'
theorem pt_owed (vars : Int) (cls : List (List Int)) (more : List Stp) : ∃ k n x m q r t c, PTOwed k vars cls more n x m q r t c := by
 obtain ⟨n, x, hn, hLl, hLok, kf, hkf⟩ := fit_ev 6 30 (by decide) (by decide) vars cls
 have hfine : Fine n x := ⟨by omega, hLok⟩
 obtain ⟨m, hm⟩ : ∃ m, fewS 10 more = m := ⟨_, rfl⟩
 obtain ⟨q, hq⟩ : ∃ q, (growL x n [] []).1 ++ m = q := ⟨_, rfl⟩
 have lm : m.length ≤ 10 := by rw [← hm]; exact fewS_len _ _
 have lms : ∀ y ∈ m, y.f0.length ≤ 12 ∧ y.f2.length ≤ 40 := by rw [← hm]; intro y hy; exact fewS_sizes hy
 have hpow : 2 ^ (n + 1) ≤ 128 := Nat.le_trans (Nat.pow_le_pow_right (by decide) (show n + 1 ≤ 7 by omega)) (by decide)
 have lg := growL_len x n [] []
 have lgs := growL_sizes x 12 n [] [] (by simp; omega) (fun y hy => by cases hy)
 have lq : q.length ≤ 200 := by
  rw [← hq, List.length_append]
  simp only [List.length_nil] at lg
  omega
 have lqs : ∀ y ∈ q, y.f0.length ≤ 12 ∧ y.f2.length ≤ 40 := by
  rw [← hq]; intro y hy
  rcases List.mem_append.1 hy with h | h
  ·exact lgs y h
  ·exact lms y h
 have lqs6 : ∀ y ∈ q, y.f2.length ≤ 1000000 := fun y hy => by have := lqs y hy; omega
 obtain ⟨K2, h2⟩ := fewS_ev 10 (by decide) more
 rw [hm] at h2
 obtain ⟨K3, r, h3⟩ := run_evT n x q (by omega) hfine (by omega)
 have hr := (h3 K3 (Nat.le_refl _)).1
 have hc0 := (h3 K3 (Nat.le_refl _)).2
 obtain ⟨t, ht⟩ : ∃ t, (trimF x.length q r).1 = t := ⟨_, rfl⟩
 obtain ⟨c, hc⟩ : ∃ c, (coreF x.length q r).1 = c := ⟨_, rfl⟩
 have htr : trimF x.length q r = (t, r.e) := by
  rw [← ht]
  unfold trimF
  split
  ·rename_i he; simp [he]
  ·rfl
 have hco : coreF x.length q r = (c, r.e) := by
  rw [← hc]
  unfold coreF
  split
  ·rename_i he; simp [he]
  ·rfl
 have hgood : r.e = 0 → ∃ K, ∀ k, K ≤ k → ∃ r', PTGood k n x q t c r' := by
  intro he
  have ha := (runF_acc hr he).1
  obtain ⟨ns, hu⟩ := used_is ha
  obtain ⟨φ, hT⟩ := trim_is ha hu he
  rw [ht] at hT
  obtain ⟨e1, hpos, hlast⟩ := hT.en ha hu
  have ha' := (hT.run ha hu hc0).2.1
  have hle := (hT.run ha hu hc0).2.2
  have hsz : ∀ y ∈ t, y.f0.length ≤ 12 ∧ y.f2.length ≤ 40 := by
   intro y hy
   obtain ⟨i, hi, rfl⟩ := List.mem_iff_getElem.1 hy
   obtain ⟨hn', hp', e⟩ := hT.get hu hi
   rw [e]
   have hs := lqs _ (List.getElem_mem hp')
   refine ⟨hs.1, ?_⟩
   simp only [List.length_map]
   unfold hintsAt
   rw [rdS hp', List.length_take]; omega
  have hcl : c.length ≤ 1000000000 := by
   have hcc : c = (coreF x.length q r).1 := hc.symm
   unfold coreF at hcc
   rw [if_pos he] at hcc
   obtain ⟨s1, m1⟩ := compact_sort (coreOut q r.used x.length (neededL q r.used r.byL x.length r.en))
   have hb := sorted_len (n := x.length) s1 (fun z hz => by
    have hz' := (mem_core ha z).1 ((m1 z).1 hz)
    obtain ⟨h1, i, h2, _, h4⟩ := hz'
    obtain ⟨E, hE, hEl⟩ := acc_en ha
    exact ⟨(acc_hint ha (show i < q.length by omega) h4).1, h1⟩)
   rw [hcc]
   simp only
   omega
  obtain ⟨K4, h4⟩ := same_ev t (by omega) (fun y hy => by have := hsz y hy; omega)
  obtain ⟨K5, h5⟩ := eqInts_ev c hcl
  refine ⟨K3 + K4 + K5 + 100, fun k hk => ⟨trimRun t, ?_⟩⟩
  have hrun := (hT.run ha hu (h3 k (by omega)).2).1
  refine ⟨hrun, rfl, hT.again ha hu ha', ?_, run_us hrun (fun y hy => by have := hsz y hy; omega), h4 _ (by omega), h5 _ (by omega), hle, hpos, ?_, ?_, ?_, hsz, ?_⟩
  ·rw [hT.core ha hu ha' he, hco, he]
  ·have hl : t.length - 1 < t.length := by omega
   rw [rdS hl]; exact hlast hl
  ·intro i hi
   rw [rdS hi]; exact hT.noGone hu _ (List.getElem_mem hi)
  ·intro j hj hj1
   obtain ⟨i, hi, hji, hmem⟩ := hT.later ha hu hj hj1
   exact ⟨i, hi, hji, by rw [rdS hi]; exact hmem⟩
  ·intro i y hi
   rw [rdS hi]
   have := hsz _ (List.getElem_mem hi)
   exact has_all k _ y (by omega) (by omega)
 have hK : ∃ K, ∀ k, K ≤ k → r.e = 0 → ∃ r', PTGood k n x q t c r' := by
  by_cases he : r.e = 0
  ·obtain ⟨K, h⟩ := hgood he
   exact ⟨K, fun k hk _ => h k hk⟩
  ·exact ⟨0, fun _ _ h => absurd h he⟩
 obtain ⟨K6, h6⟩ := hK
 exact ⟨kf + K2 + K3 + K6, n, x, m, q, r, t, c, ⟨hkf _ (by omega), hn, hfine.1, fun l hl => (hLok l hl).1, h2 _ (by omega), hq.symm, lm, lq, lqs, (h3 _ (by omega)).1, run_us hr lqs6, htr, hco, h6 _ (by omega)⟩⟩
def usedB (t : List Stp) (N j : Nat) : Nat → Bool
 | 0 => decide (j = t.length - 1)
 | n + 1 => usedB t N j n || (decide (j < n) && (rd_T45 t (n : Int)).f2.contains ((N + j + 1 : Nat) : Int))
theorem usedB_low {t : List Stp} {N j : Nat} : ∀ n, n ≤ j + 1 → usedB t N j n = decide (j = t.length - 1)
 | 0, _ => rfl
 | n + 1, h => by
  rw [usedB, usedB_low n (by omega), decide_eq_false (by omega : ¬ j < n)]
  simp
theorem usedB_mem {t : List Stp} {N j i : Nat} (hji : j < i) (hm : ((N + j + 1 : Nat) : Int) ∈ (rd_T45 t (i : Int)).f2) : ∀ n, i < n → usedB t N j n = true
 | 0, h => absurd h (Nat.not_lt_zero _)
 | n + 1, h => by
  rw [usedB]
  by_cases hin : i = n
  ·subst hin
   rw [decide_eq_true hji, List.contains_iff_mem.2 hm]; simp
  ·rw [usedB_mem hji hm n (by omega)]; rfl
theorem usedB_all {t : List Stp} {N j : Nat} (hl : j ≠ t.length - 1 → ∃ i : Nat, i < t.length ∧ j < i ∧ ((N + j + 1 : Nat) : Int) ∈ (rd_T45 t (i : Int)).f2) (hj : j < t.length) : usedB t N j t.length = true := by
 by_cases h : j = t.length - 1
 ·rw [usedB_low t.length (by omega), decide_eq_true h]
 ·obtain ⟨i, h1, h2, h3⟩ := hl h
  exact usedB_mem h2 h3 _ h1
end Go.Proofs.YtogicccdngpafaaDoor.NPlain
end
