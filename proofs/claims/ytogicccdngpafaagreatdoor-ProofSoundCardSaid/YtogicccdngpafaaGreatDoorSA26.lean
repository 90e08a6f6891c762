/-
  Part 26 of the proof of proofSound_card: walks and lemmas, packed by the session's own wip/pack.py out of its texts and of what the kit's print.sh printed.
-/
import Derived.Test.YtogicccdngpafaaGreatDoorSA14
import Derived.Test.YtogicccdngpafaaGreatDoorSA25
import Derived.Test.YtogicccdngpafaaGreatDoorSA20
import Derived.Test.YtogicccdngpafaaGreatDoorSA17
set_option linter.unusedVariables false
set_option linter.unusedSimpArgs false
section
set_option maxRecDepth 100000
namespace Go.Proofs.YtogicccdngpafaaGreatDoor.NPlain
open Go Go.RowKit QW.PrintWords QW.PrintLast QW.PrintMore NState
open PCheck (cnf_Check.f)
open PSame (rd_T42)
theorem left_num (S l : List Int) : (leftL S 0 0 l).2 = 0 ∨ (leftL S 0 0 l).2 = 1 ∨ (leftL S 0 0 l).2 = 2 := by
 rw [left_open (A := S) (fun _ => rfl)]
 match openL S [] l with
 | [] => exact .inl rfl
 | [x] => exact .inr (.inl rfl)
 | _ :: _ :: _ => exact .inr (.inr rfl)
theorem derive_sound {n : Nat} (hn : n ≤ 100000) {M : List Int} (hc : Cons M) {P : List (Option (List Int))} : ∀ (hs S : List Int) (i u : Int), deriveL P S i hs = (u, true) →
  (∀ h ∈ hs.take (u - i).toNat, ∀ l, lookP P h = some l → (∃ x ∈ l, M.contains x = true) ∧ ∀ x ∈ l, LitOk n x) → Sub S M → False
 | [], S, i, u, h, _, _ => by simp [deriveL] at h
 | h0 :: hs, S, i, u, h, hl, hS => by
  have htk := (deriveL_took P (h0 :: hs) S i u h).1
  have e : (u - i).toNat = (u - (i + 1)).toNat + 1 := by omega
  have hmem : h0 ∈ (h0 :: hs).take (u - i).toNat := by rw [e, List.take_succ_cons]; exact List.mem_cons_self
  cases hlk : lookP P h0 with
  | none => rw [deriveL, hlk] at h; simp at h
  | some l =>
   obtain ⟨⟨y, hy, hym⟩, hlo⟩ := hl h0 hmem l hlk
   have hw : ∀ x ∈ l, wrap64 (-x) = -x := fun x hx => wneg_lit hn (hlo x hx)
   rw [deriveL, hlk] at h
   dsimp only at h
   by_cases h1 : (leftL S 0 0 l).2 = 0
   ·have hf := left0.1 h1
    have := hS _ (hf y hy)
    rw [hw y hy, hc y hym] at this; cases this
   ·rw [if_neg h1] at h
    by_cases h2 : (leftL S 0 0 l).2 > 1 ∨ S.contains (leftL S 0 0 l).1 = true
    ·rw [if_pos h2] at h; simp at h
    ·rw [if_neg h2] at h
     have h3 : (leftL S 0 0 l).2 = 1 := by
      rcases left_num S l with q | q | q
      ·exact absurd q h1
      ·exact q
      ·exact absurd (.inl (by rw [q]; decide)) h2
     have hu := left1.1 (show leftL S 0 0 l = ((leftL S 0 0 l).1, 1) from Prod.ext rfl h3)
     have hxm : M.contains (leftL S 0 0 l).1 = true := by
      rcases hu.2.2 y hy with e | e
      ·rw [← e]; exact hym
      ·have := hS _ e
       rw [hw y hy, hc y hym] at this; cases this
     refine derive_sound hn hc hs _ _ u h (fun g hg => hl g ?_) (hS.cons hxm)
     rw [e, List.take_succ_cons]; exact List.mem_cons_of_mem _ hg
theorem clause_sound {n : Nat} (hn : n ≤ 100000) {M : List Int} (hc : Cons M) (ht : ∀ i : Nat, 1 ≤ i → i ≤ n → M.contains (i : Int) = true ∨ M.contains (-(i : Int)) = true) {P : List (Option (List Int))} {l hs : List Int} {u : Int} (hlo : ∀ x ∈ l, LitOk n x) (hd : deriveF P l hs = (u, true))
  (hl : ∀ h ∈ hs.take u.toNat, ∀ l', lookP P h = some l' → (∃ x ∈ l', M.contains x = true) ∧ ∀ x ∈ l', LitOk n x) : ∃ x ∈ l, M.contains x = true := by
 refine Classical.byContradiction fun hno => ?_
 have hneg : ∀ x ∈ l, M.contains (-x) = true := fun x hx => (tot_lit ht (hlo x hx)).resolve_left (fun h => hno ⟨x, hx, h⟩)
 have ha := assume_eq l [] (fun x hx => ⟨(hlo x hx).1, wneg_lit hn (hlo x hx)⟩)
 unfold deriveF at hd
 rw [ha] at hd
 split at hd
 ·rename_i heq
  split at heq
  ·rename_i hany
   rw [Bool.or_eq_true] at hany
   rcases hany with h | h
   ·obtain ⟨x, _, h2⟩ := List.any_eq_true.1 h
    simp at h2
   ·obtain ⟨x, hx, h2⟩ := List.any_eq_true.1 h
    rw [wneg_lit hn (hlo x hx), List.contains_iff_mem] at h2
    have h3 := hneg _ h2
    rw [Int.neg_neg] at h3
    exact hno ⟨x, hx, h3⟩
  ·cases heq
 ·rename_i S heq
  split at heq
  ·cases heq
  ·have e := Option.some.inj heq
   refine derive_sound hn hc hs S 0 u hd (by rw [Int.sub_zero]; exact hl) (fun y hy => ?_)
   rw [← e, List.contains_iff_mem] at hy
   simp only [List.append_nil, List.mem_reverse, List.mem_map] at hy
   obtain ⟨x, hx, rfl⟩ := hy
   rw [wneg_lit hn (hlo x hx)]
   exact hneg x hx
theorem lit_of_bad {n : Nat} (hn : n ≤ 100000) {l : List Int} (h : l.any (badLit n) = false) : ∀ x ∈ l, LitOk n x := by
 intro x hx
 have hb := List.any_eq_false.1 h x hx
 have hw : wrap64 (-(n : Int)) = -(n : Int) := wneg (by omega) (by omega)
 unfold badLit at hb
 rw [hw, Bool.not_eq_true, Bool.or_eq_false_iff, Bool.or_eq_false_iff] at hb
 obtain ⟨⟨h1, h2⟩, h3⟩ := hb
 have h1' : ¬ x = 0 := by simpa using h1
 have h2' := of_decide_eq_false h2
 have h3' := of_decide_eq_false h3
 exact ⟨h1', by omega, by omega⟩
theorem core_sound {n : Nat} (hn : n ≤ 100000) {cls : List (List Int)} (hlo : ∀ l ∈ cls, ∀ x ∈ l, LitOk n x) {p : List Stp} {r : RunR} (ha : AccIs n cls p r) {M : List Int} (hc : Cons M) (ht : ∀ i : Nat, 1 ≤ i → i ≤ n → M.contains (i : Int) = true ∨ M.contains (-(i : Int)) = true)
  (hcore : ∀ c ∈ coreOut p r.used cls.length (neededL p r.used r.byL cls.length r.en), ∀ l, cls[(c - 1).toNat]? = some l → ∃ x ∈ l, M.contains x = true) : False := by
 obtain ⟨ns, hu⟩ := used_is ha
 have key : ∀ i, ∀ hi : i < p.length, i ∈ ns → ∃ x ∈ p[i].f0, M.contains x = true := by
  intro i
  induction i using Nat.strongRecOn with
  | ind i ih =>
  intro hlt hi
  have hg := hu.add i hlt hi
  obtain ⟨hb, P', hd, hl⟩ := acc_clause ha hlt hg
  refine clause_sound hn hc ht (lit_of_bad hn hb) hd (fun h hh l hlk => ?_)
  have hh' : h ∈ hintsAt p r.used i := by unfold hintsAt; rw [rdS hlt]; exact hh
  obtain ⟨q1, q2, q3⟩ := hl h l hlk
  by_cases hle : h ≤ (cls.length : Int)
  ·have hm := (hu.mem i).1 hi
   have hcm := (mem_core ha h).2 ⟨hle, i, hm.1, hm.2, hh'⟩
   exact ⟨hcore h hcm l (q2 hle), hlo l (List.mem_of_getElem? (q2 hle))⟩
  ·obtain ⟨s, hs, hst, hsi, hg', he⟩ := q3 (by omega)
   have hsn := hu.up i hi h hh' s hst
   rw [← he]
   exact ⟨ih s hsi hs hsn, lit_of_bad hn (acc_clause ha hs hg').1⟩
 obtain ⟨E, hE, hEn⟩ := hu.en
 obtain ⟨E', hE', he, _, h0, _⟩ := acc_first ha
 have hee : E = E' := by rw [hE] at he; omega
 subst hee
 obtain ⟨x, hx, _⟩ := key E hE' hEn
 rw [h0] at hx; cases hx
end Go.Proofs.YtogicccdngpafaaGreatDoor.NPlain
end
section
set_option maxRecDepth 100000
namespace Go.Proofs.YtogicccdngpafaaGreatDoor.NPlain
open Go Go.RowKit QW.PrintWords QW.PrintLast QW.PrintMore NState
open PCheck (cnf_Check.f rL)
open PSame (rd_T42)
theorem run_evS (n : Nat) (x : List (List Int)) (q : List Stp) (hn : n ≤ 4096) (hf : Fine n x) (hq : q.length ≤ 65536) : ∃ K r, ∀ k, K ≤ k → runF k n x q = some r ∧ cnf_Check.f k n x = some 0 := by
 obtain ⟨K, hK⟩ := check_fine hn hf
 replace hK : ∀ k, K ≤ k → cnf_Check.f k n x = some 0 := hK
 refine ⟨K, runL n (x.map some) [] [] (-1) 0 q, fun k hk => ⟨?_, hK k hk⟩⟩
 unfold runF
 rw [hK k hk, Option.bind_some, if_pos rfl, if_pos hq]
theorem run_usS {k : Nat} {vars : Int} {x : List (List Int)} {q : List Stp} {r : RunR} (hr : runF k vars x q = some r) (hx : ∀ y ∈ q, y.f2.length ≤ 1000000) : ∀ u ∈ r.used, u ≤ 268435455 := by
 intro u hu
 have : r.used = [] ∨ ∃ P, r = runL vars P [] [] (-1) 0 q := by
  unfold runF at hr
  obtain ⟨e0, _, hr⟩ := Option.bind_eq_some_iff.mp hr
  split at hr
  ·split at hr
   ·exact .inr ⟨_, (Option.some.inj hr).symm⟩
   ·left; rw [← Option.some.inj hr]
  ·left; rw [← Option.some.inj hr]
 rcases this with h | ⟨P, h⟩
 ·rw [h] at hu; cases hu
 ·rw [h] at hu
  have hgen : ∀ (xs : List Stp) (P : List (Option (List Int))) (us byL : List Int) (en i : Int), (∀ y ∈ xs, y.f2.length ≤ 1000000) → (∀ u ∈ us, u ≤ 268435455) → ∀ u ∈ (runL vars P us byL en i xs).used, u ≤ 268435455 := by
   intro xs
   induction xs with
   | nil => intro P us byL en i _ h u hu; exact h u hu
   | cons y ys ih =>
    intro P us byL en i hy h u hu
    have hr := (stepF_range vars P y.f0 y.f1 y.f2).2
    have hyl := hy y (by simp)
    have h' : ∀ u ∈ us ++ [(stepF vars P y.f0 y.f1 y.f2).2.1], u ≤ 268435455 := by
     intro u hu
     rcases List.mem_append.1 hu with hu | hu
     ·exact h u hu
     ·rw [List.mem_singleton] at hu; omega
    rw [runL] at hu
    split at hu
    ·exact h u hu
    split at hu
    ·exact ih _ _ _ _ _ (fun z hz => hy z (List.mem_cons_of_mem _ hz)) h' u hu
    ·exact ih _ _ _ _ _ (fun z hz => hy z (List.mem_cons_of_mem _ hz)) h' u hu
  exact hgen q P [] [] (-1) 0 hx (fun u hu => by cases hu) u hu
theorem sorted_lenS {n : Nat} {l : List Int} (hs : l.Pairwise (· < ·)) (hb : ∀ x ∈ l, 1 ≤ x ∧ x ≤ (n : Int)) : l.length ≤ n + 1 := by
 have h1 : (l.map Int.toNat).Nodup := by
  rw [List.nodup_iff_pairwise_ne, List.pairwise_map]
  refine List.Pairwise.imp_of_mem ?_ hs
  intro a b ha hb' hab
  have := hb a ha
  have := hb b hb'
  omega
 have := List.Nodup.length_le_of_subset h1 (l₂ := List.range (n + 1)) (fun y hy => by
  obtain ⟨x, hx, rfl⟩ := List.mem_map.1 hy
  have := hb x hx
  rw [List.mem_range]; omega)
 simpa using this
structure PSGood (k n : Nat) (x : List (List Int)) (q : List Stp) (r : RunR) (core : List Int) : Prop where
 coreE : coreF x.length q r = (core, 0)
 lc : core.length ≤ 31
 srt : core.Pairwise (· < ·)
 rng : ∀ c ∈ core, 1 ≤ c ∧ c ≤ (x.length : Int)
 lits : ∀ l ∈ core.map fun c => rL x (c - 1), l.length ≤ 12 ∧ ∀ y ∈ l, LitOk n y
 chk : cnf_Check.f k n (core.map fun c => rL x (c - 1)) = some 0
 nox : ¬ ∃ M, Mod n x M
 nof : ¬ ∃ M, Mod n (core.map fun c => rL x (c - 1)) M
def soundQ (built : Bool) (q0 q1 : List Stp) (i : Nat) (w1 : Stp) : List Stp := if built = true then (if 0 < q1.length then q1.set i w1 else q1) else q0
structure PSOwed (k : Nat) (vars : Int) (cls : List (List Int)) (p0 : List Stp) (built : Bool) (at_ : Int) (wst : Stp) (n : Nat) (x : List (List Int)) (q0 q1 : List Stp) (gi : Int) (ok : Bool) (i : Nat) (w1 : Stp) (r : RunR) : Prop where
 fit : PFit.nFt.f k vars cls 6 30 = some ((n : Int), x)
 hn : n ≤ 6
 lx : x.length ≤ 30
 lxs : ∀ l ∈ x, l.length ≤ 12 ∧ ∀ y ∈ l, LitOk n y
 chk : cnf_Check.f k n x = some 0
 fewT : PFewT.nfT.f k (p0.map sT) 80 = some (q0.map sT)
 fewW : PFewT.nfT.f k ([wst].map sT) 1 = some ([w1].map sT)
 lq0 : q0.length ≤ 80
 grow : growL x n [] [] = (q1, gi, ok)
 lq1 : q1.length ≤ 200
 bring : 0 < q1.length → PFit.nBr.f at_ (q1.length : Int) = some (i : Int) ∧ i < q1.length
 sizes : ∀ y ∈ soundQ built q0 q1 i w1, y.f0.length ≤ 12 ∧ y.f2.length ≤ 40
 run : runF k n x (soundQ built q0 q1 i w1) = some r
 us : ∀ u ∈ r.used, u ≤ 268435455
 bad : r.e ≠ 0 → coreF x.length (soundQ built q0 q1 i w1) r = ([], r.e)
 good : r.e = 0 → ∃ core, PSGood k n x (soundQ built q0 q1 i w1) r core
theorem ps_owed (vars : Int) (cls : List (List Int)) (p0 : List Stp) (built : Bool) (at_ : Int) (wst : Stp) : ∃ k n x q0 q1 gi ok i w1 r, PSOwed k vars cls p0 built at_ wst n x q0 q1 gi ok i w1 r := by
 obtain ⟨n, x, hn, hLl, hLok, kf, hkf⟩ := fit_ev 6 30 (by decide) (by decide) vars cls
 have hfine : Fine n x := ⟨by omega, hLok⟩
 have hlo : ∀ l ∈ x, ∀ y ∈ l, LitOk n y := fun l hl => (hLok l hl).2
 obtain ⟨q0, hq0⟩ : ∃ q, fewS 80 p0 = q := ⟨_, rfl⟩
 obtain ⟨w1, hw1⟩ : ∃ w1, fewS 1 [wst] = [w1] := ⟨_, rfl⟩
 obtain ⟨⟨q1, gi, ok⟩, hg⟩ : ∃ g, growL x n [] [] = g := ⟨_, rfl⟩
 have hpow : 2 ^ (n + 1) ≤ 128 := Nat.le_trans (Nat.pow_le_pow_right (by decide) (show n + 1 ≤ 7 by omega)) (by decide)
 have lg := growL_len x n [] []
 have lgs := growL_sizes x 12 n [] [] (by simp; omega) (fun y hy => by cases hy)
 rw [hg] at lg lgs
 have lq1 : q1.length ≤ 200 := by simp only [List.length_nil] at lg; omega
 have lq0 : q0.length ≤ 80 := by rw [← hq0]; exact fewS_len _ _
 obtain ⟨i, hi⟩ : ∃ i : Nat, 0 < q1.length → PFit.nBr.f at_ (q1.length : Int) = some (i : Int) ∧ i < q1.length := by
  by_cases h : 0 < q1.length
  ·obtain ⟨t, ht, ht0, ht1⟩ := bring_ok at_ (m := (q1.length : Int)) (by omega) (by omega)
   obtain ⟨i, rfl⟩ := Int.eq_ofNat_of_zero_le ht0
   exact ⟨i, fun _ => ⟨ht, by omega⟩⟩
  ·exact ⟨0, fun h' => absurd h' h⟩
 have hsz0 : ∀ y ∈ q0, y.f0.length ≤ 12 ∧ y.f2.length ≤ 40 := by rw [← hq0]; intro y hy; exact fewS_sizes hy
 have hszw : w1.f0.length ≤ 12 ∧ w1.f2.length ≤ 40 := fewS_sizes (p := [wst]) (most := 1) (by rw [hw1]; simp)
 obtain ⟨q, hq⟩ : ∃ q, soundQ built q0 q1 i w1 = q := ⟨_, rfl⟩
 have hsz : ∀ y ∈ q, y.f0.length ≤ 12 ∧ y.f2.length ≤ 40 := by
  rw [← hq]; unfold soundQ
  intro y hy
  split at hy
  ·split at hy
   ·rcases List.mem_or_eq_of_mem_set hy with h | h
    ·exact lgs y h
    ·rw [h]; exact hszw
   ·exact lgs y hy
  ·exact hsz0 y hy
 have lq : q.length ≤ 200 := by
  rw [← hq]; unfold soundQ
  split
  ·split
   ·simp only [List.length_set]; exact lq1
   ·exact lq1
  ·omega
 obtain ⟨K2, h2⟩ := fewS_ev 80 (by decide) p0
 rw [hq0] at h2
 obtain ⟨K4, h4⟩ := fewS_ev 1 (by decide) [wst]
 rw [hw1] at h4
 obtain ⟨K3, r, h3⟩ := run_evS n x q (by omega) hfine (by omega)
 have hr := (h3 K3 (Nat.le_refl _)).1
 have hbad : r.e ≠ 0 → coreF x.length q r = ([], r.e) := fun h => by unfold coreF; rw [if_neg h]
 have hgood : ∃ K, ∀ k, K ≤ k → r.e = 0 → ∃ core, PSGood k n x q r core := by
  by_cases he : r.e = 0
  ·have ha := (runF_acc hr he).1
   obtain ⟨s1, m1⟩ := compact_sort (coreOut q r.used x.length (neededL q r.used r.byL x.length r.en))
   have hco : coreF x.length q r = (Lib.compact ((coreOut q r.used x.length (neededL q r.used r.byL x.length r.en)).mergeSort fun x y => decide (x ≤ y)), 0) := by unfold coreF; rw [if_pos he]
   generalize Lib.compact ((coreOut q r.used x.length (neededL q r.used r.byL x.length r.en)).mergeSort fun x y => decide (x ≤ y)) = core at s1 m1 hco
   have hrng : ∀ z ∈ core, 1 ≤ z ∧ z ≤ (x.length : Int) := fun z hz => by
    obtain ⟨h1, i, h2, _, h4⟩ := (mem_core ha z).1 ((m1 z).1 hz)
    obtain ⟨E, hE, hEl⟩ := acc_en ha
    exact ⟨(acc_hint ha (show i < q.length by omega) h4).1, h1⟩
   have hlc := sorted_lenS s1 hrng
   have hat : ∀ c ∈ core, ∃ h : (c - 1).toNat < x.length, rL x (c - 1) = x[(c - 1).toNat] := fun c hc => by
    obtain ⟨h1, h2⟩ := hrng c hc
    have h : (c - 1).toNat < x.length := by omega
    exact ⟨h, by unfold rL; rw [List.getD_eq_getElem?_getD, List.getElem?_eq_getElem h, Option.getD_some]⟩
   have hlits : ∀ l ∈ core.map fun c => rL x (c - 1), l.length ≤ 12 ∧ ∀ y ∈ l, LitOk n y := fun l hl => by
    obtain ⟨c, hc, rfl⟩ := List.mem_map.1 hl
    obtain ⟨h, e⟩ := hat c hc
    simp only [e]
    exact hLok _ (List.getElem_mem _)
   have hnof : ¬ ∃ M, Mod n (core.map fun c => rL x (c - 1)) M := fun ⟨M, hM⟩ => by
    refine core_sound (by omega) hlo ha hM.cons hM.tot (fun c hc l hl => ?_)
    have hcm := (m1 c).2 hc
    obtain ⟨h, e⟩ := hat c hcm
    have hx := hM.all (rL x (c - 1)) (List.mem_map.2 ⟨c, hcm, rfl⟩)
    rw [e] at hx
    rw [List.getElem?_eq_getElem h] at hl
    rw [← Option.some.inj hl]; exact hx
   have hnox : ¬ ∃ M, Mod n x M := fun ⟨M, hM⟩ => hnof ⟨M, hM.cons, hM.tot, fun l hl => by
    obtain ⟨c, hc, rfl⟩ := List.mem_map.1 hl
    obtain ⟨h, e⟩ := hat c hc
    simp only [e]
    exact hM.all _ (List.getElem_mem _)⟩
   obtain ⟨K5, h5⟩ := check_fine (show n ≤ 4096 by omega) (show Fine n (core.map fun c => rL x (c - 1)) from ⟨by simp; omega, hlits⟩)
   exact ⟨K5, fun k hk _ => ⟨core, hco, by omega, s1, hrng, hlits, h5 _ hk, hnox, hnof⟩⟩
  ·exact ⟨0, fun k _ h => absurd h he⟩
 obtain ⟨K6, h6⟩ := hgood
 refine ⟨kf + K2 + K3 + K4 + K6, n, x, q0, q1, gi, ok, i, w1, r, hkf _ (by omega), hn, hLl, hLok, (h3 _ (by omega)).2, h2 _ (by omega), h4 _ (by omega), lq0, hg, lq1, hi, ?_, ?_, ?_, ?_, ?_⟩
 ·rw [hq]; exact hsz
 ·rw [hq]; exact (h3 _ (by omega)).1
 ·exact run_usS hr (fun y hy => by have := hsz y hy; omega)
 ·rw [hq]; exact hbad
 ·rw [hq]; exact h6 _ (by omega)
end Go.Proofs.YtogicccdngpafaaGreatDoor.NPlain
end
