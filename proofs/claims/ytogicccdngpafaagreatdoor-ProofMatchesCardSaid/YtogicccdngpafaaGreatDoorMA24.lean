/-
  Part 24 of the proof of proofMatches_card: walks and lemmas, packed by the session's own wip/pack.py out of its texts and of what the kit's print.sh printed.
-/
import Derived.Test.YtogicccdngpafaaGreatDoorMA22
import Derived.Test.YtogicccdngpafaaGreatDoorMA19
import Derived.Test.YtogicccdngpafaaGreatDoorMA17
import Derived.Test.YtogicccdngpafaaGreatDoorMA23
import Derived.Test.YtogicccdngpafaaGreatDoorMA5
section
namespace Go.Proofs.YtogicccdngpafaaGreatDoor.NPlain
open Go Go.RowKit Go.Proofs.YtogicccdngpafaaGreatDoorW.PrintWords Go.Proofs.YtogicccdngpafaaGreatDoorW.PrintLast Go.Proofs.YtogicccdngpafaaGreatDoorW.PrintMore Go.Proofs.YtogicccdngpafaaGreatDoor.NState
open Go.Proofs.YtogicccdngpafaaGreatDoor.PCheck (cnf_Check.f)
open Go.Proofs.YtogicccdngpafaaGreatDoor.PSame (rd_T42)
def sT (x : Stp) : PFewT.S42 := ⟨x.f0, x.f1, x.f2⟩
theorem C_sT {w : World} {A : Option Addr} {n : Nat} {p : List Stp} (h : Kd.C kStp w A n p) : Kd.C PFewT.k42 w A n (p.map sT) := by
 obtain ⟨h1, h2, h3⟩ := h
 refine ⟨by simpa using h1, h2, fun hp => ?_⟩
 obtain ⟨ad, h4, h5⟩ := h3 hp
 refine ⟨ad, h4, fun j x hj => ?_⟩
 rw [List.getElem?_map] at hj
 cases hx : p[j]? with
 | none => rw [hx] at hj; cases hj
 | some y =>
  rw [hx] at hj
  obtain rfl := Option.some.inj hj
  exact h5 j y hx
theorem C_ofT {w : World} {A : Option Addr} {n : Nat} {p : List Stp} (h : Kd.C PFewT.k42 w A n (p.map sT)) : Kd.C kStp w A n p := by
 obtain ⟨h1, h2, h3⟩ := h
 refine ⟨by simpa using h1, h2, fun hp => ?_⟩
 obtain ⟨ad, h4, h5⟩ := h3 hp
 refine ⟨ad, h4, fun j x hj => ?_⟩
 exact h5 j (sT x) (by rw [List.getElem?_map, hj]; rfl)
def fewS (most : Nat) (p : List Stp) : List Stp := (p.take most).map fun x => ⟨x.f0.take 12, x.f1, x.f2.take 40⟩
theorem fewS_len (most : Nat) (p : List Stp) : (fewS most p).length ≤ most := by simp [fewS]; omega
theorem fewS_sizes {most : Nat} {p : List Stp} {x : Stp} (h : x ∈ fewS most p) : x.f0.length ≤ 12 ∧ x.f2.length ≤ 40 := by
 unfold fewS at h
 obtain ⟨y, _, rfl⟩ := List.mem_map.1 h
 simp; omega
theorem rdFT {p : List Stp} {i : Nat} (h : i < p.length) : PFewT.rd_T42 (p.map sT) (i : Int) = sT p[i] := by simp [PFewT.rd_T42, List.getD, h]
theorem fewT_ev (most : Nat) (hm : most ≤ 100000) (p : List Stp) : Ev (fun k => PFewT.netlabref33_Few.f k (p.map sT) (most : Int)) ((fewS most p).map sT) := by
 have key : ∀ i : Nat, i ≤ min most p.length → Ev (fun k => PFewT.netlabref33_Few.l0 k (p.map sT) (most : Int) ((fewS i p).map sT) (i : Int)) ((fewS most p).map sT) := by
  refine down ?_ ?_
  ·refine Ev.succ ?_
   simp only [PFewT.netlabref33_Few.l0]
   have e : fewS (min most p.length) p = fewS most p := by
    unfold fewS
    congr 1
    rw [List.take_eq_take_iff]
    omega
   rw [e]
   by_cases h : most < p.length
   ·exact Ev.pos (by rw [List.length_map]; omega) (Ev.neg (by omega) (Ev.pure _))
   ·exact Ev.neg (by rw [List.length_map]; omega) (Ev.pure _)
  ·intro i hi ih
   refine Ev.succ ?_
   simp only [PFewT.netlabref33_Few.l0]
   have hic : i < p.length := by omega
   rw [rdFT hic, wrap_succ (n := 100000) (by omega) (by omega)]
   have h1 : mn (((sT p[i]).f0.length : Nat) : Int) 12 = ((min p[i].f0.length 12 : Nat) : Int) := by simp only [sT]; unfold mn; split <;> omega
   have h2 : mn (((sT p[i]).f2.length : Nat) : Int) 40 = ((min p[i].f2.length 40 : Nat) : Int) := by simp only [sT]; unfold mn; split <;> omega
   rw [h1, h2]
   have hl := fewS_len i p
   have g1 : (sT p[i]).f0.length = p[i].f0.length := rfl
   have g2 : (sT p[i]).f2.length = p[i].f2.length := rfl
   refine Ev.pos (by rw [List.length_map]; omega) (Ev.pos (by omega) (Ev.pos (by omega) (Ev.pos (by omega) (Ev.pos (by omega) (Ev.pos (by simp; omega) (Ev.pos (by omega) (Ev.pos (by omega) (Ev.pos (by simp; omega) (Ev.pos (by rw [List.length_map]; omega) ?_)))))))))
   have e : (fewS i p).map sT ++ [(⟨([] : List Int) ++ (sT p[i]).f0.take ((min p[i].f0.length 12 : Nat) : Int).toNat, (sT p[i]).f1, ([] : List Int) ++ (sT p[i]).f2.take ((min p[i].f2.length 40 : Nat) : Int).toNat⟩ : PFewT.S42)] = (fewS (i + 1) p).map sT := by
    unfold fewS
    rw [List.take_succ_eq_append_getElem hic, List.map_append, List.map_append]
    congr 1
    simp only [List.map_cons, List.map_nil, List.nil_append, Int.toNat_natCast, sT]
    congr 2
    ·rw [List.take_eq_take_iff]; omega
    ·rw [List.take_eq_take_iff]; omega
   rw [e]
   exact ih
 exact key 0 (Nat.zero_le _)
theorem eqIntsS_ev0 (l : List Int) (hl : l.length ≤ 1000000000) : ∀ i : Nat, i ≤ l.length → Ev (fun k => PSame.netlabref32_EqInts.l0 k l l (i : Int)) true := by
 refine down ?_ ?_
 ·refine Ev.succ ?_
  simp only [PSame.netlabref32_EqInts.l0]
  exact Ev.neg (by omega) (Ev.pure _)
 ·intro i hi ih
  refine Ev.succ ?_
  simp only [PSame.netlabref32_EqInts.l0]
  refine Ev.pos (by omega) (Ev.pos (by omega) (Ev.pos (by omega) ?_))
  rw [wrap_succ hi (by omega)]
  simp only [if_true]
  exact ih
theorem eqIntsS_ev (l : List Int) (hl : l.length ≤ 1000000000) : Ev (fun k => PSame.netlabref32_EqInts.f k l l) true := by
 simp only [PSame.netlabref32_EqInts.f]
 exact Ev.pos trivial (eqIntsS_ev0 l hl 0 (Nat.zero_le _))
theorem eqIntsC_ev0 (l : List Int) (hl : l.length ≤ 1000000000) : ∀ i : Nat, i ≤ l.length → Ev (fun k => PSameC.netlabref32_EqInts.l0 k l l (i : Int)) true := by
 refine down ?_ ?_
 ·refine Ev.succ ?_
  simp only [PSameC.netlabref32_EqInts.l0]
  exact Ev.neg (by omega) (Ev.pure _)
 ·intro i hi ih
  refine Ev.succ ?_
  simp only [PSameC.netlabref32_EqInts.l0]
  refine Ev.pos (by omega) (Ev.pos (by omega) (Ev.pos (by omega) ?_))
  rw [wrap_succ hi (by omega)]
  simp only [if_true]
  exact ih
theorem eqIntsC_ev (l : List Int) (hl : l.length ≤ 1000000000) : Ev (fun k => PSameC.netlabref32_EqInts.f k l l) true := by
 simp only [PSameC.netlabref32_EqInts.f]
 exact Ev.pos trivial (eqIntsC_ev0 l hl 0 (Nat.zero_le _))
theorem same_ev (p : List Stp) (hp : p.length ≤ 1000000000) (hx : ∀ x ∈ p, x.f0.length ≤ 1000000000 ∧ x.f2.length ≤ 1000000000) : Ev (fun k => PSame.netlabref33_Same.f k p p) true := by
 have key : ∀ i : Nat, i ≤ p.length → Ev (fun k => PSame.netlabref33_Same.l0 k p p (i : Int)) true := by
  refine down ?_ ?_
  ·refine Ev.succ ?_
   simp only [PSame.netlabref33_Same.l0]
   exact Ev.neg (by omega) (Ev.pure _)
  ·intro i hi ih
   refine Ev.succ ?_
   simp only [PSame.netlabref33_Same.l0]
   have hs := hx _ (List.getElem_mem hi)
   rw [rdS hi, wrap_succ hi (by omega)]
   refine Ev.pos (by omega) (Ev.pos (by omega) (Ev.pos (by omega) (Ev.neg (by simp) ?_)))
   exact Ev.bind (eqIntsS_ev _ hs.1) (Ev.pos rfl (Ev.bind (eqIntsS_ev _ hs.2) (Ev.pos rfl ih)))
 simp only [PSame.netlabref33_Same.f]
 exact Ev.pos trivial (key 0 (Nat.zero_le _))
theorem rdSC {l : List (List Int)} {k : Nat} (h : k < l.length) : PSameC.rd_L1 l (k : Int) = l[k] := by simp [PSameC.rd_L1, List.getD, h]
theorem sameC_ev (vars : Int) (c : List (List Int)) (hp : c.length ≤ 1000000000) (hx : ∀ x ∈ c, x.length ≤ 1000000000) : Ev (fun k => PSameC.netlabref32_Same.f k vars c vars c) true := by
 have key : ∀ i : Nat, i ≤ c.length → Ev (fun k => PSameC.netlabref32_EqClauses.l0 k c c (i : Int)) true := by
  refine down ?_ ?_
  ·refine Ev.succ ?_
   simp only [PSameC.netlabref32_EqClauses.l0]
   exact Ev.neg (by omega) (Ev.pure _)
  ·intro i hi ih
   refine Ev.succ ?_
   simp only [PSameC.netlabref32_EqClauses.l0]
   have hs := hx _ (List.getElem_mem hi)
   rw [rdSC hi, wrap_succ hi (by omega)]
   exact Ev.pos (by omega) (Ev.pos (by omega) (Ev.pos (by omega) (Ev.bind (eqIntsC_ev _ hs) (Ev.pos rfl ih))))
 have h2 : Ev (fun k => PSameC.netlabref32_EqClauses.f k c c) true := by
  simp only [PSameC.netlabref32_EqClauses.f]
  exact Ev.pos trivial (key 0 (Nat.zero_le _))
 simp only [PSameC.netlabref32_Same.f]
 exact Ev.pos trivial (Ev.bind h2 (Ev.pure _))
theorem chk_vars {vars : Int} {cls : List (List Int)} (he : chkL vars cls = 0) : 0 ≤ vars ∧ vars ≤ 4096 := by
 unfold chkL at he
 split at he
 ·cases he
 split at he
 ·cases he
 omega
theorem run_ev (vars : Int) (x : List (List Int)) (q : List Stp) (hc : x.length ≤ 100000000) (ht : tot x ≤ 100000000) : ∃ r, Ev (fun k => runF k vars x q) r := by
 have hl : ∀ l ∈ x, l.length ≤ 1000000000 := fun l h => Nat.le_trans (len_tot h) (by omega)
 obtain ⟨K, hK⟩ := check_code vars x (by omega) (by omega) hl
 replace hK : ∀ k, K ≤ k → cnf_Check.f k vars x = some (chkL vars x) := hK
 by_cases he : chkL vars x = 0
 ·by_cases hq : q.length ≤ 65536
  ·refine ⟨runL vars (x.map some) [] [] (-1) 0 q, K, fun k hk => ?_⟩
   show runF k vars x q = _
   unfold runF
   rw [hK k hk, Option.bind_some, if_pos he, if_pos hq]
  ·refine ⟨⟨[], [], 0, 0, 5⟩, K, fun k hk => ?_⟩
   show runF k vars x q = _
   unfold runF
   rw [hK k hk, Option.bind_some, if_pos he, if_neg hq]
 ·refine ⟨⟨[], [], 0, 0, chkL vars x⟩, K, fun k hk => ?_⟩
  show runF k vars x q = _
  unfold runF
  rw [hK k hk, Option.bind_some, if_neg he]
theorem rtL_sizes (p : List Stp) (used : List Int) (n : Nat) (m1 : List Bool) (st : Int → Int) (hx : ∀ x ∈ p, x.f0.length ≤ 1000000 ∧ x.f2.length ≤ 1000000) : ∀ i, ∀ x ∈ (rtL p used n m1 st i).1, x.f0.length ≤ 1000000 ∧ x.f2.length ≤ 1000000
 | 0, x, h => by simp [rtL] at h
 | i + 1, x, h => by
  rw [rtL, rtStep] at h
  split at h
  ·rcases List.mem_append.1 h with h | h
   ·exact rtL_sizes p used n m1 st hx i x h
   ·rw [List.mem_singleton] at h
    subst h
    simp only [List.length_map]
    unfold hintsAt
    have hb : (rd_T42 p (i : Int)).f0.length ≤ 1000000 ∧ (rd_T42 p (i : Int)).f2.length ≤ 1000000 := by
     by_cases hi : i < p.length
     ·rw [rdS hi]; exact hx _ (List.getElem_mem hi)
     ·have : rd_T42 p (i : Int) = PSame.z42 := by simp [rd_T42, List.getD, List.getElem?_eq_none (Nat.le_of_not_lt hi)]
      rw [this]; decide
    refine ⟨hb.1, ?_⟩
    rw [List.length_take]; omega
  ·exact rtL_sizes p used n m1 st hx i x h
def coreR (n : Nat) (q : List Stp) (r : RunR) : List Int := if r.e = 0 then markIdx (coreP q r n) n else []
def trimR (n : Nat) (q : List Stp) (r : RunR) : List Stp := if r.e = 0 then (rtL q r.used n (finP q r n) (stF n r.byL) (r.en.toNat + 1)).1 else []
structure PMOwed (k : Nat) (vars : Int) (cls : List (List Int)) (p : List Stp) (x : List (List Int)) (q : List Stp) (e0 : Int) (r : RunR) : Prop where
 few : PFew.netlabref32_Few.f k vars cls 40 = some (vars, x)
 fewT : PFewT.netlabref33_Few.f k (p.map sT) 80 = some (q.map sT)
 chk : cnf_Check.f k vars x = some e0
 chkR : PRef.netlabref32_Check.f k vars x = some e0
 hv : e0 = 0 → 0 ≤ vars ∧ vars ≤ 4096
 run : runF k vars x q = some r
 lx : x.length ≤ 40
 lxs : ∀ l ∈ x, l.length ≤ 12
 lq : q.length ≤ 80
 lqs : ∀ y ∈ q, y.f0.length ≤ 12 ∧ y.f2.length ≤ 40
 core : coreF x.length q r = (coreR x.length q r, r.e)
 trim : trimF x.length q r = (trimR x.length q r, r.e)
 marks : r.e = 0 → PRef.netlabref33_marks.f k vars x (q.map sP) r.used r.en = some (finP q r x.length, coreP q r x.length)
 m1l : (finP q r x.length).length = q.length
 m2l : (coreP q r x.length).length = x.length
 step : r.e = 0 → ∀ i : Nat, (i : Int) ≤ r.en → rdOf false (finP q r x.length) (i : Int) = true → ∀ h ∈ hintsAt q r.used i, h > (x.length : Int) → PRef.netlabref33_step.f k (q.map sP) h (x.length : Int) = some (stF x.length r.byL h) ∧ 0 ≤ stF x.length r.byL h ∧ stF x.length r.byL h < (q.length : Int)
 us : ∀ u ∈ r.used, u ≤ 268435455
 eqC : PEqInts.netlabref32_EqInts.f k (coreR x.length q r) (coreR x.length q r) = some true
 eqT : PSame.netlabref33_Same.f k (trimR x.length q r) (trimR x.length q r) = some true
 eqX : PSameC.netlabref32_Same.f k vars x vars x = some true
 eqQ : PSame.netlabref33_Same.f k q q = some true
theorem pm_owed (vars : Int) (cls : List (List Int)) (p : List Stp) : ∃ k x q e0 r, PMOwed k vars cls p x q e0 r := by
 obtain ⟨x, hx⟩ : ∃ x, fewL 40 cls = x := ⟨_, rfl⟩
 obtain ⟨q, hq⟩ : ∃ q, fewS 80 p = q := ⟨_, rfl⟩
 have lx : x.length ≤ 40 := by rw [← hx]; exact fewL_len _ _
 have tx : tot x ≤ 480 := by rw [← hx]; exact fewL_tot _ _
 have lxs : ∀ l ∈ x, l.length ≤ 12 := by
  rw [← hx]; intro l hl
  unfold fewL at hl
  obtain ⟨y, _, rfl⟩ := List.mem_map.1 hl
  simp; omega
 have lq : q.length ≤ 80 := by rw [← hq]; exact fewS_len _ _
 have lqs : ∀ y ∈ q, y.f0.length ≤ 12 ∧ y.f2.length ≤ 40 := by rw [← hq]; intro y hy; exact fewS_sizes hy
 have lqs6 : ∀ y ∈ q, y.f0.length ≤ 1000000 ∧ y.f2.length ≤ 1000000 := fun y hy => by have := lqs y hy; omega
 have hl9 : ∀ l ∈ x, l.length ≤ 1000000000 := fun l h => Nat.le_trans (lxs l h) (by decide)
 obtain ⟨K1, h1⟩ := few_ev 40 (by decide) vars cls
 obtain ⟨K2, h2⟩ := fewT_ev 80 (by decide) p
 obtain ⟨K3, h3⟩ := check_code vars x (by omega) (by omega) hl9
 obtain ⟨K4, h4⟩ := check_ref vars x (by omega) (by omega) hl9
 obtain ⟨r, K5, h5⟩ := run_ev vars x q (by omega) (by omega)
 rw [hx] at h1
 rw [hq] at h2
 have hr := h5 K5 (Nat.le_refl _)
 obtain ⟨n, hn⟩ : ∃ n, x.length = n := ⟨_, rfl⟩
 have m1l : (finP q r x.length).length = q.length := by unfold finP; rw [finL_len]; simp
 have m2l : (coreP q r x.length).length = x.length := by unfold coreP; rw [finC_len]; simp
 have hcl : (coreR x.length q r).length ≤ 1000000000 := by
  unfold coreR
  split
  ·have := markIdx_length (coreP q r x.length) x.length; omega
  ·simp
 have htl : (trimR x.length q r).length ≤ 1000000000 ∧ ∀ y ∈ trimR x.length q r, y.f0.length ≤ 1000000000 ∧ y.f2.length ≤ 1000000000 := by
  unfold trimR
  split
  ·rename_i he
   have hok := runF_ok hr he
   have h0 := (rtL_len q r.used x.length (finP q r x.length) (stF x.length r.byL) (r.en.toNat + 1)).1
   have h1 := hok.en0
   have h2 := hok.en1
   refine ⟨by omega, fun y hy => ?_⟩
   have := rtL_sizes q r.used x.length (finP q r x.length) (stF x.length r.byL) lqs6 _ y hy
   omega
  ·exact ⟨by simp, fun y hy => by cases hy⟩
 have hmk : ∃ K6, ∀ k, K6 ≤ k → r.e = 0 → PRef.netlabref33_marks.f k vars x (q.map sP) r.used r.en = some (finP q r x.length, coreP q r x.length) := by
  by_cases he : r.e = 0
  ·obtain ⟨K, h⟩ := marks_ev (runF_acc hr he).1 (runF_ok hr he) (by omega) (fun y hy => (lqs6 y hy).2)
   exact ⟨K, fun k hk _ => h k hk⟩
  ·exact ⟨0, fun _ _ h => absurd h he⟩
 obtain ⟨K6, h6⟩ := hmk
 obtain ⟨K7, h7⟩ := eqInts_ev _ hcl
 obtain ⟨K8, h8⟩ := same_ev _ htl.1 htl.2
 obtain ⟨K9, h9⟩ := sameC_ev vars x (by omega) hl9
 obtain ⟨K10, h10⟩ := same_ev q (by omega) (fun y hy => by have := lqs y hy; omega)
 refine ⟨K1 + K2 + K3 + K4 + K5 + K6 + K7 + K8 + K9 + K10 + 100, x, q, chkL vars x, r, ⟨h1 _ (by omega), h2 _ (by omega), h3 _ (by omega), h4 _ (by omega), chk_vars, h5 _ (by omega), lx, lxs, lq, lqs, ?_, ?_, h6 _ (by omega), m1l, m2l, ?_, ?_, h7 _ (by omega), h8 _ (by omega), h9 _ (by omega), h10 _ (by omega)⟩⟩
 ·by_cases he : r.e = 0
  ·rw [core_eq (runF_acc hr he).1 he]; unfold coreR; rw [if_pos he, he]
  ·unfold coreF coreR; rw [if_neg he, if_neg he]
 ·by_cases he : r.e = 0
  ·rw [trim_eq (runF_acc hr he).1 he]; unfold trimR; rw [if_pos he, he]
  ·unfold trimF trimR; rw [if_neg he, if_neg he]
 ·intro he i hi _ h hh hgt
  have ha := (runF_acc hr he).1
  have hok := runF_ok hr he
  have hip : i < q.length := by have := hok.en1; omega
  obtain ⟨s, hsi, e, hf⟩ := step_is ha (by omega) hip hh hgt
  have est : stF x.length r.byL h = (s : Int) := by unfold stF; rw [e]; rfl
  rw [est]
  exact ⟨hf _ (by omega), by omega, by omega⟩
 ·intro u hu
  by_cases he : r.e = 0
  ·have hok := runF_ok hr he
   obtain ⟨i, hi, rfl⟩ := List.mem_iff_getElem.1 hu
   have hip : i < q.length := by rw [← hok.ul]; exact hi
   have := (hok.u0 i hip).2
   rw [rdI hi, rdS hip] at this
   have := (lqs6 _ (List.getElem_mem hip)).2
   omega
  ·have : r.used = [] ∨ ∃ P, r = runL vars P [] [] (-1) 0 q := by
    unfold runF at hr
    obtain ⟨e0, _, hr⟩ := Option.bind_eq_some_iff.mp hr
    split at hr
    ·split at hr
     ·exact .inr ⟨_, (Option.some.inj hr).symm⟩
     ·left; rw [← Option.some.inj hr]
    ·left; rw [← Option.some.inj hr]
   rcases this with h | ⟨P, h⟩
   ·rw [h] at hu; cases hu
   ·rw [h] at hu
    have hgen : ∀ (xs : List Stp) (P : List (Option (List Int))) (us byL : List Int) (en i : Int), (∀ y ∈ xs, y.f2.length ≤ 1000000) → (∀ u ∈ us, u ≤ 268435455) → ∀ u ∈ (runL vars P us byL en i xs).used, u ≤ 268435455 := by
     intro xs
     induction xs with
     | nil => intro P us byL en i _ h u hu; exact h u hu
     | cons y ys ih =>
      intro P us byL en i hy h u hu
      have hr := (stepF_range vars P y.f0 y.f1 y.f2).2
      have hyl := hy y (by simp)
      have h' : ∀ u ∈ us ++ [(stepF vars P y.f0 y.f1 y.f2).2.1], u ≤ 268435455 := by
       intro u hu
       rcases List.mem_append.1 hu with hu | hu
       ·exact h u hu
       ·rw [List.mem_singleton] at hu; omega
      rw [runL] at hu
      split at hu
      ·exact h u hu
      split at hu
      ·exact ih _ _ _ _ _ (fun z hz => hy z (List.mem_cons_of_mem _ hz)) h' u hu
      ·exact ih _ _ _ _ _ (fun z hz => hy z (List.mem_cons_of_mem _ hz)) h' u hu
    exact hgen q P [] [] (-1) 0 (fun y hy => (lqs6 y hy).2) (fun u hu => by cases hu) u hu
end Go.Proofs.YtogicccdngpafaaGreatDoor.NPlain
end
