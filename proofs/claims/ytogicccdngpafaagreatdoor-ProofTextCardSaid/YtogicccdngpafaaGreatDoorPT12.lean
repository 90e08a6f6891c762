/-
  Part 12 of the proof of proofText_card: walks and lemmas, packed by the session's own wip/pack.py out of its texts and of what the kit's print.sh printed.
-/
import Derived.Test.YtogicccdngpafaaGreatDoorPT11
import Derived.Test.YtogicccdngpafaaGreatDoorPT8
import Derived.Deep.RegionWith
import Derived.Test.YtogicccdngpafaaGreatDoorPT10
set_option linter.unusedVariables false
set_option linter.unusedSimpArgs false
section
set_option maxHeartbeats 4000000
set_option maxRecDepth 100000
namespace Go.Proofs.YtogicccdngpafaaGreatDoor.NState
open Go Go.RowKit Go.Shelf QW.PrintWords QW.PrintLast QW.PrintMore NMap
open PCheck (cnf_Check.f cnf_Check.calls rL at_L1)
open PSame (S42 k42 rd_T42 at_T42)
abbrev Stp := S42
abbrev kStp : Kd Stp := k42
theorem errno_calls (c : Int) (hc : c = 1 ∨ c = 21) (w : World) : Calls Tryz.prog 83 #[faultV c] w fun e w' => e = .returned (.int .i64 c) ∧ w' = w := by
 rcases hc with rfl | rfl
 ·rw [faultV_1]; exact (errno_1 w).mono fun e w' ⟨h1, h2⟩ => ⟨h1, h2.symm⟩
 ·rw [faultV_21]; exact (errno_21 w).mono fun e w' ⟨h1, h2⟩ => ⟨h1, h2.symm⟩
theorem delL_code : ∀ (l : List Int) (P : List (Option (List Int))), (delL P l).2 = 0 ∨ (delL P l).2 = 1 ∨ (delL P l).2 = 21
 | [], P => .inl rfl
 | h :: hs, P => by
  unfold delL
  split
  ·exact .inr (.inr rfl)
  ·exact delL_code hs _
theorem stepF_code (vars : Int) (P : List (Option (List Int))) (clause : List Int) (gone : Bool) (hints : List Int) : (stepF vars P clause gone hints).2.2 = 0 ∨ (stepF vars P clause gone hints).2.2 = 1 ∨ (stepF vars P clause gone hints).2.2 = 21 := by
 unfold stepF
 split
 ·exact delL_code _ _
 ·split
  ·exact .inr (.inl rfl)
  ·split
   ·exact .inl rfl
   ·exact .inr (.inr rfl)
theorem delL_len : ∀ (l : List Int) (P : List (Option (List Int))), (delL P l).1.length = P.length
 | [], P => rfl
 | h :: hs, P => by
  unfold delL
  split
  ·rfl
  ·rw [delL_len hs]; simp
theorem stepF_len (vars : Int) (P : List (Option (List Int))) (clause : List Int) (gone : Bool) (hints : List Int) (h : (stepF vars P clause gone hints).2.2 = 0) : (stepF vars P clause gone hints).1.length = if gone = true then P.length else P.length + 1 := by
 unfold stepF at h ⊢
 split
 ·exact delL_len _ _
 ·rename_i hg
  rw [if_neg hg] at h
  split
  ·rename_i hb; rw [if_pos hb] at h; simp at h
  ·rename_i hb
   rw [if_neg hb] at h
   split
   ·simp
   ·rename_i hd; rw [if_neg hd] at h; simp at h
structure RunR where
 used : List Int
 byL : List Int
 en : Int
 at_ : Int
 e : Int
def runL (vars : Int) : List (Option (List Int)) → List Int → List Int → Int → Int → List Stp → RunR
 | _, used, byL, en, _, [] => ⟨used, byL, en, 0, if en < 0 then 8 else 0⟩
 | P, used, byL, en, i, x :: xs =>
  if (stepF vars P x.f0 x.f1 x.f2).2.2 ≠ 0 then ⟨used, byL, en, i, (stepF vars P x.f0 x.f1 x.f2).2.2⟩
  else if x.f1 = true then runL vars (stepF vars P x.f0 x.f1 x.f2).1 (used ++ [(stepF vars P x.f0 x.f1 x.f2).2.1]) byL en (i + 1) xs
  else runL vars (stepF vars P x.f0 x.f1 x.f2).1 (used ++ [(stepF vars P x.f0 x.f1 x.f2).2.1]) (byL ++ [i]) (if en < 0 ∧ x.f0.length = 0 then i else en) (i + 1) xs
def runF (k : Nat) (vars : Int) (cls : List (List Int)) (p : List Stp) : Option RunR :=
 (cnf_Check.f k vars cls).bind fun e => if e = 0 then (if p.length ≤ 65536 then some (runL vars (cls.map some) [] [] (-1) 0 p) else some ⟨[], [], 0, 0, 5⟩) else some ⟨[], [], 0, 0, e⟩
def byF (n : Nat) (byL : List Int) : Int → Option Value := fun x => if (n : Int) < x then (byL[(x - n - 1).toNat]?).map (Value.int .i64) else none
theorem byF_nil (n : Nat) : (fun _ => none) = byF n [] := by funext x; simp [byF]
theorem byF_snoc (n : Nat) (byL : List Int) (i : Int) : put (byF n byL) ((n + byL.length + 1 : Nat) : Int) (.int .i64 i) = byF n (byL ++ [i]) := by
 funext x
 unfold put byF
 by_cases h : x = ((n + byL.length + 1 : Nat) : Int)
 ·subst h
  rw [if_pos rfl, if_pos (by omega)]
  have : (((n + byL.length + 1 : Nat) : Int) - n - 1).toNat = byL.length := by omega
  rw [this]; simp
 ·rw [if_neg h]
  by_cases h1 : (n : Int) < x
  ·rw [if_pos h1, if_pos h1]
   by_cases h2 : (x - n - 1).toNat < byL.length
   ·rw [List.getElem?_append_left h2]
   ·rw [List.getElem?_eq_none (by omega), List.getElem?_eq_none (by simp; omega)]
  ·rw [if_neg h1, if_neg h1]
def checkedCells (vars : Int) (A1 : Option Addr) (n c1 : Nat) (A2 : Option Addr) (m c2 : Nat) (vu : Value) (bm : Nat) (en : Int) : Array Value :=
 #[.int .i64 vars, .slice A1 n c1, .slice A2 m c2, vu, .map (some bm), .int .i64 en]
def Shaped (cs : Array Value) : Prop := ∃ (x0 : Int) (B1 : Option Addr) (n1 c1 : Nat) (B2 : Option Addr) (n2 c2 : Nat) (B3 : Option Addr) (n3 c3 : Nat) (m : Option Nat) (x5 : Int), cs = #[.int .i64 x0, .slice B1 n1 c1, .slice B2 n2 c2, .slice B3 n3 c3, .map m, .int .i64 x5]
def RunPost (vars : Int) (A1 : Option Addr) (n c1 : Nat) (A2 : Option Addr) (m c2 : Nat) (r : RunR) (w : World) (e : Ending) (w' : World) : Prop :=
 Below w.heap.size w w' ∧ ∃ cs : Array Value, e = .returned (.tuple #[.agg cs, .int .i64 r.at_, .int .i64 r.e]) ∧ Shaped cs ∧
  (r.e = 0 → ∃ vu bm, cs = checkedCells vars A1 n c1 A2 m c2 vu bm r.en ∧ Kd.R (Kd.int .i64) 3 w' w.heap.size (fun _ => True) vu r.used ∧ w.heap.size ≤ bm ∧ HasMap (Value.int .i64) w' bm (byF n r.byL))
theorem BaseAt.setCell {w0 w : World} {B M : Nat} {P : List (Option (List Int))} {g j : Nat} (h : BaseAt w0 w B M P) (h1 : B ≠ g) (h2 : M ≠ g) (u : Value) : BaseAt w0 (w.setCell ⟨g, j, none⟩ u) B M P := by
 refine ⟨blk_far h.cells h1 u, ?_⟩
 obtain ⟨f, hm, hp⟩ := h.map
 exact ⟨f, hm.setCell h2 u, hp⟩
theorem BaseAt.grown {w0 w w1 : World} {B M : Nat} {P : List (Option (List Int))} {row : Option Nat} (h : BaseAt w0 w B M P) (hg : w.grownBy w1 row) (hne : some B ≠ row ∧ some M ≠ row) : BaseAt w0 w1 B M P := by
 refine ⟨bkg h.cells hg hne.1, ?_⟩
 obtain ⟨f, hm, hp⟩ := h.map
 exact ⟨f, map_grown hm hg hne.2, hp⟩
theorem map_own_ne {d : Kd Int} {w0 W : World} {base B M : Nat} {ok : Nat → Prop} {v : Value} {xs : List Int} {P : List (Option (List Int))} (hR : Kd.R d 3 W base ok v xs) (h : BaseAt w0 W B M P) : some B ≠ v.ownBlock ∧ some M ≠ v.ownBlock := by
 obtain ⟨f, hm, _⟩ := h.map
 exact ⟨Kd.R_ne hR h.cells (by decide), map_ne_own hm hR⟩
theorem R_but2 {α : Type} {d : Kd α} {e : Nat} {w0 w w1 : World} {base B M : Nat} {ok : Nat → Prop} {v : Value} {xs : List α} {P : List (Option (List Int))} (h : Kd.R d e w base ok v xs) (hb : BaseAt w0 w B M P) (ht : But2 B M w w1) (hty : ∀ q, q ∈ e :: d.E → q ≠ 147) : Kd.R d e w1 base ok v xs :=
 Kd.R_mono (Kd.R_step (Kd.R_bound h) (fun k hk hl => by
  obtain ⟨_, _, _, q, hq, cells, hc⟩ := hk
  refine ht.block k hl (fun he => ?_) (fun he => ?_)
  ·subst he
   rw [hb.cells] at hc; cases hc; exact hty _ hq rfl
  ·subst he
   obtain ⟨f, ⟨es, c, hm, _⟩, _⟩ := hb.map
   rw [hm] at hc; cases hc)) (fun _ hk => hk.1)
theorem run_calls (k : Nat) (vars : Int) (A1 : Option Addr) (c1 : Nat) (cls : List (List Int)) (A2 : Option Addr) (c2 : Nat) (p : List Stp) (r : RunR) (w : World)
  (hr1 : Kd.C (Kd.slice 3 (Kd.int .i64)) w A1 cls.length cls) (hc1 : cls.length ≤ c1) (hr2 : Kd.C kStp w A2 p.length p) (hc2 : p.length ≤ c2) (h : runF k vars cls p = some r) (hlen : cls.length ≤ 4611686018427000000) :
  Calls Tryz.prog 35 #[.agg #[.int .i64 vars, .slice A1 cls.length c1], .slice A2 p.length c2] w (RunPost vars A1 cls.length c1 A2 p.length c2 r w) := by
 have HR1 := Az.mk hr1
 have HR2 := Az.mk hr2
 have HC1 := Az.mk hc1
 have HC2 := Az.mk hc2
 have HLEN := Az.mk hlen
 unfold runF at h
 obtain ⟨e0, he0, h⟩ := Option.bind_eq_some_iff.mp h
 have HE := Az.mk he0
 have H := Az.mk h
 clear hr1 hc1 hr2 hc2 h he0 hlen
 have hu24 := Tryz.underlying24
 have hu71 := Tryz.underlying66
 go_enter Tryz.func35, Tryz.ntmps35
 go_wp2_with fail
 refine (cnf_Check.calls k vars A1 c1 cls e0 _ (Kd.C_alloc (Kd.C_alloc HR1.out _) _) HC1.out HE.out).mono ?_
 rintro e w1 ⟨rfl, hb1⟩
 have BC : Az (w1.heap[w.heap.size]? = some (.cells #[.int .i64 vars, .slice A1 cls.length c1] 24 (0, 0))) := ⟨blk_below (bka (blk_new w _) _) hb1⟩
 have BK : Az (w1.heap[w.heap.size + 1]? = some (.cells #[.int .i64 0, .slice none 0 0, .slice none 0 0, .slice none 0 0, .map none, .int .i64 0] 66 (0, 0))) := ⟨blk_below (by
  have := blk_new (w.alloc (.cells #[.int .i64 vars, .slice A1 cls.length c1] 24)) (.cells #[.int .i64 0, .slice none 0 0, .slice none 0 0, .slice none 0 0, .map none, .int .i64 0] 66)
  simpa using this) hb1⟩
 have HB : Az (Below w.heap.size w w1) := ⟨bwt (((Below.refl _ _).alloc (Nat.le_refl _) _).alloc (by simp) _) hb1⟩
 have HS : Az (w.heap.size + 2 ≤ w1.heap.size) := ⟨by have := hb1.size; simp at this; omega⟩
 clear hb1
 by_cases h0 : e0 = 0
 ·subst h0
  have H1 := Az.mk ((if_pos rfl).symm.trans H.out)
  clear H HE
  have hx0 : w1.cell? ⟨w.heap.size + 1, 0, none⟩ = some (.int .i64 0) := (bkc BK.out 0).trans rfl
  have hx1 : w1.cell? ⟨w.heap.size + 1, 1, none⟩ = some (.slice none 0 0) := (bkc BK.out 1).trans rfl
  have hx2 : w1.cell? ⟨w.heap.size + 1, 2, none⟩ = some (.slice none 0 0) := (bkc BK.out 2).trans rfl
  have hx3 : w1.cell? ⟨w.heap.size + 1, 3, none⟩ = some (.slice none 0 0) := (bkc BK.out 3).trans rfl
  have hx4 : w1.cell? ⟨w.heap.size + 1, 4, none⟩ = some (.map none) := (bkc BK.out 4).trans rfl
  have hx5 : w1.cell? ⟨w.heap.size + 1, 5, none⟩ = some (.int .i64 0) := (bkc BK.out 5).trans rfl
  have hf0 := bkf BK.out 0
  have hf1 := bkf BK.out 1
  have hf2 := bkf BK.out 2
  have hf3 := bkf BK.out 3
  have hf4 := bkf BK.out 4
  have hf5 := bkf BK.out 5
  have hc0 : w1.cell? ⟨w.heap.size, 0, none⟩ = some (.int .i64 vars) := (bkc BC.out 0).trans rfl
  have hc1 : w1.cell? ⟨w.heap.size, 1, none⟩ = some (.slice A1 cls.length c1) := (bkc BC.out 1).trans rfl
  by_cases hlong : p.length ≤ 65536
  ·have HLONG := Az.mk hlong
   have hlong' : decide (65536 < (p.length : Int)) = false := decide_eq_false (by omega)
   have H2 := Az.mk (Option.some.inj ((if_pos hlong).symm.trans H1.out))
   clear hlong H1
   go_wp2_with fail
   refine (begin_calls w vars A1 c1 cls w1 HR1.out HB.out (by have := HLEN.out; omega)).mono ?_
   rintro e w2 ⟨B, M, hBw, hMw, rfl, hBA, hb2⟩
   replace BC := Az.mk (blk_below BC.out hb2)
   replace BK := Az.mk (blk_below BK.out hb2)
   replace HB := Az.mk (bwt HB.out hb2)
   have HS1 := HS
   replace HS := Az.mk (Nat.le_trans HS.out hb2.size)
   have HBA := Az.mk hBA
   have HSB : Az (w.heap.size + 2 ≤ B ∧ w.heap.size + 2 ≤ M) := ⟨⟨Nat.le_trans HS1.out hBw, Nat.le_trans HS1.out hMw⟩⟩
   clear hBA hBw hMw hb2 HS1 hx0 hx1 hx2 hx3 hx4 hx5 hf0 hf1 hf2 hf3 hf4 hf5 hc0 hc1
   have hx0 : w2.cell? ⟨w.heap.size + 1, 0, none⟩ = some (.int .i64 0) := (bkc BK.out 0).trans rfl
   have hf0 := bkf BK.out 0
   have hx1 : w2.cell? ⟨w.heap.size + 1, 1, none⟩ = some (.slice none 0 0) := (bkc BK.out 1).trans rfl
   have hf1 := bkf BK.out 1
   have hx2 : w2.cell? ⟨w.heap.size + 1, 2, none⟩ = some (.slice none 0 0) := (bkc BK.out 2).trans rfl
   have hf2 := bkf BK.out 2
   have hx3 : w2.cell? ⟨w.heap.size + 1, 3, none⟩ = some (.slice none 0 0) := (bkc BK.out 3).trans rfl
   have hf3 := bkf BK.out 3
   have hx4 : w2.cell? ⟨w.heap.size + 1, 4, none⟩ = some (.map none) := (bkc BK.out 4).trans rfl
   have hf4 := bkf BK.out 4
   have hx5 : w2.cell? ⟨w.heap.size + 1, 5, none⟩ = some (.int .i64 0) := (bkc BK.out 5).trans rfl
   have hf5 := bkf BK.out 5
   have hc0 : w2.cell? ⟨w.heap.size, 0, none⟩ = some (.int .i64 vars) := (bkc BC.out 0).trans rfl
   have hc1 : w2.cell? ⟨w.heap.size, 1, none⟩ = some (.slice A1 cls.length c1) := (bkc BC.out 1).trans rfl
   have hmm := @run_makeMap Tryz.prog
   have hz1 : w.heap.size + 1 < w2.heap.size := by have := HS.out; omega
   have hz0 : w.heap.size < w2.heap.size := by omega
   go_wp2
   have hszB := HSB.out
   have HBA3 : Az (BaseAt w (((((((w2.setCell ⟨w.heap.size + 1, 0, none⟩ (.int .i64 vars)).setCell ⟨w.heap.size + 1, 1, none⟩ (.slice A1 cls.length c1)).setCell ⟨w.heap.size + 1, 2, none⟩ (.slice A2 p.length c2)).setCell ⟨w.heap.size + 1, 3, none⟩ (.slice none 0 0)).setCell ⟨w.heap.size + 1, 4, none⟩ (.map (some w2.heap.size))).setCell ⟨w.heap.size + 1, 5, none⟩ (.int .i64 (-1))).alloc (.map #[] 0)) B M (cls.map some)) := ⟨by
    refine BaseAt.below ?_ ((Below.refl _ _).alloc (Nat.le_refl _) _)
    repeat (with_reducible refine BaseAt.setCell ?_ ?_ ?_ _)
    all_goals first | (with_reducible exact HBA.out) | (show _ ≠ w.heap.size + 1; omega)⟩
   have BC3 : Az ((((((((w2.setCell ⟨w.heap.size + 1, 0, none⟩ (.int .i64 vars)).setCell ⟨w.heap.size + 1, 1, none⟩ (.slice A1 cls.length c1)).setCell ⟨w.heap.size + 1, 2, none⟩ (.slice A2 p.length c2)).setCell ⟨w.heap.size + 1, 3, none⟩ (.slice none 0 0)).setCell ⟨w.heap.size + 1, 4, none⟩ (.map (some w2.heap.size))).setCell ⟨w.heap.size + 1, 5, none⟩ (.int .i64 (-1))).alloc (.map #[] 0)).heap[w.heap.size]? = some (.cells #[.int .i64 vars, .slice A1 cls.length c1] 24 (0, 0))) := ⟨by
    refine bka ?_ _
    repeat (with_reducible refine blk_far ?_ ?_ _)
    all_goals first | (with_reducible exact BC.out) | (show _ ≠ w.heap.size + 1; omega)⟩
   have BK3 : Az ((((((((w2.setCell ⟨w.heap.size + 1, 0, none⟩ (.int .i64 vars)).setCell ⟨w.heap.size + 1, 1, none⟩ (.slice A1 cls.length c1)).setCell ⟨w.heap.size + 1, 2, none⟩ (.slice A2 p.length c2)).setCell ⟨w.heap.size + 1, 3, none⟩ (.slice none 0 0)).setCell ⟨w.heap.size + 1, 4, none⟩ (.map (some w2.heap.size))).setCell ⟨w.heap.size + 1, 5, none⟩ (.int .i64 (-1))).alloc (.map #[] 0)).heap[w.heap.size + 1]? = some (.cells (checkedCells vars A1 cls.length c1 A2 p.length c2 (.slice none 0 0) w2.heap.size (-1)) 66 (0, 0))) := ⟨bka (blk_put (cs := #[.int .i64 vars, .slice A1 cls.length c1, .slice A2 p.length c2, .slice none 0 0, .map (some w2.heap.size), .int .i64 0]) (blk_put (cs := #[.int .i64 vars, .slice A1 cls.length c1, .slice A2 p.length c2, .slice none 0 0, .map none, .int .i64 0]) (blk_put (cs := #[.int .i64 vars, .slice A1 cls.length c1, .slice A2 p.length c2, .slice none 0 0, .map none, .int .i64 0]) (blk_put (cs := #[.int .i64 vars, .slice A1 cls.length c1, .slice none 0 0, .slice none 0 0, .map none, .int .i64 0]) (blk_put (cs := #[.int .i64 vars, .slice none 0 0, .slice none 0 0, .slice none 0 0, .map none, .int .i64 0]) (blk_put (cs := #[.int .i64 0, .slice none 0 0, .slice none 0 0, .slice none 0 0, .map none, .int .i64 0]) BK.out 0 (.int .i64 vars) rfl) 1 (.slice A1 cls.length c1) rfl) 2 (.slice A2 p.length c2) rfl) 3 (.slice none 0 0) rfl) 4 (.map (some w2.heap.size)) rfl) 5 (.int .i64 (-1)) rfl) _⟩
   have HB3 : Az (Below w.heap.size w (((((((w2.setCell ⟨w.heap.size + 1, 0, none⟩ (.int .i64 vars)).setCell ⟨w.heap.size + 1, 1, none⟩ (.slice A1 cls.length c1)).setCell ⟨w.heap.size + 1, 2, none⟩ (.slice A2 p.length c2)).setCell ⟨w.heap.size + 1, 3, none⟩ (.slice none 0 0)).setCell ⟨w.heap.size + 1, 4, none⟩ (.map (some w2.heap.size))).setCell ⟨w.heap.size + 1, 5, none⟩ (.int .i64 (-1))).alloc (.map #[] 0))) := ⟨by
    refine bwa ?_ _
    repeat (with_reducible refine bws ?_ ?_)
    all_goals first | (with_reducible exact HB.out) | omega⟩
   have HM3 : Az (HasMap (Value.int .i64) (((((((w2.setCell ⟨w.heap.size + 1, 0, none⟩ (.int .i64 vars)).setCell ⟨w.heap.size + 1, 1, none⟩ (.slice A1 cls.length c1)).setCell ⟨w.heap.size + 1, 2, none⟩ (.slice A2 p.length c2)).setCell ⟨w.heap.size + 1, 3, none⟩ (.slice none 0 0)).setCell ⟨w.heap.size + 1, 4, none⟩ (.map (some w2.heap.size))).setCell ⟨w.heap.size + 1, 5, none⟩ (.int .i64 (-1))).alloc (.map #[] 0)) w2.heap.size (byF cls.length [])) := ⟨by
    rw [← byF_nil]
    have := HasMap.made (kv := Value.int .i64) ((((((w2.setCell ⟨w.heap.size + 1, 0, none⟩ (.int .i64 vars)).setCell ⟨w.heap.size + 1, 1, none⟩ (.slice A1 cls.length c1)).setCell ⟨w.heap.size + 1, 2, none⟩ (.slice A2 p.length c2)).setCell ⟨w.heap.size + 1, 3, none⟩ (.slice none 0 0)).setCell ⟨w.heap.size + 1, 4, none⟩ (.map (some w2.heap.size))).setCell ⟨w.heap.size + 1, 5, none⟩ (.int .i64 (-1)))
    simpa using this⟩
   have HS3 : Az (w2.heap.size < (((((((w2.setCell ⟨w.heap.size + 1, 0, none⟩ (.int .i64 vars)).setCell ⟨w.heap.size + 1, 1, none⟩ (.slice A1 cls.length c1)).setCell ⟨w.heap.size + 1, 2, none⟩ (.slice A2 p.length c2)).setCell ⟨w.heap.size + 1, 3, none⟩ (.slice none 0 0)).setCell ⟨w.heap.size + 1, 4, none⟩ (.map (some w2.heap.size))).setCell ⟨w.heap.size + 1, 5, none⟩ (.int .i64 (-1))).alloc (.map #[] 0)).heap.size) := ⟨by simp⟩
   have HBM := Az.mk HBA.out.lt
   clear hx0 hx1 hx2 hx3 hx4 hx5 hf0 hf1 hf2 hf3 hf4 hf5 hc0 hc1 hmm HBA BC BK HB
   generalize (((((((w2.setCell ⟨w.heap.size + 1, 0, none⟩ (.int .i64 vars)).setCell ⟨w.heap.size + 1, 1, none⟩ (.slice A1 cls.length c1)).setCell ⟨w.heap.size + 1, 2, none⟩ (.slice A2 p.length c2)).setCell ⟨w.heap.size + 1, 3, none⟩ (.slice none 0 0)).setCell ⟨w.heap.size + 1, 4, none⟩ (.map (some w2.heap.size))).setCell ⟨w.heap.size + 1, 5, none⟩ (.int .i64 (-1))).alloc (.map #[] 0)) = w3 at HBA3 BC3 BK3 HB3 HM3 HS3 ⊢
   have HL := Az.mk (Kd.C_max HR2.out)
   generalize hbm : w2.heap.size = bm at BK3 HM3 HS3 hz1 hz0 HBM ⊢
   clear hbm
   go_loopw [31] (fun v31 wr => ∃ (i : Nat) (P : List (Option (List Int))) (used byL : List Int) (en : Int) (vu : Value), v31 = .int .i64 i ∧ i ≤ p.length ∧ Az (runL vars (cls.map some) [] [] (-1) 0 p = runL vars P used byL en i (p.drop i)) ∧ Az (P.length = cls.length + byL.length ∧ byL.length ≤ i ∧ used.length = i) ∧ Az (BaseAt w wr B M P) ∧ Az (wr.heap[w.heap.size]? = some (.cells #[.int .i64 vars, .slice A1 cls.length c1] 24 (0, 0))) ∧ Az (wr.heap[w.heap.size + 1]? = some (.cells (checkedCells vars A1 cls.length c1 A2 p.length c2 vu bm en) 66 (0, 0))) ∧ Az (HasMap (Value.int .i64) wr bm (byF cls.length byL)) ∧ Az (Kd.R (Kd.int .i64) 3 wr w.heap.size (fun _ => True) vu used) ∧ Az (Below w.heap.size w wr) ∧ Az (bm < wr.heap.size)) (fun v31 _ => p.length - (intOf v31).toNat)
   case atStart => exact ⟨0, cls.map some, [], [], -1, .slice none 0 0, rfl, Nat.zero_le _, ⟨by simp⟩, ⟨by simp⟩, HBA3, BC3, BK3, HM3, ⟨Kd.R_nil _ _ _ _ _⟩, HB3, HS3⟩
   case round =>
    clear HBA3 BC3 BK3 HM3 HB3 HS3
    obtain ⟨i, P, used, byL, en, vu, rfl, hi, HA, HLN, HBA, BC, BK, HM, HU, HB, HZ⟩ := hrel
    have hxe : wr.cell? ⟨w.heap.size + 1, 5, none⟩ = some (.int .i64 en) := (bkc BK.out 5).trans rfl
    by_cases hlt : i < p.length
    ·obtain ⟨ad, A3, c3, A4, c4, rfl, hp0, hp1, hp2, hl3, hC3, hl4, hC4⟩ := at_T42 HR2.out (i : Int) (by omega) (by omega)
     replace hp0 := (HB.out.cell (World.block_lt_of_cell? w _ hp0)).trans hp0
     replace hp1 := (HB.out.cell (World.block_lt_of_cell? w _ hp1)).trans hp1
     replace hp2 := (HB.out.cell (World.block_lt_of_cell? w _ hp2)).trans hp2
     have hd : p.drop i = rd_T42 p i :: p.drop (i + 1) := by
      rw [List.drop_eq_getElem_cons hlt]; simp [rd_T42, List.getD, hlt]
     rw [hd] at HA
     clear hd
     generalize rd_T42 p i = x at HA hp0 hp1 hp2 hl3 hC3 hl4 hC4
     have HC3 := Az.mk hC3
     have HC4 := Az.mk hC4
     have HL3 := Az.mk hl3
     clear hC3 hC4 hl3 hl4
     simp only [Int.toNat_natCast] at hp0 hp1 hp2
     have hc0 : wr.cell? ⟨w.heap.size, 0, none⟩ = some (.int .i64 vars) := (bkc BC.out 0).trans rfl
     have hc1 : wr.cell? ⟨w.heap.size, 1, none⟩ = some (.slice A1 cls.length c1) := (bkc BC.out 1).trans rfl
     have hzr0 : w.heap.size < wr.heap.size := by have := HZ.out; omega
     go_wp2_with fail
     refine (step_calls w B M P (.slice A1 cls.length c1) vars x.f1 A3 c3 x.f0 A4 c4 x.f2 _ (by have := HLN.out; have := HLEN.out; have := HLONG.out; omega) (HBA.out.below ((Below.refl _ _).alloc (Nat.le_refl _) _)) HC3.out HL3.out HC4.out (bwa HB.out _) (by omega) (by omega)).mono ?_
     rintro e w5 ⟨rfl, hb5, ht5⟩
     have hBl := HBA.out.lt
     have hBm := HBM.out
     have hZ := HZ.out
     have BX5 : Az (w5.heap[wr.heap.size]? = some (.cells #[.slice A3 x.f0.length c3, .bool x.f1, .slice A4 x.f2.length c4] 42 (0, 0))) := ⟨ht5.blk (blk_new wr _) (by omega) (by omega)⟩
     replace BC := Az.mk (ht5.blk (bka BC.out _) (by omega) (by omega))
     replace BK := Az.mk (ht5.blk (bka BK.out _) (by omega) (by omega))
     replace HM : Az (HasMap (Value.int .i64) w5 bm (byF cls.length byL)) := ⟨(HM.out.alloc (.cells #[.slice A3 x.f0.length c3, .bool x.f1, .slice A4 x.f2.length c4] 42)).of_block (ht5.block bm (by simp; omega) (by omega) (by omega))⟩
     replace HU := Az.mk (R_but2 (Kd.R_alloc HU.out (.cells #[.slice A3 x.f0.length c3, .bool x.f1, .slice A4 x.f2.length c4] 42)) (HBA.out.below ((Below.refl _ _).alloc (Nat.le_refl _) _)) ht5 (by decide))
     replace HB := Az.mk (ht5.below (bwa HB.out _) (by omega) (by omega))
     replace HBA := Az.mk hb5
     have HZ5 : Az (bm < w5.heap.size ∧ wr.heap.size < w5.heap.size) := ⟨by have := ht5.size; simp at this; omega⟩
     clear hb5 ht5 hp0 hp1 hp2 hc0 hc1 hxe HZ
     have HST := Az.mk (show stepF vars P x.f0 x.f1 x.f2 = ((stepF vars P x.f0 x.f1 x.f2).1, (stepF vars P x.f0 x.f1 x.f2).2.1, (stepF vars P x.f0 x.f1 x.f2).2.2) from rfl)
     have HCD := Az.mk (stepF_code vars P x.f0 x.f1 x.f2)
     have HLN2 := Az.mk (stepF_len vars P x.f0 x.f1 x.f2)
     generalize (stepF vars P x.f0 x.f1 x.f2).1 = P' at HST HBA HLN2 ⊢
     generalize (stepF vars P x.f0 x.f1 x.f2).2.1 = n at HST ⊢
     generalize (stepF vars P x.f0 x.f1 x.f2).2.2 = c at HST HCD HLN2 ⊢
     have hzw : wr.heap.size < w5.heap.size := HZ5.out.2
     obtain ⟨Au, cu, hvu⟩ := Kd.R_slice HU.out
     subst hvu
     obtain hc | hc := HCD.out
     ·subst hc
      rw [faultV_0]
      have BU : Az (w5.heap[w.heap.size + 1]? = some (.cells #[.int .i64 vars, .slice A1 cls.length c1, .slice (some ad) p.length c2, .slice Au used.length cu, .map (some bm), .int .i64 en] 66 (0, 0))) := BK
      have hx3 : w5.cell? ⟨w.heap.size + 1, 3, none⟩ = some (.slice Au used.length cu) := (bkc BK.out 3).trans rfl
      have hf3 := bkf BK.out 3
      have hz1 : w.heap.size + 1 < w5.heap.size := by omega
      go_wp2_with (first | ((with_reducible refine gate_builtin (b := .append) (xs := #[.tmp 50, .tmp 52]) rfl ?_); at_builtin; refine Kd.R_append (Kd.int .i64) (w0 := w) w.heap.size rfl (.tmp 50) (.tmp 52) 31 3 (.int .i64 0) 8 rfl Tryz.underlying31 infoInt rfl (by decide) (by omega) (.slice Au used.length cu) used n [.int .i64 n] (fun _ => True) (fun _ => False) rfl rfl ?aP (fun _ hk => hk.elim) ?aF ?aO ?aB ?aS ?aL ?_; (case aP => exact rfl); (case aF => exact fun _ _ => trivial); (case aO => exact HU.out); (case aB => exact HB.out); (case aS => exact HB.out.size); (case aL => have := HLN.out; have := HLONG.out; omega); intro v9 w6 ho hb hg hat; obtain ⟨Av, cv, hv9⟩ := Kd.R_slice ho; subst hv9; have HU6 := Az.mk ho; have HB6 := Az.mk hb; have HG6 := Az.mk hg; have BU6 : Az (w6.heap[w.heap.size + 1]? = some (.cells #[.int .i64 vars, .slice A1 cls.length c1, .slice (some ad) p.length c2, .slice Au used.length cu, .map (some bm), .int .i64 en] 66 (0, 0))) := ⟨bkg BU.out hg (Kd.R_ne HU.out BU.out (by decide))⟩; have hy3 : w6.cell? ⟨w.heap.size + 1, 3, none⟩ = some (.slice Au used.length cu) := (bkc BU6.out 3).trans rfl; have hy3f := bkf BU6.out 3; have BX6 : Az (w6.heap[wr.heap.size]? = some (.cells #[.slice A3 x.f0.length c3, .bool x.f1, .slice A4 x.f2.length c4] 42 (0, 0))) := ⟨bkg BX5.out hg (Kd.R_ne HU.out BX5.out (by decide))⟩; have hyg : w6.cell? ⟨wr.heap.size, 1, none⟩ = some (.bool x.f1) := (bkc BX6.out 1).trans rfl; have hzr1 : w.heap.size + 1 < wr.heap.size := (by omega); clear ho hb hg hat hx3 hf3))
      ·have hg1 : x.f1 = true := by assumption
       have HG1 := Az.mk hg1
       clear hg1
       have hzr1' : w.heap.size + 1 < wr.heap.size := by omega
       go_roundw
       case rel =>
        refine ⟨i + 1, P', used ++ [n], byL, en, .slice Av (used ++ [n]).length cv, by rw [wrap_succ hlt HL.out], by omega, ⟨?_⟩, ⟨?_⟩, ⟨?_⟩, ⟨?_⟩, ⟨?_⟩, ⟨?_⟩, ⟨?_⟩, ⟨?_⟩, ⟨?_⟩⟩
        ·rw [HA.out, runL, HST.out, if_neg (by simp), if_pos HG1.out]; simp
        ·have := HLN2.out (by first | rfl | trivial); rw [if_pos HG1.out] at this
         have := HLN.out
         simp; omega
        ·exact (HBA.out.grown HG6.out (map_own_ne HU.out HBA.out)).setCell (by omega) (by omega) _
        ·exact blk_far (bkg BC.out HG6.out (Kd.R_ne HU.out BC.out (by decide))) (by show _ ≠ w.heap.size + 1; omega) _
        ·exact blk_put (cs := #[.int .i64 vars, .slice A1 cls.length c1, .slice (some ad) p.length c2, .slice Au used.length cu, .map (some bm), .int .i64 en]) BU6.out 3 _ (by simp [checkedCells])
        ·exact (map_grown HM.out HG6.out (map_ne_own HM.out HU.out)).setCell (by show _ ≠ w.heap.size + 1; omega) _
        ·have := Kd.R_set HU6.out BU6.out (by decide) 3 (.slice Av (used.length + 1) cv)
         simpa using this
        ·exact bws HB6.out (by omega)
        ·have := HG6.out.size
         simp; omega
       case measure => exact meas_x hlt (wrap_succ hlt HL.out)
      ·have hg1 : x.f1 = false := by assumption
       have HG1 := Az.mk hg1
       have hzr1' : w.heap.size + 1 < wr.heap.size := by omega
       have HBA7 : Az (BaseAt w (w6.setCell ⟨w.heap.size + 1, 3, none⟩ (.slice Av (used.length + 1) cv)) B M P') := ⟨(HBA.out.grown HG6.out (map_own_ne HU.out HBA.out)).setCell (by omega) (by omega) _⟩
       have BC7 : Az ((w6.setCell ⟨w.heap.size + 1, 3, none⟩ (.slice Av (used.length + 1) cv)).heap[w.heap.size]? = some (.cells #[.int .i64 vars, .slice A1 cls.length c1] 24 (0, 0))) := ⟨blk_far (bkg BC.out HG6.out (Kd.R_ne HU.out BC.out (by decide))) (by show _ ≠ w.heap.size + 1; omega) _⟩
       have BK7 : Az ((w6.setCell ⟨w.heap.size + 1, 3, none⟩ (.slice Av (used.length + 1) cv)).heap[w.heap.size + 1]? = some (.cells #[.int .i64 vars, .slice A1 cls.length c1, .slice (some ad) p.length c2, .slice Av (used.length + 1) cv, .map (some bm), .int .i64 en] 66 (0, 0))) := ⟨blk_put (cs := #[.int .i64 vars, .slice A1 cls.length c1, .slice (some ad) p.length c2, .slice Au used.length cu, .map (some bm), .int .i64 en]) BU6.out 3 _ rfl⟩
       have BX7 : Az ((w6.setCell ⟨w.heap.size + 1, 3, none⟩ (.slice Av (used.length + 1) cv)).heap[wr.heap.size]? = some (.cells #[.slice A3 x.f0.length c3, .bool x.f1, .slice A4 x.f2.length c4] 42 (0, 0))) := ⟨blk_far BX6.out (by show _ ≠ w.heap.size + 1; omega) _⟩
       have HM7 : Az (HasMap (Value.int .i64) (w6.setCell ⟨w.heap.size + 1, 3, none⟩ (.slice Av (used.length + 1) cv)) bm (byF cls.length byL)) := ⟨(map_grown HM.out HG6.out (map_ne_own HM.out HU.out)).setCell (by show _ ≠ w.heap.size + 1; omega) _⟩
       have HU7 : Az (Kd.R (Kd.int .i64) 3 (w6.setCell ⟨w.heap.size + 1, 3, none⟩ (.slice Av (used.length + 1) cv)) w.heap.size (fun _ => True) (.slice Av (used.length + 1) cv) (used ++ [n])) := ⟨by
        have := Kd.R_set HU6.out BU6.out (by decide) 3 (.slice Av (used.length + 1) cv)
        simpa using this⟩
       have HB7 : Az (Below w.heap.size w (w6.setCell ⟨w.heap.size + 1, 3, none⟩ (.slice Av (used.length + 1) cv))) := ⟨bws HB6.out (by omega)⟩
       have HZ7 : Az (bm < (w6.setCell ⟨w.heap.size + 1, 3, none⟩ (.slice Av (used.length + 1) cv)).heap.size ∧ wr.heap.size < (w6.setCell ⟨w.heap.size + 1, 3, none⟩ (.slice Av (used.length + 1) cv)).heap.size) := ⟨by have := HG6.out.size; simp; omega⟩
       have HP7 : Az (P'.length = cls.length + byL.length + 1) := ⟨by
        have := HLN2.out (by first | rfl | trivial); rw [hg1] at this
        have := HLN.out
        simp at *; omega⟩
       clear hg1 hyg hy3 hy3f hzw hz1 HBA BC BK BU BU6 BX6 BX5 HM HU HU6 HB6 HG6 HB HLN2
       generalize (w6.setCell ⟨w.heap.size + 1, 3, none⟩ (.slice Av (used.length + 1) cv)) = w7 at HBA7 BC7 BK7 BX7 HM7 HU7 HB7 HZ7 ⊢
       have hx4 : w7.cell? ⟨w.heap.size + 1, 4, none⟩ = some (.map (some bm)) := (bkc BK7.out 4).trans rfl
       have hb1 : w7.cell? ⟨B, 1, none⟩ = some (.int .i64 P'.length) := (bkc HBA7.out.cells 1).trans rfl
       go_still_tail 7, (by kernel_rfl)
       change wpList _ _ _ _ _ w7.drew
       refine wp_store _ rfl _ _ _ 64 rfl 3 3 kint Tryz.underlying64 bm _ rfl HM7.out.drew (P'.length : Int) (.int .i64 (i : Int)) rfl rfl ?_
       intro w8 hm8 ht8
       have HM8 : Az (HasMap (Value.int .i64) w8 bm (byF cls.length (byL ++ [(i : Int)]))) := ⟨by
        rw [← byF_snoc]
        have e : ((P'.length : Int)) = ((cls.length + byL.length + 1 : Nat) : Int) := by rw [HP7.out]
        rw [← e]; exact hm8⟩
       have HBA8 : Az (BaseAt w w8 B M P') := ⟨(HBA7.out.below (Below.refl _ _).drew).turned ht8 (by omega) (by omega)⟩
       have BC8 := Az.mk (bkg (bkd BC7.out) ht8.1 (fun h => by have := Option.some.inj h; omega))
       have BK8 := Az.mk (bkg (bkd BK7.out) ht8.1 (fun h => by have := Option.some.inj h; omega))
       have hbx : wr.heap.size ≠ bm := by omega
       have BX8 := Az.mk (bkg (bkd BX7.out) ht8.1 (fun h => hbx (Option.some.inj h)))
       have HU8 := Az.mk (R_turned (Kd.R_drew HU7.out) HM7.out.drew ht8)
       have HB8 := Az.mk (turned_below (below_drew HB7.out) ht8 (by omega) HB7.out.size)
       have HZ8 : Az (bm < w8.heap.size ∧ wr.heap.size < w8.heap.size) := ⟨by have := ht8.2.1; have := HZ7.out; have h9 : w7.drew.heap.size = w7.heap.size := rfl; omega⟩
       clear hm8 ht8 hx4 hb1 HBA7 BC7 BK7 BX7 HM7 HU7 HB7 HZ7
       have hx5 : w8.cell? ⟨w.heap.size + 1, 5, none⟩ = some (.int .i64 en) := (bkc BK8.out 5).trans rfl
       have hf5 := bkf BK8.out 5
       have hxb : w8.cell? ⟨wr.heap.size, 0, none⟩ = some (.slice A3 x.f0.length c3) := (bkc BX8.out 0).trans rfl
       by_cases hen : en < 0
       ·by_cases hl0 : x.f0.length = 0
        ·have HLE := Az.mk (And.intro hen hl0)
         have hen' : decide (en < 0) = true := decide_eq_true hen
         have hl0' : ((x.f0.length : Int) == 0) = true := by rw [hl0]; rfl
         clear hl0
         go_wp2
         go_roundw
         case rel =>
          refine ⟨i + 1, P', used ++ [n], byL ++ [(i : Int)], (i : Int), .slice Av (used ++ [n]).length cv, by rw [wrap_succ hlt HL.out], by omega, ⟨?_⟩, ⟨?_⟩, ⟨?_⟩, ⟨?_⟩, ⟨?_⟩, ⟨?_⟩, ⟨?_⟩, ⟨?_⟩, ⟨?_⟩⟩
          ·rw [HA.out, runL, HST.out, if_neg (by simp), if_neg (by rw [HG1.out]; simp), if_pos HLE.out]; simp
          ·have := HP7.out
           have := HLN.out
           simp; omega
          ·exact HBA8.out.setCell (by omega) (by omega) _
          ·exact blk_far BC8.out (by show _ ≠ w.heap.size + 1; omega) _
          ·exact blk_put (cs := #[.int .i64 vars, .slice A1 cls.length c1, .slice (some ad) p.length c2, .slice Av (used.length + 1) cv, .map (some bm), .int .i64 en]) BK8.out 5 _ (by simp [checkedCells])
          ·exact HM8.out.setCell (by show _ ≠ w.heap.size + 1; omega) _
          ·have := Kd.R_set HU8.out BK8.out (by decide) 5 (.int .i64 i)
           simpa using this
          ·exact bws HB8.out (by omega)
          ·exact (by simp; exact HZ8.out.1)
         case measure => exact meas_x hlt (wrap_succ hlt HL.out)
        ·have HLE := Az.mk (show ¬ (en < 0 ∧ x.f0.length = 0) from fun h => hl0 h.2)
         have hen' : decide (en < 0) = true := decide_eq_true hen
         have hl0' : ((x.f0.length : Int) == 0) = false := by simpa using hl0
         clear hl0
         go_wp2
         go_roundw
         case rel =>
          refine ⟨i + 1, P', used ++ [n], byL ++ [(i : Int)], en, .slice Av (used ++ [n]).length cv, by rw [wrap_succ hlt HL.out], by omega, ⟨?_⟩, ⟨?_⟩, ⟨?_⟩, ⟨?_⟩, ⟨?_⟩, ⟨?_⟩, ⟨?_⟩, ⟨?_⟩, ⟨?_⟩⟩
          ·rw [HA.out, runL, HST.out, if_neg (by simp), if_neg (by rw [HG1.out]; simp), if_neg HLE.out]; simp
          ·have := HP7.out
           have := HLN.out
           simp; omega
          ·exact HBA8.out
          ·exact BC8.out
          ·exact (by have := BK8.out; simpa [checkedCells] using this)
          ·exact HM8.out
          ·have := HU8.out
           simpa using this
          ·exact HB8.out
          ·exact HZ8.out.1
         case measure => exact meas_x hlt (wrap_succ hlt HL.out)
       ·have HLE := Az.mk (show ¬ (en < 0 ∧ x.f0.length = 0) from fun h => hen h.1)
        have hen' : decide (en < 0) = false := decide_eq_false hen
        clear hen
        go_wp2
        go_roundw
        case rel =>
         refine ⟨i + 1, P', used ++ [n], byL ++ [(i : Int)], en, .slice Av (used ++ [n]).length cv, by rw [wrap_succ hlt HL.out], by omega, ⟨?_⟩, ⟨?_⟩, ⟨?_⟩, ⟨?_⟩, ⟨?_⟩, ⟨?_⟩, ⟨?_⟩, ⟨?_⟩, ⟨?_⟩⟩
         ·rw [HA.out, runL, HST.out, if_neg (by simp), if_neg (by rw [HG1.out]; simp), if_neg HLE.out]; simp
         ·have := HP7.out
          have := HLN.out
          simp; omega
         ·exact HBA8.out
         ·exact BC8.out
         ·exact (by have := BK8.out; simpa [checkedCells] using this)
         ·exact HM8.out
         ·have := HU8.out
          simpa using this
         ·exact HB8.out
         ·exact HZ8.out.1
        case measure => exact meas_x hlt (wrap_succ hlt HL.out)
     ·have HCC := Az.mk hc
      obtain ⟨t, ht⟩ : ∃ t, faultV c = .iface t (.agg #[]) := by rcases hc with rfl | rfl <;> exact ⟨_, rfl⟩
      have hec := fun W => errno_calls c HCC.out W
      rw [ht] at hec ⊢
      have HEC := Az.mk hec
      clear hc ht hec
      have hx0 : w5.cell? ⟨w.heap.size + 1, 0, none⟩ = some (.int .i64 vars) := (bkc BK.out 0).trans rfl
      have hx1 : w5.cell? ⟨w.heap.size + 1, 1, none⟩ = some (.slice A1 cls.length c1) := (bkc BK.out 1).trans rfl
      have hx2 : w5.cell? ⟨w.heap.size + 1, 2, none⟩ = some (.slice (some ad) p.length c2) := (bkc BK.out 2).trans rfl
      have hx3 : w5.cell? ⟨w.heap.size + 1, 3, none⟩ = some (.slice Au used.length cu) := (bkc BK.out 3).trans rfl
      have hx4 : w5.cell? ⟨w.heap.size + 1, 4, none⟩ = some (.map (some bm)) := (bkc BK.out 4).trans rfl
      have hx5 : w5.cell? ⟨w.heap.size + 1, 5, none⟩ = some (.int .i64 en) := (bkc BK.out 5).trans rfl
      have hf0 := bkf BK.out 0
      have hf1 := bkf BK.out 1
      have hf2 := bkf BK.out 2
      have hf3 := bkf BK.out 3
      have hf4 := bkf BK.out 4
      have hf5 := bkf BK.out 5
      go_wp2
      go_region_with (go_at_call 83; refine (HEC.out _).mono ?_; rintro e w' ⟨rfl, rfl⟩)
      all_goals
       have BU : Az (w5.heap[w.heap.size + 1]? = some (.cells #[.int .i64 vars, .slice A1 cls.length c1, .slice (some ad) p.length c2, .slice Au used.length cu, .map (some bm), .int .i64 en] 66 (0, 0))) := BK
       go_wp2
       refine bodyPost_ret (results_list (rs := [.cell 4 66, .tmp 5, .tmp 6]) rfl (by simp) (.cell (w.heap.size + 1) 66 #[.int .i64 vars, .slice A1 cls.length c1, .slice (some ad) p.length c2, .slice Au used.length cu, .map (some bm), .int .i64 en] (0, 0) _ rfl (by repeat (first | (with_reducible exact BU.out) | (with_reducible refine blk_put (cs := #[.int .i64 vars, .slice A1 cls.length c1, .slice (some ad) p.length c2, .slice Au used.length cu, .map (some bm), .int .i64 en]) ?_ _ _ ?_) | (with_reducible refine bkd ?_) | rfl)) hu71 rfl (by kernel_rfl) (.tmp (.tmp .nil)))) rfl ?_
       refine ⟨by repeat (first | (with_reducible exact HB.out) | (with_reducible refine bws ?_ ?_) | (with_reducible refine below_drew ?_) | omega), #[.int .i64 vars, .slice A1 cls.length c1, .slice (some ad) p.length c2, .slice Au used.length cu, .map (some bm), .int .i64 en], ?_, ⟨_, _, _, _, _, _, _, _, _, _, _, _, rfl⟩, fun he => ?_⟩
       ·rw [← H2.out, HA.out, runL, HST.out]
        rw [if_pos (by rcases HCC.out with h | h <;> rw [h] <;> simp)]; rfl
       ·rw [← H2.out, HA.out, runL, HST.out, if_pos (by rcases HCC.out with h | h <;> rw [h] <;> simp)] at he
        exfalso
        rcases HCC.out with h | h <;> rw [h] at he <;> simp at he
    ·obtain ⟨Au, cu, hvu⟩ := Kd.R_slice HU.out
     subst hvu
     have BU : Az (wr.heap[w.heap.size + 1]? = some (.cells #[.int .i64 vars, .slice A1 cls.length c1, .slice A2 p.length c2, .slice Au used.length cu, .map (some bm), .int .i64 en] 66 (0, 0))) := BK
     have hx0 : wr.cell? ⟨w.heap.size + 1, 0, none⟩ = some (.int .i64 vars) := (bkc BK.out 0).trans rfl
     have hx1 : wr.cell? ⟨w.heap.size + 1, 1, none⟩ = some (.slice A1 cls.length c1) := (bkc BK.out 1).trans rfl
     have hx2 : wr.cell? ⟨w.heap.size + 1, 2, none⟩ = some (.slice A2 p.length c2) := (bkc BK.out 2).trans rfl
     have hx3 : wr.cell? ⟨w.heap.size + 1, 3, none⟩ = some (.slice Au used.length cu) := (bkc BK.out 3).trans rfl
     have hx4 : wr.cell? ⟨w.heap.size + 1, 4, none⟩ = some (.map (some bm)) := (bkc BK.out 4).trans rfl
     have hf0 := bkf BK.out 0
     have hf1 := bkf BK.out 1
     have hf2 := bkf BK.out 2
     have hf3 := bkf BK.out 3
     have hf4 := bkf BK.out 4
     have hf5 := bkf BK.out 5
     have hgeq : Az (runL vars (cls.map some) [] [] (-1) 0 p = ⟨used, byL, en, 0, if en < 0 then 8 else 0⟩) := ⟨by rw [HA.out, List.drop_of_length_le (by omega)]; rfl⟩
     have hbsz := HZ.out
     by_cases hen : en < 0
     ·have HEN := Az.mk hen
      have hen' : decide (en < 0) = true := decide_eq_true hen
      clear hen
      go_wp2
      refine bodyPost_ret (results_list (rs := [.cell 4 66, .tmp 5, .tmp 6]) rfl (by simp) (.cell (w.heap.size + 1) 66 #[.int .i64 vars, .slice A1 cls.length c1, .slice A2 p.length c2, .slice Au used.length cu, .map (some bm), .int .i64 en] (0, 0) _ rfl (by repeat (first | (with_reducible exact BU.out) | (with_reducible refine blk_put (cs := #[.int .i64 vars, .slice A1 cls.length c1, .slice A2 p.length c2, .slice Au used.length cu, .map (some bm), .int .i64 en]) ?_ _ _ ?_) | rfl)) hu71 rfl (by kernel_rfl) (.tmp (.tmp .nil)))) rfl ?_
      refine ⟨by repeat (first | (with_reducible exact HB.out) | (with_reducible refine bws ?_ ?_) | omega), #[.int .i64 vars, .slice A1 cls.length c1, .slice A2 p.length c2, .slice Au used.length cu, .map (some bm), .int .i64 en], ?_, ⟨_, _, _, _, _, _, _, _, _, _, _, _, rfl⟩, fun he => ?_⟩
      ·rw [← H2.out, hgeq.out]; simp only [HEN.out, if_true]; rfl
      ·rw [← H2.out, hgeq.out] at he
       simp only [HEN.out, if_true] at he
       exact absurd he (by decide)
     ·have HEN := Az.mk hen
      have hen' : decide (en < 0) = false := decide_eq_false hen
      clear hen
      go_wp2
      refine bodyPost_ret (results_list (rs := [.cell 4 66, .tmp 5, .tmp 6]) rfl (by simp) (.cell (w.heap.size + 1) 66 #[.int .i64 vars, .slice A1 cls.length c1, .slice A2 p.length c2, .slice Au used.length cu, .map (some bm), .int .i64 en] (0, 0) _ rfl (by repeat (first | (with_reducible exact BU.out) | (with_reducible refine blk_put (cs := #[.int .i64 vars, .slice A1 cls.length c1, .slice A2 p.length c2, .slice Au used.length cu, .map (some bm), .int .i64 en]) ?_ _ _ ?_) | rfl)) hu71 rfl (by kernel_rfl) (.tmp (.tmp .nil)))) rfl ?_
      refine ⟨by repeat (first | (with_reducible exact HB.out) | (with_reducible refine bws ?_ ?_) | omega), #[.int .i64 vars, .slice A1 cls.length c1, .slice A2 p.length c2, .slice Au used.length cu, .map (some bm), .int .i64 en], ?_, ⟨_, _, _, _, _, _, _, _, _, _, _, _, rfl⟩, fun he => ?_⟩
      ·rw [← H2.out, hgeq.out]; rw [if_neg (by have := HEN.out; omega)]; rfl
      ·refine ⟨.slice Au used.length cu, bm, ?_, ?_, by omega, ?_⟩
       ·rw [← H2.out, hgeq.out]; rfl
       ·rw [← H2.out, hgeq.out]
        refine Kd.R_mono (ok := fun k => True ∧ k ≠ w.heap.size + 1) ?_ (fun _ _ => trivial)
        have hty := Kd.R_types HU.out BU.out (by decide)
        repeat (first | (with_reducible exact hty) | (with_reducible refine Kd.R_far ?_ ?_ _) | exact fun _ hk => hk.2)
       ·rw [← H2.out, hgeq.out]
        repeat (first | (with_reducible exact HM.out) | (with_reducible refine HasMap.setCell ?_ ?_ _))
        all_goals first | (with_reducible exact HM.out) | (show _ ≠ w.heap.size + 1; omega)
  ·have hlong' : decide (65536 < (p.length : Int)) = true := decide_eq_true (by omega)
   have H2 := Az.mk (Option.some.inj ((if_neg hlong).symm.trans H1.out))
   clear hlong H1
   go_wp2
   refine bodyPost_ret (results_list (rs := [.cell 4 66, .tmp 5, .tmp 6]) rfl (by simp) (.cell (w.heap.size + 1) 66 #[.int .i64 0, .slice none 0 0, .slice none 0 0, .slice none 0 0, .map none, .int .i64 0] (0, 0) _ rfl (by repeat (first | (with_reducible exact BK.out) | (with_reducible refine blk_put (cs := #[.int .i64 0, .slice none 0 0, .slice none 0 0, .slice none 0 0, .map none, .int .i64 0]) ?_ _ _ ?_) | rfl)) hu71 rfl (by kernel_rfl) (.tmp (.tmp .nil)))) rfl ?_
   refine ⟨by repeat (first | (with_reducible exact HB.out) | (with_reducible refine bws ?_ ?_) | omega), _, by rw [← H2.out]; rfl, ⟨_, _, _, _, _, _, _, _, _, _, _, _, rfl⟩, fun he => ?_⟩
   rw [← H2.out] at he
   exact absurd he (by simp)
 ·have H1 := Az.mk (Option.some.inj ((if_neg h0).symm.trans H.out))
  have h0' : (e0 != 0) = true := by simpa using h0
  clear H HE
  have hx0 : w1.cell? ⟨w.heap.size + 1, 0, none⟩ = some (.int .i64 0) := (bkc BK.out 0).trans rfl
  have hx1 : w1.cell? ⟨w.heap.size + 1, 1, none⟩ = some (.slice none 0 0) := (bkc BK.out 1).trans rfl
  have hx2 : w1.cell? ⟨w.heap.size + 1, 2, none⟩ = some (.slice none 0 0) := (bkc BK.out 2).trans rfl
  have hx3 : w1.cell? ⟨w.heap.size + 1, 3, none⟩ = some (.slice none 0 0) := (bkc BK.out 3).trans rfl
  have hx4 : w1.cell? ⟨w.heap.size + 1, 4, none⟩ = some (.map none) := (bkc BK.out 4).trans rfl
  have hx5 : w1.cell? ⟨w.heap.size + 1, 5, none⟩ = some (.int .i64 0) := (bkc BK.out 5).trans rfl
  have hf0 := bkf BK.out 0
  have hf1 := bkf BK.out 1
  have hf2 := bkf BK.out 2
  have hf3 := bkf BK.out 3
  have hf4 := bkf BK.out 4
  have hf5 := bkf BK.out 5
  go_wp2
  refine bodyPost_ret (results_list (rs := [.cell 4 66, .tmp 5, .tmp 6]) rfl (by simp) (.cell (w.heap.size + 1) 66 #[.int .i64 0, .slice none 0 0, .slice none 0 0, .slice none 0 0, .map none, .int .i64 0] (0, 0) _ rfl (by repeat (first | (with_reducible exact BK.out) | (with_reducible refine blk_put (cs := #[.int .i64 0, .slice none 0 0, .slice none 0 0, .slice none 0 0, .map none, .int .i64 0]) ?_ _ _ ?_) | rfl)) hu71 rfl (by kernel_rfl) (.tmp (.tmp .nil)))) rfl ?_
  refine ⟨by repeat (first | (with_reducible exact HB.out) | (with_reducible refine bws ?_ ?_) | omega), _, by rw [← H1.out]; rfl, ⟨_, _, _, _, _, _, _, _, _, _, _, _, rfl⟩, fun he => ?_⟩
  rw [← H1.out] at he
  exact absurd he h0
end Go.Proofs.YtogicccdngpafaaGreatDoor.NState
end
section
set_option maxHeartbeats 4000000
set_option maxRecDepth 100000
namespace Go.Proofs.YtogicccdngpafaaGreatDoor.NState
open Go Go.RowKit Go.Shelf QW.PrintWords QW.PrintLast QW.PrintMore NMap
open PCheck (cnf_Check.f cnf_Check.calls rL at_L1)
open PSame (S42 k42 rd_T42 at_T42)
def CheckPost (w : World) (a b : Int) (e : Ending) (w' : World) : Prop := e = .returned (.tuple #[.int .i64 a, .int .i64 b]) ∧ Below w.heap.size w w'
theorem check_calls (k : Nat) (vars : Int) (A1 : Option Addr) (c1 : Nat) (cls : List (List Int)) (A2 : Option Addr) (c2 : Nat) (p : List Stp) (r : RunR) (w : World)
  (hr1 : Kd.C (Kd.slice 3 (Kd.int .i64)) w A1 cls.length cls) (hc1 : cls.length ≤ c1) (hr2 : Kd.C kStp w A2 p.length p) (hc2 : p.length ≤ c2) (h : runF k vars cls p = some r) (hlen : cls.length ≤ 4611686018427000000) :
  Calls Tryz.prog 11 #[.agg #[.int .i64 vars, .slice A1 cls.length c1], .slice A2 p.length c2] w (CheckPost w r.at_ r.e) := by
 have hcall := run_calls k vars A1 c1 cls A2 c2 p r (w.alloc (.cells #[.int .i64 vars, .slice A1 cls.length c1] 24)) (Kd.C_alloc hr1 _) hc1 (Kd.C_alloc hr2 _) hc2 h hlen
 clear hr1 hc1 hr2 hc2 h hlen
 have hu24 := Tryz.underlying24
 go_enter Tryz.func11, Tryz.ntmps11
 go_wp2_with (go_at_call 35; refine hcall.mono ?_; rintro e w' ⟨hb, cs, rfl, hsz, _⟩; have HB := Az.mk hb; clear hb)
 go_ret2
 exact ⟨rfl, (bwt ((Below.refl _ _).alloc (Nat.le_refl _) _) HB.out)⟩
def HintsPost (w0 w : World) (l : List Int) (e : Ending) (w' : World) : Prop := ∃ A c, e = .returned (.slice A l.length c) ∧ l.length ≤ c ∧ Kd.C (Kd.int .i64) w0 A l.length l ∧ Below w.heap.size w w'
theorem hints_calls (vars : Int) (v1 : Value) (A2 : Option Addr) (c2 : Nat) (p : List Stp) (v3 : Value) (used : List Int) (v4 : Value) (en : Int) (i : Int) (w w0 : World) (base : Nat)
  (hr2 : Kd.C kStp w0 A2 p.length p) (hB : Below w0.heap.size w0 w) (hu : Kd.R (Kd.int .i64) 3 w base (fun _ => True) v3 used) (hi0 : 0 ≤ i) (hi1 : i < p.length) (hi2 : i < used.length) (hn0 : 0 ≤ rd used i) (hn1 : rd used i ≤ (rd_T42 p i).f2.length) :
  Calls Tryz.prog 38 #[.agg #[.int .i64 vars, v1, .slice A2 p.length c2, v3, v4, .int .i64 en], .int .i64 i] w (HintsPost w0 w ((rd_T42 p i).f2.take (rd used i).toNat)) := by
 obtain ⟨Au, cu, rfl, hlu, hCu⟩ := Kd.R_reads hu
 obtain ⟨au, rfl, hxu⟩ := Kd.at_int hCu i hi0 hi2
 obtain ⟨ad, A3, c3, A4, c4, rfl, hp0, hp1, hp2, hl3, hC3, hl4, hC4⟩ := at_T42 hr2 i hi0 hi1
 replace hp2 := (hB.cell (World.block_lt_of_cell? w0 _ hp2)).trans hp2
 have HC4 := Az.mk hC4
 have HL4 := Az.mk hl4
 have HN0 := Az.mk hn0
 have HN1 := Az.mk hn1
 generalize (rd_T42 p i).f2 = l at hp2 HC4 HL4 HN1 ⊢
 generalize rd used i = n at hxu HN0 HN1 ⊢
 clear hC3 hl3 hp0 hp1 hC4 hl4 hn0 hn1 hCu hlu hu hr2 hB
 go_enter Tryz.func38, Tryz.ntmps38
 go_wp2
 obtain ⟨m, rfl⟩ := Int.eq_ofNat_of_zero_le HN0.out
 obtain ⟨j, rfl⟩ := Int.eq_ofNat_of_zero_le hi0
 simp only [Int.toNat_natCast] at hp2 hxu
 have hmc : m ≤ c4 := by have := HN1.out; have := HL4.out; omega
 have HB1 : Az (Below w.heap.size w (w.alloc (.cells #[.int .i64 vars, v1, .slice (some ad) p.length c2, .slice (some au) used.length cu, v4, .int .i64 en] 66))) := ⟨(Below.refl _ _).alloc (Nat.le_refl _) _⟩
 have hxn := blk_new w (.cells #[.int .i64 vars, v1, .slice (some ad) p.length c2, .slice (some au) used.length cu, v4, .int .i64 en] 66)
 replace hp2 := pwc HB1.out hp2
 replace hxu := pwc HB1.out hxu
 generalize w.alloc (.cells #[.int .i64 vars, v1, .slice (some ad) p.length c2, .slice (some au) used.length cu, v4, .int .i64 en] 66) = W at HB1 hxn hp2 hxu ⊢
 have hx2 : W.cell? ⟨w.heap.size, 2, none⟩ = some (.slice (some ad) p.length c2) := (bkc hxn 2).trans rfl
 have hx3 : W.cell? ⟨w.heap.size, 3, none⟩ = some (.slice (some au) used.length cu) := (bkc hxn 3).trans rfl
 clear hxn
 go_quiet (fail)
 go_wp2
 go_ret
 have hml : m ≤ l.length := by have := HN1.out; omega
 refine ⟨A4, c4, ?_, ?_, Kd.C_take HC4.out hml, pwN HB1.out _⟩
 ·rw [List.length_take, Int.toNat_natCast, Nat.min_eq_left hml]; rfl
 ·rw [List.length_take]; omega
end Go.Proofs.YtogicccdngpafaaGreatDoor.NState
end
section
set_option maxRecDepth 100000
namespace Go.Proofs.YtogicccdngpafaaGreatDoor.NPlain
open Go Go.RowKit QW.PrintWords QW.PrintLast QW.PrintMore NState
def LitOk (n : Nat) (x : Int) : Prop := x ≠ 0 ∧ -(n : Int) ≤ x ∧ x ≤ n
theorem bring_ok (a : Int) {m : Int} (h1 : 1 ≤ m) (h2 : m ≤ 1000000000) : ∃ t, PFit.nBr.f a m = some t ∧ 0 ≤ t ∧ t < m := by
 unfold PFit.nBr.f
 rw [if_neg (by omega)]
 refine ⟨_, rfl, ?_⟩
 have ha1 : -m < a.tmod m := by
  have := Int.lt_tmod_of_pos a (show 0 < m by omega)
  exact this
 have ha2 : a.tmod m < m := Int.tmod_lt_of_pos a (by omega)
 rw [wid (by omega) (by omega)]
 exact ⟨Int.tmod_nonneg _ (by omega), Int.tmod_lt_of_pos _ (by omega)⟩
theorem rdFI {l : List (List Int)} {k : Nat} (h : k < l.length) : PFit.rL l k = l[k] := by simp [PFit.rL, List.getD, h]
structure InvF (n len i j : Nat) (L : List (List Int)) : Prop where
 len : L.length = len
 short : ∀ (m : Nat) l, L[m]? = some l → l.length ≤ 12
 done : ∀ (m : Nat) l, m < i → L[m]? = some l → ∀ x ∈ l, LitOk n x
 part : ∀ l, L[i]? = some l → ∀ (q : Nat) x, q < j → l[q]? = some x → LitOk n x
theorem rdFS {L : List (List Int)} {i : Nat} (hi : i < L.length) : L[i]? = some (PFit.rL L (i : Int)) := by
 rw [rdFI hi, List.getElem?_eq_getElem hi]
theorem InvF.next {n len i j : Nat} {L : List (List Int)} (h : InvF n len i j L) (hi : i < len) (hj : j = (PFit.rL L (i : Int)).length) : InvF n len (i + 1) 0 L := by
 refine ⟨h.len, h.short, fun m l hm hl x hx => ?_, fun _ _ _ _ hq => absurd hq (Nat.not_lt_zero _)⟩
 by_cases e : m = i
 ·subst e
  have hr := rdFS (L := L) (i := m) (by rw [h.len]; exact hi)
  rw [hr] at hl
  cases hl
  obtain ⟨q, hq, he⟩ := List.getElem_of_mem hx
  exact h.part _ hr q x (by omega) (by rw [List.getElem?_eq_getElem hq, he])
 ·exact h.done m l (by omega) hl x hx
theorem InvF.gone {n len i j : Nat} {L : List (List Int)} (h : InvF n len i j L) (hi : i < len) : InvF n len (i + 1) 0 (L.set i []) := by
 refine ⟨by simp [h.len], fun m l hl => ?_, fun m l hm hl x hx => ?_, fun _ _ _ _ hq => absurd hq (Nat.not_lt_zero _)⟩
 ·rw [List.getElem?_set] at hl
  split at hl
  ·split at hl
   ·cases hl; simp
   ·cases hl
  ·exact h.short m l hl
 ·rw [List.getElem?_set] at hl
  split at hl
  ·split at hl
   ·cases hl; cases hx
   ·cases hl
  ·rename_i hne; exact h.done m l (by omega) hl x hx
theorem InvF.put {n len i j : Nat} {L : List (List Int)} (h : InvF n len i j L) (hi : i < len) (hj : j < (PFit.rL L (i : Int)).length) {x : Int} (hx : LitOk n x) : InvF n len i (j + 1) (L.set i ((PFit.rL L (i : Int)).set j x)) := by
 have hL : i < L.length := by rw [h.len]; exact hi
 have hr := rdFS hL
 refine ⟨by simp [h.len], fun m l hl => ?_, fun m l hm hl y hy => ?_, fun l hl q y hq hy => ?_⟩
 ·rw [List.getElem?_set] at hl
  split at hl
  ·rename_i hm
   cases hl
   rw [List.length_set]
   exact h.short i _ hr
  ·exact h.short m l hl
 ·rw [List.getElem?_set] at hl
  split at hl
  ·omega
  ·exact h.done m l hm hl y hy
 ·rw [List.getElem?_set, if_pos rfl, if_pos hL] at hl
  cases hl
  rw [List.getElem?_set] at hy
  split at hy
  ·rename_i hm
   cases hy; exact hx
  ·exact h.part _ hr q y (by omega) hy
theorem lit_pos {n : Nat} (hn : n ≤ 100000) {t : Int} (h0 : 0 ≤ t) (h1 : t < 2 * n) : wrap64 (wrap64 (Int.tdiv t 2) + 1) = t / 2 + 1 ∧ LitOk n (t / 2 + 1) := by
 have e : Int.tdiv t 2 = t / 2 := Int.tdiv_eq_ediv_of_nonneg h0
 rw [e, wid (x := t / 2) (by omega) (by omega), wid (by omega) (by omega)]
 exact ⟨rfl, by omega, by omega, by omega⟩
theorem lit_neg {n : Nat} (hn : n ≤ 100000) {t : Int} (h0 : 0 ≤ t) (h1 : t < 2 * n) : wrap64 (-(wrap64 (wrap64 (Int.tdiv t 2) + 1))) = -(t / 2 + 1) ∧ LitOk n (-(t / 2 + 1)) := by
 obtain ⟨e, h2⟩ := lit_pos hn h0 h1
 rw [e, wneg (by omega) (by omega)]
 exact ⟨rfl, by omega, by omega, by omega⟩
end Go.Proofs.YtogicccdngpafaaGreatDoor.NPlain
end
