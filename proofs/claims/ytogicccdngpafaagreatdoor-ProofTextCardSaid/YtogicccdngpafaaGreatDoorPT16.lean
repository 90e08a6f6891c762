/-
  Part 16 of the proof of proofText_card: walks and lemmas, packed by the session's own wip/pack.py out of its texts and of what the kit's print.sh printed.
-/
import Derived.Test.YtogicccdngpafaaGreatDoorPT12
import Derived.Test.YtogicccdngpafaaGreatDoorPT15
set_option linter.unusedVariables false
set_option linter.unusedSimpArgs false
section
set_option maxHeartbeats 4000000
set_option maxRecDepth 100000
namespace Go.Proofs.YtogicccdngpafaaGreatDoor.NState
open Go Go.RowKit Go.Shelf QW.PrintWords QW.PrintLast QW.PrintMore NMap NIter
open PCheck (cnf_Check.f cnf_Check.calls rL at_L1)
open PSame (S42 k42 rd_T42 at_T42)
attribute [local go_sem] Oper.semAt_some
theorem infoBool : (Tryz.prog.info? 4).map (fun i => (i.zero, i.size, i.bytes)) = some (some (.bool false), 1, 1) := by kernel_rfl
structure NStep (base : Nat) (A B : World) : Prop where
 os : B.os = A.os
 tape : B.tape = A.tape
 output : B.output = A.output
 size : A.heap.size ≤ B.heap.size
 block : ∀ (k : Nat) (o : Obj), A.heap[k]? = some o → (k < base ∨ ∀ cs fr, o ≠ .cells cs 4 fr) → B.heap[k]? = some o
def NKeep (A B : World) : Prop := A.heap.size ≤ B.heap.size ∧ ∀ (k : Nat) (cs : Array Value) (fr : Nat × Nat), A.heap[k]? = some (.cells cs 4 fr) → B.heap[k]? = some (.cells cs 4 fr)
theorem NStep.refl (base : Nat) (A : World) : NStep base A A := ⟨rfl, rfl, rfl, Nat.le_refl _, fun _ _ h _ => h⟩
theorem NStep.trans {base : Nat} {A B C : World} (h : NStep base A B) (h' : NStep base B C) : NStep base A C := ⟨h'.os.trans h.os, h'.tape.trans h.tape, h'.output.trans h.output, Nat.le_trans h.size h'.size, fun k o hk ho => h'.block k o (h.block k o hk ho) ho⟩
theorem NStep.below {base : Nat} {A B : World} (h : Below A.heap.size A B) : NStep base A B := ⟨h.os, h.tape, h.output, h.size, fun k o hk _ => (h.block k (Array.getElem?_eq_some_iff.1 hk).1).trans hk⟩
theorem NStep.set {base nb : Nat} {A : World} {cs : Array Value} {fr : Nat × Nat} (h : A.heap[nb]? = some (.cells cs 4 fr)) (hb : base ≤ nb) (j : Nat) (u : Value) : NStep base A (A.setCell ⟨nb, j, none⟩ u) := by
 have hB : Below 0 A (A.setCell ⟨nb, j, none⟩ u) := (Below.refl 0 A).setCell (p := ⟨nb, j, none⟩) (Nat.zero_le _) u
 refine ⟨hB.os, hB.tape, hB.output, hB.size, fun k o hk ho => ?_⟩
 have hne : k ≠ nb := by
  rintro rfl
  rcases ho with ho | ho
  ·omega
  ·rw [h] at hk; cases hk; exact ho _ _ rfl
 exact (Below.heap_setCell A ⟨nb, j, none⟩ u k hne).trans hk
theorem NStep.lt {base k : Nat} {A B : World} (h : NStep base A B) (hb : base ≤ A.heap.size) (hk : k < base) : B.heap[k]? = A.heap[k]? := by
 have hlt : k < A.heap.size := by omega
 rw [Array.getElem?_eq_getElem hlt]
 exact h.block k _ (Array.getElem?_eq_getElem hlt) (.inl hk)
theorem NStep.reads {base : Nat} {w0 A B : World} (h : NStep base A B) (hb : base ≤ A.heap.size) (h0 : w0.heap.size ≤ base) (hB : Below w0.heap.size w0 A) : Below w0.heap.size w0 B :=
 ⟨h.os.trans hB.os, h.tape.trans hB.tape, h.output.trans hB.output, Nat.le_trans hB.size h.size, fun k hk => (h.lt hb (by omega)).trans (hB.block k hk)⟩
theorem NKeep.refl (A : World) : NKeep A A := ⟨Nat.le_refl _, fun _ _ _ h => h⟩
theorem NKeep.trans {A B C : World} (h : NKeep A B) (h' : NKeep B C) : NKeep A C := ⟨Nat.le_trans h.1 h'.1, fun k cs fr hk => h'.2 k cs fr (h.2 k cs fr hk)⟩
theorem NKeep.below {A B : World} (h : Below A.heap.size A B) : NKeep A B := ⟨h.size, fun k _ _ hk => (h.block k (Array.getElem?_eq_some_iff.1 hk).1).trans hk⟩
structure NNeed (w0 : World) (base bx bm base0 : Nat) (cs : Array Value) (vu : Value) (used : List Int) (n : Nat) (byL : List Int) (W : World) : Prop where
 size : base ≤ W.heap.size
 reads : Below w0.heap.size w0 W
 box : W.heap[bx]? = some (.cells cs 66 (0, 0))
 row : Kd.R (Kd.int .i64) 3 W base0 (fun _ => True) vu used
 map : HasMap (Value.int .i64) W bm (byF n byL)
def stepOf (n : Nat) (byL : List Int) (h : Int) : Option Int := if (n : Int) < h then byL[(h - n - 1).toNat]? else none
theorem byF_step (n : Nat) (byL : List Int) (h : Int) : byF n byL h = (stepOf n byL h).map (Value.int .i64) := by
 unfold byF stepOf; split <;> rfl
def markL (n : Nat) (byL : List Int) : List Bool → List Int → List Bool
 | need, [] => need
 | need, h :: hs => markL n byL (match stepOf n byL h with | some s => need.set s.toNat true | none => need) hs
def needL (hs : Nat → List Int) (n : Nat) (byL : List Int) : Nat → List Bool → List Int
 | 0, _ => []
 | i + 1, need => if rdOf false need (i : Int) = true then (i : Int) :: needL hs n byL i (markL n byL need (hs i)) else needL hs n byL i need
def hintsAt (p : List Stp) (used : List Int) (i : Nat) : List Int := (rd_T42 p i).f2.take (rd used i).toNat
def neededL (p : List Stp) (used byL : List Int) (n : Nat) (en : Int) : List Int := needL (hintsAt p used) n byL (en.toNat + 1) ((List.replicate p.length false).set en.toNat true)
theorem R_blkn {α : Type} {d : Kd α} {e base : Nat} {ok : Nat → Prop} {w : World} {v : Value} {xs : List α} {n : Nat} (h : d.R e w base ok v xs) (hn : xs.length = n) (hp : 0 < n) : ∃ g c cur, v = .slice (some ⟨g, 0, none⟩) n c ∧ base ≤ g ∧ w.heap[g]? = some (.cells cur e (0, 0)) := by
 subst hn
 obtain ⟨inner, ho⟩ := Kd.R_own h
 rcases ho.2 with ⟨_, h0⟩ | ⟨g, cap, cur, rfl, hg, hh, _⟩
 ·omega
 ·exact ⟨g, cap, cur, rfl, hg, hh⟩
theorem stepOf_mem {n : Nat} {byL : List Int} {h s : Int} (hs : stepOf n byL h = some s) : s ∈ byL := by
 unfold stepOf at hs
 split at hs
 ·exact List.mem_of_getElem? hs
 ·exact absurd hs (by simp)
theorem zeroInt (w : World) : (zeroValue 3).run Tryz.prog w = .ok (.int .i64 0) w := by kernel_rfl
theorem R_keepB {W w w1 : World} {base : Nat} {ok : Nat → Prop} {v : Value} {nd : List Bool} (h : Kd.R Kd.bool 4 w base ok v nd) (hk : NKeep w w1) : Kd.R Kd.bool 4 w1 base ok v nd :=
 Kd.R_mono (Kd.R_move (Kd.R_bound h) (fun k ⟨_, _, _, q, hq, cells, hc⟩ => by
  have : q = 4 := by simpa [Kd.bool, Kd.scalar] using hq
  subst this
  exact (hk.2 k cells (0, 0) hc).trans hc.symm)) (fun _ hk => hk.1)
structure Hold (p : Prop) : Prop where mk' :: out : p
theorem Hold.mk {p : Prop} (h : p) : Hold p := ⟨h⟩
theorem hold_wp {P : Program} {c : Code} {Q : Exit → Act → World → Prop} {a : Act} {w : World} (h : Hold (c.wp P Q a w)) : c.wp P Q a w := h.out
theorem wrap_pred {i : Nat} (h : i ≤ 65536) : wrap64 ((i : Int) - 1) = (i : Int) - 1 := by
 unfold wrap64; omega
theorem need_iter (w0 : World) (base bx bm base0 : Nat) (vars : Int) (A1 : Option Addr) (n c1 : Nat) (A2 : Option Addr) (c2 : Nat) (p : List Stp) (vu : Value) (used byL : List Int) (en : Int)
  (hr2 : Kd.C kStp w0 A2 p.length p) (hpl : p.length ≤ 65536) (hen0 : 0 ≤ en) (hen1 : en < p.length) (hul : used.length = p.length) (hu0 : ∀ i : Nat, i < p.length → 0 ≤ rd used i ∧ rd used i ≤ (rd_T42 p i).f2.length) (hby : ∀ s ∈ byL, 0 ≤ s ∧ s < p.length) :
  IterAll Tryz.prog 89 #[.pointer (some ⟨bx, 0, none⟩)] (fun x : Int => #[.int .i64 x]) (neededL p used byL n en) (NNeed w0 base bx bm base0 (checkedCells vars A1 n c1 A2 p.length c2 vu bm en) vu used n byL) (NStep base) NKeep := by
 intro l J W hN hS hY h0
 refine callsIn_wide.2 ?_
 have HN := Az.mk hN
 have HS := Az.mk hS
 have HY := Az.mk hY
 have H0 := Az.mk h0
 have HR2 := Az.mk hr2
 have HBY := Az.mk hby
 have HU0 := Az.mk hu0
 have HUL := Az.mk hul
 have HL := Az.mk hpl
 clear hN hS hY h0 hr2 hby hu0 hul hpl
 have BK := Az.mk (HN.out _ _ H0.out).box
 have hx2 : W.cell? ⟨bx, 2, none⟩ = some (.slice A2 p.length c2) := (bkc BK.out 2).trans rfl
 have hx5 : W.cell? ⟨bx, 5, none⟩ = some (.int .i64 en) := (bkc BK.out 5).trans rfl
 have hbx : bx < W.heap.size := (Array.getElem?_eq_some_iff.1 BK.out).1
 go_enter Tryz.func89, Tryz.ntmps89
 go_wp2_with (at_make; refine Kd.R_make Kd.bool (w0 := W) W.heap.size 4 rfl rfl 77 _ _ rfl (p.length : Int) rfl rfl Tryz.underlying77 (.bool false) 1 infoBool rfl (by decide) (by decide) false (ok := fun _ => True) (okp := fun _ => False) ?zero (fun _ h => h.elim) trivial (by omega) ?len (Below.refl _ _) (Nat.le_refl _) ?_; (case zero => exact rfl); (case len => have := HL.out; omega); intro v1 w1 hr hb hg hat; obtain ⟨g, c, cur, hv1, hgb, hcur⟩ := R_blkn hr (n := p.length) (by simp) (by omega); subst hv1; have HR := Az.mk hr; have HB1 := Az.mk hb; have HCUR := Az.mk hcur; have HGB := Az.mk hgb; have hy5 := pwc hb hx5; obtain ⟨hz, hzf⟩ := Kd.R_celln false hr en hen0 hen1; clear hr hb hg hat hcur)
 have HS1 := Az.mk ((NStep.below (base := base) HB1.out).trans (NStep.set HCUR.out (Nat.le_trans (HN.out _ _ H0.out).size HGB.out) en.toNat (.bool true)))
 have HJ1 := Az.mk (HS.out _ _ _ H0.out HS1.out)
 have HR1 := Az.mk (Kd.R_putn (enc := Value.bool) HR.out en true)
 clear hy5 hz hzf HS1
 obtain ⟨nd, hnd⟩ : ∃ nd, (List.replicate (↑p.length : Int).toNat false).set en.toNat true = nd := ⟨_, rfl⟩
 rw [hnd] at HR1
 have HG : Az (neededL p used byL n en = [] ++ needL (hintsAt p used) n byL (en.toNat + 1) nd) := ⟨by rw [← hnd]; rfl⟩
 have HND : Az (nd.length = p.length) := ⟨by rw [← hnd]; simp⟩
 clear hnd HR HCUR
 generalize w1.setCell ⟨g, en.toNat, none⟩ (.bool true) = w2 at HJ1 HR1 ⊢
 have HBS : Az (base ≤ W.heap.size) := ⟨(HN.out _ _ H0.out).size⟩
 clear HB1 H0 BK hx2 hx5
 have HGB2 : Az (base ≤ g) := ⟨Nat.le_trans HBS.out HGB.out⟩
 clear hbx hgb
 go_loopw [4] (fun v4 wr => ∃ (i : Nat) (nd : List Bool) (pre : List Int), v4 = .int .i64 ((i : Int) - 1) ∧ i ≤ p.length ∧ Az (nd.length = p.length) ∧ Az (J pre wr) ∧ Az (neededL p used byL n en = pre ++ needL (hintsAt p used) n byL i nd) ∧ Az (Kd.R Kd.bool 4 wr W.heap.size (fun _ => True) (.slice (some ⟨g, 0, none⟩) p.length c) nd)) (fun v4 _ => (intOf v4 + 1).toNat)
 case atStart =>
  exact ⟨en.toNat + 1, nd, [], congrArg (Value.int .i64) (show en = ((en.toNat + 1 : Nat) : Int) - 1 by omega), by omega, HND, HJ1, HG, HR1⟩
 case round =>
  clear HND HJ1 HG HR1
  obtain ⟨i, nd, pre, rfl, hi, HND, HJ, HG, HR⟩ := hrel
  cases i with
  | zero =>
   go_wp2
   go_end0
   refine ⟨⟨_, rfl⟩, ?_⟩
   have hg := HG.out
   rw [needL, List.append_nil] at hg
   rw [hg]; exact HJ.out
  | succ i =>
   rw [show ((i + 1 : Nat) : Int) - 1 = (i : Int) by omega]
   have hi0 : (0 : Int) ≤ (i : Int) := Int.natCast_nonneg i
   have hi1 : (i : Int) < (p.length : Int) := by omega
   obtain ⟨hz, hzf⟩ := Kd.R_celln false HR.out (i : Int) hi0 hi1
   obtain ⟨y, hy⟩ : ∃ y : Int, wrap64 ((i : Int) - 1) = y := ⟨_, rfl⟩
   have HY2 : Az (y = (i : Int) - 1) := ⟨by rw [← hy]; exact wrap_pred (by have := HL.out; omega)⟩
   have hgd : (decide ((0 : Int) ≤ (i : Int))) = true := decide_eq_true hi0
   simp only [Int.toNat_natCast] at hz hzf
   by_cases hb : rdOf false nd (i : Int) = true
   ·rw [hb] at hz
    have HBT := Az.mk hb
    clear hb
    have HNW := Az.mk (HN.out _ _ HJ.out)
    have BK := Az.mk HNW.out.box
    obtain ⟨Au, cu, hvu⟩ := Kd.R_slice HNW.out.row
    have HVU := Az.mk hvu
    have hx0 : wr.cell? ⟨bx, 0, none⟩ = some (.int .i64 vars) := (bkc BK.out 0).trans rfl
    have hx1 : wr.cell? ⟨bx, 1, none⟩ = some (.slice A1 n c1) := (bkc BK.out 1).trans rfl
    have hx2 : wr.cell? ⟨bx, 2, none⟩ = some (.slice A2 p.length c2) := (bkc BK.out 2).trans rfl
    have hx3 : wr.cell? ⟨bx, 3, none⟩ = some (.slice Au used.length cu) := (bkc BK.out 3).trans (by rw [← hvu]; rfl)
    have hx4 : wr.cell? ⟨bx, 4, none⟩ = some (.map (some bm)) := (bkc BK.out 4).trans rfl
    have hx5 : wr.cell? ⟨bx, 5, none⟩ = some (.int .i64 en) := (bkc BK.out 5).trans rfl
    have hcall := hints_calls vars (.slice A1 n c1) A2 c2 p (.slice Au used.length cu) used (.map (some bm)) en (i : Int) wr w0 base0 HR2.out HNW.out.reads (by rw [← hvu]; exact HNW.out.row) hi0 hi1 (by rw [HUL.out]; exact hi1) (HU0.out i (by omega)).1 (HU0.out i (by omega)).2
    have hl : (rd_T42 p (i : Int)).f2.take (rd used (i : Int)).toNat = hintsAt p used i := rfl
    rw [hl] at hcall
    clear hl hvu
    go_wp2_with (go_at_call 38; refine hcall.mono ?_; rintro e w3 ⟨A3, c3, rfl, hl3, hC3, hB3⟩; have HL3 := Az.mk hl3; have HC3 := Az.mk hC3; have HB3 := Az.mk hB3; clear hl3 hC3 hB3)
    have HJ3 := Az.mk (HS.out _ _ _ HJ.out (NStep.below (base := base) HB3.out))
    have HR3 := Az.mk (Kd.R_below HR.out HB3.out)
    have HLM := Az.mk (Kd.C_max HC3.out)
    have HG3 : Az (neededL p used byL n en = pre ++ (i : Int) :: needL (hintsAt p used) n byL i (markL n byL nd (hintsAt p used i))) := ⟨by rw [HG.out, needL, HBT.out]; rfl⟩
    clear HB3 HJ HR hx0 hx1 hx2 hx3 hx4 hx5 hcall HNW BK HVU HG HBT hz hzf
    generalize hintsAt p used i = l3 at HL3 HC3 HLM HG3 ⊢
    have HLL : Az (l3.length ≤ 9223372036854775807) := ⟨by have := HLM.out; omega⟩
    go_loopw [32] (fun v32 wr => ∃ (j : Nat) (nd' : List Bool), v32 = .int .i64 j ∧ j ≤ l3.length ∧ Az (nd'.length = p.length) ∧ Az (J pre wr) ∧ Az (markL n byL nd l3 = markL n byL nd' (l3.drop j)) ∧ Az (Kd.R Kd.bool 4 wr W.heap.size (fun _ => True) (.slice (some ⟨g, 0, none⟩) p.length c) nd')) (fun v32 _ => l3.length - (intOf v32).toNat)
    case atStart => exact ⟨0, nd, rfl, Nat.zero_le _, HND, HJ3, ⟨by simp⟩, HR3⟩
    case round =>
     clear HJ3 HR3 HND
     obtain ⟨j, nd', rfl, hj, HND, HJ, HM, HR⟩ := hrel
     by_cases hlt : j < l3.length
     ·have HNW := Az.mk (HN.out _ _ HJ.out)
      have BK := Az.mk HNW.out.box
      have hx4 : wr.cell? ⟨bx, 4, none⟩ = some (.map (some bm)) := (bkc BK.out 4).trans rfl
      obtain ⟨ad, rfl, hc⟩ := Kd.at_int (Kd.C_below HC3.out HNW.out.reads) (j : Int) (by omega) (by omega)
      have hd : l3.drop j = rd l3 (j : Int) :: l3.drop (j + 1) := by
       rw [List.drop_eq_getElem_cons hlt]; simp [rd, rdOf, hlt]
      rw [hd] at HM
      clear hd
      generalize rd l3 (j : Int) = h at HM hc
      simp only [Int.toNat_natCast] at hc
      have hlk := HNW.out.map.lookup kint Tryz.underlying64 (zeroInt _) true h
      rw [byF_step] at hlk
      cases hst : stepOf n byL h with
      | none =>
       rw [hst] at hlk
       have HST := Az.mk hst
       simp only [Option.map_none, Option.getD_none, Option.isSome_none, if_true] at hlk
       clear hst
       go_wp2
       go_roundw
       case rel =>
        refine ⟨j + 1, nd', by rw [wrap_succ hlt HLL.out], by omega, HND, HJ, ⟨?_⟩, HR⟩
        rw [HM.out, markL, HST.out]
       case measure => exact meas_x hlt (wrap_succ hlt HLL.out)
      | some s =>
       rw [hst] at hlk
       simp only [Option.map_some, Option.getD_some, Option.isSome_some, if_true] at hlk
       have HSB : Az (0 ≤ s ∧ s < p.length) := ⟨HBY.out s (stepOf_mem hst)⟩
       have HST := Az.mk hst
       clear hst
       have hs0 : 0 ≤ s := HSB.out.1
       have hs1 : s < (p.length : Int) := HSB.out.2
       obtain ⟨hz, hzf⟩ := Kd.R_celln false HR.out s hs0 hs1
       go_wp2
       go_roundw
       case rel =>
        refine ⟨j + 1, nd'.set s.toNat true, by rw [wrap_succ hlt HLL.out], by omega, ⟨by simpa using HND.out⟩, ⟨?_⟩, ⟨?_⟩, ⟨Kd.R_putn (enc := Value.bool) HR.out s true⟩⟩
        ·obtain ⟨g', c', cur', he, _, hcur⟩ := R_blkn HR.out HND.out (by omega)
         cases he
         exact HS.out _ _ _ HJ.out (NStep.set hcur HGB2.out _ _)
        ·rw [HM.out, markL, HST.out]
       case measure => exact meas_x hlt (wrap_succ hlt HLL.out)
     ·have HG4 : Az (neededL p used byL n en = pre ++ (i : Int) :: needL (hintsAt p used) n byL i nd') := ⟨by rw [HG3.out, HM.out, List.drop_of_length_le (by omega), markL]⟩
      obtain ⟨fn, tmps, assign, body, hy2, hR2⟩ := HY.out pre (i : Int) _ wr HG4.out HJ.out
      refine wpIn_wide (n := 0) |>.1 ?_
      gi_wp2
      refine wpIn_wide (n := 0) |>.1 ?_
      gi_wp2
      refine ⟨rfl, hR2.mono ?_⟩
      rintro e W3 ⟨rfl, hJ3, hk3⟩
      have HJ3 := Az.mk hJ3
      have HK3 := Az.mk hk3
      clear hJ3 hk3
      gi_wp2_with (with_reducible refine hold_wp ?_)
      refine Hold.mk ?_
      go_wp2
      go_roundw
      case rel =>
       refine ⟨i, nd', pre ++ [(i : Int)], by rw [hy, HY2.out], by omega, HND, HJ3, ⟨by rw [HG4.out]; simp⟩, ⟨?_⟩⟩
       exact R_keepB (W := W) HR.out HK3.out
      case measure => rw [hy, HY2.out]; simp only [intOf]; omega
   ·rw [Bool.not_eq_true] at hb
    rw [hb] at hz
    have HBT := Az.mk hb
    clear hb
    go_wp2
    go_roundw
    case rel =>
     refine ⟨i, nd, pre, by rw [hy, HY2.out], by omega, HND, HJ, ⟨?_⟩, HR⟩
     rw [HG.out, needL, HBT.out]; rfl
    case measure =>
     rw [hy, HY2.out]; simp only [intOf]; omega
end Go.Proofs.YtogicccdngpafaaGreatDoor.NState
end
section
set_option maxHeartbeats 1000000
set_option maxRecDepth 100000
namespace Go.Proofs.YtogicccdngpafaaGreatDoor.NState
open Go Go.RowKit Go.Shelf QW.PrintWords QW.PrintLast QW.PrintMore NMap NIter
open PCheck (cnf_Check.f cnf_Check.calls rL at_L1)
open PSame (S42 k42 rd_T42 at_T42)
attribute [local go_sem] Oper.semAt_some
theorem needed_calls (vars : Int) (A1 : Option Addr) (n c1 : Nat) (A2 : Option Addr) (m c2 : Nat) (Au : Option Addr) (lu cu : Nat) (bm : Nat) (en : Int) (w : World) :
  Calls Tryz.prog 37 #[.agg (checkedCells vars A1 n c1 A2 m c2 (.slice Au lu cu) bm en)] w fun e w' =>
   e = .returned (.func (.func 89) #[] #[.pointer (some ⟨w.heap.size, 0, none⟩)]) ∧ w' = w.alloc (.cells (checkedCells vars A1 n c1 A2 m c2 (.slice Au lu cu) bm en) 66) := by
 unfold checkedCells
 go_enter Tryz.func37, Tryz.ntmps37
 go_wp2
 go_ret
 exact ⟨rfl, rfl⟩
structure NSoft (base : Nat) (A B : World) : Prop where
 os : B.os = A.os
 tape : B.tape = A.tape
 output : B.output = A.output
 size : A.heap.size ≤ B.heap.size
 block : ∀ (k : Nat) (o : Obj), A.heap[k]? = some o → (k < base ∨ (isBook o = false ∧ ∀ cs fr, o ≠ .cells cs 4 fr)) → B.heap[k]? = some o
theorem NStep.soft {base : Nat} {A B : World} (h : NStep base A B) : NSoft base A B := ⟨h.os, h.tape, h.output, h.size, fun k o hk ho => h.block k o hk (ho.imp id And.right)⟩
theorem NSoft.below {base : Nat} {A B : World} (h : Below A.heap.size A B) : NSoft base A B := (NStep.below h).soft
theorem NSoft.alloc (base : Nat) (A : World) (o : Obj) : NSoft base A (A.alloc o) := (NStep.below ((Below.refl _ _).alloc (Nat.le_refl _) _)).soft
theorem NSoft.trans {base : Nat} {A B C : World} (h : NSoft base A B) (h' : NSoft base B C) : NSoft base A C := ⟨h'.os.trans h.os, h'.tape.trans h.tape, h'.output.trans h.output, Nat.le_trans h.size h'.size, fun k o hk ho => h'.block k o (h.block k o hk ho) ho⟩
theorem NSoft.loop {base : Nat} {A : World} {l : Nat} {r o : Loop} (h : A.heap[l]? = some (.loop r)) (hl : base ≤ l) : NSoft base A (A.putObj l (.loop o)) := by
 refine ⟨rfl, rfl, rfl, by simp [World.putObj], fun k o' hk hb => ?_⟩
 have hne : k ≠ l := by
  rintro rfl
  rw [h] at hk; cases hk
  rcases hb with hb | hb
  ·omega
  ·simp [isBook] at hb
 exact (World.putObj_heap_other hne).trans hk
theorem NSoft.cells {base : Nat} {A B : World} (h : NSoft base A B) {k : Nat} {cs : Array Value} {t : TypeId} {fr : Nat × Nat} (hk : A.heap[k]? = some (.cells cs t fr)) (ht : t ≠ 4) : B.heap[k]? = some (.cells cs t fr) :=
 h.block k _ hk (.inr ⟨rfl, fun cs' fr' he => by cases he; exact ht rfl⟩)
theorem NSoft.hasMap {base : Nat} {A B : World} (h : NSoft base A B) {b : Nat} {f : Int → Option Value} (hm : HasMap (Value.int .i64) A b f) : HasMap (Value.int .i64) B b f := by
 obtain ⟨es, c, hb, hh⟩ := hm
 exact ⟨es, c, h.block b _ hb (.inr ⟨rfl, fun _ _ he => by cases he⟩), hh⟩
theorem NSoft.row {α : Type} {d : Kd α} {e b0 base : Nat} {ok : Nat → Prop} {A B : World} {v : Value} {xs : List α} (h : NSoft base A B) (hr : Kd.R d e A b0 ok v xs) (hE : ∀ q, q ∈ e :: d.E → q ≠ 4) : Kd.R d e B b0 ok v xs :=
 Kd.R_mono (Kd.R_move (Kd.R_bound hr) (fun k ⟨_, _, _, q, hq, cells, hc⟩ => (h.cells hc (hE q hq)).trans hc.symm)) (fun _ hk => hk.1)
theorem NSoft.reads {base : Nat} {w0 A B : World} (h : NSoft base A B) (h0 : w0.heap.size ≤ base) (hB : Below w0.heap.size w0 A) : Below w0.heap.size w0 B :=
 ⟨h.os.trans hB.os, h.tape.trans hB.tape, h.output.trans hB.output, Nat.le_trans hB.size h.size, fun k hk => by
  have hlt : k < A.heap.size := Nat.lt_of_lt_of_le hk hB.size
  rw [← hB.block k hk, Array.getElem?_eq_getElem hlt]
  exact h.block k _ (Array.getElem?_eq_getElem hlt) (.inl (by omega))⟩
structure NRound (A B : World) : Prop where
 size : A.heap.size ≤ B.heap.size
 block : ∀ (k : Nat) (o : Obj), A.heap[k]? = some o → (∀ cs t fr, o = .cells cs t fr → t = 4) → B.heap[k]? = some o
theorem NRound.refl (A : World) : NRound A A := ⟨Nat.le_refl _, fun _ _ h _ => h⟩
theorem NRound.trans {A B C : World} (h : NRound A B) (h' : NRound B C) : NRound A C := ⟨Nat.le_trans h.size h'.size, fun k o hk ho => h'.block k o (h.block k o hk ho) ho⟩
theorem NRound.below {A B : World} (h : Below A.heap.size A B) : NRound A B := ⟨h.size, fun k o hk _ => (h.block k (Array.getElem?_eq_some_iff.1 hk).1).trans hk⟩
theorem NRound.set {A : World} {g t : Nat} {cs : Array Value} {fr : Nat × Nat} (h : A.heap[g]? = some (.cells cs t fr)) (ht : t ≠ 4) (j : Nat) (u : Value) : NRound A (A.setCell ⟨g, j, none⟩ u) := by
 refine ⟨by simp, fun k o hk ho => ?_⟩
 have hne : k ≠ g := by
  rintro rfl
  rw [h] at hk; cases hk; exact ht (ho _ _ _ rfl)
 exact (Below.heap_setCell A ⟨g, j, none⟩ u k hne).trans hk
theorem NRound.grown {α : Type} {d : Kd α} {e b0 : Nat} {ok : Nat → Prop} {A B : World} {v : Value} {xs : List α} (hr : Kd.R d e A b0 ok v xs) (he : e ≠ 4) (hg : A.grownBy B v.ownBlock) : NRound A B := by
 refine ⟨hg.size, fun k o hk ho => ?_⟩
 refine (hg.block k (Array.getElem?_eq_some_iff.1 hk).1 ?_).trans hk
 intro hv
 obtain ⟨inner, hown⟩ := Kd.R_own hr
 obtain ⟨cells, hc⟩ := own_typed hown k hv.symm
 rw [hk] at hc; cases hc; exact he (ho _ _ _ rfl)
theorem NRound.keep {A B : World} (h : NRound A B) : NKeep A B := ⟨h.size, fun k cs fr hk => h.block k _ hk (fun _ _ _ he => by cases he; rfl)⟩
theorem NRound.book {A B : World} (h : NRound A B) {k : Nat} (hk : ∃ o, A.heap[k]? = some o ∧ isBook o = true) : B.heap[k]? = A.heap[k]? := by
 obtain ⟨o, ho, hb⟩ := hk
 rw [ho]
 exact h.block k o ho (fun cs t fr he => by subst he; simp [isBook] at hb)
end Go.Proofs.YtogicccdngpafaaGreatDoor.NState
end
section
set_option maxRecDepth 100000
namespace Go.Proofs.YtogicccdngpafaaGreatDoor.NState
open Go Go.RowKit Go.Shelf QW.PrintWords QW.PrintLast QW.PrintMore NMap
open PCheck (cnf_Check.f cnf_Check.calls rL at_L1)
open PSame (S42 k42 rd_T42 at_T42)
theorem deriveL_range (P : List (Option (List Int))) : ∀ (hs : List Int) (S : List Int) (i : Int), 0 ≤ i → 0 ≤ (deriveL P S i hs).1 ∧ (deriveL P S i hs).1 ≤ i + hs.length
 | [], S, i, hi => by simp [deriveL]; omega
 | h :: hs, S, i, hi => by
  rw [deriveL]
  split
  ·simp; omega
  ·rename_i l _
   split
   ·simp; omega
   ·split
    ·simp; omega
    ·have := deriveL_range P hs ((leftL S 0 0 l).1 :: S) (i + 1) (by omega)
     simp only [List.length_cons]
     constructor
     ·exact this.1
     ·have := this.2
      omega
theorem deriveF_range (P : List (Option (List Int))) (clause hints : List Int) : 0 ≤ (deriveF P clause hints).1 ∧ (deriveF P clause hints).1 ≤ hints.length := by
 unfold deriveF
 split
 ·simp
 ·rename_i S _
  have := deriveL_range P hints S 0 (Int.le_refl 0)
  simpa using this
theorem stepF_range (vars : Int) (P : List (Option (List Int))) (clause : List Int) (gone : Bool) (hints : List Int) : 0 ≤ (stepF vars P clause gone hints).2.1 ∧ (stepF vars P clause gone hints).2.1 ≤ hints.length := by
 unfold stepF
 split
 ·simp
 ·split
  ·simp
  ·split
   ·exact deriveF_range P clause hints
   ·simp
def usedOk : List Int → List Stp → Prop
 | [], [] => True
 | u :: us, x :: xs => (0 ≤ u ∧ u ≤ (x.f2.length : Int)) ∧ usedOk us xs
 | _, _ => False
theorem usedOk_length : ∀ {us : List Int} {xs : List Stp}, usedOk us xs → us.length = xs.length
 | [], [], _ => rfl
 | _ :: _, _ :: _, h => congrArg (· + 1) (usedOk_length h.2)
 | [], _ :: _, h => h.elim
 | _ :: _, [], h => h.elim
theorem usedOk_get : ∀ {us : List Int} {xs : List Stp}, usedOk us xs → ∀ (j : Nat) (u : Int) (x : Stp), us[j]? = some u → xs[j]? = some x → 0 ≤ u ∧ u ≤ (x.f2.length : Int)
 | [], [], _, j, u, x, h1, _ => by simp at h1
 | u0 :: us, x0 :: xs, h, j, u, x, h1, h2 => by
  cases j with
  | zero => simp at h1 h2; subst h1; subst h2; exact h.1
  | succ j => simp at h1 h2; exact usedOk_get h.2 j u x h1 h2
 | [], _ :: _, h, _, _, _, _, _ => h.elim
 | _ :: _, [], h, _, _, _, _, _ => h.elim
theorem runL_ok (vars : Int) : ∀ (xs : List Stp) (P : List (Option (List Int))) (used byL : List Int) (en i : Int), 0 ≤ i → (runL vars P used byL en i xs).e = 0 →
  (∃ us, (runL vars P used byL en i xs).used = used ++ us ∧ usedOk us xs) ∧ (∀ s ∈ (runL vars P used byL en i xs).byL, s ∈ byL ∨ (i ≤ s ∧ s < i + xs.length)) ∧ 0 ≤ (runL vars P used byL en i xs).en ∧ ((runL vars P used byL en i xs).en = en ∨ (i ≤ (runL vars P used byL en i xs).en ∧ (runL vars P used byL en i xs).en < i + xs.length))
 | [], P, used, byL, en, i, hi, h => by
  rw [runL] at h ⊢
  refine ⟨⟨[], by simp, trivial⟩, fun s hs => .inl hs, ?_, .inl rfl⟩
  simp only at h ⊢
  by_cases he : en < 0
  ·rw [if_pos he] at h; exact absurd h (by decide)
  ·omega
 | x :: xs, P, used, byL, en, i, hi, h => by
  have hr := stepF_range vars P x.f0 x.f1 x.f2
  rw [runL] at h ⊢
  split
  ·rename_i hne
   rw [if_pos hne] at h
   exact absurd h hne
  ·rename_i hne
   rw [if_neg hne] at h
   split
   ·rename_i hg
    rw [if_pos hg] at h
    obtain ⟨⟨us, h1, h2⟩, h3, h4, h5⟩ := runL_ok vars xs _ _ _ _ _ (by omega) h
    refine ⟨⟨_ :: us, by rw [h1, List.append_assoc]; rfl, hr, h2⟩, fun s hs => (h3 s hs).imp id (fun hh => ?_), h4, h5.imp id (fun hh => ?_)⟩
    ·simp only [List.length_cons]; omega
    ·simp only [List.length_cons]; omega
   ·rename_i hg
    rw [if_neg hg] at h
    obtain ⟨⟨us, h1, h2⟩, h3, h4, h5⟩ := runL_ok vars xs _ _ _ _ _ (by omega) h
    refine ⟨⟨_ :: us, by rw [h1, List.append_assoc]; rfl, hr, h2⟩, fun s hs => ?_, h4, ?_⟩
    ·rcases h3 s hs with hh | hh
     ·rw [List.mem_append, List.mem_singleton] at hh
      rcases hh with hh | hh
      ·exact .inl hh
      ·subst hh; right; simp only [List.length_cons]; omega
     ·right; simp only [List.length_cons]; omega
    ·rcases h5 with h5 | h5
     ·rw [h5]
      split
      ·right; simp only [List.length_cons]; omega
      ·exact .inl rfl
     ·right; simp only [List.length_cons]; omega
structure RunOk (p : List Stp) (r : RunR) : Prop where
 len : p.length ≤ 65536
 en0 : 0 ≤ r.en
 en1 : r.en < p.length
 ul : r.used.length = p.length
 u0 : ∀ i : Nat, i < p.length → 0 ≤ rd r.used i ∧ rd r.used i ≤ (rd_T42 p i).f2.length
 by_ : ∀ s ∈ r.byL, 0 ≤ s ∧ s < p.length
theorem runF_ok {k : Nat} {vars : Int} {cls : List (List Int)} {p : List Stp} {r : RunR} (h : runF k vars cls p = some r) (he : r.e = 0) : RunOk p r := by
 unfold runF at h
 obtain ⟨e0, h0, h⟩ := Option.bind_eq_some_iff.mp h
 split at h
 ·rename_i he0
  split at h
  ·rename_i hl
   have h := Option.some.inj h
   subst h
   obtain ⟨⟨us, h1, h2⟩, h3, h4, h5⟩ := runL_ok vars p (cls.map some) [] [] (-1) 0 (Int.le_refl 0) he
   have hul : us.length = p.length := usedOk_length h2
   simp only [List.nil_append] at h1
   refine ⟨hl, h4, ?_, by rw [h1]; exact hul, fun i hi => ?_, fun s hs => ?_⟩
   ·rcases h5 with h5 | h5 <;> omega
   ·rw [h1]
    have e1 : us[i]? = some (rd us (i : Int)) := by simp [rd, rdOf, List.getD, hul, hi]
    have e2 : p[i]? = some (rd_T42 p (i : Int)) := by simp [rd_T42, rdOf, List.getD, hi]
    exact usedOk_get h2 i _ _ e1 e2
   ·rcases h3 s hs with hh | hh
    ·simp at hh
    ·omega
  ·have h := Option.some.inj h
   subst h; exact absurd he (by decide)
 ·rename_i hne
  have h := Option.some.inj h
  subst h; exact absurd he hne
end Go.Proofs.YtogicccdngpafaaGreatDoor.NState
end
section
set_option maxRecDepth 100000
namespace Go.Proofs.YtogicccdngpafaaGreatDoor.NState
open Go Go.RowKit Go.Shelf QW.PrintWords QW.PrintLast QW.PrintMore NMap
open PCheck (cnf_Check.f)
open PSame (S42 k42 rd_T42 at_T42)
theorem rdS {p : List Stp} {i : Nat} (h : i < p.length) : rd_T42 p (i : Int) = p[i] := by simp [rd_T42, List.getD, h]
end Go.Proofs.YtogicccdngpafaaGreatDoor.NState
end
