/-
  Part 19 of the proof of proofHintsMatch_card: walks and lemmas, packed by the session's own wip/pack.py out of its texts and of what the kit's print.sh printed.
-/
import Derived.Test.YtogicccdngpafaaDoorHM16
import Derived.Test.YtogicccdngpafaaDoorHM18
section
namespace Go.Proofs.YtogicccdngpafaaDoor.NState
open Go Go.RowKit Go.Shelf Go.Proofs.YtogicccdngpafaaDoorW.PrintWords Go.Proofs.YtogicccdngpafaaDoorW.PrintLast Go.Proofs.YtogicccdngpafaaDoorW.PrintMore Go.Proofs.YtogicccdngpafaaDoor.NMap
open Go.Proofs.YtogicccdngpafaaDoor.PCheck (cnf_Check.f)
open Go.Proofs.YtogicccdngpafaaDoor.PEqInts (netlabref32_EqInts.calls netlabref32_EqInts.f)
open Go.Proofs.YtogicccdngpafaaDoor.PHint (netlabref33_Hint.calls netlabref33_Hint.f)
open Go.Proofs.YtogicccdngpafaaDoor.PFew (netlabref32_Few.calls netlabref32_Few.f)
open Go.Proofs.YtogicccdngpafaaDoor.NPlain
theorem match_owed (vars : Int) (cls : List (List Int)) (l0 : List Int) : ∃ k r1 r2, netlabref32_Few.f k vars cls 40 = some (vars, fewL 40 cls) ∧ hintF k vars (fewL 40 cls) (l0.take 12) = some (r1, r2) ∧ netlabref33_Hint.f k vars (fewL 40 cls) (l0.take 12) = some (r1, r2) ∧ netlabref32_EqInts.f k r1 r1 = some true := by
  have h0 := few_ev 40 (by decide) vars cls
  obtain ⟨⟨r1, r2⟩, h1, h2, h3⟩ := hint_ev vars (fewL 40 cls) (l0.take 12) (Nat.le_trans (fewL_len _ _) (by decide)) (Nat.le_trans (fewL_tot _ _) (by decide)) (by simp; omega)
  have h4 := eqInts_ev r1 h3
  obtain ⟨K1, q1⟩ := Ev.both h0 h1
  obtain ⟨K2, q2⟩ := Ev.both h2 h4
  exact ⟨max K1 K2, r1, r2, (q1 _ (by omega)).1, (q1 _ (by omega)).2, (q2 _ (by omega)).1, (q2 _ (by omega)).2⟩
theorem C_prefix {w : World} {A : Option Addr} {l : List Int} (m : Nat) (hm : m ≤ l.length) (h : (Kd.int .i64).C w A l.length l) : (Kd.int .i64).C w A (l.take m).length (l.take m) := by
  obtain ⟨_, h2, h3⟩ := h
  refine ⟨rfl, by simp; omega, fun hn => ?_⟩
  obtain ⟨ad, e, hc⟩ := h3 (by simp at hn; omega)
  refine ⟨ad, e, fun j p hj => hc j p ?_⟩
  rw [List.getElem?_take] at hj
  split at hj
  · exact hj
  · cases hj
def MatchPost (w : World) (e : Ending) (w' : World) : Prop := e = .returned (.bool true) ∧ Below w.heap.size w w'
set_option maxHeartbeats 4000000 in
set_option maxRecDepth 100000 in
theorem match_calls (vars : Int) (A1 : Option Addr) (c1 : Nat) (cls : List (List Int)) (A0 : Option Addr) (c0 : Nat) (l0 : List Int) (w : World)
    (hr1 : Kd.C (Kd.slice 3 (Kd.int .i64)) w A1 cls.length cls) (hc1 : cls.length ≤ c1) (hr0 : Kd.C (Kd.int .i64) w A0 l0.length l0) (hc0 : l0.length ≤ c0) :
    Calls Tryd.prog 3 #[.agg #[.int .i64 vars, .slice A1 cls.length c1], .slice A0 l0.length c0] w (MatchPost w) := by
  obtain ⟨k, r1, r2, ho1, ho2, ho3, ho4⟩ := match_owed vars cls l0
  have HO1 := Aside0.mk ho1
  have HO2 := Aside0.mk ho2
  have HO3 := Aside0.mk ho3
  have HO4 := Aside0.mk ho4
  have HR1 := Aside0.mk hr1
  have HR0 := Aside0.mk hr0
  have HC1 := Aside0.mk hc1
  have HC0 := Aside0.mk hc0
  clear ho1 ho2 ho3 ho4 hr1 hr0 hc1
  have hu24 := Tryd.underlying24
  go_enter Tryd.func3, Tryd.ntmps3
  go_wp2_with fail
  refine (netlabref32_Few.calls k vars A1 c1 cls 40 vars (fewL 40 cls) _ (Kd.C_alloc HR1.out _) HC1.out HO1.out).mono ?_
  rintro e w1 ⟨v1, rfl, hs1, hb1⟩
  obtain ⟨Ax, cx, hvx, hlx, hCx⟩ := Kd.S_reads hs1
  subst hvx
  have HX := Aside0.mk hCx
  have HLX := Aside0.mk hlx
  have HB1 : Aside0 (Below w.heap.size w w1) := ⟨below_step ((Below.refl _ _).alloc (Nat.le_refl _) _) hb1⟩
  clear hs1 hb1 hCx hlx
  go_wp2_with fail
  have hn : (min ((l0.length : Nat) : Int) 12).toNat = (l0.take 12).length := by simp; omega
  rw [hn]
  have HC0t : Aside0 ((l0.take 12).length ≤ c0) := ⟨by have := HC0.out; simp; omega⟩
  have HR0t := Aside0.mk (C_prefix (l0.take 12).length (by simp; omega) HR0.out)
  have hid : l0.take (l0.take 12).length = l0.take 12 := by rw [List.length_take]; rw [List.take_eq_take_iff]; omega
  rw [hid] at HR0t
  clear hn hid
  generalize l0.take 12 = lt at HO2 HO3 HC0t HR0t ⊢
  have hb : Below w.heap.size w (w1.alloc (.cells #[.int .i64 vars, .slice Ax (fewL 40 cls).length cx] 24)) := below_step HB1.out (below_new _ _)
  refine (hint_calls k vars Ax cx (fewL 40 cls) A0 c0 lt r1 r2 _ (Kd.C_alloc HX.out _) HLX.out (Kd.C_below HR0t.out hb) HC0t.out HO2.out).mono ?_
  rintro e w2 ⟨v2, rfl, hr2, hb2⟩
  obtain ⟨A2, c2, hv2⟩ := Kd.R_slice hr2
  subst hv2
  have BX : Aside0 (w2.heap[w1.heap.size]? = some (.cells #[.int .i64 vars, .slice Ax (fewL 40 cls).length cx] 24 (0, 0))) := ⟨blk_below (blk_new w1 _) hb2⟩
  have HB2 := Aside0.mk (below_step hb hb2)
  have HX2 := Aside0.mk (Kd.C_below (Kd.C_alloc HX.out (.cells #[.int .i64 vars, .slice Ax (fewL 40 cls).length cx] 24)) hb2)
  have HA2 := Aside0.mk hr2
  clear hr2 hb2 hb
  have hx0 : w2.cell? ⟨w1.heap.size, 0, none⟩ = some (.int .i64 vars) := (blk_cell BX.out 0).trans rfl
  have hx1 : w2.cell? ⟨w1.heap.size, 1, none⟩ = some (.slice Ax (fewL 40 cls).length cx) := (blk_cell BX.out 1).trans rfl
  go_wp2_with fail
  refine (netlabref33_Hint.calls k vars Ax cx (fewL 40 cls) A0 c0 lt r1 r2 _ HX2.out HLX.out (Kd.C_below HR0t.out HB2.out) HC0t.out HO3.out).mono ?_
  rintro e w3 ⟨v3, rfl, hr3, hb3⟩
  obtain ⟨A3, c3, hl3, hc3, hC3⟩ := Kd.R_reads hr3
  subst hl3
  have HA3 := Aside0.mk hC3
  have HL3 := Aside0.mk hc3
  have HB3 := Aside0.mk (below_step HB2.out hb3)
  have HA2b := Aside0.mk (Kd.R_below HA2.out hb3)
  clear hr3 hb3 hC3 hc3 hx0 hx1
  go_wp2_with fail
  obtain ⟨A2', c2', he2, hl2, hC2⟩ := Kd.R_reads HA2b.out
  cases he2
  refine (netlabref32_EqInts.calls k A2 c2 r1 A3 c3 r1 true _ hC2 hl2 HA3.out HL3.out HO4.out).mono ?_
  rintro e w4 ⟨rfl, hd4⟩
  have HB4 := Aside0.mk (below_step HB3.out hd4.below)
  clear hd4 hC2 hl2
  go_wp2_with fail
  refine (awake_calls _).mono ?_
  rintro e w5 ⟨rfl, hb5⟩
  have HB5 := Aside0.mk (below_step HB4.out hb5)
  clear hb5
  go_wp2_with fail
  go_ret
  exact ⟨rfl, HB5.out⟩
end Go.Proofs.YtogicccdngpafaaDoor.NState
end
