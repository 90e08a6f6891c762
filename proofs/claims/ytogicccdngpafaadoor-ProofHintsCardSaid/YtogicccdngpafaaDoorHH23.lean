/-
  Part 23 of the proof of proofHints_card: walks and lemmas, packed by the session's own wip/pack.py out of its texts and of what the kit's print.sh printed.
-/
import Derived.Test.YtogicccdngpafaaDoorHH16
import Derived.Test.YtogicccdngpafaaDoorHH22
section
namespace Go.Proofs.YtogicccdngpafaaDoor.NState
open Go Go.RowKit Go.Shelf Go.Proofs.YtogicccdngpafaaDoorW.PrintWords Go.Proofs.YtogicccdngpafaaDoorW.PrintLast Go.Proofs.YtogicccdngpafaaDoorW.PrintMore Go.Proofs.YtogicccdngpafaaDoor.NMap
open Go.Proofs.YtogicccdngpafaaDoor.PCheck (cnf_Check.f)
open Go.Proofs.YtogicccdngpafaaDoor.PSame (S45 k45 rd_T45 at_T45 k45_mk)
open Go.Proofs.YtogicccdngpafaaDoor.PFit (netlabref32_Fit.calls netlabref32_Fit.f netlabref20_Bring.calls netlabref20_Bring.f)
open Go.Proofs.YtogicccdngpafaaDoor.NPlain
theorem hints_owed {n : Nat} (hn : n ≤ 12) {L : List (List Int)} (hf : Fine n L) {ls : List Int} (h8 : ls.length ≤ 8) (hl : ∀ x ∈ ls, LitOk n x) :
    ∃ k r1 r2 c, hintF k n L ls = some (r1, r2) ∧ cnf_Check.f k n L = some 0 ∧ (ls.map fun x => -x).any (badLit n) = false ∧ (∀ x ∈ ls.map fun x => -x, LitOk n x) ∧ PropIs k n L (ls.map fun x => -x) c ∧
      ((r2 = 0 ∧ c = true ∧ ∃ R, runF k n L [⟨ls, false, r1⟩] = some R ∧ R.e = if ls = [] then 0 else 8) ∨ (r2 = 8 ∧ r1 = [] ∧ c = false)) := by
  obtain ⟨⟨r1, r2⟩, hh, hr, _, hp, hc⟩ := hints_law (by omega) hf (by omega) hl
  obtain ⟨K0, hk0⟩ := Ev.both hh (check_fine (by omega) hf)
  have hneg : ∀ x ∈ ls.map fun x => -x, LitOk n x := by
    intro x hx
    simp only [List.mem_map] at hx
    obtain ⟨y, hy, rfl⟩ := hx
    obtain ⟨a, b, c⟩ := hl y hy
    exact ⟨by omega, by omega, by omega⟩
  have hany := any_ok (by omega) hneg
  by_cases h0 : r2 = 0
  · subst h0
    obtain ⟨R, hR, hRe⟩ := hc rfl
    obtain ⟨K1, hk1⟩ := hR
    rcases hp with ⟨h1, _⟩ | ⟨v', pr, h1, h2, h3, h4, h5⟩
    · exact ⟨max K0 K1, r1, 0, true, (hk0 _ (by omega)).1, (hk0 _ (by omega)).2, hany, hneg, .inl ⟨h1, rfl⟩, .inl ⟨rfl, rfl, R, hk1 _ (by omega), hRe⟩⟩
    · obtain ⟨K2, hk2⟩ := h3
      have hb : pr.1 = false := by
        cases hb : pr.1 with
        | false => rfl
        | true => have := h5.1 hb; cases this
      exact ⟨max K0 (max K1 K2), r1, 0, true, (hk0 _ (by omega)).1, (hk0 _ (by omega)).2, hany, hneg, .inr ⟨v', pr.1, pr.2, h1, hk2 _ (by omega), h4, by rw [hb]; rfl⟩, .inl ⟨rfl, rfl, R, hk1 _ (by omega), hRe⟩⟩
  · have hr8 : (r1, r2) = (([] : List Int), (8 : Int)) := by
      rcases hr with h | h
      · exact absurd h h0
      · exact h
    cases hr8
    rcases hp with ⟨_, h⟩ | ⟨v', pr, h1, h2, h3, h4, h5⟩
    · cases h
    · obtain ⟨K2, hk2⟩ := h3
      exact ⟨max K0 K2, [], 8, false, (hk0 _ (by omega)).1, (hk0 _ (by omega)).2, hany, hneg, .inr ⟨v', pr.1, pr.2, h1, hk2 _ (by omega), h4, by rw [h5.2 rfl]; rfl⟩, .inr ⟨rfl, rfl, rfl⟩⟩
def litE (t : Int) : Int := wrap64 (wrap64 (wrap64 (t.tdiv 2) + 1) * wrap64 (1 - wrap64 (2 * t.tmod 2)))
theorem litE_ok {n : Nat} (hn : n ≤ 100000) {t : Int} (h0 : 0 ≤ t) (h1 : t < 2 * n) : LitOk n (litE t) := by
  obtain ⟨e, _⟩ := lit_pos hn h0 h1
  have em : t.tmod 2 = t % 2 := Int.tmod_eq_emod_of_nonneg h0
  unfold litE
  rw [e, em]
  rcases Int.emod_two_eq t with h | h
  · rw [h]
    have : wrap64 (1 - wrap64 (2 * 0)) = 1 := by unfold wrap64; omega
    rw [this, Int.mul_one, wid (by omega) (by omega)]
    exact ⟨by omega, by omega, by omega⟩
  · rw [h]
    have : wrap64 (1 - wrap64 (2 * 1)) = -1 := by unfold wrap64; omega
    rw [this, Int.mul_neg_one, wid (by omega) (by omega)]
    exact ⟨by omega, by omega, by omega⟩
theorem rd_last {ls : List Int} {i : Nat} (h : ls.length = i) {x : Int} : rdOf 0 (ls ++ [x]) (i : Int) = x := by
  subst h; simp [rdOf]
theorem own_next {W : World} {base : Nat} {ok : Nat → Prop} {v6 v7 v6n : Value} {xs : List Int} (h : ∀ k, v7.ownBlock = some k → some k ≠ v6.ownBlock) (hR : Kd.R (Kd.int .i64) 3 W base ok v7 xs) (hat : v6n.ownBlock = v6.ownBlock ∨ ∃ b, v6n.ownBlock = some b ∧ W.heap.size ≤ b) : ∀ k, v7.ownBlock = some k → some k ≠ v6n.ownBlock := by
  intro k hk he
  rcases hat with e | ⟨b, e, hb⟩
  · rw [e] at he; exact h k hk he
  · rw [e] at he
    cases he
    have := Kd.R_lt hR k hk
    omega
theorem own_next2 {W : World} {base : Nat} {ok : Nat → Prop} {v6 v7 v7n : Value} {xs : List Int} (h : ∀ k, v7.ownBlock = some k → some k ≠ v6.ownBlock) (hR : Kd.R (Kd.int .i64) 3 W base ok v6 xs) (hat : v7n.ownBlock = v7.ownBlock ∨ ∃ b, v7n.ownBlock = some b ∧ W.heap.size ≤ b) : ∀ k, v7n.ownBlock = some k → some k ≠ v6.ownBlock := by
  intro k hk he
  rcases hat with e | ⟨b, e, hb⟩
  · rw [e] at hk; exact h k hk he
  · rw [e] at hk
    have := Kd.R_lt hR k he.symm
    have := Option.some.inj hk
    omega
def HintsPostL (w : World) (e : Ending) (w' : World) : Prop := e = .returned (.bool true) ∧ Below w.heap.size w w'
set_option maxHeartbeats 4000000 in
set_option maxRecDepth 100000 in
theorem hintsLaw_calls (vars : Int) (A1 : Option Addr) (c1 : Nat) (cls : List (List Int)) (A0 : Option Addr) (c0 : Nat) (l0 : List Int) (w : World)
    (hr1 : Kd.C (Kd.slice 3 (Kd.int .i64)) w A1 cls.length cls) (hc1 : cls.length ≤ c1) (hr0 : Kd.C (Kd.int .i64) w A0 l0.length l0) :
    Calls Tryd.prog 5 #[.agg #[.int .i64 vars, .slice A1 cls.length c1], .slice A0 l0.length c0] w (HintsPostL w) := by
  obtain ⟨n, L, hn, hLl, hLok, kf, hkf⟩ := fit_ev 12 40 (by decide) (by decide) vars cls
  have HFIT := Aside0.mk (hkf kf (Nat.le_refl _))
  have HN := Aside0.mk hn
  have HFINE : Aside0 (Fine n L) := ⟨hLl, hLok⟩
  have HR1 := Aside0.mk hr1
  have HR0 := Aside0.mk hr0
  have HC1 := Aside0.mk hc1
  have HL := Aside0.mk (Kd.C_max hr0)
  clear hn hLl hLok hkf hr1 hr0 hc1
  have hu24 := Tryd.underlying24
  go_enter Tryd.func5, Tryd.ntmps5
  go_wp2_with fail
  refine (netlabref32_Fit.calls kf vars A1 c1 cls 12 40 n L _ (Kd.C_alloc HR1.out _) HC1.out HFIT.out).mono ?_
  rintro e w1 ⟨v1, rfl, hs1, hb1⟩
  obtain ⟨Ax, cx, hvx, hlx, hCx⟩ := Kd.S_reads hs1
  subst hvx
  have HX := Aside0.mk hCx
  have HLX := Aside0.mk hlx
  have HB1 : Aside0 (Below w.heap.size w w1) := ⟨below_step ((Below.refl _ _).alloc (Nat.le_refl _) _) hb1⟩
  clear hs1 hb1 hCx hlx HFIT HR1 HC1
  go_wp2
  have HB2 := Aside0.mk (below_step HB1.out (below_new w1 (.cells #[.int .i64 n, .slice Ax L.length cx] 24)))
  have BK2 := Aside0.mk (blk_new w1 (.cells #[.int .i64 n, .slice Ax L.length cx] 24))
  have HX2 := Aside0.mk (Kd.C_alloc HX.out (.cells #[.int .i64 n, .slice Ax L.length cx] 24))
  obtain ⟨gx, hgx⟩ : ∃ gx, w1.heap.size = gx := ⟨_, rfl⟩
  rw [hgx] at BK2 ⊢
  have HGX : Aside0 (w.heap.size ≤ gx) := ⟨by rw [← hgx]; exact HB1.out.size⟩
  clear HB1 HX
  clear hgx
  generalize w1.alloc (.cells #[.int .i64 n, .slice Ax L.length cx] 24) = w2 at HB2 BK2 HX2 ⊢
  go_loopw [6, 7, 8] (fun v6 v7 v8 wr => ∃ (i : Nat) (ls : List Int), v8 = .int .i64 i ∧ i ≤ l0.length ∧ i ≤ 8 ∧ Aside0 (ls.length = i) ∧ Aside0 (∀ x ∈ ls, LitOk n x) ∧ Aside0 (Kd.R (Kd.int .i64) 3 wr w2.heap.size (fun _ => True) v6 ls) ∧ Aside0 (Kd.R (Kd.int .i64) 3 wr w2.heap.size (fun _ => True) v7 (ls.map fun x => -x)) ∧ Aside0 (∀ k, v7.ownBlock = some k → some k ≠ v6.ownBlock) ∧ Aside0 (Below w2.heap.size w2 wr)) (fun _ _ v8 _ => 8 - (intOf v8).toNat)
  case atStart => exact ⟨0, [], rfl, Nat.zero_le _, Nat.zero_le _, ⟨rfl⟩, ⟨fun _ h => by cases h⟩, ⟨Kd.R_nil _ _ _ _ _⟩, ⟨Kd.R_nil _ _ _ _ _⟩, ⟨fun _ h => by cases h⟩, ⟨Below.refl _ _⟩⟩
  case round =>
    obtain ⟨i, ls, rfl, hi, hi8, HLEN, HOK, HO6, HO7, HNE, HB⟩ := hrel
    have hx0 : wr.cell? ⟨gx, 0, none⟩ = some (.int .i64 n) := (blk_cell (blk_below BK2.out HB.out) 0).trans rfl
    by_cases hgo : i < l0.length ∧ i < 8 ∧ 0 < n
    · obtain ⟨hlt, h8, hn0⟩ := hgo
      have h8' : decide ((i : Int) < 8) = true := decide_eq_true (by omega)
      have hn0' : decide ((n : Int) > 0) = true := decide_eq_true (by omega)
      obtain ⟨ad, rfl, hc⟩ := Kd.at_int HR0.out (i : Int) (by omega) (by omega)
      replace hc := ((below_step HB2.out HB.out).cell (World.block_lt_of_cell? w _ hc)).trans hc
      generalize rd l0 i = a at hc
      simp only [Int.toNat_natCast] at hc
      have hm : wrap64 (2 * (n : Int)) = 2 * (n : Int) := wid (by have := HN.out; omega) (by have := HN.out; omega)
      obtain ⟨t, ht, ht0, ht1⟩ := bring_ok a (m := 2 * (n : Int)) (by omega) (by have := HN.out; omega)
      rw [← hm] at ht
      have HT := Aside0.mk ht
      have HLIT := Aside0.mk (litE_ok (by have := HN.out; omega) ht0 ht1)
      clear hm ht ht0 ht1
      go_wp2_with fail
      go_quiet ((go_at_call 19; refine (netlabref20_Bring.calls a (wrap64 (2 * (n : Int))) t _ HT.out).mono ?_; rintro e w' ⟨rfl, ⟨nd, rfl⟩⟩; exact ⟨rfl, _, World.drewN_drewN _ _ _⟩))
      generalize hq_ : World.drewN wr _ = wr
      replace HO6 := Aside0.mk (Kd.R_at hq_ HO6.out)
      replace HO7 := Aside0.mk (Kd.R_at hq_ HO7.out)
      replace HB := Aside0.mk (below_at hq_ HB.out)
      clear hq_ hx0 hc
      have hii : i < i + 1 := Nat.lt_succ_self i
      go_wp2_with (first | ((with_reducible refine gate_builtin (b := .append) (xs := #[.tmp 43, .tmp 52]) rfl ?_); at_builtin; refine Kd.R_append (Kd.int .i64) (w0 := w2) w2.heap.size rfl (.tmp 43) (.tmp 52) 25 3 (.int .i64 0) 8 rfl Tryd.underlying25 infoInt rfl (by decide) (by omega) u6 ls (litE t) [.int .i64 (litE t)] (fun _ => True) (fun _ => False) rfl rfl ?aP (fun _ hk => hk.elim) ?aF ?aO ?aB ?aS ?aL ?_; (case aP => exact rfl); (case aF => exact fun _ _ => trivial); (case aO => exact HO6.out); (case aB => exact HB.out); (case aS => exact HB.out.size); (case aL => have := HLEN.out; omega); intro v6n w3 ho hb hg hat; have HO7n := Aside0.mk (Kd.R_grown2 HO7.out rfl hg (fun k hk h => HNE.out k h.symm hk.symm)); have HNE3 := Aside0.mk (own_next HNE.out HO7.out hat); have HB3 := Aside0.mk hb; obtain ⟨g, cg, eo, _, _, _, _⟩ := Kd.R_form ho (by simp); rw [show (ls ++ [litE t]).length = i + 1 by simp [HLEN.out]] at eo; subst eo; obtain ⟨hz, hzf⟩ := Kd.R_celln 0 ho (i : Int) (by omega) (by omega); rw [rd_last HLEN.out, Int.toNat_natCast] at hz; have HO6n := Aside0.mk ho; clear ho hb hg hat) | ((with_reducible refine gate_builtin (b := .append) (xs := #[.tmp 54, .tmp 60]) rfl ?_); at_builtin; refine Kd.R_append (Kd.int .i64) (w0 := w2) w2.heap.size rfl (.tmp 54) (.tmp 60) 25 3 (.int .i64 0) 8 rfl Tryd.underlying25 infoInt rfl (by decide) (by omega) u7 (ls.map fun x => -x) (wrap64 (-(litE t))) [.int .i64 (wrap64 (-(litE t)))] (fun _ => True) (fun _ => False) rfl rfl ?aP (fun _ hk => hk.elim) ?aF ?aO ?aB ?aS ?aL ?_; (case aP => exact rfl); (case aF => exact fun _ _ => trivial); (case aO => exact HO7n.out); (case aB => exact HB3.out); (case aS => exact HB3.out.size); (case aL => have := HLEN.out; simp; omega); intro v7n w4 ho hb hg hat; have HO6m := Aside0.mk (Kd.R_grown2 HO6n.out rfl hg HNE3.out); have HNE4 := Aside0.mk (own_next2 HNE3.out HO6n.out hat); have HO7m := Aside0.mk ho; have HB4 := Aside0.mk hb; clear ho hb hg hat hz hzf))
      go_roundw
      case rel => exact ⟨i + 1, ls ++ [litE t], rfl, by omega, by omega, ⟨by simp [HLEN.out]⟩, ⟨by intro x hx; rcases List.mem_append.1 hx with hx | hx; exact HOK.out x hx; simp at hx; subst hx; exact HLIT.out⟩, HO6m, ⟨by rw [List.map_append]; have e := wneg (x := litE t) (by have := HLIT.out.2.1; have := HN.out; omega) (by have := HLIT.out.2.2; have := HN.out; omega); rw [e] at HO7m; exact HO7m.out⟩, HNE4, HB4⟩
      case measure =>
        simp only [intOf, Int.toNat_natCast]; omega
    · have hex : (decide ((i : Int) < (l0.length : Int)) = false ∧ ¬ i < l0.length) ∨ (i < l0.length ∧ decide ((i : Int) < 8) = false) ∨ (i < l0.length ∧ decide ((i : Int) < 8) = true ∧ decide ((n : Int) > 0) = false ∧ ¬ 0 < n) := by
        by_cases h1 : i < l0.length
        · by_cases h2 : i < 8
          · have h3 : ¬ 0 < n := fun h => hgo ⟨h1, h2, h⟩
            exact .inr (.inr ⟨h1, decide_eq_true (by omega), decide_eq_false (by omega), h3⟩)
          · exact .inr (.inl ⟨h1, decide_eq_false (by omega)⟩)
        · exact .inl ⟨decide_eq_false (by omega), h1⟩
      obtain ⟨k, r1, r2, c, ho1, ho2, ho3, ho4, ho5, ho6⟩ := hints_owed HN.out HFINE.out (ls := ls) (by rw [HLEN.out]; exact hi8) HOK.out
      have HO1 := Aside0.mk ho1
      have HO2 := Aside0.mk ho2
      have HO3 := Aside0.mk ho3
      have HO4 := Aside0.mk ho4
      have HO5 := Aside0.mk ho5
      have HOWE := Aside0.mk ho6
      clear ho1 ho2 ho3 ho4 ho5 ho6 hgo
      have hx1 : wr.cell? ⟨gx, 1, none⟩ = some (.slice Ax L.length cx) := (blk_cell (blk_below BK2.out HB.out) 1).trans rfl
      obtain ⟨A6, c6, he6, hl6, hC6⟩ := Kd.R_reads HO6.out
      obtain ⟨A7, c7, he7, hl7, hC7⟩ := Kd.R_reads HO7.out
      have hlm : (ls.map fun x => -x).length = ls.length := List.length_map _
      rw [hlm] at he7
      have HLM := Aside0.mk hlm
      subst he6
      subst he7
      clear hlm
      have HC6 := Aside0.mk hC6
      have HC7 := Aside0.mk hC7
      have HL6 := Aside0.mk hl6
      have HL7 := Aside0.mk hl7
      clear hC6 hC7 hl6 hl7 HO6 HO7 HNE
      rcases hex with ⟨h1, h1'⟩ | ⟨h1, h2⟩ | ⟨h1, h2, h3, h3'⟩
      all_goals
        go_wp2_with fail
        refine (hint_calls k n Ax cx L A6 c6 ls r1 r2 wr (Kd.C_below HX2.out HB.out) HLX.out HC6.out HL6.out HO1.out).mono ?_
        rintro e w3 ⟨v3, rfl, hr3, hb3⟩
        obtain ⟨A3, c3, hv3⟩ := Kd.R_slice hr3
        subst hv3
        have HA3 := Aside0.mk hr3
        have HB3 := Aside0.mk (below_step HB.out hb3)
        have HC63 := Aside0.mk (Kd.C_below HC6.out hb3)
        have HC73 := Aside0.mk (Kd.C_below HC7.out hb3)
        clear hr3 hb3 hx0 hx1
        have hx0 : w3.cell? ⟨gx, 0, none⟩ = some (.int .i64 n) := (blk_cell (blk_below BK2.out HB3.out) 0).trans rfl
        have hx1 : w3.cell? ⟨gx, 1, none⟩ = some (.slice Ax L.length cx) := (blk_cell (blk_below BK2.out HB3.out) 1).trans rfl
        go_wp2_with fail
        have hpc := propagate_calls k n Ax cx L A7 c7 (ls.map fun x => -x) c w3 (by have := HN.out; omega) (Kd.C_below HX2.out HB3.out) HLX.out HC73.out HO2.out HO3.out HO4.out HO5.out
        rw [HLM.out] at hpc
        refine hpc.mono ?_
        clear hpc
        rintro e w4 ⟨⟨v4, rfl⟩, hb4⟩
        have HB4 := Aside0.mk (below_step HB3.out hb4)
        have HC64 := Aside0.mk (Kd.C_below HC63.out hb4)
        have HA4 := Aside0.mk (Kd.R_below HA3.out hb4)
        clear hb4 hx0 hx1
        have hx0 : w4.cell? ⟨gx, 0, none⟩ = some (.int .i64 n) := (blk_cell (blk_below BK2.out HB4.out) 0).trans rfl
        have hx1 : w4.cell? ⟨gx, 1, none⟩ = some (.slice Ax L.length cx) := (blk_cell (blk_below BK2.out HB4.out) 1).trans rfl
        rcases HOWE.out with ⟨e1, e2, R, hR, hRe⟩ | ⟨e1, e2, e3⟩
        · subst e1
          subst e2
          have HR := Aside0.mk hR
          have HRE := Aside0.mk hRe
          clear hR hRe
          go_wp2_with fail
          obtain ⟨A3', c3', he3, hl3, hC3⟩ := Kd.R_reads HA4.out
          cases he3
          have hC := C_lit kStp w4 45 [(⟨ls, false, r1⟩ : Stp)] _ (Reps.snoc (p := (⟨ls, false, r1⟩ : Stp)) (c := [.slice A6 ls.length c6, .bool false, .slice A3 r1.length c3]) (Reps.none (kStp.K w4) 3) (k45_mk w4 (⟨ls, false, r1⟩ : Stp) HL6.out HC64.out hl3 hC3) rfl) (by simp)
          refine (check_calls k n Ax cx L _ 1 [(⟨ls, false, r1⟩ : Stp)] R _ (Kd.C_alloc (Kd.C_below HX2.out HB4.out) _) HLX.out hC (Nat.le_refl _) HR.out (by have := HFINE.out.1; omega)).mono ?_
          rintro e w5 ⟨rfl, hb5⟩
          have HB5 := Aside0.mk (below_step (below_step HB4.out (below_new _ _)) hb5)
          clear hb5 hC hC3 hl3 hx0 hx1
          by_cases hls : ls = []
          · rw [if_pos hls] at HRE
            subst hls
            rw [HRE.out]
            go_wp2_with fail
            refine (awake_calls _).mono ?_
            rintro e w6 ⟨rfl, hb6⟩
            have HB6 := Aside0.mk (below_step HB5.out hb6)
            clear hb6
            go_wp2
            go_ret
            exact ⟨rfl, below_step HB2.out HB6.out⟩
          · rw [if_neg hls] at HRE
            rw [HRE.out]
            have hlz : ((ls.length : Int) == 0) = false := by simpa using hls
            have hlz' : (ls.length == 0) = false := by simpa using hls
            go_wp2_with fail
            refine (awake_calls _).mono ?_
            rintro e w6 ⟨rfl, hb6⟩
            have HB6 := Aside0.mk (below_step HB5.out hb6)
            clear hb6
            go_wp2
            go_ret
            exact ⟨rfl, below_step HB2.out HB6.out⟩
        · subst e1
          subst e2
          subst e3
          go_wp2_with fail
          refine (awake_calls _).mono ?_
          rintro e w6 ⟨rfl, hb6⟩
          have HB6 := Aside0.mk (below_step HB4.out hb6)
          clear hb6
          go_wp2
          go_ret
          exact ⟨rfl, below_step HB2.out HB6.out⟩
end Go.Proofs.YtogicccdngpafaaDoor.NState
end
