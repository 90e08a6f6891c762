/-
  Part 22 of the proof of proofHints_card: walks and lemmas, packed by the session's own wip/pack.py out of its texts and of what the kit's print.sh printed.
-/
import Derived.Test.YtogicccdngpafaaDoorHH21
import Derived.Test.YtogicccdngpafaaDoorHH7
import Derived.Test.YtogicccdngpafaaDoorHH14
section
namespace Go.Proofs.YtogicccdngpafaaDoor.NState
open Go Go.RowKit Go.Shelf Go.Proofs.YtogicccdngpafaaDoorW.PrintWords Go.Proofs.YtogicccdngpafaaDoorW.PrintLast Go.Proofs.YtogicccdngpafaaDoorW.PrintMore Go.Proofs.YtogicccdngpafaaDoor.NMap
open Go.Proofs.YtogicccdngpafaaDoor.PCheck (cnf_Check.f cnf_Check.calls rd_L1 at_L1)
open Go.Proofs.YtogicccdngpafaaDoor.PPropagate (cnf_values_of.f cnf_values_of.calls cnf_values_set.f cnf_values_set.calls cnf_values_propagate.f cnf_values_propagate.calls)
open Go.Proofs.YtogicccdngpafaaDoor.NPlain (assumeV LitOk wneg)
set_option maxHeartbeats 1000000 in
set_option maxRecDepth 100000 in
theorem cnfExists_calls (x v : Int) (w : World) : Calls Tryd.prog 46 #[.int .i64 x, .int .i64 v] w fun e w' => e = .returned (.bool (!badLit v x)) ∧ w = w' := by
  by_cases h0 : (x == 0) = true
  · have hb := Aside0.mk (show badLit v x = true by simp [badLit, h0])
    have h0' : (x != 0) = false := by simpa using h0
    go_enter Tryd.func46, Tryd.ntmps46
    go_wp2
    go_ret
    exact ⟨by rw [hb.out]; rfl, rfl⟩
  · simp only [Bool.not_eq_true] at h0
    have h0' : (x != 0) = true := by simpa using h0
    by_cases h1 : wrap64 (-v) ≤ x
    · have hb := Aside0.mk (show (!badLit v x) = decide (x ≤ v) by
        have e : decide (x < wrap64 (-v)) = false := by simpa using h1
        simp only [badLit, h0, e, Bool.false_or]
        by_cases h : x ≤ v
        · simp [h]
        · simp [h]; omega)
      have h1' : decide (wrap64 (-v) ≤ x) = true := decide_eq_true h1
      clear h1
      go_enter Tryd.func46, Tryd.ntmps46
      go_wp2
      go_ret
      exact ⟨by rw [hb.out]; rfl, rfl⟩
    · have hb := Aside0.mk (show badLit v x = true by
        have e : decide (x < wrap64 (-v)) = true := by simpa using h1
        simp [badLit, e])
      have h1' : decide (wrap64 (-v) ≤ x) = false := decide_eq_false h1
      clear h1
      go_enter Tryd.func46, Tryd.ntmps46
      go_wp2
      go_ret
      exact ⟨by rw [hb.out]; rfl, rfl⟩
set_option maxHeartbeats 1000000 in
set_option maxRecDepth 100000 in
theorem propagate1_calls (b : Nat) (vars x : Int) (w : World) (hc : w.cell? ⟨b, 0, none⟩ = some (.int .i64 vars)) :
    Calls Tryd.prog 45 #[.int .i64 x, .pointer (some ⟨b, 0, none⟩)] w fun e w' => e = .returned (.bool (badLit vars x)) ∧ w = w' := by
  go_enter Tryd.func45, Tryd.ntmps45
  go_wp2_with (go_at_call 46; refine (cnfExists_calls _ _ _).mono ?_; rintro e w' ⟨rfl, rfl⟩)
  go_ret
  exact ⟨rfl, rfl⟩
theorem enters_propagate1 (args : Array Value) (w : World) : (callFunc 45 args).run Tryd.prog w = .ok (.enter 45 args) w := enters_of Tryd.func45 (by kernel_rfl) rfl args w
theorem infoI8 : (Tryd.prog.info? 89).map (fun i => (i.zero, i.size, i.bytes)) = some (some (.int .i8 0), 1, 1) := by kernel_rfl
def PropagatePost (w : World) (c : Bool) (e : Ending) (w' : World) : Prop := (∃ u, e = .returned (.tuple #[u, .bool c, .int .i64 0])) ∧ Below w.heap.size w w'
def PropIs (k n : Nat) (cls : List (List Int)) (l0 : List Int) (c : Bool) : Prop :=
  (assumeV (List.replicate (n + 1) 0) l0 = none ∧ c = true) ∨ ∃ v' b u, assumeV (List.replicate (n + 1) 0) l0 = some v' ∧ cnf_values_propagate.f k v' cls = some (b, u) ∧ u.length = n + 1 ∧ c = !b
theorem of_total {n : Nat} {v : List Int} {x : Int} (hn : n ≤ 4096) (hl : v.length = n + 1) (hx : LitOk n x) : ∃ t, cnf_values_of.f v x = some t := by
  obtain ⟨h0, h1, h2⟩ := hx
  unfold cnf_values_of.f
  by_cases h : x < 0
  · rw [if_pos h, wneg (by omega) (by omega), if_pos (by omega), if_pos (by omega)]; exact ⟨_, rfl⟩
  · rw [if_neg h, if_pos (by omega), if_pos (by omega)]; exact ⟨_, rfl⟩
theorem set_total {n : Nat} {v : List Int} {x : Int} (hn : n ≤ 4096) (hl : v.length = n + 1) (hx : LitOk n x) : ∃ v', cnf_values_set.f v x = some v' ∧ v'.length = n + 1 := by
  obtain ⟨h0, h1, h2⟩ := hx
  unfold cnf_values_set.f
  by_cases h : x < 0
  · rw [if_pos h, wneg (by omega) (by omega), if_pos (by omega), if_pos (by omega)]; exact ⟨_, rfl, by simp [hl]⟩
  · rw [if_neg h, if_pos (by omega), if_pos (by omega)]; exact ⟨_, rfl, by simp [hl]⟩
set_option maxHeartbeats 4000000 in
set_option maxRecDepth 100000 in
theorem propagate_calls (k n : Nat) (A1 : Option Addr) (c1 : Nat) (cls : List (List Int)) (A0 : Option Addr) (c0 : Nat) (l0 : List Int) (c : Bool) (w : World) (hn : n ≤ 4096)
    (hr1 : Kd.C (Kd.slice 3 (Kd.int .i64)) w A1 cls.length cls) (hc1 : cls.length ≤ c1) (hr0 : Kd.C (Kd.int .i64) w A0 l0.length l0) (hck : cnf_Check.f k n cls = some 0) (hbad : l0.any (badLit n) = false) (hlit : ∀ x ∈ l0, LitOk n x) (hres : PropIs k n cls l0 c) :
    Calls Tryd.prog 20 #[.agg #[.int .i64 n, .slice A1 cls.length c1], .slice A0 l0.length c0] w (PropagatePost w c) := by
  have HR1 := Aside0.mk hr1
  have HR0 := Aside0.mk hr0
  have HC1 := Aside0.mk hc1
  have HCK := Aside0.mk hck
  have HBAD := Aside0.mk hbad
  have HRES := Aside0.mk hres
  have HLIT := Aside0.mk hlit
  have HN := Aside0.mk hn
  have HL := Aside0.mk (Kd.C_max hr0)
  have HW1 : Aside0 ((wrap64 ((n : Int) + 1)).toNat = n + 1 ∧ 0 ≤ wrap64 ((n : Int) + 1)) := ⟨by unfold wrap64; omega⟩
  clear hr1 hc1 hr0 hck hbad hres hn hlit
  have hu24 := Tryd.underlying24
  go_enter Tryd.func20, Tryd.ntmps20
  go_wp2_with fail
  refine (cnf_Check.calls k n A1 c1 cls 0 _ (Kd.C_alloc HR1.out _) HC1.out HCK.out).mono ?_
  rintro e w1 ⟨rfl, hb1⟩
  have BK : Aside0 (w1.heap[w.heap.size]? = some (.cells #[.int .i64 n, .slice A1 cls.length c1] 24 (0, 0))) := ⟨blk_below (blk_new w _) hb1⟩
  have HB : Aside0 (Below w.heap.size w w1) := ⟨below_step ((Below.refl _ _).alloc (Nat.le_refl _) _) hb1⟩
  have HS : Aside0 (w.heap.size + 1 ≤ w1.heap.size) := ⟨by have := hb1.size; simp at this; omega⟩
  clear hb1
  have hx0 : w1.cell? ⟨w.heap.size, 0, none⟩ = some (.int .i64 n) := (blk_cell BK.out 0).trans rfl
  go_wp2_with fail
  refine (containsFunc_calls 45 #[.pointer (some ⟨w.heap.size, 0, none⟩)] (badLit n) A0 c0 l0 w1 (Kd.C_below HR0.out HB.out) enters_propagate1 (fun x => propagate1_calls w.heap.size n x w1 hx0)).mono ?_
  rintro e w2 ⟨rfl, rfl⟩
  rw [HBAD.out]
  go_wp2_with (at_make; refine Kd.R_make (Kd.int .i8) (w0 := w) w.heap.size 89 rfl rfl 88 _ _ rfl (wrap64 ((n : Int) + 1)) rfl rfl Tryd.underlying88 (.int .i8 0) 1 infoI8 rfl (by decide) (by decide) 0 (ok := fun k => w.heap.size + 1 ≤ k) (okp := fun _ => False) ?zero (fun _ h => h.elim) ?fresh ?pos ?len HB.out HB.out.size ?_; (case zero => exact rfl); (case fresh => exact HS.out); (case pos => exact HW1.out.2); (case len => have := HW1.out.1; have := HN.out; omega); intro v3 w3 hr hb hg hat; rw [HW1.out.1] at hr; have HV := Aside0.mk hr; have HB3 := Aside0.mk hb; have BK3 := Aside0.mk (blk_grown BK.out hg (fun h => by cases h)); have HS3 : Aside0 (w.heap.size + 1 ≤ w3.heap.size) := ⟨by have := (Array.getElem?_eq_some_iff.1 BK3.out).1; omega⟩; clear hr hb hg hat)
  obtain ⟨Av, cv, hv3⟩ := Kd.R_slice HV.out
  have hrl : (List.replicate (n + 1) (0 : Int)).length = n + 1 := by simp
  rw [hrl] at hv3
  subst hv3
  have HVL := Aside0.mk hrl
  clear hrl hx0 HB BK HS
  go_loopw [4, 26] (fun v4 v26 wr => ∃ (j : Nat) (v : List Int), v4 = .slice none 0 0 ∧ v26 = .int .i64 j ∧ j ≤ l0.length ∧ Aside0 (Kd.R (Kd.int .i8) 89 wr w.heap.size (fun k => w.heap.size + 1 ≤ k) (.slice Av (n + 1) cv) v) ∧ Aside0 (v.length = n + 1) ∧ Aside0 (assumeV (List.replicate (n + 1) 0) l0 = assumeV v (l0.drop j)) ∧ Aside0 (Below w.heap.size w wr) ∧ Aside0 (wr.heap[w.heap.size]? = some (.cells #[.int .i64 n, .slice A1 cls.length c1] 24 (0, 0)))) (fun _ v26 _ => l0.length - (intOf v26).toNat)
  case atStart => exact ⟨0, _, rfl, rfl, Nat.zero_le _, HV, HVL, ⟨by simp⟩, HB3, BK3⟩
  case round =>
    clear HV HVL HB3 BK3 HS3
    obtain ⟨j, v, rfl, rfl, hj, HV, HVL, HA, HB, BK⟩ := hrel
    have HSZ : Aside0 (w.heap.size + 1 ≤ wr.heap.size) := ⟨by have := (Array.getElem?_eq_some_iff.1 BK.out).1; omega⟩
    by_cases hlt : j < l0.length
    · obtain ⟨ad, rfl, hc⟩ := Kd.at_int HR0.out (j : Int) (by omega) (by omega)
      replace hc := (HB.out.cell (World.block_lt_of_cell? w _ hc)).trans hc
      have hxo : LitOk n (rd l0 j) := by
        have e : rd l0 j = l0[j] := by simp [rd, List.getD, hlt]
        rw [e]; exact HLIT.out _ (List.getElem_mem _)
      have HX := Aside0.mk hxo
      rw [drop_rd hlt] at HA
      generalize rd l0 j = x at HA hc hxo HX
      simp only [Int.toNat_natCast] at hc
      obtain ⟨t, ht⟩ := of_total HN.out HVL.out hxo
      obtain ⟨v', hv', hvl'⟩ := set_total HN.out HVL.out hxo
      obtain ⟨Av', cv', he, hcv, hC⟩ := Kd.R_reads HV.out
      rw [HVL.out] at he
      cases he
      have hof := cnf_values_of.calls Av cv v x t wr hC hcv ht
      rw [HVL.out] at hof
      have hset := cnf_values_set.calls (fun k => w.heap.size + 1 ≤ k) (.slice Av (n + 1) cv) v x v' w
      have HA2 : Aside0 (assumeV (List.replicate (n + 1) 0) l0 = if t < 0 then none else assumeV v' (l0.drop (j + 1))) := ⟨by rw [HA.out, assumeV, ht, Option.bind_some, hv', Option.bind_some]⟩
      have HSET := Aside0.mk hset
      have HV' := Aside0.mk hv'
      have HVL' := Aside0.mk hvl'
      clear hxo ht hv' hvl' hC hcv hset HA
      by_cases ht0 : t < 0
      · have htb : decide (t < 0) = true := decide_eq_true ht0
        have HT := Aside0.mk ht0
        clear ht0
        go_wp2_with (go_at_call 47; refine hof.mono ?_; rintro e w' ⟨rfl, ⟨nd, rfl⟩⟩)
        go_ret3
        rw [if_pos HT.out] at HA2
        rcases HRES.out with ⟨_, hc⟩ | ⟨v2, b2, u2, h2, _⟩
        · exact ⟨⟨_, by rw [hc]; rfl⟩, pw_below_drewN HB.out nd⟩
        · rw [HA2.out] at h2; cases h2
      · have htb : decide (t < 0) = false := decide_eq_false ht0
        have HT := Aside0.mk ht0
        clear ht0
        go_wp2_with (go_at_call 47; refine hof.mono ?_; rintro e w' ⟨rfl, ⟨nd, rfl⟩⟩)
        rw [if_neg (by have := HT.out; omega)] at HA2
        refine (HSET.out (wr.drewN nd) (pw_below_drewN HB.out nd) (Kd.R_drewN HV.out nd) HV'.out).mono ?_
        rintro e w4 ⟨rfl, hr4, hb4, hk4⟩
        have HV4 := Aside0.mk (Kd.R_mono hr4 (ok' := fun k => w.heap.size + 1 ≤ k) (fun k hk => by rcases hk with hk | hk; exact hk; exact Nat.le_trans HSZ.out hk))
        have HB4 := Aside0.mk hb4
        have BK4 := Aside0.mk (blk_kept (S := fun k => w.heap.size + 1 ≤ k) (W := wr.drewN nd) (blk_drewN BK.out nd) hk4 (by omega))
        clear hr4 hb4 hk4
        go_wp2
        go_roundw
        case rel => exact ⟨j + 1, v', rfl, by rw [wrap_succ hlt HL.out], by omega, HV4, HVL', HA2, HB4, BK4⟩
        case measure => exact meas_x hlt (wrap_succ hlt HL.out)
    · have hjl : j = l0.length := by omega
      subst hjl
      rw [List.drop_length, assumeV] at HA
      clear hlt hj
      have HP : Aside0 (∃ b u, cnf_values_propagate.f k v cls = some (b, u) ∧ u.length = n + 1 ∧ c = !b) := ⟨by
        rcases HRES.out with ⟨h1, _⟩ | ⟨v2, b2, u2, h2, h3, h4, h5⟩
        · rw [HA.out] at h1; cases h1
        · rw [HA.out] at h2; cases h2; exact ⟨b2, u2, h3, h4, h5⟩⟩
      obtain ⟨b, u, hp1, hp2, hp3⟩ := HP.out
      have HU1 := Aside0.mk hp1
      have HU2 := Aside0.mk hp2
      have HU3 := Aside0.mk hp3
      clear hp1 hp2 hp3 HP HA
      have hx1 : wr.cell? ⟨w.heap.size, 1, none⟩ = some (.slice A1 cls.length c1) := (blk_cell BK.out 1).trans rfl
      go_wp2_with fail
      refine (cnf_values_propagate.calls k (fun k => w.heap.size + 1 ≤ k) (.slice Av (n + 1) cv) v A1 c1 cls b u w wr HB.out HV.out (Kd.C_kept_came (Kd.heap_slice _ (Kd.heap_int _)) HR1.out HB.out (fun k hk => by omega)) HC1.out HU1.out).mono ?_
      rintro e w5 ⟨rfl, hr5, hb5, hk5⟩
      have HV5 := Aside0.mk hr5
      have HB5 := Aside0.mk hb5
      clear hr5 hb5 hk5 hx1
      cases b with
      | false =>
        go_wp2
        go_ret3
        exact ⟨⟨_, by rw [HU3.out]; rfl⟩, HB5.out⟩
      | true =>
        have HR5 := Aside0.mk (Kd.R_mono HV5.out (ok' := fun _ => True) (fun _ _ => trivial))
        clear HV5 HV HB BK HSZ HVL HRES HBAD HCK
        go_wp2
        go_loopw [4, 11] (fun v4 v11 wr => ∃ (i : Nat) (out : List Int), v11 = .int .i64 i ∧ 1 ≤ i ∧ i ≤ n + 1 ∧ Aside0 (out.length ≤ i) ∧ Aside0 (Kd.R (Kd.int .i64) 3 wr w.heap.size (fun _ => True) v4 out) ∧ Aside0 (Kd.R (Kd.int .i8) 89 wr w.heap.size (fun _ => True) (.slice Av (n + 1) cv) u) ∧ Aside0 (Below w.heap.size w wr)) (fun _ v11 _ => n + 1 - (intOf v11).toNat)
        case atStart => exact ⟨1, [], rfl, Nat.le_refl _, by omega, ⟨Nat.zero_le _⟩, ⟨Kd.R_nil _ _ _ _ _⟩, HR5, HB5⟩
        case round =>
          clear HR5 HB5
          obtain ⟨i, out, rfl, hi1, hi2, HOL, HO, HV, HB⟩ := hrel
          by_cases hlt : i < n + 1
          · obtain ⟨g, cg, eo, hgb, hgl, _, _⟩ := Kd.R_form HV.out (by rw [HU2.out]; omega)
            injection eo with ea en ec
            subst ea
            clear en ec
            obtain ⟨hz, hzf⟩ := Kd.R_celln 0 HV.out (i : Int) (by omega) (by omega)
            generalize rdOf 0 u (i : Int) = z at hz
            simp only [Int.toNat_natCast] at hz
            by_cases hz0 : z = 0
            · subst hz0
              go_wp2
              go_roundw
              case rel => exact ⟨i + 1, out, by rw [wrap_succ hlt (by have := HN.out; omega)], by omega, by omega, ⟨by have := HOL.out; omega⟩, HO, HV, HB⟩
              case measure => exact meas_x hlt (wrap_succ hlt (by have := HN.out; omega))
            · have hzn : (z != 0) = true := by simpa using hz0
              clear hz0
              go_wp2_with ((with_reducible refine gate_builtin (b := .append) (xs := #[.tmp 54, .tmp 62]) rfl ?_); at_builtin; refine Kd.R_append (Kd.int .i64) (w0 := w) w.heap.size rfl (.tmp 54) (.tmp 62) 25 3 (.int .i64 0) 8 rfl Tryd.underlying25 infoInt rfl (by decide) (by omega) u4 out (wrap64 ((i : Int) * wrap64 z)) [.int .i64 (wrap64 ((i : Int) * wrap64 z))] (fun _ => True) (fun _ => False) rfl rfl ?aP (fun _ hk => hk.elim) ?aF ?aO ?aB ?aS ?aL ?_; (case aP => exact rfl); (case aF => exact fun _ _ => trivial); (case aO => exact HO.out); (case aB => exact HB.out); (case aS => exact HB.out.size); (case aL => have := HOL.out; have := HN.out; omega); intro v9n w6 ho hb hg hat; have HO6 := Aside0.mk ho; have HB6 := Aside0.mk hb; have HV6 := Aside0.mk (Kd.R_mono (Kd.R_grown (R_apart_of HV.out HO.out (by decide)) hg (fun k hk => hk.2)) (ok' := fun _ => True) (fun _ _ => trivial)); clear ho hb hg hat)
              go_roundw
              case rel => exact ⟨i + 1, out ++ [wrap64 ((i : Int) * wrap64 z)], by rw [wrap_succ hlt (by have := HN.out; omega)], by omega, by omega, ⟨by have := HOL.out; simp; omega⟩, HO6, HV6, HB6⟩
              case measure => exact meas_x hlt (wrap_succ hlt (by have := HN.out; omega))
          · go_wp2
            go_ret3
            exact ⟨⟨_, by rw [HU3.out]; rfl⟩, HB.out⟩
end Go.Proofs.YtogicccdngpafaaDoor.NState
end
