/-
  Part 21 of the proof of proofMatches_card: walks and lemmas, packed by the session's own wip/pack.py out of its texts and of what the kit's print.sh printed.
-/
import Derived.Test.YtogicccdngpafaaGreatDoorMA20
import Derived.Test.YtogicccdngpafaaGreatDoorMA19
import Derived.Test.YtogicccdngpafaaGreatDoorMA11
section
namespace Go.Proofs.YtogicccdngpafaaGreatDoor.NState
open Go Go.RowKit Go.Shelf Go.Proofs.YtogicccdngpafaaGreatDoorW.PrintWords Go.Proofs.YtogicccdngpafaaGreatDoorW.PrintLast Go.Proofs.YtogicccdngpafaaGreatDoorW.PrintMore Go.Proofs.YtogicccdngpafaaGreatDoor.NMap
open Go.Proofs.YtogicccdngpafaaGreatDoor.PCheck (cnf_Check.f)
open Go.Proofs.YtogicccdngpafaaGreatDoor.PSame (S42 k42 rd_T42 at_T42)
open Go.Proofs.YtogicccdngpafaaGreatDoor.PRef (netlabref33_legal.calls netlabref32_Check.calls netlabref32_Check.f)
open Go.Proofs.YtogicccdngpafaaGreatDoor.NPlain
theorem prP_put {cl : List (List Int)} {pr : List Bool} (h : pr.length = cl.length) (m : Nat) (hm : m < cl.length) : prP cl (pr.set m false) = (prP cl pr).set m none := by
 apply List.ext_getElem?
 intro i
 rw [List.getElem?_set]
 simp only [prP, List.getElem?_zipWith, List.getElem?_set]
 by_cases e : m = i
 ·subst e
  have h1 : m < pr.length := by omega
  simp [h1, hm]
  omega
 ·simp [e]
theorem prP_snoc {cl : List (List Int)} {pr : List Bool} (h : pr.length = cl.length) (l : List Int) : prP (cl ++ [l]) (pr ++ [true]) = prP cl pr ++ [some l] := by
 unfold prP
 rw [List.zipWith_append h.symm]
 rfl
theorem prP_all (cls : List (List Int)) : prP cls (List.replicate cls.length true) = cls.map some := by
 induction cls with
 | nil => rfl
 | cons x xs ih => simp only [List.length_cons, List.replicate_succ, prP, List.zipWith_cons_cons, List.map_cons] at ih ⊢; rw [ih]; rfl
theorem results_tmp4 {fn : Func} {t u v x : Tmp} (h : fn.results = #[.tmp t, .tmp u, .tmp v, .tmp x]) (tmps : Array Value) (P : Program) (w : World) :
  (results fn tmps).run P w = .ok (.tuple #[tmps.getD t undef, tmps.getD u undef, tmps.getD v undef, tmps.getD x undef]) w := by
 simp [results, h]
def refRunR18.T : Bool × List (List Nat × List Nat) := (true, [([], []), ([0], [0]), ([1], [1]), ([2], [2]), ([], []), ([], []), ([4, 5], [4, 5]), ([6], [6]), ([7], [7]), ([], []), ([8, 9], [8, 9]), ([10], [10]), ([11], [11]), ([3, 12, 0, 1, 2, 3, 4, 5, 6, 7, 8, 9, 10, 11, 12], [3, 12]), ([13, 0, 1, 2, 3, 4, 5, 6, 7, 8, 9, 10, 11, 12], [13])])
def refRunR18.B : List Nat := [0, 1, 3, 7, 0, 0, 48, 112, 240, 0, 1008, 2032, 4080, 8191, 16383]
theorem refRunR18.tab : rtab .any (opsOf Tryz.f36 18) = refRunR18.T := by kernel_rfl
theorem refRunR18.bits : waitsOk refRunR18.T.2 refRunR18.B = true := by kernel_rfl
def refRunR22.T : Bool × List (List Nat × List Nat) := (true, [([], []), ([], []), ([], []), ([1, 2], [1, 2]), ([3], [3]), ([4], [4]), ([], []), ([], []), ([6, 7], [6, 7]), ([8], [8]), ([9], [9]), ([0, 5, 10], [0, 5, 10]), ([11], [11]), ([12], [12]), ([12], [12]), ([13, 11, 0, 1, 2, 3, 4, 5, 6, 7, 8, 9, 10, 11, 12, 13], [13]), ([14, 15, 0, 1, 2, 3, 4, 5, 6, 7, 8, 9, 10, 11, 12, 13, 14, 15], [14])])
def refRunR22.B : List Nat := [0, 0, 0, 6, 14, 30, 0, 0, 192, 448, 960, 2047, 4095, 8191, 8191, 16383, 65535]
theorem refRunR22.tab : rtab .any (opsOf Tryz.f36 22) = refRunR22.T := by kernel_rfl
theorem refRunR22.bits : waitsOk refRunR22.T.2 refRunR22.B = true := by kernel_rfl
def refRunR26.T : Bool × List (List Nat × List Nat) := (true, [([], []), ([], []), ([1], [1]), ([2], [2]), ([3], [3]), ([], []), ([], []), ([5, 6], [5, 6]), ([7], [7]), ([8], [8]), ([9], [9]), ([4, 10], [4, 10]), ([0, 0, 1, 2, 3, 4, 5, 6, 7, 8, 9, 10, 11], [0]), ([12, 0, 1, 2, 3, 4, 5, 6, 7, 8, 9, 10, 11], [12]), ([13, 11, 11, 0, 1, 2, 3, 4, 5, 6, 7, 8, 9, 10, 11], [11, 13])])
def refRunR26.B : List Nat := [0, 0, 2, 6, 14, 0, 0, 96, 224, 480, 992, 2046, 4095, 8191, 16383]
theorem refRunR26.tab : rtab .any (opsOf Tryz.f36 26) = refRunR26.T := by kernel_rfl
theorem refRunR26.bits : waitsOk refRunR26.T.2 refRunR26.B = true := by kernel_rfl
theorem RefB.grown {w0 W W' : World} {base B : Nat} {vC vP v : Value} {svs : List SV} {cl : List (List Int)} {pr : List Bool} {us : List Int} (h : RefB w0 W base B vC vP svs cl pr) (hu : Kd.R (Kd.int .i64) 3 W base (fun _ => True) v us) (hg : W.grownBy W' v.ownBlock) : RefB w0 W' base B vC vP svs cl pr :=
 ⟨blk_grown h.blk hg (Kd.R_ne hu h.blk (by decide)), h.ge, Kd.R_mono (Kd.R_grown (Kd.R_apart' h.rc (Kd.R_typed hu) (by decide)) hg (fun k hk => hk.2)) (fun _ _ => trivial), Kd.R_mono (Kd.R_grown (Kd.R_apart' h.rp (Kd.R_typed hu) (by decide)) hg (fun k hk => hk.2)) (fun _ _ => trivial), h.lc, h.lp, h.at_⟩
theorem ref_snoc {w0 W : World} {base B : Nat} {vC vP vU : Value} {svs : List SV} {cl : List (List Int)} {pr : List Bool} {us : List Int} {A1 A2 A3 : Option Addr} {c1 c2 c3 : Nat} {l : List Int} {W0 : World} {vP0 : Value}
  (h : RefB w0 W0 base B vC vP svs cl pr) (hb : W.heap[B]? = some (.cells #[.slice A1 (cl.length + 1) c1, vP0] 151 (0, 0)))
  (hrc : Kd.R kSV 31 W base (fun _ => True) (.slice A1 (cl.length + 1) c1) (svs ++ [(A3, l.length, c3)])) (hrp : Kd.R Kd.bool 4 W base (fun _ => True) (.slice A2 (cl.length + 1) c2) (pr ++ [true]))
  (hu : Kd.R (Kd.int .i64) 3 W base (fun _ => True) vU us) (hc3 : Kd.C (Kd.int .i64) w0 A3 l.length l) (hl3 : l.length ≤ c3) :
  RefB w0 (W.setCell ⟨B, 1, none⟩ (.slice A2 (cl.length + 1) c2)) base B (.slice A1 (cl.length + 1) c1) (.slice A2 (cl.length + 1) c2) (svs ++ [(A3, l.length, c3)]) (cl ++ [l]) (pr ++ [true]) ∧ Kd.R (Kd.int .i64) 3 (W.setCell ⟨B, 1, none⟩ (.slice A2 (cl.length + 1) c2)) base (fun _ => True) vU us := by
 refine ⟨⟨blk_set hb 1 _, h.ge, Kd.R_set hrc hb (by decide) 1 _, Kd.R_set hrp hb (by decide) 1 _, by simp [h.lc], by simp [h.lp], ?_⟩, Kd.R_set hu hb (by decide) 1 _⟩
 intro j sv l' h1 h2
 by_cases hj : j < svs.length
 ·rw [List.getElem?_append_left hj] at h1
  rw [List.getElem?_append_left (by rw [← h.lc]; exact hj)] at h2
  exact h.at_ j sv l' h1 h2
 ·rw [List.getElem?_append_right (by omega)] at h1
  rw [List.getElem?_append_right (by rw [← h.lc]; omega), ← h.lc] at h2
  have e1 : j - svs.length = 0 := by
   by_cases h' : j - svs.length = 0
   ·exact h'
   ·rw [List.getElem?_eq_none (by simp; omega)] at h1
    cases h1
  rw [e1] at h1 h2
  simp at h1 h2
  subst h1; subst h2
  exact ⟨_, _, rfl, hl3, hc3⟩
def RefRunPost (w : World) (r : RunR) (e : Ending) (w' : World) : Prop := (r.e = 0 ∧ (∃ v, e = .returned (.tuple #[v, .int .i64 r.en, .int .i64 0, .int .i64 0]) ∧ Kd.R (Kd.int .i64) 3 w' w.heap.size (fun _ => True) v r.used) ∨ r.e ≠ 0 ∧ e = .returned (.tuple #[.slice none 0 0, .int .i64 (-1), .int .i64 r.at_, .int .i64 r.e])) ∧ Below w.heap.size w w'
set_option maxHeartbeats 8000000 in
set_option maxRecDepth 100000 in
theorem refRun_calls (k kr : Nat) (e0 vars : Int) (A1 : Option Addr) (c1 : Nat) (cls : List (List Int)) (A2 : Option Addr) (c2 : Nat) (p : List Stp) (r : RunR) (w : World)
  (hr1 : Kd.C (Kd.slice 3 (Kd.int .i64)) w A1 cls.length cls) (hc1 : cls.length ≤ c1) (hr2 : Kd.C kStp w A2 p.length p) (hk : cnf_Check.f k vars cls = some e0) (hkr : netlabref32_Check.f kr vars cls = some e0) (hv : e0 = 0 → 0 ≤ vars ∧ vars ≤ 4096) (h : runF k vars cls p = some r)
  (hlen : cls.length ≤ 100000) (hcs : ∀ l ∈ cls, l.length ≤ 1000000) (hps : ∀ x ∈ p, x.f0.length ≤ 1000000 ∧ x.f2.length ≤ 1000000) :
  Calls Tryz.prog 36 #[.agg #[.int .i64 vars, .slice A1 cls.length c1], .slice A2 p.length c2] w (RefRunPost w r) := by
 have HR1 := Aside0.mk hr1
 have HR2 := Aside0.mk hr2
 have HC1 := Aside0.mk hc1
 have HKR := Aside0.mk hkr
 have HV := Aside0.mk hv
 have HLEN := Aside0.mk hlen
 have HCS := Aside0.mk hcs
 have HPS := Aside0.mk hps
 unfold runF at h
 rw [hk, Option.bind_some] at h
 have H := Aside0.mk h
 clear hr1 hr2 hc1 hk hkr hv h hlen hcs hps
 have hu24 := Tryz.underlying24
 have hu151 := Tryz.underlying151
 go_enter Tryz.func36, Tryz.ntmps36
 go_wp2_with fail
 refine (netlabref32_Check.calls kr vars A1 c1 cls e0 _ (Kd.C_alloc HR1.out _) HC1.out HKR.out).mono ?_
 rintro e w1 ⟨rfl, hb1⟩
 have BK : Aside0 (w1.heap[w.heap.size]? = some (.cells #[.int .i64 vars, .slice A1 cls.length c1] 24 (0, 0))) := ⟨blk_below (blk_new w _) hb1⟩
 have HB : Aside0 (Below w.heap.size w w1) := ⟨below_step ((Below.refl _ _).alloc (Nat.le_refl _) _) hb1⟩
 have HSZ : Aside0 (w.heap.size < w1.heap.size) := ⟨by have := hb1.size; simp at this; omega⟩
 clear hb1
 by_cases h0 : e0 = 0
 ·subst h0
  rw [if_pos rfl] at H
  by_cases hpl : p.length ≤ 65536
  ·rw [if_pos hpl] at H
   have HR := Aside0.mk (Option.some.inj H.out)
   have HPL := Aside0.mk hpl
   have hpl' : decide ((p.length : Int) > 65536) = false := decide_eq_false (by omega)
   clear H
   have hx0 : w1.cell? ⟨w.heap.size, 0, none⟩ = some (.int .i64 vars) := (blk_cell BK.out 0).trans rfl
   have hx1 : w1.cell? ⟨w.heap.size, 1, none⟩ = some (.slice A1 cls.length c1) := (blk_cell BK.out 1).trans rfl
   go_wp2_with fail
   refine (beginR_calls vars A1 c1 cls w1 (Kd.C_below HR1.out HB.out) (by have := HLEN.out; omega)).mono ?_
   rintro e w2 ⟨B, vC, vP, svs, rfl, hrb, hb2⟩
   have HBK2 := Aside0.mk (blk_below BK.out hb2)
   have HB2 := Aside0.mk hb2
   have HGE : Aside0 (w1.heap.size ≤ B) := ⟨hrb.ge⟩
   have HRB2 := Aside0.mk hrb
   have HR21 := Aside0.mk (Kd.C_below HR2.out HB.out)
   have HR0 : Aside0 (runL vars (cls.map some) [] [] (-1) 0 p = runL vars (prP cls (List.replicate cls.length true)) [] [] (-1) (0 : Nat) (p.drop 0)) := ⟨by rw [prP_all]; simp⟩
   clear hrb hb2 hx0 hx1 BK HR1 HC1 HKR
   go_wp2
   go_loopw [10, 11, 12] (fun v10 v11 v12 wr => ∃ (i : Nat) (en : Int) (vC vP : Value) (svs : List SV) (cl : List (List Int)) (pr : List Bool) (used byL : List Int), v12 = .int .i64 i ∧ v11 = .int .i64 en ∧ i ≤ p.length ∧ Aside0 (RefB w1 wr w1.heap.size B vC vP svs cl pr) ∧ Aside0 (Kd.R (Kd.int .i64) 3 wr w1.heap.size (fun _ => True) v10 used) ∧ Aside0 (runL vars (cls.map some) [] [] (-1) 0 p = runL vars (prP cl pr) used byL en i (p.drop i)) ∧ Aside0 (cl.length ≤ cls.length + i ∧ used.length = i ∧ ∀ c ∈ cl, c.length ≤ 1000000) ∧ Aside0 (Below w1.heap.size w1 wr) ∧ Aside0 (wr.heap[w.heap.size]? = some (.cells #[.int .i64 vars, .slice A1 cls.length c1] 24 (0, 0)))) (fun _ _ v12 _ => p.length - (intOf v12).toNat)
   case atStart => exact ⟨0, -1, vC, vP, svs, cls, _, [], [], rfl, rfl, Nat.zero_le _, HRB2, ⟨Kd.R_nil _ _ _ _ _⟩, HR0, ⟨by omega, rfl, HCS.out⟩, HB2, HBK2⟩
   case round =>
    clear HRB2 HR0 HB2 HBK2
    obtain ⟨i, en, vC, vP, svs, cl, pr, used, byL, rfl, rfl, hi, HRB, HU, HRUN, HSZS, HBW, HBK⟩ := hrel
    by_cases hlt : i < p.length
    ·obtain ⟨ad, A3, c3, A4, c4, rfl, hp0, hp1, hp2, hl3, hC3, hl4, hC4⟩ := at_T42 HR21.out (i : Int) (by omega) (by omega)
     simp only [Int.toNat_natCast] at hp0 hp1 hp2
     have hdr : p.drop i = rd_T42 p i :: p.drop (i + 1) := by
      rw [List.drop_eq_getElem_cons hlt]; simp [rd_T42, List.getD, hlt]
     have hpx : (rd_T42 p i).f0.length ≤ 1000000 ∧ (rd_T42 p i).f2.length ≤ 1000000 := by
      have e : rd_T42 p i = p[i] := by simp [rd_T42, List.getD, hlt]
      rw [e]; exact HPS.out _ (List.getElem_mem _)
     rw [hdr] at HRUN
     generalize rd_T42 p i = x at hp0 hp1 hp2 hl3 hC3 hl4 hC4 hpx HRUN
     obtain ⟨l, gone, hs⟩ := x
     simp only at hp0 hp1 hp2 hl3 hC3 hl4 hC4 hpx
     have HP0 := Aside0.mk hp0
     have HP1 := Aside0.mk hp1
     have HP2 := Aside0.mk hp2
     have HC3 := Aside0.mk hC3
     have HC4 := Aside0.mk hC4
     have HL3 := Aside0.mk hl3
     have HL4 := Aside0.mk hl4
     have HX1 := Aside0.mk hpx.1
     have HX2 := Aside0.mk hpx.2
     have hq1 := pw_cell_below HBW.out hp1
     have hq2 := pw_cell_below HBW.out hp2
     have hq0 := pw_cell_below HBW.out hp0
     clear hp0 hp1 hp2 hC3 hC4 hl3 hl4 hpx hdr
     cases gone with
     | true =>
      go_wp2
      go_loopw [13] (fun v13 wr => ∃ (j : Nat) (pr' : List Bool), v13 = .int .i64 j ∧ j ≤ hs.length ∧ Aside0 (RefB w1 wr w1.heap.size B vC vP svs cl pr') ∧ Aside0 (Kd.R (Kd.int .i64) 3 wr w1.heap.size (fun _ => True) u10 used) ∧ Aside0 (delL (prP cl pr) hs = delL (prP cl pr') (hs.drop j)) ∧ Aside0 (Below w1.heap.size w1 wr) ∧ Aside0 (wr.heap[w.heap.size]? = some (.cells #[.int .i64 vars, .slice A1 cls.length c1] 24 (0, 0)))) (fun v13 _ => hs.length - (intOf v13).toNat)
      case atStart => exact ⟨0, pr, rfl, Nat.zero_le _, HRB, HU, ⟨by simp⟩, HBW, HBK⟩
      case round =>
       clear HRB HU HBW HBK hq0 hq1 hq2
       obtain ⟨j, pr', rfl, hj, HRB, HU, HDEL, HBW, HBK⟩ := hrel
       have hq2 := pw_cell_below HBW.out HP2.out
       by_cases hjl : j < hs.length
       ·obtain ⟨ah, rfl, hcw⟩ := Kd.at_int HC4.out (j : Int) (by omega) (by omega)
        simp only [Int.toNat_natCast] at hcw
        have hq3 := pw_cell_below HBW.out hcw
        rw [drop_rd hjl] at HDEL
        generalize rd hs j = h at hcw hq3 HDEL
        have HCW := Aside0.mk hcw
        clear hcw
        have hhas := has_calls w1 wr w1.heap.size B vC vP svs cl pr' h HRB.out (by have := HSZS.out.1; have := HLEN.out; have := HPL.out; omega)
        cases hlk : lookP (prP cl pr') h with
        | none =>
         rw [hlk] at hhas
         have HLK := Aside0.mk hlk
         clear hlk
         go_wp2_with (go_at_call 86; refine hhas.mono ?_; rintro e w' ⟨rfl, rfl⟩)
         ((try simp only [Exit.inBlock, Exit.then]); refine bodyPost_ret (results_tmp4 rfl _ _ _) rfl ?_)
         have hst : (stepF vars (prP cl pr) l true hs).2.2 = 21 := by
          rw [stepF_gone]
          show (delL (prP cl pr) hs).2 = 21
          rw [HDEL.out, delL, HLK.out]
         rw [← HR.out, HRUN.out, runL, if_pos (by rw [hst]; decide)]
         exact ⟨.inr ⟨by show (stepF vars (prP cl pr) l true hs).2.2 ≠ 0; rw [hst]; decide, by show _ = Ending.returned (.tuple #[.slice none 0 0, .int .i64 (-1), .int .i64 (i : Int), .int .i64 (stepF vars (prP cl pr) l true hs).2.2]); rw [hst]; rfl⟩, below_step HB.out HBW.out⟩
        | some l' =>
         rw [hlk] at hhas
         have hll := look_prP HRB.out.lp h
         rw [hlk] at hll
         have HLK := Aside0.mk hlk
         clear hlk
         by_cases hcond : 1 ≤ h ∧ h ≤ (cl.length : Int) ∧ rdOf false pr' (h - 1) = true
         ·clear hll
          obtain ⟨h1, h2, _⟩ := hcond
          have hm : (h - 1).toNat < cl.length := by omega
          obtain ⟨gp, cp, eo, _, _, cells, hbp⟩ := Kd.R_form HRB.out.rp (by rw [HRB.out.lp]; omega)
          rw [HRB.out.lp] at eo
          have hrp := HRB.out.rp
          rw [eo] at hrp
          obtain ⟨hz, hzf⟩ := Kd.R_celln false hrp (h - 1) (by omega) (by omega)
          rw [show (h - 1).toNat = h.toNat - 1 by omega] at hz hzf
          have hw : wrap64 (h - 1) = h - 1 := by unfold wrap64; have := HSZS.out.1; have := HLEN.out; have := HPL.out; omega
          have q1 : 0 ≤ h - 1 := by omega
          have q2 : h - 1 < (cl.length : Int) := by omega
          have h1' : decide (1 ≤ h) = true := decide_eq_true h1
          have hd1 : wr.cell? ⟨B, 1, none⟩ = some (.slice (some ⟨gp, 0, none⟩) cl.length cp) := by rw [← eo]; exact (blk_cell HRB.out.blk 1).trans rfl
          go_wp2_with (go_at_call 86; refine hhas.mono ?_; rintro e w' ⟨rfl, rfl⟩)
          clear hhas
          have hbd : Below wr.heap.size wr wr.drew := below_drew (Below.refl _ _)
          replace HRB := Aside0.mk (HRB.out.below hbd)
          replace HU := Aside0.mk (Kd.R_below HU.out hbd)
          replace HBW := Aside0.mk (below_step HBW.out hbd)
          replace HBK := Aside0.mk (blk_below HBK.out hbd)
          replace hbp := blk_below hbp hbd
          have hd4 := pw_cell_below hbd hz
          have hd5 : wr.drew.frozen? ⟨gp, h.toNat - 1, none⟩ = false := hzf
          replace hd1 := pw_cell_below hbd hd1
          have hd2 := pw_cell_below hbd hq2
          have hd3 := pw_cell_below hbd hq3
          clear hq2 hq3 hz hzf hrp hbd
          refine start_ (n := 15) (S := fun w' => w'.cell? ⟨B, 1, none⟩ = some (.slice (some ⟨gp, 0, none⟩) cl.length cp) ∧ w'.cell? ⟨(ad.add (i * 3)).block, (ad.add (i * 3)).off + 2, none⟩ = some (.slice (some ah) hs.length c4) ∧ w'.cell? (ah.add j) = some (.int .i64 h)) (ds := [14]) #[false, false, false, false, false, false, false, false, false, false, false, false, false, false, false] (by kernel_rfl) rfl rfl ⟨hd1, hd2, hd3⟩ (fun hHeld => ?_); refine with_tabW refRunR18.tab refRunR18.bits (fun HT_ HW_ => ?_)
          generalize wr.drew = wd at HRB HU HBW HBK hd1 hd2 hd3 hd4 hd5 hbp hHeld ⊢
          refine pure_ (i := 0) (N := some 59) (v := ?_) (a' := ?_) #[true, false, false, false, false, false, false, false, false, false, false, false, false, false, false] rfl rfl (any_of HT_.out (by kernel_rfl)) (fun _ _ _ h => h) (Or.inl ⟨by rfl, ?_⟩) ?_ ?_
          rotate_left
          ·intro w'
           go_simp
           with_reducible rfl
          rotate_left
          ·simp only [Act.put, List.setIfInBounds_toArray, List.set_cons_zero, List.set_cons_succ, i64_w, i32_w]
           rfl
          refine pure_ (i := 4) (N := some 63) (v := ?_) (a' := ?_) #[true, false, false, false, true, false, false, false, false, false, false, false, false, false, false] rfl rfl (any_of HT_.out (by kernel_rfl)) (fun _ _ _ h => h) (Or.inl ⟨by rfl, ?_⟩) ?_ ?_
          rotate_left
          ·intro w'
           go_simp
           with_reducible rfl
          rotate_left
          ·simp only [Act.put, List.setIfInBounds_toArray, List.set_cons_zero, List.set_cons_succ, i64_w, i32_w]
           rfl
          refine pure_ (i := 5) (N := some 64) (v := ?_) (a' := ?_) #[true, false, false, false, true, true, false, false, false, false, false, false, false, false, false] rfl rfl (any_of HT_.out (by kernel_rfl)) (fun _ _ _ h => h) (Or.inl ⟨by rfl, ?_⟩) ?_ ?_
          rotate_left
          ·intro w'
           go_simp
           with_reducible rfl
          rotate_left
          ·simp only [Act.put, List.setIfInBounds_toArray, List.set_cons_zero, List.set_cons_succ, i64_w, i32_w]
           rfl
          refine pure_ (i := 9) (N := some 68) (v := ?_) (a' := ?_) #[true, false, false, false, true, true, false, false, false, true, false, false, false, false, false] rfl rfl (any_of HT_.out (by kernel_rfl)) (fun _ _ _ h => h) (Or.inl ⟨by rfl, ?_⟩) ?_ ?_
          rotate_left
          ·intro w'
           go_simp
           with_reducible rfl
          rotate_left
          ·simp only [Act.put, List.setIfInBounds_toArray, List.set_cons_zero, List.set_cons_succ, i64_w, i32_w]
           rfl
          refine pure_ (i := 1) (N := some 60) (v := ?_) (a' := ?_) #[true, true, false, false, true, true, false, false, false, true, false, false, false, false, false] rfl rfl (any_of HT_.out (by kernel_rfl)) (fun _ _ _ h => h) (Or.inl ⟨by rfl, ?_⟩) ?_ ?_
          rotate_left
          ·intro w'
           go_simp
           with_reducible rfl
          rotate_left
          ·simp only [Act.put, List.setIfInBounds_toArray, List.set_cons_zero, List.set_cons_succ, i64_w, i32_w]
           rfl
          refine pure_ (i := 2) (N := some 61) (v := ?_) (a' := ?_) #[true, true, true, false, true, true, false, false, false, true, false, false, false, false, false] rfl rfl (any_of HT_.out (by kernel_rfl)) (fun _ _ _ h => h) (Or.inl ⟨by rfl, ?_⟩) ?_ ?_
          rotate_left
          ·intro w'
           go_simp
           with_reducible rfl
          rotate_left
          ·simp only [Act.put, List.setIfInBounds_toArray, List.set_cons_zero, List.set_cons_succ, i64_w, i32_w]
           rfl
          refine pure_ (i := 6) (N := some 65) (v := ?_) (a' := ?_) #[true, true, true, false, true, true, true, false, false, true, false, false, false, false, false] rfl rfl (any_of HT_.out (by kernel_rfl)) (fun _ _ _ h => h) (Or.inl ⟨by rfl, ?_⟩) ?_ ?_
          rotate_left
          ·intro w'
           go_simp
           with_reducible rfl
          rotate_left
          ·simp only [Act.put, List.setIfInBounds_toArray, List.set_cons_zero, List.set_cons_succ, i64_w, i32_w]
           rfl
          refine pure_ (i := 7) (N := some 66) (v := ?_) (a' := ?_) #[true, true, true, false, true, true, true, true, false, true, false, false, false, false, false] rfl rfl (any_of HT_.out (by kernel_rfl)) (fun _ _ _ h => h) (Or.inl ⟨by rfl, ?_⟩) ?_ ?_
          rotate_left
          ·intro w'
           go_simp
           with_reducible rfl
          rotate_left
          ·simp only [Act.put, List.setIfInBounds_toArray, List.set_cons_zero, List.set_cons_succ, i64_w, i32_w]
           rfl
          refine take_ (i := 3) (N := some 62) (v := ?_) (a' := ?_) #[true, true, true, true, true, true, true, true, false, true, false, false, false, false, false] rfl rfl (take_ofW HT_.out HW_.out (by kernel_rfl)) (fun _ _ _ h => h) (Or.inl ⟨by rfl, ?_⟩) hHeld ?_ ?_
          rotate_left
          ·rintro w' ⟨s0, s1, s2⟩
           go_simp
           with_reducible rfl
          rotate_left
          ·simp only [Act.put, List.setIfInBounds_toArray, List.set_cons_zero, List.set_cons_succ, i64_w, i32_w]
           rfl
          refine take_ (i := 8) (N := some 67) (v := ?_) (a' := ?_) #[true, true, true, true, true, true, true, true, true, true, false, false, false, false, false] rfl rfl (take_ofW HT_.out HW_.out (by kernel_rfl)) (fun _ _ _ h => h) (Or.inl ⟨by rfl, ?_⟩) hHeld ?_ ?_
          rotate_left
          ·rintro w' ⟨s0, s1, s2⟩
           go_simp
           with_reducible rfl
          rotate_left
          ·simp only [Act.put, List.setIfInBounds_toArray, List.set_cons_zero, List.set_cons_succ, i64_w, i32_w]
           rfl
          refine pure_ (i := 10) (N := some 69) (v := ?_) (a' := ?_) #[true, true, true, true, true, true, true, true, true, true, true, false, false, false, false] rfl rfl (any_of HT_.out (by kernel_rfl)) (fun _ _ _ h => h) (Or.inl ⟨by rfl, ?_⟩) ?_ ?_
          rotate_left
          ·intro w'
           go_simp
           with_reducible rfl
          rotate_left
          ·simp only [Act.put, List.setIfInBounds_toArray, List.set_cons_zero, List.set_cons_succ, i64_w, i32_w]
           rfl
          refine take_ (i := 11) (N := some 70) (v := ?_) (a' := ?_) #[true, true, true, true, true, true, true, true, true, true, true, true, false, false, false] rfl rfl (take_ofW HT_.out HW_.out (by kernel_rfl)) (fun _ _ _ h => h) (Or.inl ⟨by rfl, ?_⟩) hHeld ?_ ?_
          rotate_left
          ·rintro w' ⟨s0, s1, s2⟩
           go_simp
           with_reducible rfl
          rotate_left
          ·simp only [Act.put, List.setIfInBounds_toArray, List.set_cons_zero, List.set_cons_succ, i64_w, i32_w]
           rfl
          refine pure_ (i := 12) (N := some 71) (v := ?_) (a' := ?_) #[true, true, true, true, true, true, true, true, true, true, true, true, true, false, false] rfl rfl (any_of HT_.out (by kernel_rfl)) (fun _ _ _ h => h) (Or.inl ⟨by rfl, ?_⟩) ?_ ?_
          rotate_left
          ·intro w'
           go_simp
           with_reducible rfl
          rotate_left
          ·simp only [Act.put, List.setIfInBounds_toArray, List.set_cons_zero, List.set_cons_succ, i64_w, i32_w]
           rfl
          refine pure_ (i := 13) (N := some 72) (v := ?_) (a' := ?_) #[true, true, true, true, true, true, true, true, true, true, true, true, true, true, false] rfl rfl (any_of HT_.out (by kernel_rfl)) (fun _ _ _ h => h) (Or.inl ⟨by rfl, ?_⟩) ?_ ?_
          rotate_left
          ·intro w'
           go_simp
           with_reducible rfl
          rotate_left
          ·simp only [Act.put, List.setIfInBounds_toArray, List.set_cons_zero, List.set_cons_succ, i64_w, i32_w]
           rfl
          refine last_ (i := 14) (N := none) #[true, true, true, true, true, true, true, true, true, true, true, true, true, true, true] rfl rfl (one_of HT_.out (by kernel_rfl)) (by decide) (fun K hK => ?_)
          refine skip_ (w1 := ?_) (by rfl) rfl ?_ ?_
          rotate_left
          ·go_simp
           rfl
          refine hK.out _ _ ?_
          clear hK K
          refine done_ (done_of HT_.out (by kernel_rfl)) ?_
          have hne : B ≠ gp := blk_ne HRB.out.blk hbp (by decide)
          have hne2 : w.heap.size ≠ gp := blk_ne HBK.out hbp (by decide)
          have hrp := HRB.out.rp
          rw [eo] at hrp
          have HRP := Aside0.mk (Kd.R_putn (enc := Value.bool) hrp (h - 1) false)
          rw [show (h - 1).toNat = h.toNat - 1 by omega] at HRP
          have HRC := Aside0.mk (Kd.R_set HRB.out.rc hbp (by decide) (h.toNat - 1) (.bool false))
          have HU2 := Aside0.mk (Kd.R_set HU.out hbp (by decide) (h.toNat - 1) (.bool false))
          have HBL := Aside0.mk (blk_far HRB.out.blk (p := ⟨gp, h.toNat - 1, none⟩) hne (.bool false))
          have HBK2 := Aside0.mk (blk_far HBK.out (p := ⟨gp, h.toNat - 1, none⟩) hne2 (.bool false))
          have HBW2 : Aside0 (Below w1.heap.size w1 (wd.setCell ⟨gp, h.toNat - 1, none⟩ (.bool false))) := ⟨below_set HBW.out (Kd.R_base hrp gp rfl)⟩
          go_wp2
          go_roundw
          case rel =>
           refine ⟨j + 1, pr'.set (h.toNat - 1) false, by rw [wrap_succ hjl (by have := HX2.out; omega)], by omega, ⟨⟨HBL.out, HRB.out.ge, HRC.out, by rw [eo]; exact HRP.out, HRB.out.lc, by simp [HRB.out.lp], HRB.out.at_⟩⟩, HU2, ⟨?_⟩, HBW2, HBK2⟩
           rw [HDEL.out, delL, HLK.out, prP_put HRB.out.lp _ (by omega), show (h - 1).toNat = h.toNat - 1 by omega]
          case measure => exact meas_x hjl (wrap_succ hjl (by have := HX2.out; omega))
         ·rw [if_neg hcond] at hll
          cases hll
       ·have hD : Aside0 (delL (prP cl pr) hs = (prP cl pr', 0)) := ⟨by rw [HDEL.out, List.drop_of_length_le (by omega)]; rfl⟩
        go_wp2_with ((with_reducible refine gate_builtin (b := .append) (xs := #[.tmp 73, .tmp 74]) rfl ?_); at_builtin; refine Kd.R_append (Kd.int .i64) (w0 := w1) w1.heap.size rfl (.tmp 73) (.tmp 74) 31 3 (.int .i64 0) 8 rfl Tryz.underlying31 infoInt rfl (by decide) (by omega) u10 used 0 [.int .i64 0] (fun _ => True) (fun _ => False) rfl rfl ?aP (fun _ hk => hk.elim) ?aF ?aO ?aB ?aS ?aL ?_; (case aP => exact rfl); (case aF => exact fun _ _ => trivial); (case aO => exact HU.out); (case aB => exact HBW.out); (case aS => exact HBW.out.size); (case aL => have := HSZS.out.2.1; have := HPL.out; omega); intro vn w5 ho hb hg hat; have HU5 := Aside0.mk ho; have HBW5 := Aside0.mk hb; have HRB5 := Aside0.mk (RefB.grown HRB.out HU.out hg); have HBK5 := Aside0.mk (blk_grown HBK.out hg (Kd.R_ne HU.out HBK.out (by decide))); clear ho hb hg hat)
        go_roundw
        case rel =>
         refine ⟨i + 1, en, vC, vP, svs, cl, pr', used ++ [0], byL, rfl, rfl, by omega, HRB5, HU5, ⟨?_⟩, ⟨by have := HSZS.out.1; omega, by have := HSZS.out.2.1; simp; omega, HSZS.out.2.2⟩, HBW5, HBK5⟩
         rw [HRUN.out, runL, stepF_gone, hD.out]
         simp only [ne_eq, not_true_eq_false, if_false, if_true]
         rfl
        case measure => exact meas_x hlt rfl
     | false =>
      have hx0 : wr.cell? ⟨w.heap.size, 0, none⟩ = some (.int .i64 vars) := (blk_cell HBK.out 0).trans rfl
      obtain ⟨kl, hkl⟩ := legal_ev l vars (by have := HX1.out; omega)
      have HKL := Aside0.mk (hkl kl (Nat.le_refl _))
      clear hkl
      go_wp2_with fail
      go_quiet ((go_at_call 87; refine (netlabref33_legal.calls kl A3 c3 l vars _ _ (Kd.C_drewN (Kd.C_below HC3.out HBW.out) _) HL3.out HKL.out).mono ?_; rintro e w' ⟨rfl, ⟨nd, rfl⟩⟩; exact ⟨rfl, _, World.drewN_drewN _ _ _⟩))
      have hbd : Below wr.heap.size wr (World.drewN wr nq) := pw_below_drewN (Below.refl _ _) _
      replace HRB := Aside0.mk (HRB.out.below hbd)
      replace HU := Aside0.mk (Kd.R_below HU.out hbd)
      replace HBW := Aside0.mk (below_step HBW.out hbd)
      replace HBK := Aside0.mk (blk_below HBK.out hbd)
      generalize World.drewN wr nq = wr at HRB HU HBW HBK ⊢
      clear hbd hq0 hq1 hq2 hx0
      cases hbad : l.any (badLit vars) with
      | true =>
       have HBAD := Aside0.mk hbad
       clear hbad
       go_wp2
       ((try simp only [Exit.inBlock, Exit.then]); refine bodyPost_ret (results_tmp4 rfl _ _ _) rfl ?_)
       have hst : (stepF vars (prP cl pr) l false hs).2.2 = 1 := by
        unfold stepF
        rw [if_neg (by simp), if_pos HBAD.out]
       rw [← HR.out, HRUN.out, runL, if_pos (by rw [hst]; decide)]
       exact ⟨.inr ⟨by show (stepF vars (prP cl pr) l false hs).2.2 ≠ 0; rw [hst]; decide, by show _ = Ending.returned (.tuple #[.slice none 0 0, .int .i64 (-1), .int .i64 (i : Int), .int .i64 (stepF vars (prP cl pr) l false hs).2.2]); rw [hst]; rfl⟩, below_step HB.out HBW.out⟩
      | false =>
       have HBAD := Aside0.mk hbad
       clear hbad
       have HOKL : Aside0 (∀ x ∈ l, x ≠ 0 ∧ wrap64 (-x) = -x) := ⟨by
        intro x hx
        obtain ⟨v1, v2⟩ := HV.out trivial
        have hbx : badLit vars x = false := by
         have := List.any_eq_false.1 HBAD.out x hx
         simpa using this
        have hw : wrap64 (-vars) = -vars := wneg (by omega) (by omega)
        simp only [badLit, Bool.or_eq_false_iff, beq_eq_false_iff_ne, decide_eq_false_iff_not, hw] at hbx
        exact ⟨hbx.1.1, wneg (by omega) (by omega)⟩⟩
       go_wp2_with fail
       have hbd : Below wr.heap.size wr wr.drew := below_drew (Below.refl _ _)
       replace HRB := Aside0.mk (HRB.out.below hbd)
       replace HU := Aside0.mk (Kd.R_below HU.out hbd)
       replace HBW := Aside0.mk (below_step HBW.out hbd)
       replace HBK := Aside0.mk (blk_below HBK.out hbd)
       have hd0 := pw_cell_below HBW.out HP0.out
       have hd2 := pw_cell_below HBW.out HP2.out
       clear hbd
       refine start_ (n := 17) (S := fun w' => w'.cell? (ad.add (i * 3)) = some (.slice A3 l.length c3) ∧ w'.cell? ⟨(ad.add (i * 3)).block, (ad.add (i * 3)).off + 2, none⟩ = some (.slice A4 hs.length c4)) (ds := []) #[false, false, false, false, false, false, false, false, false, false, false, false, false, false, false, false, false] (by kernel_rfl) rfl rfl ⟨hd0, hd2⟩ (fun hHeld => ?_); refine with_tabW refRunR22.tab refRunR22.bits (fun HT_ HW_ => ?_)
       generalize wr.drew = wd at HRB HU HBW HBK hd0 hd2 hHeld ⊢
       refine pure_ (i := 0) (N := some 87) (v := ?_) (a' := ?_) #[true, false, false, false, false, false, false, false, false, false, false, false, false, false, false, false, false] rfl rfl (any_of HT_.out (by kernel_rfl)) (fun _ _ _ h => h) (Or.inl ⟨by rfl, ?_⟩) ?_ ?_
       rotate_left
       ·intro w'
        go_simp
        with_reducible rfl
       rotate_left
       ·simp only [Act.put, List.setIfInBounds_toArray, List.set_cons_zero, List.set_cons_succ, i64_w, i32_w]
        rfl
       refine pure_ (i := 1) (N := some 88) (v := ?_) (a' := ?_) #[true, true, false, false, false, false, false, false, false, false, false, false, false, false, false, false, false] rfl rfl (any_of HT_.out (by kernel_rfl)) (fun _ _ _ h => h) (Or.inl ⟨by rfl, ?_⟩) ?_ ?_
       rotate_left
       ·intro w'
        go_simp
        with_reducible rfl
       rotate_left
       ·simp only [Act.put, List.setIfInBounds_toArray, List.set_cons_zero, List.set_cons_succ, i64_w, i32_w]
        rfl
       refine pure_ (i := 2) (N := some 89) (v := ?_) (a' := ?_) #[true, true, true, false, false, false, false, false, false, false, false, false, false, false, false, false, false] rfl rfl (any_of HT_.out (by kernel_rfl)) (fun _ _ _ h => h) (Or.inl ⟨by rfl, ?_⟩) ?_ ?_
       rotate_left
       ·intro w'
        go_simp
        with_reducible rfl
       rotate_left
       ·simp only [Act.put, List.setIfInBounds_toArray, List.set_cons_zero, List.set_cons_succ, i64_w, i32_w]
        rfl
       refine pure_ (i := 6) (N := some 93) (v := ?_) (a' := ?_) #[true, true, true, false, false, false, true, false, false, false, false, false, false, false, false, false, false] rfl rfl (any_of HT_.out (by kernel_rfl)) (fun _ _ _ h => h) (Or.inl ⟨by rfl, ?_⟩) ?_ ?_
       rotate_left
       ·intro w'
        go_simp
        with_reducible rfl
       rotate_left
       ·simp only [Act.put, List.setIfInBounds_toArray, List.set_cons_zero, List.set_cons_succ, i64_w, i32_w]
        rfl
       refine pure_ (i := 7) (N := some 94) (v := ?_) (a' := ?_) #[true, true, true, false, false, false, true, true, false, false, false, false, false, false, false, false, false] rfl rfl (any_of HT_.out (by kernel_rfl)) (fun _ _ _ h => h) (Or.inl ⟨by rfl, ?_⟩) ?_ ?_
       rotate_left
       ·intro w'
        go_simp
        with_reducible rfl
       rotate_left
       ·simp only [Act.put, List.setIfInBounds_toArray, List.set_cons_zero, List.set_cons_succ, i64_w, i32_w]
        rfl
       refine pure_ (i := 3) (N := some 90) (v := ?_) (a' := ?_) #[true, true, true, true, false, false, true, true, false, false, false, false, false, false, false, false, false] rfl rfl (any_of HT_.out (by kernel_rfl)) (fun _ _ _ h => h) (Or.inl ⟨by rfl, ?_⟩) ?_ ?_
       rotate_left
       ·intro w'
        go_simp
        with_reducible rfl
       rotate_left
       ·simp only [Act.put, List.setIfInBounds_toArray, List.set_cons_zero, List.set_cons_succ, i64_w, i32_w]
        rfl
       refine pure_ (i := 4) (N := some 91) (v := ?_) (a' := ?_) #[true, true, true, true, true, false, true, true, false, false, false, false, false, false, false, false, false] rfl rfl (any_of HT_.out (by kernel_rfl)) (fun _ _ _ h => h) (Or.inl ⟨by rfl, ?_⟩) ?_ ?_
       rotate_left
       ·intro w'
        go_simp
        with_reducible rfl
       rotate_left
       ·simp only [Act.put, List.setIfInBounds_toArray, List.set_cons_zero, List.set_cons_succ, i64_w, i32_w]
        rfl
       refine pure_ (i := 8) (N := some 95) (v := ?_) (a' := ?_) #[true, true, true, true, true, false, true, true, true, false, false, false, false, false, false, false, false] rfl rfl (any_of HT_.out (by kernel_rfl)) (fun _ _ _ h => h) (Or.inl ⟨by rfl, ?_⟩) ?_ ?_
       rotate_left
       ·intro w'
        go_simp
        with_reducible rfl
       rotate_left
       ·simp only [Act.put, List.setIfInBounds_toArray, List.set_cons_zero, List.set_cons_succ, i64_w, i32_w]
        rfl
       refine pure_ (i := 9) (N := some 96) (v := ?_) (a' := ?_) #[true, true, true, true, true, false, true, true, true, true, false, false, false, false, false, false, false] rfl rfl (any_of HT_.out (by kernel_rfl)) (fun _ _ _ h => h) (Or.inl ⟨by rfl, ?_⟩) ?_ ?_
       rotate_left
       ·intro w'
        go_simp
        with_reducible rfl
       rotate_left
       ·simp only [Act.put, List.setIfInBounds_toArray, List.set_cons_zero, List.set_cons_succ, i64_w, i32_w]
        rfl
       refine take_ (i := 5) (N := some 92) (v := ?_) (a' := ?_) #[true, true, true, true, true, true, true, true, true, true, false, false, false, false, false, false, false] rfl rfl (take_ofW HT_.out HW_.out (by kernel_rfl)) (fun _ _ _ h => h) (Or.inl ⟨by rfl, ?_⟩) hHeld ?_ ?_
       rotate_left
       ·rintro w' ⟨s0, s1⟩
        go_simp
        with_reducible rfl
       rotate_left
       ·simp only [Act.put, List.setIfInBounds_toArray, List.set_cons_zero, List.set_cons_succ, i64_w, i32_w]
        rfl
       refine take_ (i := 10) (N := some 97) (v := ?_) (a' := ?_) #[true, true, true, true, true, true, true, true, true, true, true, false, false, false, false, false, false] rfl rfl (take_ofW HT_.out HW_.out (by kernel_rfl)) (fun _ _ _ h => h) (Or.inl ⟨by rfl, ?_⟩) hHeld ?_ ?_
       rotate_left
       ·rintro w' ⟨s0, s1⟩
        go_simp
        with_reducible rfl
       rotate_left
       ·simp only [Act.put, List.setIfInBounds_toArray, List.set_cons_zero, List.set_cons_succ, i64_w, i32_w]
        rfl
       refine one_ (i := 11) (N := some 98) #[true, true, true, true, true, true, true, true, true, true, true, true, false, false, false, false, false] rfl rfl (one_of HT_.out (by kernel_rfl)) (by decide) (fun K hK => ?_)
       refine goes_ Tryz.func88 (by kernel_rfl) rfl #[.pointer (some ⟨B, 0, none⟩), .slice A3 l.length c3, .slice A4 hs.length c4] (by rfl) rfl rfl (by (try simp only [List.map_toArray, List.map_cons, List.map_nil]); first | done | rfl) ?_
       refine (follows_calls w1 wd w1.heap.size B vC vP svs cl pr A3 c3 l A4 c4 hs HRB.out HBW.out (by have := HSZS.out.1; have := HLEN.out; have := HPL.out; omega) HSZS.out.2.2 HC3.out HL3.out HX1.out HOKL.out HC4.out HX2.out).mono ?_
       rintro e w3 ⟨rfl, hb3⟩
       refine ⟨_, rfl, ?_⟩
       refine hK.out _ _ ⟨pw_cell_below hb3 hd0, pw_cell_below hb3 hd2⟩ (fun hHeld => ?_)
       clear hK K
       replace HRB := Aside0.mk (HRB.out.below hb3)
       replace HU := Aside0.mk (Kd.R_below HU.out hb3)
       replace HBW := Aside0.mk (below_step HBW.out hb3)
       replace HBK := Aside0.mk (blk_below HBK.out hb3)
       clear hb3
       refine norm_ (a' := ?_) ?_ ?_
       rotate_left
       ·show Act.put _ (some 98) _ = _
        simp only [Act.put, List.setIfInBounds_toArray, List.set_cons_zero, List.set_cons_succ, i64_w, i32_w]
        rfl
       refine pure_ (i := 12) (N := some 86) (v := ?_) (a' := ?_) #[true, true, true, true, true, true, true, true, true, true, true, true, true, false, false, false, false] rfl rfl (any_of HT_.out (by kernel_rfl)) (fun _ _ _ h => h) (Or.inl ⟨by rfl, ?_⟩) ?_ ?_
       rotate_left
       ·intro w'
        go_simp
        with_reducible rfl
       rotate_left
       ·simp only [Act.put, List.setIfInBounds_toArray, List.set_cons_zero, List.set_cons_succ, i64_w, i32_w]
        rfl
       refine pure_ (i := 13) (N := some 99) (v := ?_) (a' := ?_) #[true, true, true, true, true, true, true, true, true, true, true, true, true, true, false, false, false] rfl rfl (any_of HT_.out (by kernel_rfl)) (fun _ _ _ h => h) (Or.inl ⟨by rfl, ?_⟩) ?_ ?_
       rotate_left
       ·intro w'
        go_simp
        with_reducible rfl
       rotate_left
       ·simp only [Act.put, List.setIfInBounds_toArray, List.set_cons_zero, List.set_cons_succ, i64_w, i32_w]
        rfl
       refine pure_ (i := 14) (N := some 100) (v := ?_) (a' := ?_) #[true, true, true, true, true, true, true, true, true, true, true, true, true, true, true, false, false] rfl rfl (any_of HT_.out (by kernel_rfl)) (fun _ _ _ h => h) (Or.inl ⟨by rfl, ?_⟩) ?_ ?_
       rotate_left
       ·intro w'
        go_simp
        with_reducible rfl
       rotate_left
       ·simp only [Act.put, List.setIfInBounds_toArray, List.set_cons_zero, List.set_cons_succ, i64_w, i32_w]
        rfl
       refine pure_ (i := 15) (N := some 14) (v := ?_) (a' := ?_) #[true, true, true, true, true, true, true, true, true, true, true, true, true, true, true, true, false] rfl rfl (any_of HT_.out (by kernel_rfl)) (fun _ _ _ h => h) (Or.inl ⟨by rfl, ?_⟩) ?_ ?_
       rotate_left
       ·intro w'
        go_simp
        with_reducible rfl
       rotate_left
       ·simp only [Act.put, List.setIfInBounds_toArray, List.set_cons_zero, List.set_cons_succ, i64_w, i32_w]
        rfl
       refine pure_ (i := 16) (N := some 15) (v := ?_) (a' := ?_) #[true, true, true, true, true, true, true, true, true, true, true, true, true, true, true, true, true] rfl rfl (any_of HT_.out (by kernel_rfl)) (fun _ _ _ h => h) (Or.inl ⟨by rfl, ?_⟩) ?_ ?_
       rotate_left
       ·intro w'
        go_simp
        with_reducible rfl
       rotate_left
       ·simp only [Act.put, List.setIfInBounds_toArray, List.set_cons_zero, List.set_cons_succ, i64_w, i32_w]
        rfl
       refine done_ (done_of HT_.out (by kernel_rfl)) ?_
       clear HT_ HW_ hd0 hd2 hHeld
       cases hok : (deriveF (prP cl pr) l hs).2 with
       | false =>
        have HOK := Aside0.mk hok
        clear hok
        go_wp2
        ((try simp only [Exit.inBlock, Exit.then]); refine bodyPost_ret (results_tmp4 rfl _ _ _) rfl ?_)
        have hst : (stepF vars (prP cl pr) l false hs).2.2 = 21 := by
         unfold stepF
         rw [if_neg (by simp), if_neg (by rw [HBAD.out]; simp), if_neg (by rw [HOK.out]; simp)]
        rw [← HR.out, HRUN.out, runL, if_pos (by rw [hst]; decide)]
        exact ⟨.inr ⟨by show (stepF vars (prP cl pr) l false hs).2.2 ≠ 0; rw [hst]; decide, by show _ = Ending.returned (.tuple #[.slice none 0 0, .int .i64 (-1), .int .i64 (i : Int), .int .i64 (stepF vars (prP cl pr) l false hs).2.2]); rw [hst]; rfl⟩, below_step HB.out HBW.out⟩
       | true =>
        have HST : Aside0 (stepF vars (prP cl pr) l false hs = (prP cl pr ++ [some l], (deriveF (prP cl pr) l hs).1, 0)) := ⟨by
         unfold stepF
         rw [if_neg (by simp), if_neg (by rw [HBAD.out]; simp), if_pos hok]⟩
        clear hok
        generalize (deriveF (prP cl pr) l hs).1 = n at HST ⊢
        go_wp2_with ((with_reducible refine gate_builtin (b := .append) (xs := #[.tmp 104, .tmp 106]) rfl ?_); at_builtin; refine Kd.R_append (Kd.int .i64) (w0 := w1) w1.heap.size rfl (.tmp 104) (.tmp 106) 31 3 (.int .i64 0) 8 rfl Tryz.underlying31 infoInt rfl (by decide) (by omega) u10 used n [.int .i64 n] (fun _ => True) (fun _ => False) rfl rfl ?aP (fun _ hk => hk.elim) ?aF ?aO ?aB ?aS ?aL ?_; (case aP => exact rfl); (case aF => exact fun _ _ => trivial); (case aO => exact HU.out); (case aB => exact HBW.out); (case aS => exact HBW.out.size); (case aL => have := HSZS.out.2.1; have := HPL.out; omega); intro vn w5 ho hb hg hat; replace HRB := Aside0.mk (RefB.grown HRB.out HU.out hg); replace HBK := Aside0.mk (blk_grown HBK.out hg (Kd.R_ne HU.out HBK.out (by decide))); replace HU := Aside0.mk ho; replace HBW := Aside0.mk hb; clear ho hb hg hat)
        have hbd : Below w5.heap.size w5 w5.drew := below_drew (Below.refl _ _)
        replace HRB := Aside0.mk (HRB.out.below hbd)
        replace HU := Aside0.mk (Kd.R_below HU.out hbd)
        replace HBW := Aside0.mk (below_step HBW.out hbd)
        replace HBK := Aside0.mk (blk_below HBK.out hbd)
        have hd0 := pw_cell_below HBW.out HP0.out
        clear hbd
        refine start_ (n := 15) (S := fun w' => w'.cell? ⟨B, 0, none⟩ = some vC ∧ w'.cell? (ad.add (i * 3)) = some (.slice A3 l.length c3)) (ds := [14]) #[false, false, false, false, false, false, false, false, false, false, false, false, false, false, false] (by kernel_rfl) rfl rfl ⟨(blk_cell HRB.out.blk 0).trans rfl, hd0⟩ (fun hHeld => ?_); refine with_tabW refRunR26.tab refRunR26.bits (fun HT_ HW_ => ?_)
        generalize w5.drew = wd at HRB HU HBW HBK hd0 hHeld ⊢
        refine pure_ (i := 0) (N := some 108) (v := ?_) (a' := ?_) #[true, false, false, false, false, false, false, false, false, false, false, false, false, false, false] rfl rfl (any_of HT_.out (by kernel_rfl)) (fun _ _ _ h => h) (Or.inl ⟨by rfl, ?_⟩) ?_ ?_
        rotate_left
        ·intro w'
         go_simp
         with_reducible rfl
        rotate_left
        ·simp only [Act.put, List.setIfInBounds_toArray, List.set_cons_zero, List.set_cons_succ, i64_w, i32_w]
         rfl
        refine pure_ (i := 1) (N := some 109) (v := ?_) (a' := ?_) #[true, true, false, false, false, false, false, false, false, false, false, false, false, false, false] rfl rfl (any_of HT_.out (by kernel_rfl)) (fun _ _ _ h => h) (Or.inl ⟨by rfl, ?_⟩) ?_ ?_
        rotate_left
        ·intro w'
         go_simp
         with_reducible rfl
        rotate_left
        ·simp only [Act.put, List.setIfInBounds_toArray, List.set_cons_zero, List.set_cons_succ, i64_w, i32_w]
         rfl
        refine pure_ (i := 2) (N := some 110) (v := ?_) (a' := ?_) #[true, true, true, false, false, false, false, false, false, false, false, false, false, false, false] rfl rfl (any_of HT_.out (by kernel_rfl)) (fun _ _ _ h => h) (Or.inl ⟨by rfl, ?_⟩) ?_ ?_
        rotate_left
        ·intro w'
         go_simp
         with_reducible rfl
        rotate_left
        ·simp only [Act.put, List.setIfInBounds_toArray, List.set_cons_zero, List.set_cons_succ, i64_w, i32_w]
         rfl
        refine pure_ (i := 3) (N := some 111) (v := ?_) (a' := ?_) #[true, true, true, true, false, false, false, false, false, false, false, false, false, false, false] rfl rfl (any_of HT_.out (by kernel_rfl)) (fun _ _ _ h => h) (Or.inl ⟨by rfl, ?_⟩) ?_ ?_
        rotate_left
        ·intro w'
         go_simp
         with_reducible rfl
        rotate_left
        ·simp only [Act.put, List.setIfInBounds_toArray, List.set_cons_zero, List.set_cons_succ, i64_w, i32_w]
         rfl
        refine pure_ (i := 5) (N := some 113) (v := ?_) (a' := ?_) #[true, true, true, true, false, true, false, false, false, false, false, false, false, false, false] rfl rfl (any_of HT_.out (by kernel_rfl)) (fun _ _ _ h => h) (Or.inl ⟨by rfl, ?_⟩) ?_ ?_
        rotate_left
        ·intro w'
         go_simp
         with_reducible rfl
        rotate_left
        ·simp only [Act.put, List.setIfInBounds_toArray, List.set_cons_zero, List.set_cons_succ, i64_w, i32_w]
         rfl
        refine pure_ (i := 6) (N := some 114) (v := ?_) (a' := ?_) #[true, true, true, true, false, true, true, false, false, false, false, false, false, false, false] rfl rfl (any_of HT_.out (by kernel_rfl)) (fun _ _ _ h => h) (Or.inl ⟨by rfl, ?_⟩) ?_ ?_
        rotate_left
        ·intro w'
         go_simp
         with_reducible rfl
        rotate_left
        ·simp only [Act.put, List.setIfInBounds_toArray, List.set_cons_zero, List.set_cons_succ, i64_w, i32_w]
         rfl
        refine pure_ (i := 7) (N := some 115) (v := ?_) (a' := ?_) #[true, true, true, true, false, true, true, true, false, false, false, false, false, false, false] rfl rfl (any_of HT_.out (by kernel_rfl)) (fun _ _ _ h => h) (Or.inl ⟨by rfl, ?_⟩) ?_ ?_
        rotate_left
        ·intro w'
         go_simp
         with_reducible rfl
        rotate_left
        ·simp only [Act.put, List.setIfInBounds_toArray, List.set_cons_zero, List.set_cons_succ, i64_w, i32_w]
         rfl
        refine pure_ (i := 8) (N := some 116) (v := ?_) (a' := ?_) #[true, true, true, true, false, true, true, true, true, false, false, false, false, false, false] rfl rfl (any_of HT_.out (by kernel_rfl)) (fun _ _ _ h => h) (Or.inl ⟨by rfl, ?_⟩) ?_ ?_
        rotate_left
        ·intro w'
         go_simp
         with_reducible rfl
        rotate_left
        ·simp only [Act.put, List.setIfInBounds_toArray, List.set_cons_zero, List.set_cons_succ, i64_w, i32_w]
         rfl
        refine take_ (i := 4) (N := some 112) (v := ?_) (a' := ?_) #[true, true, true, true, true, true, true, true, true, false, false, false, false, false, false] rfl rfl (take_ofW HT_.out HW_.out (by kernel_rfl)) (fun _ _ _ h => h) (Or.inl ⟨by rfl, ?_⟩) hHeld ?_ ?_
        rotate_left
        ·rintro w' ⟨s0, s1⟩
         go_simp
         with_reducible rfl
        rotate_left
        ·simp only [Act.put, List.setIfInBounds_toArray, List.set_cons_zero, List.set_cons_succ, i64_w, i32_w]
         rfl
        refine take_ (i := 9) (N := some 117) (v := ?_) (a' := ?_) #[true, true, true, true, true, true, true, true, true, true, false, false, false, false, false] rfl rfl (take_ofW HT_.out HW_.out (by kernel_rfl)) (fun _ _ _ h => h) (Or.inl ⟨by rfl, ?_⟩) hHeld ?_ ?_
        rotate_left
        ·rintro w' ⟨s0, s1⟩
         go_simp
         with_reducible rfl
        rotate_left
        ·simp only [Act.put, List.setIfInBounds_toArray, List.set_cons_zero, List.set_cons_succ, i64_w, i32_w]
         rfl
        refine one_ (i := 10) (N := some 118) #[true, true, true, true, true, true, true, true, true, true, true, false, false, false, false] rfl rfl (one_of HT_.out (by kernel_rfl)) (by decide) (fun K hK => ?_)
        refine value_ (w1 := ?_) (v := ?_) (by rfl) rfl ?_ ?_
        rotate_left 2
        ·go_simp
         constructor
         ·rfl
         ·rfl
        refine hK.out _ _ ⟨(blk_cell (blk_alloc HRB.out.blk _) 0).trans rfl, pw_cell_below ((Below.refl _ _).alloc (Nat.le_refl _) _) hd0⟩ (fun hHeld => ?_)
        clear hK K
        refine norm_ (a' := ?_) ?_ ?_
        rotate_left
        ·show Act.put _ (some 118) _ = _
         simp only [Act.put, List.setIfInBounds_toArray, List.set_cons_zero, List.set_cons_succ, i64_w, i32_w]
         rfl
        refine one_ (i := 11) (N := some 119) #[true, true, true, true, true, true, true, true, true, true, true, true, false, false, false] rfl rfl (one_of HT_.out (by kernel_rfl)) (by decide) (fun K hK => ?_)
        refine Kd.R_append_step kSV (w0 := w1) w1.heap.size (by rfl) (.tmp 112) (.tmp 118) 22 31 (.slice none 0 0) 24 rfl Tryz.underlying22 infoSV rfl (by decide) (by omega) vC svs (A3, l.length, c3) [.slice A3 l.length c3] (fun _ => True) (fun _ => False) rfl rfl ?aP (fun _ hk => hk.elim) ?aF ?aO ?aB ?aS ?aL ?_
        (case aP => exact rfl)
        (case aF => exact fun _ _ => trivial)
        (case aO => exact HRB.out.rc)
        (case aB => exact HBW.out)
        (case aS => exact HBW.out.size)
        (case aL => have h1 := HRB.out.lc; have h2 := HSZS.out.1; have := HLEN.out; have := HPL.out; omega)
        intro v9 w7 ho hb hg hat
        obtain ⟨A9, c9, e9⟩ := Kd.R_slice ho
        rw [show (svs ++ [(A3, l.length, c3)]).length = cl.length + 1 by have h1 := HRB.out.lc; simp; omega] at e9
        subst e9
        have HBL := Aside0.mk (blk_grown HRB.out.blk hg (Kd.R_ne HRB.out.rc HRB.out.blk (by decide)))
        have HKC3 := Aside0.mk (blk_grown HBK.out hg (Kd.R_ne HRB.out.rc HBK.out (by decide)))
        have HRP3 := Aside0.mk (Kd.R_mono (Kd.R_grown (Kd.R_apart' HRB.out.rp (Kd.R_typed HRB.out.rc) (by decide)) hg (fun k hk => hk.2)) (ok' := fun _ => True) (fun _ _ => trivial))
        have HU3 := Aside0.mk (Kd.R_mono (Kd.R_grown (Kd.R_apart' HU.out (Kd.R_typed HRB.out.rc) (by decide)) hg (fun k hk => hk.2)) (ok' := fun _ => True) (fun _ _ => trivial))
        have HRC3 := Aside0.mk ho
        have HB3 := Aside0.mk hb
        clear ho hg hat
        refine hK.out _ _ ⟨(blk_cell HBL.out 0).trans rfl, pw_cell_below hb HP0.out⟩ (fun hHeld => ?_)
        clear hK K hb
        refine norm_ (a' := ?_) ?_ ?_
        rotate_left
        ·show Act.put _ (some 119) _ = _
         simp only [Act.put, List.setIfInBounds_toArray, List.set_cons_zero, List.set_cons_succ, i64_w, i32_w]
         rfl
        refine pure_ (i := 12) (N := some 120) (v := ?_) (a' := ?_) #[true, true, true, true, true, true, true, true, true, true, true, true, true, false, false] rfl rfl (any_of HT_.out (by kernel_rfl)) (fun _ _ _ h => h) (Or.inl ⟨by rfl, ?_⟩) ?_ ?_
        rotate_left
        ·intro w'
         go_simp
         with_reducible rfl
        rotate_left
        ·simp only [Act.put, List.setIfInBounds_toArray, List.set_cons_zero, List.set_cons_succ, i64_w, i32_w]
         rfl
        refine pure_ (i := 13) (N := some 121) (v := ?_) (a' := ?_) #[true, true, true, true, true, true, true, true, true, true, true, true, true, true, false] rfl rfl (any_of HT_.out (by kernel_rfl)) (fun _ _ _ h => h) (Or.inl ⟨by rfl, ?_⟩) ?_ ?_
        rotate_left
        ·intro w'
         go_simp
         with_reducible rfl
        rotate_left
        ·simp only [Act.put, List.setIfInBounds_toArray, List.set_cons_zero, List.set_cons_succ, i64_w, i32_w]
         rfl
        refine last_ (i := 14) (N := none) #[true, true, true, true, true, true, true, true, true, true, true, true, true, true, true] rfl rfl (one_of HT_.out (by kernel_rfl)) (by decide) (fun K hK => ?_)
        have hs0 : w7.cell? ⟨B, 0, none⟩ = some vC := (blk_cell HBL.out 0).trans rfl
        have hfs := blk_frozen HBL.out 0
        refine skip_ (w1 := ?_) (by rfl) rfl ?_ ?_
        rotate_left
        ·go_simp
         rfl
        refine hK.out _ _ ?_
        clear hK K
        refine done_ (done_of HT_.out (by kernel_rfl)) ?_
        clear HT_ HW_ hHeld hd0
        have hne : w.heap.size ≠ B := by have := HGE.out; have := HRB.out.ge; have := HSZ.out; omega
        have HB4 : Aside0 (Below w1.heap.size w1 (w7.setCell ⟨B, 0, none⟩ (.slice A9 (cl.length + 1) c9))) := ⟨below_set HB3.out HRB.out.ge⟩
        have HRC4 := Aside0.mk (Kd.R_set HRC3.out HBL.out (by decide) 0 (.slice A9 (cl.length + 1) c9))
        have HRP4 := Aside0.mk (Kd.R_set HRP3.out HBL.out (by decide) 0 (.slice A9 (cl.length + 1) c9))
        have HU4 := Aside0.mk (Kd.R_set HU3.out HBL.out (by decide) 0 (.slice A9 (cl.length + 1) c9))
        have HBL4 : Aside0 ((w7.setCell ⟨B, 0, none⟩ (.slice A9 (cl.length + 1) c9)).heap[B]? = some (.cells #[.slice A9 (cl.length + 1) c9, vP] 151 (0, 0))) := ⟨blk_set HBL.out 0 (.slice A9 (cl.length + 1) c9)⟩
        have HKC4 : Aside0 ((w7.setCell ⟨B, 0, none⟩ (.slice A9 (cl.length + 1) c9)).heap[w.heap.size]? = some (.cells #[.int .i64 vars, .slice A1 cls.length c1] 24 (0, 0))) := ⟨blk_far HKC3.out hne _⟩
        generalize w7.setCell ⟨B, 0, none⟩ (.slice A9 (cl.length + 1) c9) = w8 at HB4 HRC4 HRP4 HU4 HBL4 HKC4 ⊢
        clear hs0 hfs
        have hy1 : w8.cell? ⟨B, 1, none⟩ = some vP := (blk_cell HBL4.out 1).trans rfl
        have hyf := blk_frozen HBL4.out 1
        have HSZ10 : Aside0 ((cl ++ [l]).length ≤ cls.length + (i + 1) ∧ (used ++ [n]).length = i + 1 ∧ ∀ c ∈ cl ++ [l], c.length ≤ 1000000) := ⟨by have := HSZS.out.1; simp; omega, by have := HSZS.out.2.1; simp; omega, by intro c hc; rcases List.mem_append.1 hc with h | h; exact HSZS.out.2.2 c h; rw [List.mem_singleton.1 h]; exact HX1.out⟩
        by_cases hen : en < 0
        ·have hen' : decide (en < 0) = true := decide_eq_true hen
         by_cases hl0 : l.length = 0
         ·have HLE := Aside0.mk (And.intro hen hl0)
          have hl0' : ((l.length : Int) == 0) = true := by rw [hl0]; rfl
          clear hl0
          go_wp2_with ((with_reducible refine gate_builtin (b := .append) (xs := #[.tmp 126, .tmp 127]) rfl ?_); at_builtin; refine Kd.R_append Kd.bool (w0 := w1) w1.heap.size rfl (.tmp 126) (.tmp 127) 77 4 (.bool false) 1 rfl Tryz.underlying77 infoB1 rfl (by decide) (by omega) vP pr true [.bool true] (fun _ => True) (fun _ => False) rfl rfl ?aP (fun _ hk => hk.elim) ?aF ?aO ?aB ?aS ?aL ?_; (case aP => exact rfl); (case aF => exact fun _ _ => trivial); (case aO => exact HRP4.out); (case aB => exact HB4.out); (case aS => exact HB4.out.size); (case aL => have h1 := HRB.out.lp; have h2 := HSZS.out.1; have := HLEN.out; have := HPL.out; omega); intro vn w9 ho hb hg hat; obtain ⟨An, cn, en9⟩ := Kd.R_slice ho; rw [show (pr ++ [true]).length = cl.length + 1 by have h1 := HRB.out.lp; simp; omega] at en9; subst en9; have HBL5 := Aside0.mk (blk_grown HBL4.out hg (Kd.R_ne HRP4.out HBL4.out (by decide))); have HKC5 := Aside0.mk (blk_grown HKC4.out hg (Kd.R_ne HRP4.out HKC4.out (by decide))); have HRC5 := Aside0.mk (Kd.R_mono (Kd.R_grown (Kd.R_apart' HRC4.out (Kd.R_typed HRP4.out) (by decide)) hg (fun k hk => hk.2)) (ok' := fun _ => True) (fun _ _ => trivial)); have HU5 := Aside0.mk (Kd.R_mono (Kd.R_grown (Kd.R_apart' HU4.out (Kd.R_typed HRP4.out) (by decide)) hg (fun k hk => hk.2)) (ok' := fun _ => True) (fun _ _ => trivial)); have HRP5 := Aside0.mk ho; have HB5 := Aside0.mk hb; have hz1 := (blk_cell HBL5.out 1).trans rfl; have hzf := blk_frozen HBL5.out 1; clear ho hb hg hat hy1 hyf; have hd0 := pw_cell_below (show Below w1.heap.size w1 (w9.setCell ⟨B, 1, none⟩ (.slice An (cl.length + 1) cn)) from below_set HB5.out HRB.out.ge) HP0.out; have HFIN := Aside0.mk (ref_snoc HRB.out HBL5.out HRC5.out HRP5.out HU5.out HC3.out HL3.out); have HB10 : Aside0 (Below w1.heap.size w1 (w9.setCell ⟨B, 1, none⟩ (.slice An (cl.length + 1) cn))) := ⟨below_set HB5.out HRB.out.ge⟩; have HBK10 : Aside0 ((w9.setCell ⟨B, 1, none⟩ (.slice An (cl.length + 1) cn)).heap[w.heap.size]? = some (.cells #[.int .i64 vars, .slice A1 cls.length c1] 24 (0, 0))) := ⟨blk_far HKC5.out hne _⟩)
          refine ⟨?rel, ?measure⟩
          case rel =>
           refine ⟨i + 1, (i : Int), _, _, _, cl ++ [l], pr ++ [true], used ++ [n], byL ++ [(i : Int)], rfl, rfl, by omega, ⟨HFIN.out.1⟩, ⟨HFIN.out.2⟩, ⟨?_⟩, HSZ10, HB10, HBK10⟩
           rw [HRUN.out, runL, HST.out, if_neg (by simp), if_neg (by simp), prP_snoc HRB.out.lp, if_pos HLE.out]
           rfl
          case measure => exact meas_x hlt rfl
         ·have HLE := Aside0.mk (show ¬ (en < 0 ∧ l.length = 0) from fun h => hl0 h.2)
          have hl0' : ((l.length : Int) == 0) = false := by simpa using hl0
          clear hl0
          go_wp2_with ((with_reducible refine gate_builtin (b := .append) (xs := #[.tmp 126, .tmp 127]) rfl ?_); at_builtin; refine Kd.R_append Kd.bool (w0 := w1) w1.heap.size rfl (.tmp 126) (.tmp 127) 77 4 (.bool false) 1 rfl Tryz.underlying77 infoB1 rfl (by decide) (by omega) vP pr true [.bool true] (fun _ => True) (fun _ => False) rfl rfl ?aP (fun _ hk => hk.elim) ?aF ?aO ?aB ?aS ?aL ?_; (case aP => exact rfl); (case aF => exact fun _ _ => trivial); (case aO => exact HRP4.out); (case aB => exact HB4.out); (case aS => exact HB4.out.size); (case aL => have h1 := HRB.out.lp; have h2 := HSZS.out.1; have := HLEN.out; have := HPL.out; omega); intro vn w9 ho hb hg hat; obtain ⟨An, cn, en9⟩ := Kd.R_slice ho; rw [show (pr ++ [true]).length = cl.length + 1 by have h1 := HRB.out.lp; simp; omega] at en9; subst en9; have HBL5 := Aside0.mk (blk_grown HBL4.out hg (Kd.R_ne HRP4.out HBL4.out (by decide))); have HKC5 := Aside0.mk (blk_grown HKC4.out hg (Kd.R_ne HRP4.out HKC4.out (by decide))); have HRC5 := Aside0.mk (Kd.R_mono (Kd.R_grown (Kd.R_apart' HRC4.out (Kd.R_typed HRP4.out) (by decide)) hg (fun k hk => hk.2)) (ok' := fun _ => True) (fun _ _ => trivial)); have HU5 := Aside0.mk (Kd.R_mono (Kd.R_grown (Kd.R_apart' HU4.out (Kd.R_typed HRP4.out) (by decide)) hg (fun k hk => hk.2)) (ok' := fun _ => True) (fun _ _ => trivial)); have HRP5 := Aside0.mk ho; have HB5 := Aside0.mk hb; have hz1 := (blk_cell HBL5.out 1).trans rfl; have hzf := blk_frozen HBL5.out 1; clear ho hb hg hat hy1 hyf; have hd0 := pw_cell_below (show Below w1.heap.size w1 (w9.setCell ⟨B, 1, none⟩ (.slice An (cl.length + 1) cn)) from below_set HB5.out HRB.out.ge) HP0.out; have HFIN := Aside0.mk (ref_snoc HRB.out HBL5.out HRC5.out HRP5.out HU5.out HC3.out HL3.out); have HB10 : Aside0 (Below w1.heap.size w1 (w9.setCell ⟨B, 1, none⟩ (.slice An (cl.length + 1) cn))) := ⟨below_set HB5.out HRB.out.ge⟩; have HBK10 : Aside0 ((w9.setCell ⟨B, 1, none⟩ (.slice An (cl.length + 1) cn)).heap[w.heap.size]? = some (.cells #[.int .i64 vars, .slice A1 cls.length c1] 24 (0, 0))) := ⟨blk_far HKC5.out hne _⟩)
          refine ⟨?rel, ?measure⟩
          case rel =>
           refine ⟨i + 1, en, _, _, _, cl ++ [l], pr ++ [true], used ++ [n], byL ++ [(i : Int)], rfl, rfl, by omega, ⟨HFIN.out.1⟩, ⟨HFIN.out.2⟩, ⟨?_⟩, HSZ10, HB10, HBK10⟩
           rw [HRUN.out, runL, HST.out, if_neg (by simp), if_neg (by simp), prP_snoc HRB.out.lp, if_neg HLE.out]
           rfl
          case measure => exact meas_x hlt rfl
        ·have hen' : decide (en < 0) = false := decide_eq_false hen
         have HLE := Aside0.mk (show ¬ (en < 0 ∧ l.length = 0) from fun h => hen h.1)
         go_wp2_with ((with_reducible refine gate_builtin (b := .append) (xs := #[.tmp 126, .tmp 127]) rfl ?_); at_builtin; refine Kd.R_append Kd.bool (w0 := w1) w1.heap.size rfl (.tmp 126) (.tmp 127) 77 4 (.bool false) 1 rfl Tryz.underlying77 infoB1 rfl (by decide) (by omega) vP pr true [.bool true] (fun _ => True) (fun _ => False) rfl rfl ?aP (fun _ hk => hk.elim) ?aF ?aO ?aB ?aS ?aL ?_; (case aP => exact rfl); (case aF => exact fun _ _ => trivial); (case aO => exact HRP4.out); (case aB => exact HB4.out); (case aS => exact HB4.out.size); (case aL => have h1 := HRB.out.lp; have h2 := HSZS.out.1; have := HLEN.out; have := HPL.out; omega); intro vn w9 ho hb hg hat; obtain ⟨An, cn, en9⟩ := Kd.R_slice ho; rw [show (pr ++ [true]).length = cl.length + 1 by have h1 := HRB.out.lp; simp; omega] at en9; subst en9; have HBL5 := Aside0.mk (blk_grown HBL4.out hg (Kd.R_ne HRP4.out HBL4.out (by decide))); have HKC5 := Aside0.mk (blk_grown HKC4.out hg (Kd.R_ne HRP4.out HKC4.out (by decide))); have HRC5 := Aside0.mk (Kd.R_mono (Kd.R_grown (Kd.R_apart' HRC4.out (Kd.R_typed HRP4.out) (by decide)) hg (fun k hk => hk.2)) (ok' := fun _ => True) (fun _ _ => trivial)); have HU5 := Aside0.mk (Kd.R_mono (Kd.R_grown (Kd.R_apart' HU4.out (Kd.R_typed HRP4.out) (by decide)) hg (fun k hk => hk.2)) (ok' := fun _ => True) (fun _ _ => trivial)); have HRP5 := Aside0.mk ho; have HB5 := Aside0.mk hb; have hz1 := (blk_cell HBL5.out 1).trans rfl; have hzf := blk_frozen HBL5.out 1; clear ho hb hg hat hy1 hyf; have hd0 := pw_cell_below (show Below w1.heap.size w1 (w9.setCell ⟨B, 1, none⟩ (.slice An (cl.length + 1) cn)) from below_set HB5.out HRB.out.ge) HP0.out; have HFIN := Aside0.mk (ref_snoc HRB.out HBL5.out HRC5.out HRP5.out HU5.out HC3.out HL3.out); have HB10 : Aside0 (Below w1.heap.size w1 (w9.setCell ⟨B, 1, none⟩ (.slice An (cl.length + 1) cn))) := ⟨below_set HB5.out HRB.out.ge⟩; have HBK10 : Aside0 ((w9.setCell ⟨B, 1, none⟩ (.slice An (cl.length + 1) cn)).heap[w.heap.size]? = some (.cells #[.int .i64 vars, .slice A1 cls.length c1] 24 (0, 0))) := ⟨blk_far HKC5.out hne _⟩)
         refine ⟨?rel, ?measure⟩
         case rel =>
          refine ⟨i + 1, en, _, _, _, cl ++ [l], pr ++ [true], used ++ [n], byL ++ [(i : Int)], rfl, rfl, by omega, ⟨HFIN.out.1⟩, ⟨HFIN.out.2⟩, ⟨?_⟩, HSZ10, HB10, HBK10⟩
          rw [HRUN.out, runL, HST.out, if_neg (by simp), if_neg (by simp), prP_snoc HRB.out.lp, if_neg HLE.out]
          rfl
         case measure => exact meas_x hlt rfl
    ·by_cases hen : en < 0
     ·have hen' : decide (en < 0) = true := decide_eq_true hen
      go_wp2
      ((try simp only [Exit.inBlock, Exit.then]); refine bodyPost_ret (results_tmp4 rfl _ _ _) rfl ?_)
      rw [← HR.out, HRUN.out, List.drop_of_length_le (by omega), runL]
      have hE : (if en < 0 then (8 : Int) else 0) = 8 := if_pos hen
      exact ⟨.inr ⟨by show (if en < 0 then (8 : Int) else 0) ≠ 0; rw [hE]; omega, by show _ = Ending.returned (.tuple #[.slice none 0 0, .int .i64 (-1), .int .i64 0, .int .i64 (if en < 0 then (8 : Int) else 0)]); rw [hE]; rfl⟩, below_step HB.out HBW.out⟩
     ·have hen' : decide (en < 0) = false := decide_eq_false hen
      go_wp2
      ((try simp only [Exit.inBlock, Exit.then]); refine bodyPost_ret (results_tmp4 rfl _ _ _) rfl ?_)
      rw [← HR.out, HRUN.out, List.drop_of_length_le (by omega), runL]
      exact ⟨.inl ⟨by show (if en < 0 then (8 : Int) else 0) = 0; exact if_neg (by omega), _, rfl, Kd.R_lower HU.out HB.out.size⟩, below_step HB.out HBW.out⟩
  ·rw [if_neg hpl] at H
   have HR := Aside0.mk (Option.some.inj H.out)
   have hpl' : decide ((p.length : Int) > 65536) = true := decide_eq_true (by omega)
   clear H
   go_wp2
   ((try simp only [Exit.inBlock, Exit.then]); refine bodyPost_ret (results_tmp4 rfl _ _ _) rfl ?_)
   rw [← HR.out]
   exact ⟨.inr ⟨by decide, rfl⟩, HB.out⟩
 ·rw [if_neg h0] at H
  have HR := Aside0.mk (Option.some.inj H.out)
  have hb0 : (e0 == 0) = false := by simpa using h0
  have hb1 : (e0 != 0) = true := by simpa using h0
  clear H
  go_wp2
  ((try simp only [Exit.inBlock, Exit.then]); refine bodyPost_ret (results_tmp4 rfl _ _ _) rfl ?_)
  rw [← HR.out]
  exact ⟨.inr ⟨h0, rfl⟩, HB.out⟩
end Go.Proofs.YtogicccdngpafaaGreatDoor.NState
end
