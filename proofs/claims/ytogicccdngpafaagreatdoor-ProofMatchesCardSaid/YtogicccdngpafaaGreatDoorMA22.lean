/-
  Part 22 of the proof of proofMatches_card: walks and lemmas, packed by the session's own wip/pack.py out of its texts and of what the kit's print.sh printed.
-/
import Derived.Test.YtogicccdngpafaaGreatDoorMA21
import Derived.Test.YtogicccdngpafaaGreatDoorMA14
import Derived.Test.YtogicccdngpafaaGreatDoorMA19
section
namespace Go.Proofs.YtogicccdngpafaaGreatDoor.NState
open Go Go.RowKit Go.Shelf Go.Proofs.YtogicccdngpafaaGreatDoorW.PrintWords Go.Proofs.YtogicccdngpafaaGreatDoorW.PrintLast Go.Proofs.YtogicccdngpafaaGreatDoorW.PrintMore Go.Proofs.YtogicccdngpafaaGreatDoor.NMap
open Go.Proofs.YtogicccdngpafaaGreatDoor.PCheck (cnf_Check.f)
open Go.Proofs.YtogicccdngpafaaGreatDoor.PSame (S42 k42 rd_T42 at_T42)
open Go.Proofs.YtogicccdngpafaaGreatDoor.PRef (netlabref32_Check.f netlabref33_marks.f netlabref33_marks.calls)
open Go.Proofs.YtogicccdngpafaaGreatDoor.NPlain
def sP (x : Stp) : PRef.S42 := ⟨x.f0, x.f1, x.f2⟩
theorem C_sP {w : World} {A : Option Addr} {n : Nat} {p : List Stp} (h : Kd.C kStp w A n p) : Kd.C PRef.k42 w A n (p.map sP) := by
 obtain ⟨h1, h2, h3⟩ := h
 refine ⟨by simpa using h1, h2, fun hp => ?_⟩
 obtain ⟨ad, h4, h5⟩ := h3 hp
 refine ⟨ad, h4, fun j x hj => ?_⟩
 rw [List.getElem?_map] at hj
 cases hx : p[j]? with
 | none => rw [hx] at hj; cases hj
 | some y =>
  rw [hx] at hj
  obtain rfl := Option.some.inj hj
  exact h5 j y hx
theorem runL_at (vars : Int) : ∀ (p : List Stp) (P : List (Option (List Int))) (used byL : List Int) (en i : Int), (runL vars P used byL en i p).e = 0 → (runL vars P used byL en i p).at_ = 0
 | [], _, _, _, _, _ => by simp [runL]
 | x :: xs, P, used, byL, en, i => by
  rw [runL]
  split
  ·rename_i h; intro he; exact absurd he h
  split
  ·exact runL_at vars xs _ _ _ _ _
  ·exact runL_at vars xs _ _ _ _ _
theorem runF_at {k : Nat} {vars : Int} {cls : List (List Int)} {p : List Stp} {r : RunR} (h : runF k vars cls p = some r) (he : r.e = 0) : r.at_ = 0 := by
 unfold runF at h
 cases hc : cnf_Check.f k vars cls with
 | none => rw [hc] at h; cases h
 | some e0 =>
  rw [hc, Option.bind_some] at h
  split at h
  ·split at h
   ·obtain rfl := Option.some.inj h; exact runL_at _ _ _ _ _ _ _ he
   ·obtain rfl := Option.some.inj h; rfl
  ·obtain rfl := Option.some.inj h; rfl
set_option maxHeartbeats 4000000 in
set_option maxRecDepth 100000 in
theorem refCheck_calls (k kr : Nat) (e0 vars : Int) (A1 : Option Addr) (c1 : Nat) (cls : List (List Int)) (A2 : Option Addr) (c2 : Nat) (p : List Stp) (r : RunR) (w : World)
  (hr1 : Kd.C (Kd.slice 3 (Kd.int .i64)) w A1 cls.length cls) (hc1 : cls.length ≤ c1) (hr2 : Kd.C kStp w A2 p.length p) (hk : cnf_Check.f k vars cls = some e0) (hkr : netlabref32_Check.f kr vars cls = some e0) (hv : e0 = 0 → 0 ≤ vars ∧ vars ≤ 4096) (h : runF k vars cls p = some r)
  (hlen : cls.length ≤ 100000) (hcs : ∀ l ∈ cls, l.length ≤ 1000000) (hps : ∀ x ∈ p, x.f0.length ≤ 1000000 ∧ x.f2.length ≤ 1000000) :
  Calls Tryz.prog 12 #[.agg #[.int .i64 vars, .slice A1 cls.length c1], .slice A2 p.length c2] w (CheckPost w r.at_ r.e) := by
 have hcall := refRun_calls k kr e0 vars A1 c1 cls A2 c2 p r (w.alloc (.cells #[.int .i64 vars, .slice A1 cls.length c1] 24)) (Kd.C_alloc hr1 _) hc1 (Kd.C_alloc hr2 _) hk hkr hv h hlen hcs hps
 have HAT := Aside0.mk (runF_at h)
 clear hr1 hc1 hr2 hk hkr hv h hlen hcs hps
 have hu24 := Tryz.underlying24
 go_enter Tryz.func12, Tryz.ntmps12
 go_wp2_with fail
 refine hcall.mono ?_
 rintro e w' ⟨hc, hb⟩
 have HB := Aside0.mk hb
 clear hb hcall
 rcases hc with ⟨he, v, rfl, _⟩ | ⟨he, rfl⟩
 ·have HE := Aside0.mk he
  clear he
  go_wp2
  go_ret2
  exact ⟨by rw [HE.out, HAT.out HE.out]; rfl, below_step ((Below.refl _ _).alloc (Nat.le_refl _) _) HB.out⟩
 ·clear he
  go_wp2
  go_ret2
  exact ⟨rfl, below_step ((Below.refl _ _).alloc (Nat.le_refl _) _) HB.out⟩
def markIdx (m : List Bool) : Nat → List Int
 | 0 => []
 | n + 1 => markIdx m n ++ (if rdOf false m (n : Int) = true then [((n + 1 : Nat) : Int)] else [])
theorem markIdx_length (m : List Bool) : ∀ n, (markIdx m n).length ≤ n
 | 0 => Nat.le_refl _
 | n + 1 => by have := markIdx_length m n; rw [markIdx]; split <;> simp <;> omega
set_option maxHeartbeats 4000000 in
set_option maxRecDepth 100000 in
theorem refCore_calls (k kr km : Nat) (e0 vars : Int) (A1 : Option Addr) (c1 : Nat) (cls : List (List Int)) (A2 : Option Addr) (c2 : Nat) (p : List Stp) (r : RunR) (m1 m2 : List Bool) (w : World)
  (hr1 : Kd.C (Kd.slice 3 (Kd.int .i64)) w A1 cls.length cls) (hc1 : cls.length ≤ c1) (hr2 : Kd.C kStp w A2 p.length p) (hc2 : p.length ≤ c2) (hk : cnf_Check.f k vars cls = some e0) (hkr : netlabref32_Check.f kr vars cls = some e0) (hv : e0 = 0 → 0 ≤ vars ∧ vars ≤ 4096) (h : runF k vars cls p = some r)
  (hlen : cls.length ≤ 100000) (hcs : ∀ l ∈ cls, l.length ≤ 1000000) (hps : ∀ x ∈ p, x.f0.length ≤ 1000000 ∧ x.f2.length ≤ 1000000) (hm : r.e = 0 → netlabref33_marks.f km vars cls (p.map sP) r.used r.en = some (m1, m2)) (hml : m2.length = cls.length) :
  Calls Tryz.prog 14 #[.agg #[.int .i64 vars, .slice A1 cls.length c1], .slice A2 p.length c2] w (CorePost w (if r.e = 0 then markIdx m2 cls.length else [], r.e)) := by
 have hcall := refRun_calls k kr e0 vars A1 c1 cls A2 c2 p r (w.alloc (.cells #[.int .i64 vars, .slice A1 cls.length c1] 24)) (Kd.C_alloc hr1 _) hc1 (Kd.C_alloc hr2 _) hk hkr hv h hlen hcs hps
 have HR1 := Aside0.mk hr1
 have HR2 := Aside0.mk hr2
 have HC1 := Aside0.mk hc1
 have HC2 := Aside0.mk hc2
 have HM := Aside0.mk hm
 have HML := Aside0.mk hml
 have HLEN := Aside0.mk hlen
 clear hr1 hc1 hr2 hc2 hk hkr hv h hlen hcs hps hm hml
 have hu24 := Tryz.underlying24
 obtain ⟨O, hO⟩ : ∃ O, (if r.e = 0 then markIdx m2 cls.length else []) = O := ⟨_, rfl⟩
 rw [hO]
 have HO := Aside0.mk hO
 clear hO
 go_enter Tryz.func14, Tryz.ntmps14
 go_wp2_with fail
 refine hcall.mono ?_
 rintro e w1 ⟨hc, hb⟩
 have HB : Aside0 (Below w.heap.size w w1) := ⟨below_step ((Below.refl _ _).alloc (Nat.le_refl _) _) hb⟩
 have BK : Aside0 (w1.heap[w.heap.size]? = some (.cells #[.int .i64 vars, .slice A1 cls.length c1] 24 (0, 0))) := ⟨blk_below (blk_new w _) hb⟩
 have HSZ : Aside0 (w.heap.size < w1.heap.size) := ⟨by have := hb.size; simp at this; omega⟩
 clear hb hcall
 rcases hc with ⟨he, v, rfl, hu⟩ | ⟨he, rfl⟩
 ·obtain ⟨Au, cu, rfl, hlu, hCu⟩ := Kd.R_reads hu
  have he' : (r.e != 0) = false := by rw [he]; rfl
  have HE := Aside0.mk he
  have HMK := Aside0.mk (HM.out he)
  have HLU := Aside0.mk hlu
  have HCU := Aside0.mk hCu
  have hx0 : w1.cell? ⟨w.heap.size, 0, none⟩ = some (.int .i64 vars) := (blk_cell BK.out 0).trans rfl
  have hx1 : w1.cell? ⟨w.heap.size, 1, none⟩ = some (.slice A1 cls.length c1) := (blk_cell BK.out 1).trans rfl
  clear he hu hlu hCu
  go_wp2_with fail
  have hmc := netlabref33_marks.calls km vars A1 c1 cls A2 c2 (p.map sP) Au cu r.used r.en m1 m2 w1 (Kd.C_below HR1.out HB.out) HC1.out (by rw [List.length_map]; exact Kd.C_below (C_sP HR2.out) HB.out) (by rw [List.length_map]; exact HC2.out) HCU.out HLU.out HMK.out
  rw [List.length_map] at hmc
  refine hmc.mono ?_
  rintro e w2 ⟨v0, v1, rfl, _, hR, hb2⟩
  obtain ⟨Am, cm, rfl, hlm, hCm⟩ := Kd.R_reads hR
  have HB2 := Aside0.mk (below_step HB.out hb2)
  have HLM := Aside0.mk hlm
  have HCM := Aside0.mk hCm
  clear hmc hb2 hR hlm hCm hx0 hx1
  go_wp2
  have HI0 : Aside0 (Kd.R (Kd.int .i64) 3 w2 w2.heap.size (fun _ => True) (.slice none 0 0) (markIdx m2 0)) := ⟨Kd.R_nil _ _ _ _ _⟩
  have HB0 : Aside0 (Below w2.heap.size w2 w2) := ⟨Below.refl _ _⟩
  have HWO : Aside0 (O = markIdx m2 m2.length) := ⟨by rw [← HO.out, if_pos HE.out, HML.out]⟩
  go_loopw [12, 13] (fun v12 v13 wr => ∃ (i : Nat), v13 = .int .i64 i ∧ i ≤ m2.length ∧ Aside0 (Kd.R (Kd.int .i64) 3 wr w2.heap.size (fun _ => True) v12 (markIdx m2 i)) ∧ Aside0 (Below w2.heap.size w2 wr)) (fun _ v13 _ => m2.length - (intOf v13).toNat)
  case atStart => exact ⟨0, rfl, Nat.zero_le _, HI0, HB0⟩
  case round =>
   clear HI0 HB0
   obtain ⟨i, rfl, hi, HI, HBW⟩ := hrel
   by_cases hlt : i < m2.length
   ·have HL := Aside0.mk (show m2.length ≤ 100000 by rw [HML.out]; exact HLEN.out)
    obtain ⟨am, rfl, hcm⟩ := Kd.at_bool HCM.out (i : Int) (by omega) (by omega)
    simp only [Int.toNat_natCast] at hcm
    have hq := pw_cell_below HBW.out hcm
    clear hcm
    cases hmk : rdOf false m2 (i : Int) with
    | true =>
     rw [hmk] at hq
     have HMI : Aside0 (markIdx m2 (i + 1) = markIdx m2 i ++ [((i : Int) + 1)]) := ⟨by rw [markIdx, if_pos hmk]; rfl⟩
     have HML2 := Aside0.mk (markIdx_length m2 i)
     have hw : wrap64 ((i : Int) + 1) = (i : Int) + 1 := wrap_succ hlt (by have := HL.out; omega)
     clear hmk
     go_wp2_with ((with_reducible refine gate_builtin (b := .append) (xs := #[.tmp 43, .tmp 46]) rfl ?_); at_builtin; refine Kd.R_append (Kd.int .i64) (w0 := w2) w2.heap.size rfl (.tmp 43) (.tmp 46) 31 3 (.int .i64 0) 8 rfl Tryz.underlying31 infoInt rfl (by decide) (by omega) u12 (markIdx m2 i) ((i : Int) + 1) [.int .i64 ((i : Int) + 1)] (fun _ => True) (fun _ => False) rfl rfl ?aP (fun _ hk => hk.elim) ?aF ?aO ?aB ?aS ?aL ?_; (case aP => exact rfl); (case aF => exact fun _ _ => trivial); (case aO => exact HI.out); (case aB => exact HBW.out); (case aS => exact HBW.out.size); (case aL => have := HML2.out; have := HL.out; omega); intro vn w5 ho hb hg hat; have HI5 := Aside0.mk ho; have HBW5 := Aside0.mk hb; clear ho hb hg hat)
     go_roundw
     case rel => exact ⟨i + 1, by rw [wrap_succ hlt (by have := HL.out; omega)], by omega, ⟨by rw [HMI.out]; exact HI5.out⟩, HBW5⟩
     case measure => exact meas_x hlt (wrap_succ hlt (by have := HL.out; omega))
    | false =>
     rw [hmk] at hq
     have HMI : Aside0 (markIdx m2 (i + 1) = markIdx m2 i) := ⟨by rw [markIdx, if_neg (by rw [hmk]; simp), List.append_nil]⟩
     clear hmk
     go_wp2
     go_roundw
     case rel => exact ⟨i + 1, by rw [wrap_succ hlt (by have := HL.out; omega)], by omega, ⟨by rw [HMI.out]; exact HI.out⟩, HBW⟩
     case measure => exact meas_x hlt (wrap_succ hlt (by have := HL.out; omega))
   ·have e : i = m2.length := by omega
    subst e
    go_wp2
    ((try simp only [Exit.inBlock, Exit.then]); refine bodyPost_ret (results_tmp2 rfl _ _ _) rfl ?_)
    rw [HWO.out]
    exact ⟨_, by rw [HE.out]; rfl, Kd.R_lower HI.out HB2.out.size, below_step HB2.out HBW.out⟩
 ·have he' : (r.e != 0) = true := by simpa using he
  have HE := Aside0.mk he
  clear he
  go_wp2
  ((try simp only [Exit.inBlock, Exit.then]); refine bodyPost_ret (results_tmp2 rfl _ _ _) rfl ?_)
  rw [← HO.out, if_neg HE.out]
  exact ⟨_, rfl, Kd.R_nil _ _ _ _ _, HB.out⟩
end Go.Proofs.YtogicccdngpafaaGreatDoor.NState
end
section
namespace Go.Proofs.YtogicccdngpafaaGreatDoor.NState
open Go Go.RowKit Go.Shelf Go.Proofs.YtogicccdngpafaaGreatDoorW.PrintWords Go.Proofs.YtogicccdngpafaaGreatDoorW.PrintLast Go.Proofs.YtogicccdngpafaaGreatDoorW.PrintMore Go.Proofs.YtogicccdngpafaaGreatDoor.NMap
open Go.Proofs.YtogicccdngpafaaGreatDoor.PCheck (cnf_Check.f)
open Go.Proofs.YtogicccdngpafaaGreatDoor.PSame (S42 k42 rd_T42 at_T42 k42_mkM)
open Go.Proofs.YtogicccdngpafaaGreatDoor.PRef (netlabref32_Check.f netlabref33_marks.f netlabref33_marks.calls netlabref33_step.f netlabref33_step.calls)
open Go.Proofs.YtogicccdngpafaaGreatDoor.NPlain
def refTrimR12.T : Bool × List (List Nat × List Nat) := (true, [([], []), ([0], [0]), ([], []), ([], []), ([2, 3], [2, 3]), ([4], [4]), ([5], [5]), ([1, 6], [1, 6]), ([0, 1, 2, 3, 4, 5, 6, 7], []), ([8, 7, 7, 0, 1, 2, 3, 4, 5, 6, 7], [7, 8])])
def refTrimR12.B : List Nat := [0, 1, 0, 0, 12, 28, 60, 127, 255, 511]
theorem refTrimR12.tab : rtab .any (opsOf Tryz.f16 12) = refTrimR12.T := by kernel_rfl
theorem refTrimR12.bits : waitsOk refTrimR12.T.2 refTrimR12.B = true := by kernel_rfl
def rtMap (n : Nat) (st : Int → Int) (to_ : List Int) (h : Int) : Int := if h > (n : Int) then rd to_ (st h) else h
def rtStep (p : List Stp) (used : List Int) (n : Nat) (m1 : List Bool) (st : Int → Int) (s : List Stp × List Int) (i : Nat) : List Stp × List Int :=
 if rdOf false m1 (i : Int) = true then (s.1 ++ [⟨(rd_T42 p (i : Int)).f0, false, (hintsAt p used i).map (rtMap n st s.2)⟩], s.2.set i ((n + s.1.length + 1 : Nat) : Int)) else s
def rtL (p : List Stp) (used : List Int) (n : Nat) (m1 : List Bool) (st : Int → Int) : Nat → List Stp × List Int
 | 0 => ([], List.replicate p.length 0)
 | i + 1 => rtStep p used n m1 st (rtL p used n m1 st i) i
theorem rtL_len (p : List Stp) (used : List Int) (n : Nat) (m1 : List Bool) (st : Int → Int) : ∀ i, (rtL p used n m1 st i).1.length ≤ i ∧ (rtL p used n m1 st i).2.length = p.length
 | 0 => by simp [rtL]
 | i + 1 => by
  have := rtL_len p used n m1 st i
  rw [rtL, rtStep]
  split
  ·simp; omega
  ·omega
structure RTOut (w2 W : World) (c0 gt : Nat) (cc : Array Value) (vt vo : Value) (to_ : List Int) (out : List Stp) : Prop where
 reads : Below w2.heap.size w2 W
 hbc : W.heap[c0]? = some (.cells cc 24 (0, 0))
 to_ : Kd.R (Kd.int .i64) 3 W w2.heap.size (fun _ => True) vt to_
 out : Kd.R kStp 42 W w2.heap.size (fun k => k ≠ gt) vo out
structure RTIn (w2 W : World) (c0 gt gx : Nat) (cc : Array Value) (vt vC hv vo : Value) (to_ f0 hs : List Int) (out : List Stp) : Prop where
 reads : Below w2.heap.size w2 W
 hbc : W.heap[c0]? = some (.cells cc 24 (0, 0))
 hbx : W.heap[gx]? = some (.cells #[vC, .bool false, hv] 42 (0, 0))
 to_ : Kd.R (Kd.int .i64) 3 W w2.heap.size (fun k => True ∧ some k ≠ hv.ownBlock) vt to_
 cl : Kd.R (Kd.int .i64) 3 W w2.heap.size (fun k => k ≠ gt ∧ some k ≠ hv.ownBlock) vC f0
 hs : Kd.R (Kd.int .i64) 3 W w2.heap.size (fun k => k ≠ gt) hv hs
 out : Kd.R kStp 42 W w2.heap.size (fun k => (k ≠ gt ∧ k ≠ gx) ∧ some k ≠ hv.ownBlock) vo out
theorem RTOut.below {w2 A B : World} {c0 gt : Nat} {cc : Array Value} {vt vo : Value} {to_ : List Int} {out : List Stp} (h : RTOut w2 A c0 gt cc vt vo to_ out) (hb : Below A.heap.size A B) : RTOut w2 B c0 gt cc vt vo to_ out :=
 ⟨below_step h.reads hb, blk_below h.hbc hb, Kd.R_below h.to_ hb, Kd.R_below h.out hb⟩
theorem RTIn.below {w2 A B : World} {c0 gt gx : Nat} {cc : Array Value} {vt vC hv vo : Value} {to_ f0 hs : List Int} {out : List Stp} (h : RTIn w2 A c0 gt gx cc vt vC hv vo to_ f0 hs out) (hb : Below A.heap.size A B) : RTIn w2 B c0 gt gx cc vt vC hv vo to_ f0 hs out :=
 ⟨below_step h.reads hb, blk_below h.hbc hb, blk_below h.hbx hb, Kd.R_below h.to_ hb, Kd.R_below h.cl hb, Kd.R_below h.hs hb, Kd.R_below h.out hb⟩
theorem RTOut.enter {w2 A B : World} {c0 gt gx : Nat} {cc : Array Value} {vt vo : Value} {to_ f0 : List Int} {out : List Stp} (h : RTOut w2 A c0 gt cc vt vo to_ out) (hx : A.heap[gx]? = some (.cells #[.slice none 0 0, .bool false, .slice none 0 0] 42 (0, 0)))
  (hn : Kd.R kStp 42 A w2.heap.size (fun k => k ≠ gt ∧ k ≠ gx) vo out) {vC : Value} (ho : Kd.R (Kd.int .i64) 3 B w2.heap.size (fun k => k ≠ gt) vC f0) (hb : Below w2.heap.size w2 B) (hg : A.grownBy B (Value.slice none 0 0).ownBlock) (hne : gx ≠ gt) :
  B.heap[gx]? = some (.cells #[.slice none 0 0, .bool false, .slice none 0 0] 42 (0, 0)) ∧ (w2.heap.size ≤ gx → RTIn w2 (B.setCell ⟨gx, 0, none⟩ vC) c0 gt gx cc vt vC (.slice none 0 0) vo to_ f0 [] out) := by
 have nn : ∀ k : Nat, some k ≠ (Value.slice none 0 0).ownBlock := fun k h => by simp [Value.ownBlock] at h
 have hx6 := blk_grown hx hg (nn gx)
 refine ⟨hx6, fun hle => ⟨below_set hb hle, blk_far (blk_grown h.hbc hg (nn c0)) (cells_ne h.hbc hx (by decide)) _, blk_put hx6 0 _ (by simp), Kd.R_mono (Kd.R_set (Kd.R_grown h.to_ hg (fun k _ => nn k)) hx6 (by decide) 0 _) (fun k _ => ⟨trivial, nn k⟩), Kd.R_mono (Kd.R_set ho hx6 (by decide) 0 _) (fun k hk => ⟨hk, nn k⟩), Kd.R_nil _ _ _ _ _, Kd.R_mono (Kd.R_far (p := ⟨gx, 0, none⟩) (Kd.R_grown hn hg (fun k _ => nn k)) (fun _ hk => hk.2) _) (fun k hk => ⟨hk, nn k⟩)⟩⟩
theorem RTIn.hadd {w2 A B : World} {c0 gt gx : Nat} {cc : Array Value} {vt vC hv hv9 vo : Value} {to_ f0 hs : List Int} {out : List Stp} {y : Int} (h : RTIn w2 A c0 gt gx cc vt vC hv vo to_ f0 hs out) (ho : Kd.R (Kd.int .i64) 3 B w2.heap.size (fun k => k ≠ gt) hv9 (hs ++ [y])) (hb : Below w2.heap.size w2 B) (hg : A.grownBy B hv.ownBlock)
  (hat : hv9.ownBlock = hv.ownBlock ∨ ∃ b, hv9.ownBlock = some b ∧ A.heap.size ≤ b) : B.heap[gx]? = some (.cells #[vC, .bool false, hv] 42 (0, 0)) ∧ (w2.heap.size ≤ gx → RTIn w2 (B.setCell ⟨gx, 2, none⟩ hv9) c0 gt gx cc vt vC hv9 vo to_ f0 (hs ++ [y]) out) := by
 have hx6 := blk_grown h.hbx hg (Kd.R_ne h.hs h.hbx (by decide))
 refine ⟨hx6, fun hle => ⟨below_set hb hle, blk_far (blk_grown h.hbc hg (Kd.R_ne h.hs h.hbc (by decide))) (cells_ne h.hbc h.hbx (by decide)) _, blk_put hx6 2 _ (by simp), Kd.R_set (Kd.R_after h.to_ hg hat) hx6 (by decide) 2 _, Kd.R_set (Kd.R_after h.cl hg hat) hx6 (by decide) 2 _, Kd.R_set ho hx6 (by decide) 2 _, Kd.R_far (p := ⟨gx, 2, none⟩) (Kd.R_after h.out hg hat) (fun _ hk => hk.1.2) _⟩⟩
theorem RTIn.leave {w2 A B : World} {c0 gt gx ct m : Nat} {cc : Array Value} {vC hv vo vo9 : Value} {to_ f0 hs : List Int} {out : List Stp} {y : Stp} (h : RTIn w2 A c0 gt gx cc (.slice (some ⟨gt, 0, none⟩) m ct) vC hv vo to_ f0 hs out) (ho : Kd.R kStp 42 B w2.heap.size (fun k => k ≠ gt) vo9 (out ++ [y])) (hb : Below w2.heap.size w2 B) (hg : A.grownBy B vo.ownBlock) (hle : w2.heap.size ≤ gt) (hne : c0 ≠ gt) (i : Nat) (hm : to_.length = m) (hi : i < m) :
  RTOut w2 B c0 gt cc (.slice (some ⟨gt, 0, none⟩) m ct) vo9 to_ (out ++ [y]) ∧ ∀ z : Int, RTOut w2 (B.setCell ⟨gt, i, none⟩ (.int .i64 z)) c0 gt cc (.slice (some ⟨gt, 0, none⟩) m ct) vo9 (to_.set i z) (out ++ [y]) := by
 subst hm
 have ht := Kd.R_mono (Kd.R_over' h.to_ (Kd.R_typed h.out) (by decide) hg) (ok' := fun _ => True) (fun _ _ => trivial)
 have hc := blk_grown h.hbc hg (Kd.R_ne h.out h.hbc (by decide))
 refine ⟨⟨hb, hc, ht, ho⟩, fun z => ⟨below_set hb hle, blk_far hc hne _, ?_, Kd.R_far (p := ⟨gt, i, none⟩) ho (fun _ hk => hk) _⟩⟩
 have := Kd.R_putn (enc := Value.int .i64) ht (i : Int) z
 rw [Int.toNat_natCast] at this
 exact this
theorem R_apart_ok {α β : Type} {d : Kd α} {d' : Kd β} {e e' base b' : Nat} {ok ok' ok2 : Nat → Prop} {W : World} {v u : Value} {xs : List α} {ys : List β} (h : d.R e W base ok v xs) (ho : d'.R e' W b' ok' u ys) (ht : ∀ q, q ∈ e :: d.E → q ≠ e') (h2 : ∀ k, ok k → ok2 k) : d.R e W base (fun k => ok2 k ∧ some k ≠ u.ownBlock) v xs :=
 Kd.R_mono (Kd.R_bound h) (fun k ⟨h0, _, _, q, hq, cells, hc⟩ => ⟨h2 k h0, fun he => by
  obtain ⟨cells', hc'⟩ := Kd.R_typed ho k he.symm
  rw [hc] at hc'; have h2 := ht q hq; cases hc'; exact h2 rfl⟩)
set_option maxHeartbeats 8000000 in
set_option maxRecDepth 100000 in
theorem refTrim_calls (k kr km ks : Nat) (e0 vars : Int) (A1 : Option Addr) (c1 : Nat) (cls : List (List Int)) (A2 : Option Addr) (c2 : Nat) (p : List Stp) (r : RunR) (m1 m2 : List Bool) (st : Int → Int) (w : World)
  (hr1 : Kd.C (Kd.slice 3 (Kd.int .i64)) w A1 cls.length cls) (hc1 : cls.length ≤ c1) (hr2 : Kd.C kStp w A2 p.length p) (hc2 : p.length ≤ c2) (hk : cnf_Check.f k vars cls = some e0) (hkr : netlabref32_Check.f kr vars cls = some e0) (hv : e0 = 0 → 0 ≤ vars ∧ vars ≤ 4096) (h : runF k vars cls p = some r)
  (hlen : cls.length ≤ 100000) (hcs : ∀ l ∈ cls, l.length ≤ 1000000) (hps : ∀ x ∈ p, x.f0.length ≤ 1000000 ∧ x.f2.length ≤ 1000000) (hm : r.e = 0 → netlabref33_marks.f km vars cls (p.map sP) r.used r.en = some (m1, m2)) (hml : m1.length = p.length)
  (hst : r.e = 0 → ∀ i : Nat, (i : Int) ≤ r.en → rdOf false m1 (i : Int) = true → ∀ h ∈ hintsAt p r.used i, h > (cls.length : Int) → netlabref33_step.f ks (p.map sP) h (cls.length : Int) = some (st h) ∧ 0 ≤ st h ∧ st h < (p.length : Int)) :
  Calls Tryz.prog 16 #[.agg #[.int .i64 vars, .slice A1 cls.length c1], .slice A2 p.length c2] w (TrimPost w (if r.e = 0 then (rtL p r.used cls.length m1 st (r.en.toNat + 1)).1 else [], r.e)) := by
 have hcall := refRun_calls k kr e0 vars A1 c1 cls A2 c2 p r (w.alloc (.cells #[.int .i64 vars, .slice A1 cls.length c1] 24)) (Kd.C_alloc hr1 _) hc1 (Kd.C_alloc hr2 _) hk hkr hv h hlen hcs hps
 have HR1 := Aside0.mk hr1
 have HR2 := Aside0.mk hr2
 have HC1 := Aside0.mk hc1
 have HC2 := Aside0.mk hc2
 have HM := Aside0.mk hm
 have HML := Aside0.mk hml
 have HLEN := Aside0.mk hlen
 have HPS := Aside0.mk hps
 have HST := Aside0.mk hst
 have HOK := Aside0.mk (fun he : r.e = 0 => runF_ok h he)
 clear hr1 hc1 hr2 hc2 hk hkr hv h hlen hcs hps hm hml hst
 obtain ⟨O, hO⟩ : ∃ O, (if r.e = 0 then (rtL p r.used cls.length m1 st (r.en.toNat + 1)).1 else []) = O := ⟨_, rfl⟩
 rw [hO]
 have HO := Aside0.mk hO
 clear hO
 have hu24 := Tryz.underlying24
 have hu42 := Tryz.underlying42
 go_enter Tryz.func16, Tryz.ntmps16
 go_wp2_with fail
 refine hcall.mono ?_
 rintro e w1 ⟨hc, hb⟩
 have HB : Aside0 (Below w.heap.size w w1) := ⟨below_step ((Below.refl _ _).alloc (Nat.le_refl _) _) hb⟩
 have BK : Aside0 (w1.heap[w.heap.size]? = some (.cells #[.int .i64 vars, .slice A1 cls.length c1] 24 (0, 0))) := ⟨blk_below (blk_new w _) hb⟩
 have HSZ : Aside0 (w.heap.size < w1.heap.size) := ⟨by have := hb.size; simp at this; omega⟩
 clear hb hcall
 rcases hc with ⟨he, v, rfl, hu⟩ | ⟨he, rfl⟩
 ·obtain ⟨Au, cu, rfl, hlu, hCu⟩ := Kd.R_reads hu
  have he' : (r.e != 0) = false := by rw [he]; rfl
  have HE := Aside0.mk he
  have HMK := Aside0.mk (HM.out he)
  have OK := Aside0.mk (HOK.out he)
  have HS := Aside0.mk (HST.out he)
  have HLU := Aside0.mk hlu
  have HCU := Aside0.mk hCu
  have hx0 : w1.cell? ⟨w.heap.size, 0, none⟩ = some (.int .i64 vars) := (blk_cell BK.out 0).trans rfl
  have hx1 : w1.cell? ⟨w.heap.size, 1, none⟩ = some (.slice A1 cls.length c1) := (blk_cell BK.out 1).trans rfl
  clear he hu hlu hCu HM HOK HST
  go_wp2_with fail
  have hmc := netlabref33_marks.calls km vars A1 c1 cls A2 c2 (p.map sP) Au cu r.used r.en m1 m2 w1 (Kd.C_below HR1.out HB.out) HC1.out (by rw [List.length_map]; exact Kd.C_below (C_sP HR2.out) HB.out) (by rw [List.length_map]; exact HC2.out) HCU.out HLU.out HMK.out
  rw [List.length_map] at hmc
  refine hmc.mono ?_
  rintro e w2 ⟨v0, v1, rfl, hR, _, hb2⟩
  obtain ⟨Am, cm, rfl, hlm, hCm⟩ := Kd.R_reads hR
  have HB2 := Aside0.mk (below_step HB.out hb2)
  have HLM := Aside0.mk hlm
  have HCM := Aside0.mk hCm
  have BK2 := Aside0.mk (blk_below BK.out hb2)
  have HCU2 := Aside0.mk (Kd.C_below HCU.out hb2)
  have HR22 := Aside0.mk (Kd.C_below HR2.out HB2.out)
  have HSZ2 : Aside0 (w.heap.size < w2.heap.size) := ⟨by have := hb2.size; have := HSZ.out; omega⟩
  clear hmc hb2 hR hlm hCm hx0 hx1 BK HCU HR2
  have hen : ∃ E : Nat, r.en = (E : Int) := ⟨r.en.toNat, by have := OK.out.en0; omega⟩
  obtain ⟨E, hE⟩ := hen
  have hpl : 0 < p.length := by have := OK.out.en1; have := OK.out.en0; omega
  go_wp2_with (at_make; refine Kd.R_make (Kd.int .i64) (w0 := w2) w2.heap.size 3 rfl rfl 31 _ _ rfl (p.length : Int) rfl rfl Tryz.underlying31 (.int .i64 0) 8 infoInt rfl (by decide) (by decide) 0 (ok := fun _ => True) (okp := fun _ => False) ?zero (fun _ h => h.elim) trivial (by omega) ?len (Below.refl _ _) (Nat.le_refl _) ?_; (case zero => exact rfl); (case len => have := OK.out.len; omega); intro v3 w3 hr hb hg hat; rw [Int.toNat_natCast] at hr; obtain ⟨gt, ct, cur, hv3, hgb, hcur⟩ := R_blkn hr (n := p.length) (by simp) hpl; subst hv3; have HT3 := Aside0.mk hr; have HB3 := Aside0.mk hb; have HCT := Aside0.mk hcur; have HGB := Aside0.mk hgb; clear hr hb hg hat hcur hgb)
  have HRT0 : Aside0 (RTOut w2 w3 w.heap.size gt #[.int .i64 vars, .slice A1 cls.length c1] (.slice (some ⟨gt, 0, none⟩) p.length ct) (.slice none 0 0) (rtL p r.used cls.length m1 st 0).2 (rtL p r.used cls.length m1 st 0).1) := ⟨⟨HB3.out, blk_below BK2.out HB3.out, HT3.out, Kd.R_nil _ _ _ _ _⟩⟩
  have HCG : Aside0 (w.heap.size ≠ gt) := ⟨by have := HGB.out; have := HSZ2.out; omega⟩
  have HGT : Aside0 (gt < w3.heap.size) := ⟨(Array.getElem?_eq_some_iff.1 HCT.out).1⟩
  have HS3 : Aside0 (w3.heap.size ≤ w3.heap.size) := ⟨Nat.le_refl _⟩
  have HOE : Aside0 (O = (rtL p r.used cls.length m1 st (E + 1)).1) := ⟨by rw [← HO.out, if_pos HE.out, hE]; rfl⟩
  have HEP : Aside0 (E < p.length ∧ p.length ≤ 65536) := ⟨by have := OK.out.en1; omega, OK.out.len⟩
  clear HT3 HB3 HCT
  go_loopw [12, 14] (fun v12 v14 wr => ∃ (i : Nat), v14 = .int .i64 i ∧ i ≤ E + 1 ∧ Aside0 (RTOut w2 wr w.heap.size gt #[.int .i64 vars, .slice A1 cls.length c1] (.slice (some ⟨gt, 0, none⟩) p.length ct) v12 (rtL p r.used cls.length m1 st i).2 (rtL p r.used cls.length m1 st i).1) ∧ Aside0 (w3.heap.size ≤ wr.heap.size)) (fun _ v14 _ => E + 1 - (intOf v14).toNat)
  case atStart => exact ⟨0, rfl, Nat.zero_le _, HRT0, HS3⟩
  case round =>
   clear HRT0 HS3
   obtain ⟨i, rfl, hi, HI, HSW⟩ := hrel
   by_cases hlt : i < E + 1
   ·have hlt' : decide ((i : Int) ≤ (E : Int)) = true := decide_eq_true (by omega)
    have hip : i < p.length := by have := HEP.out; omega
    have hiu : (i : Int) < (r.used.length : Int) := by rw [OK.out.ul]; omega
    have hil : (i : Int) < (m1.length : Int) := by rw [HML.out]; omega
    have HSL := Aside0.mk (rtL_len p r.used cls.length m1 st i)
    have HNX : Aside0 (rtL p r.used cls.length m1 st (i + 1) = rtStep p r.used cls.length m1 st (rtL p r.used cls.length m1 st i) i) := ⟨rfl⟩
    obtain ⟨am, rfl, hcm⟩ := Kd.at_bool HCM.out (i : Int) (by omega) hil
    simp only [Int.toNat_natCast] at hcm
    have hq := pw_cell_below HI.out.reads hcm
    clear hcm
    generalize rtL p r.used cls.length m1 st i = s at HI HSL HNX
    cases hmk : rdOf false m1 (i : Int) with
    | true =>
     rw [hmk] at hq
     have HMK2 := Aside0.mk hmk
     have HNX2 : Aside0 (rtL p r.used cls.length m1 st (i + 1) = (s.1 ++ [⟨(rd_T42 p (i : Int)).f0, false, (hintsAt p r.used i).map (rtMap cls.length st s.2)⟩], s.2.set i ((cls.length + s.1.length + 1 : Nat) : Int))) := ⟨by rw [HNX.out, rtStep, if_pos hmk]⟩
     have HSI := Aside0.mk (HS.out i (by omega) hmk)
     clear hmk HNX
     obtain ⟨ad, A3, c3, A4, c4, rfl, hp0, hp1, hp2, hl3, hC3, hl4, hC4⟩ := at_T42 HR22.out (i : Int) (by omega) (by omega)
     simp only [Int.toNat_natCast] at hp0 hp1 hp2
     obtain ⟨au, rfl, hcu⟩ := Kd.at_int HCU2.out (i : Int) (by omega) (by rw [OK.out.ul]; omega)
     simp only [Int.toNat_natCast] at hcu
     have HUI := Aside0.mk (OK.out.u0 i hip)
     have HXL : Aside0 ((rd_T42 p (i : Int)).f0.length ≤ 1000000 ∧ (rd_T42 p (i : Int)).f2.length ≤ 1000000) := ⟨by
      have e : rd_T42 p (i : Int) = p[i] := by simp [rd_T42, List.getD, hip]
      rw [e]; exact HPS.out _ (List.getElem_mem _)⟩
     have HHD : Aside0 (hintsAt p r.used i = (rd_T42 p (i : Int)).f2.take (rd r.used (i : Int)).toNat) := ⟨rfl⟩
     rw [HHD.out] at HNX2 HSI
     clear HHD
     generalize rd_T42 p (i : Int) = x at hp0 hp1 hp2 hl3 hC3 hl4 hC4 HUI HXL HNX2 HSI
     generalize rd r.used (i : Int) = u at hcu HUI HNX2 HSI
     have HP0 := Aside0.mk hp0
     have HP2 := Aside0.mk hp2
     have HC3 := Aside0.mk hC3
     have HL3 := Aside0.mk hl3
     have HC4 := Aside0.mk hC4
     have HL4 := Aside0.mk hl4
     have HCUI := Aside0.mk hcu
     obtain ⟨Av, cv0, hvo⟩ := Kd.R_slice HI.out.out
     subst hvo
     clear hp0 hp1 hp2 hC3 hl3 hl4 hC4 hcu
     go_wp2_with fail
     have hbd : Below wr.heap.size wr ((wr.alloc (.cells #[.slice none 0 0, .bool false, .slice none 0 0] 42)).drew) := below_drew ((Below.refl _ _).alloc (Nat.le_refl _) _)
     have HO1 := Aside0.mk (HI.out.below hbd)
     have HX1 : Aside0 (((wr.alloc (.cells #[.slice none 0 0, .bool false, .slice none 0 0] 42)).drew).heap[wr.heap.size]? = some (.cells #[.slice none 0 0, .bool false, .slice none 0 0] 42 (0, 0))) := ⟨blk_drew (blk_new wr _)⟩
     have HN1 : Aside0 (Kd.R kStp 42 ((wr.alloc (.cells #[.slice none 0 0, .bool false, .slice none 0 0] 42)).drew) w2.heap.size (fun k => k ≠ gt ∧ k ≠ wr.heap.size) (.slice Av s.1.length cv0) s.1) := ⟨Kd.R_below (Kd.R_mono (Kd.R_bound HI.out.out) (fun k hk => ⟨hk.1, by omega⟩)) hbd⟩
     have HWG : Aside0 (w2.heap.size ≤ wr.heap.size) := ⟨HI.out.reads.size⟩
     clear hbd HI hq
     generalize (wr.alloc (.cells #[.slice none 0 0, .bool false, .slice none 0 0] 42)) = W1 at HO1 HX1 HN1 ⊢
     generalize wr.heap.size = gx at HX1 HN1 HSW HWG ⊢
     have HGX := Aside0.mk HSW.out
     have hx0 : W1.drew.cell? ⟨gx, 0, none⟩ = some (.slice none 0 0) := (blk_cell HX1.out 0).trans rfl
     have hd0 := pw_cell_below HO1.out.reads HP0.out
     refine start_ (n := 10) (S := fun w' => w'.cell? ⟨gx, 0, none⟩ = some (.slice none 0 0) ∧ w'.cell? (ad.add (i * 3)) = some (.slice A3 x.f0.length c3)) (ds := [9]) #[false, false, false, false, false, false, false, false, false, false] (by kernel_rfl) rfl rfl ⟨hx0, hd0⟩ (fun hHeld => ?_); refine with_tabW refTrimR12.tab refTrimR12.bits (fun HT_ HW_ => ?_)
     generalize W1.drew = wd at HO1 HX1 HN1 hx0 hd0 hHeld ⊢
     refine pure_ (i := 0) (N := some 50) (v := ?_) (a' := ?_) #[true, false, false, false, false, false, false, false, false, false] rfl rfl (any_of HT_.out (by kernel_rfl)) (fun _ _ _ h => h) (Or.inl ⟨by rfl, ?_⟩) ?_ ?_
     rotate_left
     ·intro w'
      go_simp
      with_reducible rfl
     rotate_left
     ·simp only [Act.put, List.setIfInBounds_toArray, List.set_cons_zero, List.set_cons_succ, i64_w, i32_w]
      rfl
     refine pure_ (i := 2) (N := some 52) (v := ?_) (a' := ?_) #[true, false, true, false, false, false, false, false, false, false] rfl rfl (any_of HT_.out (by kernel_rfl)) (fun _ _ _ h => h) (Or.inl ⟨by rfl, ?_⟩) ?_ ?_
     rotate_left
     ·intro w'
      go_simp
      with_reducible rfl
     rotate_left
     ·simp only [Act.put, List.setIfInBounds_toArray, List.set_cons_zero, List.set_cons_succ, i64_w, i32_w]
      rfl
     refine pure_ (i := 3) (N := some 53) (v := ?_) (a' := ?_) #[true, false, true, true, false, false, false, false, false, false] rfl rfl (any_of HT_.out (by kernel_rfl)) (fun _ _ _ h => h) (Or.inl ⟨by rfl, ?_⟩) ?_ ?_
     rotate_left
     ·intro w'
      go_simp
      with_reducible rfl
     rotate_left
     ·simp only [Act.put, List.setIfInBounds_toArray, List.set_cons_zero, List.set_cons_succ, i64_w, i32_w]
      rfl
     refine pure_ (i := 4) (N := some 54) (v := ?_) (a' := ?_) #[true, false, true, true, true, false, false, false, false, false] rfl rfl (any_of HT_.out (by kernel_rfl)) (fun _ _ _ h => h) (Or.inl ⟨by rfl, ?_⟩) ?_ ?_
     rotate_left
     ·intro w'
      go_simp
      with_reducible rfl
     rotate_left
     ·simp only [Act.put, List.setIfInBounds_toArray, List.set_cons_zero, List.set_cons_succ, i64_w, i32_w]
      rfl
     refine pure_ (i := 5) (N := some 55) (v := ?_) (a' := ?_) #[true, false, true, true, true, true, false, false, false, false] rfl rfl (any_of HT_.out (by kernel_rfl)) (fun _ _ _ h => h) (Or.inl ⟨by rfl, ?_⟩) ?_ ?_
     rotate_left
     ·intro w'
      go_simp
      with_reducible rfl
     rotate_left
     ·simp only [Act.put, List.setIfInBounds_toArray, List.set_cons_zero, List.set_cons_succ, i64_w, i32_w]
      rfl
     refine take_ (i := 1) (N := some 51) (v := ?_) (a' := ?_) #[true, true, true, true, true, true, false, false, false, false] rfl rfl (take_ofW HT_.out HW_.out (by kernel_rfl)) (fun _ _ _ h => h) (Or.inl ⟨by rfl, ?_⟩) hHeld ?_ ?_
     rotate_left
     ·rintro w' ⟨s0, s1⟩
      go_simp
      with_reducible rfl
     rotate_left
     ·simp only [Act.put, List.setIfInBounds_toArray, List.set_cons_zero, List.set_cons_succ, i64_w, i32_w]
      rfl
     refine take_ (i := 6) (N := some 56) (v := ?_) (a' := ?_) #[true, true, true, true, true, true, true, false, false, false] rfl rfl (take_ofW HT_.out HW_.out (by kernel_rfl)) (fun _ _ _ h => h) (Or.inl ⟨by rfl, ?_⟩) hHeld ?_ ?_
     rotate_left
     ·rintro w' ⟨s0, s1⟩
      go_simp
      with_reducible rfl
     rotate_left
     ·simp only [Act.put, List.setIfInBounds_toArray, List.set_cons_zero, List.set_cons_succ, i64_w, i32_w]
      rfl
     refine one_ (i := 7) (N := some 57) #[true, true, true, true, true, true, true, true, false, false] rfl rfl (one_of HT_.out (by kernel_rfl)) (by decide) (fun K hK => ?_)
     refine Kd.R_append_rows_step (Kd.int .i64) (w0 := w2) w2.heap.size (by rfl) (.tmp 51) (.tmp 56) 31 3 (.int .i64 0) 8 rfl Tryz.underlying31 infoInt rfl (by decide) (by omega) (.slice none 0 0) ([] : List Int) x.f0 _ _ _ (fun k => k ≠ gt) (fun _ => False) rfl rfl ?aO ?aR (fun _ _ h => h) (fun _ h => h.elim) ?aF ?aB ?aS ?aL ?_
     (case aR => exact Kd.C_below HC3.out HO1.out.reads)
     (case aB => exact HO1.out.reads)
     (case aF => exact fun k hk => by have := HGT.out; have := HGX.out; have := (Array.getElem?_eq_some_iff.1 HX1.out).1; omega)
     (case aO => exact Kd.R_nil _ _ _ _ _)
     (case aS => exact HO1.out.reads.size)
     (case aL => have := HXL.out.1; simp only [List.length_nil]; omega)
     intro v9 w7 ho hb hg hat
     simp only [List.nil_append] at ho
     obtain ⟨A9, c9, e9⟩ := Kd.R_slice ho
     subst e9
     have HI7 := Aside0.mk (HO1.out.enter HX1.out HN1.out ho hb hg (show gx ≠ gt by have := HGT.out; have := HGX.out; omega))
     have hs0 : w7.cell? ⟨gx, 0, none⟩ = some (.slice none 0 0) := (blk_cell HI7.out.1 0).trans rfl
     have hfs := blk_frozen HI7.out.1 0
     refine hK.out _ _ ⟨hs0, (pw_cell_below hb HP0.out)⟩ (fun hHeld => ?_)
     clear hK K ho hb hg hat
     refine norm_ (a' := ?_) ?_ ?_
     rotate_left
     ·show Act.put _ (some 57) _ = _
      simp only [Act.put, List.setIfInBounds_toArray, List.set_cons_zero, List.set_cons_succ, i64_w, i32_w]
      rfl
     refine pure_ (i := 8) (N := some 58) (v := ?_) (a' := ?_) #[true, true, true, true, true, true, true, true, true, false] rfl rfl (any_of HT_.out (by kernel_rfl)) (fun _ _ _ h => h) (Or.inl ⟨by rfl, ?_⟩) ?_ ?_
     rotate_left
     ·intro w'
      go_simp
      with_reducible rfl
     rotate_left
     ·simp only [Act.put, List.setIfInBounds_toArray, List.set_cons_zero, List.set_cons_succ, i64_w, i32_w]
      rfl
     refine last_ (i := 9) (N := none) #[true, true, true, true, true, true, true, true, true, true] rfl rfl (one_of HT_.out (by kernel_rfl)) (by decide) (fun K hK => ?_)
     refine skip_ (w1 := ?_) (by rfl) rfl ?_ ?_
     rotate_left
     ·go_simp
      rfl
     refine hK.out _ _ ?_
     clear hK K
     refine done_ (done_of HT_.out (by kernel_rfl)) ?_
     have HI8 := Aside0.mk (HI7.out.2 HWG.out)
     clear HI7 HT_ HW_ hHeld hx0 hd0 hs0 hfs
     have HSW8 : Aside0 (w3.heap.size ≤ (w7.setCell ⟨gx, 0, none⟩ (.slice A9 x.f0.length c9)).heap.size) := ⟨by have h1 := (Array.getElem?_eq_some_iff.1 HI8.out.hbx).1; have h2 := HGX.out; omega⟩
     generalize w7.setCell ⟨gx, 0, none⟩ (.slice A9 x.f0.length c9) = wa at HI8 HSW8 ⊢
     obtain ⟨U, rfl⟩ := Int.eq_ofNat_of_zero_le HUI.out.1
     have HUL : Aside0 (U ≤ x.f2.length) := ⟨by have := HUI.out.2; omega⟩
     rw [Int.toNat_natCast] at HNX2 HSI
     have HLL : Aside0 ((x.f2.take U).length = U) := ⟨by rw [List.length_take]; have := HUL.out; omega⟩
     have HLG : Aside0 (∀ j : Nat, j < U → (x.f2.take U)[j]? = some (rd x.f2 (j : Int))) := ⟨by
      intro j hj
      have h1 := HUL.out
      rw [List.getElem?_take, if_pos hj]
      have h2 : j < x.f2.length := by omega
      simp [rd, rdOf, List.getD, h2]⟩
     generalize x.f2.take U = L at HNX2 HSI HLL HLG
     have HLT := Aside0.mk hlt
     clear hlt' hlt
     go_wp2
     generalize decide ((i : Int) ≤ (E : Int)) = bq42
     generalize decide (i ≤ E) = bq43
     go_loopw [16] (fun v16 wr => ∃ (j : Nat) (hv : Value), v16 = .int .i64 j ∧ j ≤ U ∧ Aside0 (RTIn w2 wr w.heap.size gt gx #[.int .i64 vars, .slice A1 cls.length c1] (.slice (some ⟨gt, 0, none⟩) p.length ct) (.slice A9 x.f0.length c9) hv (.slice Av s.1.length cv0) s.2 x.f0 ((L.take j).map (rtMap cls.length st s.2)) s.1) ∧ Aside0 (w3.heap.size ≤ wr.heap.size)) (fun v16 _ => U - (intOf v16).toNat)
     case atStart => exact ⟨0, _, rfl, Nat.zero_le _, ⟨by simpa using HI8.out⟩, HSW8⟩
     case round =>
      clear HI8 HSW8
      obtain ⟨j, hv, rfl, hj, HI, HSW3⟩ := hrel
      have hcu := pw_cell_below HI.out.reads HCUI.out
      by_cases hjl : j < U
      ·have hjl' : decide ((j : Int) < (U : Int)) = true := decide_eq_true (by omega)
       obtain ⟨ah, rfl, hch⟩ := Kd.at_int HC4.out (j : Int) (by omega) (by have := HUL.out; omega)
       simp only [Int.toNat_natCast] at hch
       have hqh := pw_cell_below HI.out.reads hch
       have hq2 := pw_cell_below HI.out.reads HP2.out
       have hjx : (j : Int) < (x.f2.length : Int) := by have := HUL.out; omega
       have HGET := Aside0.mk (HLG.out j hjl)
       generalize rd x.f2 (j : Int) = h at hch hqh HGET
       have HMEM : Aside0 (h ∈ L) := ⟨List.mem_of_getElem? HGET.out⟩
       have hbc : wr.cell? ⟨w.heap.size, 1, none⟩ = some (.slice A1 cls.length c1) := (blk_cell HI.out.hbc 1).trans rfl
       obtain ⟨Ah, ch, hhv⟩ := Kd.R_slice HI.out.hs
       have HLJ : Aside0 (((L.take j).map (rtMap cls.length st s.2)).length = j) := ⟨by rw [List.length_map, List.length_take, HLL.out, Nat.min_eq_left (by omega)]⟩
       have HJ : Aside0 (j + 1 ≤ U) := ⟨hjl⟩
       have HLB : Aside0 (U ≤ 1000000) := ⟨by have := HUL.out; have := HXL.out.2; omega⟩
       rw [HLJ.out] at hhv
       subst hhv
       have hxx2 : wr.cell? ⟨gx, 2, none⟩ = some (.slice Ah j ch) := (blk_cell HI.out.hbx 2).trans rfl
       clear hch
       by_cases hgt : h > (cls.length : Int)
       ·have hgt' : decide (h > (cls.length : Int)) = true := decide_eq_true hgt
        have HRM : Aside0 (rtMap cls.length st s.2 h = rd s.2 (st h)) := ⟨by rw [rtMap, if_pos hgt]⟩
        obtain ⟨hs1, hs2, hs3⟩ := HSI.out h HMEM.out hgt
        have HS1 := Aside0.mk hs1
        have hto := HI.out.to_
        obtain ⟨hz, _⟩ := Kd.R_celln (0 : Int) hto (st h) hs2 hs3
        have hs2' : decide (0 ≤ st h) = true := decide_eq_true hs2
        change wr.cell? ⟨gt, (st h).toNat, none⟩ = some (.int .i64 (rd s.2 (st h))) at hz
        generalize rd s.2 (st h) = y at hz HRM
        generalize st h = sh at hz hs2 hs3 hs2' HS1
        have HZ := Aside0.mk hz
        clear hs1 hz hto hgt
        go_wp2_with fail
        have hsc := netlabref33_step.calls ks (some ad) c2 (p.map sP) h (cls.length : Int) sh wr (by rw [List.length_map]; exact Kd.C_below (C_sP HR22.out) HI.out.reads) (by rw [List.length_map]; exact HC2.out) HS1.out
        rw [List.length_map] at hsc
        refine hsc.mono ?_
        rintro e w6 ⟨rfl, hd6⟩
        have HI6 := Aside0.mk (HI.out.below hd6.below)
        have HSW6 : Aside0 (w3.heap.size ≤ w6.heap.size) := ⟨Nat.le_trans HSW3.out hd6.below.size⟩
        have hq6 := (hd6.below.cell (World.block_lt_of_cell? wr _ HZ.out)).trans HZ.out
        have hxx6 : w6.cell? ⟨gx, 2, none⟩ = some (.slice Ah j ch) := (blk_cell HI6.out.hbx 2).trans rfl
        have HTL : Aside0 (s.2.length = p.length) := ⟨HSL.out.2⟩
        have hs3' : sh < (p.length : Int) := hs3
        clear hd6 hxx2 hqh hq2 hbc
        go_wp2_with ((with_reducible refine gate_builtin (b := .append) (xs := #[.tmp 90, .tmp 92]) rfl ?_); at_builtin; refine Kd.R_append (Kd.int .i64) (w0 := w2) w2.heap.size rfl (.tmp 90) (.tmp 92) 31 3 (.int .i64 0) 8 rfl Tryz.underlying31 infoInt rfl (by decide) (by omega) (.slice Ah j ch) ((L.take j).map (rtMap cls.length st s.2)) y [.int .i64 y] (fun k => k ≠ gt) (fun _ => False) rfl rfl ?aP (fun _ hk => hk.elim) ?aF ?aO ?aB ?aS ?aL ?_; (case aP => exact rfl); (case aF => exact fun k hk => by have := HGT.out; have := HSW6.out; omega); (case aO => exact HI6.out.hs); (case aB => exact HI6.out.reads); (case aS => exact HI6.out.reads.size); (case aL => rw [HLJ.out]; have := HLB.out; have := HJ.out; omega); intro v9 w7 ho hb hg hat; obtain ⟨Av9, cv9, hv9⟩ := Kd.R_slice ho; rw [List.length_append, HLJ.out] at hv9; subst hv9; have HI7 := Aside0.mk (HI6.out.hadd ho hb hg hat); have HSW7 : Aside0 (w3.heap.size ≤ w7.heap.size) := ⟨Nat.le_trans HSW6.out hg.size⟩; have hy2 : w7.cell? ⟨gx, 2, none⟩ = some (.slice Ah j ch) := (blk_cell HI7.out.1 2).trans rfl; have hy2f := blk_frozen HI7.out.1 2; clear ho hb hg hat hxx6)
        go_roundw
        case rel =>
         refine ⟨j + 1, .slice Av9 (j + 1) cv9, by rw [wrap_succ hjl (by have := HLB.out; omega)], by omega, ⟨?_⟩, ⟨by simpa using HSW7.out⟩⟩
         rw [List.take_add_one, HGET.out, List.map_append]
         have := HI7.out.2 HWG.out
         simpa [HRM.out] using this
        case measure => exact meas_x hjl (wrap_succ hjl (by have := HLB.out; omega))
       ·have hgt' : decide (h > (cls.length : Int)) = false := decide_eq_false hgt
        have HRM : Aside0 (rtMap cls.length st s.2 h = h) := ⟨by rw [rtMap, if_neg hgt]⟩
        clear hgt
        go_wp2_with ((with_reducible refine gate_builtin (b := .append) (xs := #[.tmp 90, .tmp 92]) rfl ?_); at_builtin; refine Kd.R_append (Kd.int .i64) (w0 := w2) w2.heap.size rfl (.tmp 90) (.tmp 92) 31 3 (.int .i64 0) 8 rfl Tryz.underlying31 infoInt rfl (by decide) (by omega) (.slice Ah j ch) ((L.take j).map (rtMap cls.length st s.2)) h [.int .i64 h] (fun k => k ≠ gt) (fun _ => False) rfl rfl ?aP (fun _ hk => hk.elim) ?aF ?aO ?aB ?aS ?aL ?_; (case aP => exact rfl); (case aF => exact fun k hk => by have := HGT.out; have := HSW3.out; omega); (case aO => exact HI.out.hs); (case aB => exact HI.out.reads); (case aS => exact HI.out.reads.size); (case aL => rw [HLJ.out]; have := HLB.out; have := HJ.out; omega); intro v9 w6 ho hb hg hat; obtain ⟨Av9, cv9, hv9⟩ := Kd.R_slice ho; rw [List.length_append, HLJ.out] at hv9; subst hv9; have HI6 := Aside0.mk (HI.out.hadd ho hb hg hat); have HSW6 : Aside0 (w3.heap.size ≤ w6.heap.size) := ⟨Nat.le_trans HSW3.out hg.size⟩; have hy2 : w6.cell? ⟨gx, 2, none⟩ = some (.slice Ah j ch) := (blk_cell HI6.out.1 2).trans rfl; have hy2f := blk_frozen HI6.out.1 2; clear ho hb hg hat hxx2)
        go_roundw
        case rel =>
         refine ⟨j + 1, .slice Av9 (j + 1) cv9, by rw [wrap_succ hjl (by have := HLB.out; omega)], by omega, ⟨?_⟩, ⟨by simpa using HSW6.out⟩⟩
         rw [List.take_add_one, HGET.out, List.map_append]
         have := HI6.out.2 HWG.out
         simpa [HRM.out] using this
        case measure => exact meas_x hjl (wrap_succ hjl (by have := HLB.out; omega))
      ·have hjl' : decide ((j : Int) < (U : Int)) = false := decide_eq_false (by omega)
       have e : j = U := by omega
       subst e
       rw [show L.take j = L by rw [← HLL.out, List.take_length]] at HI
       have hxx0 : wr.cell? ⟨gx, 0, none⟩ = some (.slice A9 x.f0.length c9) := (blk_cell HI.out.hbx 0).trans rfl
       have hxx1 : wr.cell? ⟨gx, 1, none⟩ = some (.bool false) := (blk_cell HI.out.hbx 1).trans rfl
       obtain ⟨Ah, ch, hhv⟩ := Kd.R_slice HI.out.hs
       rw [List.length_map] at hhv
       subst hhv
       have hxx2 : wr.cell? ⟨gx, 2, none⟩ = some (.slice Ah L.length ch) := (blk_cell HI.out.hbx 2).trans rfl
       have HMM : Aside0 (kStp.M wr w2.heap.size (fun k => k ≠ gt ∧ some k ≠ (Value.slice Av s.1.length cv0).ownBlock) ⟨x.f0, false, L.map (rtMap cls.length st s.2)⟩ [.slice A9 x.f0.length c9, .bool false, .slice Ah L.length ch]) := ⟨by
        have hm := k42_mkM wr w2.heap.size _ ⟨x.f0, false, L.map (rtMap cls.length st s.2)⟩ (R_apart_ok HI.out.cl HI.out.out (by decide) (fun k hk => hk.1)) (R_apart_ok HI.out.hs HI.out.out (by decide) (fun k hk => hk))
        simpa using hm⟩
       go_wp2_with ((with_reducible refine gate_builtin (b := .append) (xs := #[.tmp 95, .tmp 97]) rfl ?_); at_builtin; refine Kd.R_append kStp (w0 := w2) w2.heap.size rfl (.tmp 95) (.tmp 97) 25 42 (.agg #[.slice none 0 0, .bool false, .slice none 0 0]) 56 rfl Tryz.underlying25 infoStep rfl (by decide) (by omega) (.slice Av s.1.length cv0) s.1 ⟨x.f0, false, L.map (rtMap cls.length st s.2)⟩ [.slice A9 x.f0.length c9, .bool false, .slice Ah L.length ch] (fun k => k ≠ gt) (fun k => k ≠ gt ∧ some k ≠ (Value.slice Av s.1.length cv0).ownBlock) rfl rfl ?aP (fun _ hk => hk) ?aF ?aO ?aB ?aS ?aL ?_; (case aP => exact HMM.out); (case aF => exact fun k hk => by have := HGT.out; have := HSW3.out; omega); (case aO => exact Kd.R_mono HI.out.out (fun _ hk => hk.1.1)); (case aB => exact HI.out.reads); (case aS => exact HI.out.reads.size); (case aL => have := HSL.out.1; have := HEP.out.2; have := HEP.out.1; omega); intro v9 w6 ho hb hg hat; obtain ⟨Av9, cv9, hv9⟩ := Kd.R_slice ho; subst hv9; have HI6 := Aside0.mk (HI.out.leave ho hb hg HGB.out HCG.out i HSL.out.2 (by omega)); have hbc6 : w6.cell? ⟨w.heap.size, 1, none⟩ = some (.slice A1 cls.length c1) := (blk_cell HI6.out.1.hbc 1).trans rfl; obtain ⟨hz6, hz6f⟩ := Kd.R_celln (0 : Int) HI6.out.1.to_ (i : Int) (by omega) (by omega); rw [Int.toNat_natCast] at hz6 hz6f; have HSW6 : Aside0 (w3.heap.size ≤ w6.heap.size) := ⟨Nat.le_trans HSW3.out hg.size⟩; clear ho hb hg hat)
       go_roundw
       case rel =>
        have hin := HLT.out
        have hw : wrap64 ((cls.length : Int) + ((s.1.length : Int) + 1)) = ((cls.length + s.1.length + 1 : Nat) : Int) := by
         have := HSL.out.1
         have := HEP.out
         have := HLEN.out
         unfold wrap64; omega
        refine ⟨i + 1, by rw [wrap_succ (show i < 100000 by have := HEP.out; omega) (by omega)], by omega, ⟨?_⟩, ⟨by simpa using HSW6.out⟩⟩
        rw [HNX2.out, hw]
        have := HI6.out.2 ((cls.length + s.1.length + 1 : Nat) : Int)
        simpa using this
       case measure => exact meas_x HLT.out (wrap_succ (show i < 100000 by have := HEP.out; omega) (by omega))
    | false =>
     rw [hmk] at hq
     have HNX2 : Aside0 (rtL p r.used cls.length m1 st (i + 1) = s) := ⟨by rw [HNX.out, rtStep, if_neg (by rw [hmk]; simp)]⟩
     clear hmk HNX
     go_wp2
     go_roundw
     case rel => exact ⟨i + 1, by rw [wrap_succ (show i < 100000 by have := HEP.out; omega) (by omega)], by omega, by rw [HNX2.out]; exact HI, HSW⟩
     case measure => exact meas_x hlt (wrap_succ (show i < 100000 by have := HEP.out; omega) (by omega))
   ·have hlt' : decide ((i : Int) ≤ (E : Int)) = false := decide_eq_false (by omega)
    have e : i = E + 1 := by omega
    subst e
    go_wp2
    ((try simp only [Exit.inBlock, Exit.then]); refine bodyPost_ret (results_tmp2 rfl _ _ _) rfl ?_)
    rw [HOE.out]
    exact ⟨_, by rw [HE.out]; rfl, Kd.R_mono (Kd.R_lower HI.out.out HB2.out.size) (fun _ _ => trivial), below_step HB2.out HI.out.reads⟩
 ·have he' : (r.e != 0) = true := by simpa using he
  have HE := Aside0.mk he
  clear he
  go_wp2
  ((try simp only [Exit.inBlock, Exit.then]); refine bodyPost_ret (results_tmp2 rfl _ _ _) rfl ?_)
  rw [← HO.out, if_neg HE.out]
  exact ⟨_, rfl, Kd.R_nil _ _ _ _ _, HB.out⟩
end Go.Proofs.YtogicccdngpafaaGreatDoor.NState
end
section
namespace Go.Proofs.YtogicccdngpafaaGreatDoor.NPlain
open Go Go.RowKit Go.Shelf Go.Proofs.YtogicccdngpafaaGreatDoor.NState Go.Proofs.YtogicccdngpafaaGreatDoorW.PrintWords Go.Proofs.YtogicccdngpafaaGreatDoorW.PrintLast Go.Proofs.YtogicccdngpafaaGreatDoorW.PrintMore Go.Proofs.YtogicccdngpafaaGreatDoor.NMap
open Go.Proofs.YtogicccdngpafaaGreatDoor.PCheck (cnf_Check.f)
open Go.Proofs.YtogicccdngpafaaGreatDoor.PSame (S42 k42 rd_T42 at_T42)
open Go.Proofs.YtogicccdngpafaaGreatDoor.PRef (netlabref33_step.f netlabref33_step.l0 netlabref33_marks.f netlabref33_marks.l0 netlabref33_marks.l1)
theorem rdP {p : List Stp} {i : Nat} (h : i < p.length) : PRef.rd_T42 (p.map sP) (i : Int) = sP p[i] := by simp [PRef.rd_T42, List.getD, h]
theorem byOf_count : ∀ (a : List Stp) (i : Int) (j : Nat) (s : Int), (byOf i a)[j]? = some s → (addsL (a.take (s - i).toNat)).length = j
 | [], i, j, s, h => by simp [byOf] at h
 | x :: a, i, j, s, h => by
  rw [byOf] at h
  by_cases hg : x.f1 = true
  ·rw [if_pos hg] at h
   have hr := byOf_range _ _ _ (List.mem_of_getElem? h)
   have := byOf_count a _ _ _ h
   rw [show (s - i).toNat = (s - (i + 1)).toNat + 1 by omega, List.take_succ_cons, addsL, if_pos hg]
   exact this
  ·rw [if_neg hg] at h
   cases j with
   | zero =>
    simp only [List.getElem?_cons_zero, Option.some.injEq] at h
    subst h
    simp [addsL]
   | succ j =>
    rw [List.getElem?_cons_succ] at h
    have hr := byOf_range _ _ _ (List.mem_of_getElem? h)
    have := byOf_count a _ _ _ h
    rw [show (s - i).toNat = (s - (i + 1)).toNat + 1 by omega, List.take_succ_cons, addsL, if_neg hg, List.length_cons, this]
theorem step_at {p : List Stp} {n j s : Nat} (hn : n ≤ 100000) (hl : p.length ≤ 65536) (hj : (byOf 0 p)[j]? = some (s : Int)) : ∀ d i, s - i = d → i ≤ s → ∀ k, d < k → netlabref33_step.l0 k (p.map sP) ((n + j + 1 : Nat) : Int) ((n + (addsL (p.take i)).length : Nat) : Int) (i : Int) = some (s : Int) := by
 obtain ⟨x, h1, h2, _⟩ := byOf_at p 0 j s hj
 simp only [Int.sub_zero, Int.toNat_natCast] at h1
 obtain ⟨hs, hx⟩ := List.getElem?_eq_some_iff.1 h1
 have hc := byOf_count p 0 j s hj
 simp only [Int.sub_zero, Int.toNat_natCast] at hc
 have hjl : j ≤ p.length := by
  have := (List.getElem?_eq_some_iff.1 hj).1
  rw [addsL_length] at this
  have hle : ∀ a : List Stp, (addsL a).length ≤ a.length := by
   intro a
   induction a with
   | nil => simp [addsL]
   | cons y a ih => rw [addsL]; split <;> (simp; omega)
  have := hle p
  omega
 intro d
 induction d with
 | zero =>
  intro i hd hi k hk
  have : i = s := by omega
  subst this
  obtain ⟨k, rfl⟩ : ∃ m, k = m + 1 := ⟨k - 1, by omega⟩
  simp only [netlabref33_step.l0]
  rw [if_pos (by rw [List.length_map]; omega), if_pos (by omega), rdP hs, if_neg (by simp only [sP]; rw [hx, h2]; simp), hc, if_pos]
  unfold wrap64; omega
 | succ d ih =>
  intro i hd hi k hk
  obtain ⟨k, rfl⟩ : ∃ m, k = m + 1 := ⟨k - 1, by omega⟩
  have hip : i < p.length := by omega
  have hw : wrap64 ((i : Int) + 1) = ((i + 1 : Nat) : Int) := by unfold wrap64; omega
  have hmono : (addsL (p.take (i + 1))).length ≤ j := by
   have e : p.take s = p.take (i + 1) ++ (p.drop (i + 1)).take (s - (i + 1)) := by
    rw [← List.take_add]; congr 1; omega
   rw [← hc, e, addsL_append, List.length_append]; omega
  have hstep : p.take (i + 1) = p.take i ++ [p[i]] := by rw [List.take_succ_eq_append_getElem hip]
  simp only [netlabref33_step.l0]
  rw [if_pos (by rw [List.length_map]; omega), if_pos (by omega), rdP hip]
  have hnext := ih (i + 1) (by omega) (by omega) k (by omega)
  by_cases hg : p[i].f1 = true
  ·rw [if_pos (show (sP p[i]).f1 = true from hg), hw]
   rw [hstep, addsL_append] at hnext
   simp only [addsL, hg, if_true, List.append_nil] at hnext
   exact hnext
  ·rw [if_neg (show ¬ (sP p[i]).f1 = true from hg)]
   have ea : addsL [p[i]] = [p[i].f0] := by rw [addsL, if_neg hg]; rfl
   rw [hstep, addsL_append, ea, List.length_append, List.length_singleton] at hnext hmono
   have hw2 : wrap64 (((n + (addsL (p.take i)).length : Nat) : Int) + 1) = ((n + ((addsL (p.take i)).length + 1) : Nat) : Int) := by unfold wrap64; omega
   have hne : ¬ wrap64 (((n + (addsL (p.take i)).length : Nat) : Int) + 1) = ((n + j + 1 : Nat) : Int) := by rw [hw2]; omega
   rw [if_neg hne, hw, hw2]
   exact hnext
def stF (n : Nat) (byL : List Int) (h : Int) : Int := (stepOf n byL h).getD 0
theorem step_is {vars : Int} {cls : List (List Int)} {p : List Stp} {r : RunR} (ha : AccIs vars cls p r) (hn : cls.length ≤ 100000) {i : Nat} (hi : i < p.length) {h : Int} (hh : h ∈ hintsAt p r.used i) (hgt : (cls.length : Int) < h) :
  ∃ s : Nat, s < i ∧ stepOf cls.length r.byL h = some (s : Int) ∧ ∀ k, p.length < k → netlabref33_step.f k (p.map sP) h (cls.length : Int) = some (s : Int) := by
 obtain ⟨_, _, h3⟩ := acc_hint ha hi hh
 obtain ⟨s, e, hs⟩ := h3 hgt
 refine ⟨s, hs, e, fun k hk => ?_⟩
 unfold stepOf at e
 rw [if_pos hgt, ha.by_] at e
 have := step_at hn ha.len e s 0 (by omega) (by omega) k (by omega)
 unfold netlabref33_step.f
 simp only [List.take_zero, addsL, List.length_nil, Nat.add_zero] at this
 rw [show ((cls.length + (h - cls.length - 1).toNat + 1 : Nat) : Int) = h by omega] at this
 exact this
def coreMark (n : Nat) : List Bool → List Int → List Bool
 | co, [] => co
 | co, h :: hs => coreMark n (if h ≤ (n : Int) then co.set (h - 1).toNat true else co) hs
def finC (hs : Nat → List Int) (n : Nat) (byL : List Int) : Nat → List Bool → List Bool → List Bool
 | 0, _, co => co
 | m + 1, st, co => if st.getD m false = true then finC hs n byL m (markL n byL st (hs m)) (coreMark n co (hs m)) else finC hs n byL m st co
theorem coreMark_len (n : Nat) : ∀ (hs : List Int) (co : List Bool), (coreMark n co hs).length = co.length
 | [], co => rfl
 | h :: hs, co => by
  rw [coreMark, coreMark_len n hs]
  split <;> simp
theorem finC_len (hs : Nat → List Int) (n : Nat) (byL : List Int) : ∀ (m : Nat) (st co : List Bool), (finC hs n byL m st co).length = co.length
 | 0, st, co => rfl
 | m + 1, st, co => by
  rw [finC]
  split
  ·rw [finC_len hs n byL m, coreMark_len]
  ·exact finC_len hs n byL m st co
theorem coreMark_at (n : Nat) : ∀ (hs : List Int) (co : List Bool) (j : Nat), (∀ h ∈ hs, 1 ≤ h) → co.length = n → j < n → ((coreMark n co hs).getD j false = true ↔ co.getD j false = true ∨ ((j + 1 : Nat) : Int) ∈ hs)
 | [], co, j, _, _, _ => by simp [coreMark]
 | h :: hs, co, j, h1, hl, hj => by
  have hh := h1 h (by simp)
  rw [coreMark, coreMark_at n hs _ j (fun x hx => h1 x (List.mem_cons_of_mem _ hx)) (by split <;> simp [hl]) hj, List.mem_cons]
  by_cases hc : h ≤ (n : Int)
  ·rw [if_pos hc, getD_set]
   constructor
   ·rintro ((a | ⟨a, _⟩) | a)
    ·exact .inl a
    ·exact .inr (.inl (by omega))
    ·exact .inr (.inr a)
   ·rintro (a | a | a)
    ·exact .inl (.inl a)
    ·exact .inl (.inr ⟨by omega, by omega⟩)
    ·exact .inr a
  ·rw [if_neg hc]
   constructor
   ·rintro (a | a)
    ·exact .inl a
    ·exact .inr (.inr a)
   ·rintro (a | a | a)
    ·exact .inl a
    ·omega
    ·exact .inr a
theorem finC_iff {hs : Nat → List Int} {n : Nat} {byL : List Int} (hN : NatSteps n byL) : ∀ (m : Nat) (st co : List Bool) (j : Nat), Back hs n byL m → m ≤ st.length → (∀ i, i < m → ∀ h ∈ hs i, 1 ≤ h) → co.length = n → j < n →
  ((finC hs n byL m st co).getD j false = true ↔ co.getD j false = true ∨ ∃ i, i < m ∧ (finL hs n byL m st).getD i false = true ∧ ((j + 1 : Nat) : Int) ∈ hs i)
 | 0, st, co, j, _, _, _, _, _ => by simp [finC]
 | m + 1, st, co, j, hB, hm, h1, hl, hj => by
  have hB' : Back hs n byL m := fun i hi => hB i (by omega)
  rw [finC, finL]
  by_cases hk : st.getD m false = true
  ·rw [if_pos hk, if_pos hk]
   have hkk : (finL hs n byL m (markL n byL st (hs m))).getD m false = true := by
    rw [fin_keep hN m _ m hB' (by omega) (by rw [markL_len]; omega)]
    exact (markL_at hN _ _ _ (by omega)).2 (.inl hk)
   rw [finC_iff hN m _ _ j hB' (by rw [markL_len]; omega) (fun i hi => h1 i (by omega)) (by rw [coreMark_len]; exact hl) hj, coreMark_at n _ _ j (h1 m (by omega)) hl hj]
   constructor
   ·rintro ((a | a) | ⟨i, a, b, c⟩)
    ·exact .inl a
    ·exact .inr ⟨m, by omega, hkk, a⟩
    ·exact .inr ⟨i, by omega, b, c⟩
   ·rintro (a | ⟨i, a, b, c⟩)
    ·exact .inl (.inl a)
    ·by_cases hi : i = m
     ·subst hi; exact .inl (.inr c)
     ·exact .inr ⟨i, by omega, b, c⟩
  ·rw [if_neg hk, if_neg hk]
   have hkk : (finL hs n byL m st).getD m false = false := by
    rw [fin_keep hN m _ m hB' (by omega) (by omega)]
    simpa using hk
   rw [finC_iff hN m _ _ j hB' (by omega) (fun i hi => h1 i (by omega)) hl hj]
   constructor
   ·rintro (a | ⟨i, a, b, c⟩)
    ·exact .inl a
    ·exact .inr ⟨i, by omega, b, c⟩
   ·rintro (a | ⟨i, a, b, c⟩)
    ·exact .inl a
    ·have hi : i ≠ m := by rintro rfl; rw [hkk] at b; cases b
     exact .inr ⟨i, by omega, b, c⟩
section
variable {vars : Int} {cls : List (List Int)} {p : List Stp} {r : RunR}
theorem hints_len (ha : AccIs vars cls p r) (hok : RunOk p r) {i : Nat} (hi : i < p.length) : ((hintsAt p r.used i).length : Int) = rd r.used (i : Int) ∧ ∀ j : Nat, j < (hintsAt p r.used i).length → j < p[i].f2.length ∧ rd p[i].f2 (j : Int) = (hintsAt p r.used i).getD j 0 := by
 have h0 := hok.u0 i hi
 rw [rdS hi] at h0
 have hl : ((hintsAt p r.used i).length : Int) = rd r.used (i : Int) := by
  unfold hintsAt
  rw [rdS hi, List.length_take]; omega
 refine ⟨hl, fun j hj => ?_⟩
 have hj2 : j < p[i].f2.length := by omega
 refine ⟨hj2, ?_⟩
 unfold hintsAt
 rw [rdS hi]
 have h3 : j < (rd r.used (i : Int)).toNat := by omega
 generalize (rd r.used (i : Int)).toNat = m at h3 ⊢
 simp [rd, rdOf, List.getD, hj2, h3]
theorem marks_in {vars : Int} {cls : List (List Int)} {p : List Stp} {used byL : List Int} {i : Nat} (hi : i < p.length) (hul : used.length = p.length) (L : List Int) (hL : rd used (i : Int) = (L.length : Int)) (hLm : L.length ≤ 1000000) (hg : ∀ j : Nat, j < L.length → j < p[i].f2.length ∧ rd p[i].f2 (j : Int) = L.getD j 0)
  (hmem : ∀ h ∈ L, 1 ≤ h ∧ (h ≤ (cls.length : Int) → stepOf cls.length byL h = none) ∧ ((cls.length : Int) < h → ∃ s : Nat, s < p.length ∧ stepOf cls.length byL h = some (s : Int) ∧ ∀ k, p.length < k → netlabref33_step.f k (p.map sP) h (cls.length : Int) = some (s : Int))) (hn : cls.length ≤ 100000) {R : List Bool × List Bool} :
  ∀ d j, L.length - j = d → j ≤ L.length → ∀ st co : List Bool, st.length = p.length → co.length = cls.length →
  Ev (fun k => netlabref33_marks.l0 k (p.map sP) used (markL cls.length byL st (L.drop j)) (coreMark cls.length co (L.drop j)) (wrap64 ((i : Int) - 1)) vars cls) R →
  Ev (fun k => netlabref33_marks.l1 k (p.map sP) used st co (i : Int) (j : Int) vars cls) R := by
 have hmap : (p.map sP).length = p.length := List.length_map _
 have c1 : (0 : Int) ≤ (i : Int) := Int.natCast_nonneg i
 have c2 : (i : Int) < (used.length : Int) := Int.ofNat_lt.2 (by rw [hul]; exact hi)
 have c4 : (i : Int) < ((p.map sP).length : Int) := by rw [hmap]; exact Int.ofNat_lt.2 hi
 intro d
 induction d with
 | zero =>
  intro j hd hj st co hs hc hR
  have hje : j = L.length := by omega
  subst hje
  rw [List.drop_length] at hR
  refine Ev.succ ?_
  simp only [netlabref33_marks.l1]
  exact Ev.pos c1 (Ev.pos c2 (Ev.neg (by rw [hL]; exact Int.lt_irrefl _) hR))
 | succ d ih =>
  intro j hd hj st co hs hc hR
  have hjl : j < L.length := by omega
  have hd' : L.length - (j + 1) = d := by omega
  obtain ⟨hj2, hr⟩ := hg j hjl
  have hm : L.getD j 0 ∈ L := by
   rw [List.getD_eq_getElem?_getD, List.getElem?_eq_getElem hjl]; exact List.getElem_mem _
  have hdrop : L.drop j = L.getD j 0 :: L.drop (j + 1) := by
   rw [List.drop_eq_getElem_cons hjl]; simp [List.getD, hjl]
  rw [hdrop, markL, coreMark] at hR
  generalize L.getD j 0 = h at hr hm hR
  obtain ⟨h1, h2, h3⟩ := hmem h hm
  have hw : wrap64 ((j : Int) + 1) = ((j + 1 : Nat) : Int) := by clear hR ih hr h2 h3 hL hg hmem; unfold wrap64; omega
  have c3 : (j : Int) < rd used (i : Int) := by rw [hL]; exact Int.ofNat_lt.2 hjl
  have c5 : (0 : Int) ≤ (j : Int) := Int.natCast_nonneg j
  have c6 : (j : Int) < ((p[i].f2).length : Int) := Int.ofNat_lt.2 hj2
  have hj' : j + 1 ≤ L.length := hjl
  refine Ev.succ ?_
  simp only [netlabref33_marks.l1]
  refine Ev.pos c1 (Ev.pos c2 (Ev.pos c3 (Ev.pos c4 (Ev.pos c5 ?_))))
  simp only [rdP hi, sP, hr, hw]
  refine Ev.pos c6 ?_
  by_cases hle : h ≤ (cls.length : Int)
  ·rw [h2 hle, if_pos hle] at hR
   have hw2 : wrap64 (h - 1) = h - 1 := by clear hR ih h2 h3; unfold wrap64; omega
   have c7 : 0 ≤ h - 1 := by clear hR ih h2 h3; omega
   have c8 : h - 1 < (co.length : Int) := by clear hR ih h2 h3; omega
   refine Ev.pos hle ?_
   simp only [hw2]
   exact Ev.pos c7 (Ev.pos c8 (ih (j + 1) hd' hj' st _ hs (by rw [List.length_set]; exact hc) hR))
  ·obtain ⟨s, hsi, e, hf⟩ := h3 (Int.not_le.1 hle)
   rw [e, if_neg hle] at hR
   have c7 : (0 : Int) ≤ (s : Int) := Int.natCast_nonneg s
   have c8 : (s : Int) < (st.length : Int) := Int.ofNat_lt.2 (by rw [hs]; exact hsi)
   refine Ev.neg hle ?_
   refine Ev.bind (a := (s : Int)) ⟨p.length + 1, fun k hk => hf k hk⟩ ?_
   exact Ev.pos c7 (Ev.pos c8 (ih (j + 1) hd' hj' _ co (by rw [List.length_set]; exact hs) hc hR))
theorem marks_out (ha : AccIs vars cls p r) (hok : RunOk p r) (hn : cls.length ≤ 100000) (hx : ∀ x ∈ p, x.f2.length ≤ 1000000) : ∀ m, m ≤ p.length → ∀ st co : List Bool, st.length = p.length → co.length = cls.length →
  Ev (fun k => netlabref33_marks.l0 k (p.map sP) r.used st co ((m : Int) - 1) vars cls) (finL (hintsAt p r.used) cls.length r.byL m st, finC (hintsAt p r.used) cls.length r.byL m st co)
 | 0, _, st, co, _, _ => by
  refine Ev.succ ?_
  simp only [netlabref33_marks.l0]
  exact Ev.neg (by omega) (Ev.pure _)
 | m + 1, hm, st, co, hs, hc => by
  have hpl := ha.len
  have e : ((m + 1 : Nat) : Int) - 1 = (m : Int) := by omega
  have hw : wrap64 ((m : Int) - 1) = (m : Int) - 1 := by unfold wrap64; omega
  rw [e]
  refine Ev.succ ?_
  simp only [netlabref33_marks.l0]
  refine Ev.pos (by omega) (Ev.pos (by omega) (Ev.pos (by omega) ?_))
  rw [finL, finC, rdB]
  by_cases hk : st.getD m false = true
  ·rw [if_pos hk, if_pos hk]
   refine Ev.pos hk ?_
   have hmp : m < p.length := hm
   obtain ⟨hl, hg⟩ := hints_len ha hok hmp
   have hlen : (hintsAt p r.used m).length ≤ 1000000 := by
    unfold hintsAt
    have := hx _ (List.getElem_mem hmp)
    rw [rdS hmp]
    exact Nat.le_trans (List.length_take_le' _ _) this
   refine marks_in (byL := r.byL) hmp hok.ul (hintsAt p r.used m) hl.symm hlen hg (fun h hh => ⟨(acc_hint ha hmp hh).1, fun hle => ?_, fun hgt => ?_⟩) hn _ 0 rfl (Nat.zero_le _) st co hs hc ?_
   ·unfold stepOf; exact if_neg (Int.not_lt.2 hle)
   ·obtain ⟨s, hsi, e, hf⟩ := step_is ha hn hmp hh hgt
    exact ⟨s, Nat.lt_trans hsi hmp, e, hf⟩
   rw [List.drop_zero, hw]
   exact marks_out ha hok hn hx m (by omega) _ _ (by rw [markL_len]; exact hs) (by rw [coreMark_len]; exact hc)
  ·rw [if_neg hk, if_neg hk]
   refine Ev.neg hk ?_
   rw [hw]
   exact marks_out ha hok hn hx m (by omega) _ _ hs hc
def coreP (p : List Stp) (r : RunR) (n : Nat) : List Bool := finC (hintsAt p r.used) n r.byL (r.en.toNat + 1) ((List.replicate p.length false).set r.en.toNat true) (List.replicate n false)
theorem marks_ev (ha : AccIs vars cls p r) (hok : RunOk p r) (hn : cls.length ≤ 100000) (hx : ∀ x ∈ p, x.f2.length ≤ 1000000) : Ev (fun k => netlabref33_marks.f k vars cls (p.map sP) r.used r.en) (finP p r cls.length, coreP p r cls.length) := by
 obtain ⟨E, hE, hEl⟩ := acc_en ha
 have hpl := ha.len
 have := marks_out ha hok hn hx (E + 1) (by omega) ((List.replicate p.length false).set E true) (List.replicate cls.length false) (by simp) (by simp)
 unfold finP coreP
 rw [hE, Int.toNat_natCast]
 simp only [netlabref33_marks.f, List.length_map, Int.toNat_natCast, Option.bind_some]
 refine Ev.pos (by omega) (Ev.pos (by omega) (Ev.pos (by omega) (Ev.pos (by omega) (Ev.pos (by omega) (Ev.pos (by simp; omega) ?_)))))
 rw [show ((E + 1 : Nat) : Int) - 1 = (E : Int) by omega] at this
 exact this
theorem mem_markIdx (m : List Bool) : ∀ (n : Nat) (x : Int), x ∈ markIdx m n ↔ ∃ j : Nat, j < n ∧ m.getD j false = true ∧ x = ((j + 1 : Nat) : Int)
 | 0, x => by simp [markIdx]
 | n + 1, x => by
  rw [markIdx, List.mem_append, mem_markIdx m n x]
  constructor
  ·rintro (⟨j, a, b, c⟩ | h)
   ·exact ⟨j, by omega, b, c⟩
   ·split at h
    ·rename_i hb
     exact ⟨n, by omega, hb, by simpa using h⟩
    ·cases h
  ·rintro ⟨j, a, b, c⟩
   by_cases hj : j = n
   ·subst hj
    right
    rw [if_pos (show rdOf false m (j : Int) = true from b)]
    simp [c]
   ·exact .inl ⟨j, by omega, b, c⟩
theorem markIdx_sorted (m : List Bool) : ∀ n, (markIdx m n).Pairwise (· < ·)
 | 0 => by simp [markIdx]
 | n + 1 => by
  rw [markIdx, List.pairwise_append]
  refine ⟨markIdx_sorted m n, by split <;> simp, fun x hx y hy => ?_⟩
  obtain ⟨j, a, _, rfl⟩ := (mem_markIdx m n x).1 hx
  split at hy
  ·simp at hy; omega
  ·cases hy
theorem core_eq (ha : AccIs vars cls p r) (he : r.e = 0) : coreF cls.length p r = (markIdx (coreP p r cls.length) cls.length, 0) := by
 obtain ⟨E, hE, hEl⟩ := acc_en ha
 unfold coreF
 rw [if_pos he]
 congr 1
 obtain ⟨s1, m1⟩ := compact_sort (coreOut p r.used cls.length (neededL p r.used r.byL cls.length r.en))
 refine strict_ext s1 (markIdx_sorted _ _) (fun x => ?_)
 have h1 : ∀ i, i < p.length → ∀ h ∈ hintsAt p r.used i, 1 ≤ h := fun i hi h hh => (acc_hint ha hi hh).1
 rw [m1, mem_core ha, mem_markIdx]
 have hiff : ∀ j, j < cls.length → ((coreP p r cls.length).getD j false = true ↔ ∃ i, i < E + 1 ∧ (finP p r cls.length).getD i false = true ∧ ((j + 1 : Nat) : Int) ∈ hintsAt p r.used i) := by
  intro j hj
  have := finC_iff (acc_nat ha) (hs := hintsAt p r.used) (E + 1) ((List.replicate p.length false).set E true) (List.replicate cls.length false) j (fun i hi => acc_back ha i (by omega)) (by simp; omega) (fun i hi => h1 i (by omega)) (by simp) hj
  unfold coreP finP
  rw [hE, Int.toNat_natCast, this]
  have h0 : (List.replicate cls.length false).getD j false = false := by simp [List.getD_eq_getElem?_getD, List.getElem?_replicate, hj]
  rw [h0]
  simp
 constructor
 ·rintro ⟨hx, i, hi, hf, hh⟩
  have hi' : i < p.length := by omega
  have hx1 := h1 i hi' x hh
  refine ⟨(x - 1).toNat, by omega, (hiff _ (by omega)).2 ⟨i, by omega, hf, ?_⟩, by omega⟩
  rw [show (((x - 1).toNat + 1 : Nat) : Int) = x by omega]; exact hh
 ·rintro ⟨j, hj, hb, rfl⟩
  obtain ⟨i, hi, hf, hh⟩ := (hiff j hj).1 hb
  exact ⟨by omega, i, by omega, hf, hh⟩
theorem rt_trim (ha : AccIs vars cls p r) : ∀ K, K ≤ p.length →
  (rtL p r.used cls.length (finP p r cls.length) (stF cls.length r.byL) K).1 = (trimL p r.used cls.length r.byL ((onL (finP p r cls.length) K).map fun i : Nat => (i : Int))).out ∧
   ∀ s : Nat, s < p.length → rd (rtL p r.used cls.length (finP p r cls.length) (stF cls.length r.byL) K).2 (s : Int) = ((trimL p r.used cls.length r.byL ((onL (finP p r cls.length) K).map fun i : Nat => (i : Int))).to_ (s : Int)).getD 0
 | 0, _ => by
  refine ⟨rfl, fun s hs => ?_⟩
  simp [rtL, onL, trimL, rd, rdOf, List.getD, List.getElem?_replicate, hs]
 | K + 1, hK => by
  obtain ⟨h1, h2⟩ := rt_trim ha K (by omega)
  have hlen := rtL_len p r.used cls.length (finP p r cls.length) (stF cls.length r.byL) K
  rw [onL_succ, rtL, rtStep, rdB]
  by_cases hf : (finP p r cls.length).getD K false = true
  ·rw [if_pos hf, if_pos hf, List.map_append, List.map_cons, List.map_nil, trimL_snoc]
   generalize rtL p r.used cls.length (finP p r cls.length) (stF cls.length r.byL) K = S at h1 h2 hlen
   generalize trimL p r.used cls.length r.byL ((onL (finP p r cls.length) K).map fun i : Nat => (i : Int)) = T at h1 h2
   have hol : T.out.length = S.1.length := by rw [h1]
   simp only [trimStep]
   refine ⟨?_, fun s hs => ?_⟩
   ·rw [h1]
    congr 2
    rw [Int.toNat_natCast]
    congr 1
    refine List.map_congr_left fun h hh => ?_
    unfold rtMap trimMap stF
    by_cases hc : h > (cls.length : Int)
    ·obtain ⟨_, _, h3⟩ := acc_hint ha (show K < p.length by omega) hh
     obtain ⟨s, e, hs⟩ := h3 hc
     rw [if_pos hc, e]
     exact h2 s (by omega)
    ·rw [if_neg hc]
     have : stepOf cls.length r.byL h = none := by unfold stepOf; rw [if_neg (by omega)]
     rw [this]
   ·by_cases hsK : s = K
    ·subst hsK
     rw [if_pos rfl, hol]
     have : s < S.2.length := by omega
     simp [rd, rdOf, List.getD, this]
    ·rw [if_neg (by omega)]
     rw [← h2 s hs]
     simp [rd, rdOf, List.getD, List.getElem?_set, show ¬ K = s by omega]
  ·rw [if_neg hf, if_neg hf, List.append_nil]
   exact ⟨h1, h2⟩
theorem trim_eq (ha : AccIs vars cls p r) (he : r.e = 0) : trimF cls.length p r = ((rtL p r.used cls.length (finP p r cls.length) (stF cls.length r.byL) (r.en.toNat + 1)).1, 0) := by
 obtain ⟨E, hE, hEl⟩ := acc_en ha
 unfold trimF
 rw [if_pos he, needed_eq ha, List.reverse_reverse, (rt_trim ha (r.en.toNat + 1) (by rw [hE]; simp; omega)).1]
end
end Go.Proofs.YtogicccdngpafaaGreatDoor.NPlain
end
