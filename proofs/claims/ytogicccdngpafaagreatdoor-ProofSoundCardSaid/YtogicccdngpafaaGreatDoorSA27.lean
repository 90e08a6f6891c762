/-
  Part 27 of the proof of proofSound_card: walks and lemmas, packed by the session's own wip/pack.py out of its texts and of what the kit's print.sh printed.
-/
import Derived.Test.YtogicccdngpafaaGreatDoorSA16
import Derived.Test.YtogicccdngpafaaGreatDoorSA19
import Derived.Test.YtogicccdngpafaaGreatDoorSA24
import Derived.Test.YtogicccdngpafaaGreatDoorSA14
import Derived.Test.YtogicccdngpafaaGreatDoorSA26
import Derived.Deep.Cut
set_option linter.unusedVariables false
set_option linter.unusedSimpArgs false
section
set_option maxHeartbeats 8000000
set_option maxRecDepth 100000
namespace Go.Proofs.YtogicccdngpafaaGreatDoor.NState
open Go Go.RowKit Go.Shelf QW.PrintWords QW.PrintLast QW.PrintMore NMap
open PCheck (cnf_Check.f rL at_L1)
open PFit (nFt.calls nFt.f nBr.calls)
open PSame (S42 k42 rd_T42 at_T42 k42_mk)
open NPlain (growL PSOwed PSGood ps_owed soundQ sT C_sT CountIs Mod Sub LitOk)
def psoundR7.T : Bool × List (List Nat × List Nat) := (true, [([], []), ([], []), ([], []), ([2], [2]), ([1, 3], [1, 3]), ([], []), ([5], [5]), ([6, 4], [6]), ([7], [7]), ([8], [8]), ([0, 4, 0, 1, 2, 3, 4, 5, 6, 7, 8, 9], [0, 4]), ([10, 9, 7, 0, 1, 2, 3, 4, 5, 6, 7, 8, 9], [9, 10])])
def psoundR7.B : List Nat := [0, 0, 0, 4, 14, 0, 32, 126, 254, 510, 1023, 2047]
theorem psoundR7.tab : rtab .any (opsOf Tryz.f4 7) = psoundR7.T := by kernel_rfl
theorem psoundR7.bits : waitsOk psoundR7.T.2 psoundR7.B = true := by kernel_rfl
def psoundR16.T : Bool × List (List Nat × List Nat) := (true, [([], []), ([], []), ([0, 1], [0, 1]), ([2], [2]), ([3], [3]), ([4], [4]), ([5], [5]), ([5], [5]), ([6, 7, 5], [5, 6, 7]), ([8, 5], [5, 8]), ([5], [5]), ([10, 5], [5, 10]), ([11, 5], [5, 11]), ([9, 12, 5], [5, 9, 12]), ([5, 13], [5, 13]), ([14, 5], [14]), ([15], [15]), ([16, 15], [15, 16]), ([17, 15, 15], [15, 17]), ([18], [18]), ([18], [18]), ([20, 18], [18, 20]), ([19, 21, 18], [18, 19, 21]), ([22, 18], [18, 22]), ([18], [18]), ([18], [18]), ([24, 25, 18], [18, 24, 25]), ([26, 18], [18, 26]), ([23, 27, 18], [18, 23, 27]), ([18, 28, 15], [15, 18, 28]), ([15, 29], [15, 29])])
def psoundR16.B : List Nat := [0, 0, 3, 7, 15, 31, 63, 63, 255, 511, 63, 1087, 3135, 8191, 16383, 32767, 65535, 131071, 262143, 524287, 524287, 1572863, 4194303, 8388607, 524287, 524287, 50855935, 117964799, 268435455, 536870911, 1073741823]
theorem psoundR16.tab : rtab .any (opsOf Tryz.f4 16) = psoundR16.T := by kernel_rfl
theorem psoundR16.bits : waitsOk psoundR16.T.2 psoundR16.B = true := by kernel_rfl
def psoundR18.T : Bool × List (List Nat × List Nat) := (true, [([], []), ([0], [0]), ([], []), ([2], [2]), ([], []), ([], []), ([4, 5], [4, 5]), ([6], [6]), ([7], [7]), ([3, 8], [3, 8]), ([9], [9]), ([10], [10]), ([1, 11], [1, 11]), ([0, 1, 2, 3, 4, 5, 6, 7, 8, 9, 10, 11, 12], []), ([13, 12, 12, 0, 1, 2, 3, 4, 5, 6, 7, 8, 9, 10, 11, 12], [12, 13])])
def psoundR18.B : List Nat := [0, 1, 0, 4, 0, 0, 48, 112, 240, 508, 1020, 2044, 4095, 8191, 16383]
theorem psoundR18.tab : rtab .any (opsOf Tryz.f4 18) = psoundR18.T := by kernel_rfl
theorem psoundR18.bits : waitsOk psoundR18.T.2 psoundR18.B = true := by kernel_rfl
theorem R_ofT {e base : Nat} {ok : Nat → Prop} {W : World} {v : Value} {p : List Stp} (h : Kd.R PFewT.k42 e W base ok v (p.map sT)) : Kd.R kStp e W base ok v p := by
 obtain ⟨h0, inner, ho, hr1, hr2⟩ := h
 rw [List.length_map] at ho hr1
 refine ⟨h0, inner, ho, hr1, fun j x hj => ?_⟩
 exact hr2 j (sT x) (by rw [List.getElem?_map, hj]; rfl)
structure PSX (w W : World) (gx n : Nat) (Ax : Option Addr) (cx : Nat) (x : List (List Int)) : Prop where
 hb : Below w.heap.size w W
 bx : W.heap[gx]? = some (.cells #[.int .i64 n, .slice Ax x.length cx] 24 (0, 0))
 dx : Kd.C (Kd.slice 3 (Kd.int .i64)) W Ax x.length x
theorem PSX.below {w W W' : World} {gx n : Nat} {Ax : Option Addr} {cx : Nat} {x : List (List Int)} (h : PSX w W gx n Ax cx x) (hb : Below W.heap.size W W') : PSX w W' gx n Ax cx x :=
 ⟨bwt h.hb hb, blk_below h.bx hb, Kd.C_below h.dx hb⟩
theorem PSX.cells {w W : World} {gx n : Nat} {Ax : Option Addr} {cx : Nat} {x : List (List Int)} (h : PSX w W gx n Ax cx x) : W.cell? ⟨gx, 0, none⟩ = some (.int .i64 n) ∧ W.cell? ⟨gx, 1, none⟩ = some (.slice Ax x.length cx) := ⟨(bkc h.bx 0).trans rfl, (bkc h.bx 1).trans rfl⟩
structure RdRs {α : Type} (d : Kd α) (W : World) (A : Option Addr) (c : Nat) (xs : List α) : Prop where
 le : xs.length ≤ c
 c : d.C W A xs.length xs
theorem RdRs.below {α : Type} {d : Kd α} {W W' : World} {A : Option Addr} {c : Nat} {xs : List α} (h : RdRs d W A c xs) (hb : Below W.heap.size W W') : RdRs d W' A c xs := ⟨h.le, Kd.C_below h.c hb⟩
abbrev SW := Option Addr × Nat × Nat
def encW (x : SW) : Value := .slice x.1 x.2.1 x.2.2
def kSW : Kd SW := Kd.scalar encW (fun _ => rfl)
theorem infoSW : (Tryz.prog.info? 31).map (fun i => (i.zero, i.size, i.bytes)) = some (some (.slice none 0 0), 1, 24) := by kernel_rfl
theorem C_ofSW {w0 W : World} {A : Option Addr} {n : Nat} {svs : List SW} {fs : List (List Int)} (h : Kd.C kSW W A n svs) (hl : svs.length = fs.length) (hb : Below w0.heap.size w0 W) (hat : ∀ (i : Nat) sv l, svs[i]? = some sv → fs[i]? = some l → SliceOf w0 (encW sv) l) : Kd.C (Kd.slice 3 (Kd.int .i64)) W A n fs := by
 refine ⟨by rw [← hl]; exact h.1, h.2.1, fun hp => ?_⟩
 obtain ⟨ad, e, hc⟩ := h.2.2 hp
 refine ⟨ad, e, fun j l hj => ?_⟩
 have hjl : j < svs.length := by rw [hl]; exact (List.getElem?_eq_some_iff.1 hj).1
 obtain ⟨cs, h1, h2, h3⟩ := hc j svs[j] (List.getElem?_eq_getElem hjl)
 obtain ⟨A', c', e', hl', hC'⟩ := hat j _ l (List.getElem?_eq_getElem hjl) hj
 have h2' : cs = [encW svs[j]] := h2
 exact ⟨cs, h1, ⟨A', c', by rw [h2', e'], hl', Kd.C_below hC' hb⟩, h3⟩
structure PSL (w W : World) (gf n : Nat) (v : Value) (svs : List SW) (fs : List (List Int)) : Prop where
 hb : Below w.heap.size w W
 bf : W.heap[gf]? = some (.cells #[.int .i64 n, v] 24 (0, 0))
 row : Kd.R kSW 31 W w.heap.size (fun k => k ≠ gf) v svs
 len : svs.length = fs.length
 at_ : ∀ (i : Nat) sv l, svs[i]? = some sv → fs[i]? = some l → SliceOf w (encW sv) l
 gfl : w.heap.size ≤ gf
section
variable {w W W' : World} {gf n : Nat} {v : Value} {svs : List SW} {fs : List (List Int)}
theorem PSL.below (h : PSL w W gf n v svs fs) (hb : Below W.heap.size W W') : PSL w W' gf n v svs fs :=
 ⟨bwt h.hb hb, blk_below h.bf hb, Kd.R_below h.row hb, h.len, h.at_, h.gfl⟩
theorem PSL.store (h : PSL w W gf n v svs fs) {v' : Value} {sv : SW} {l : List Int} (hb : Below w.heap.size w W') (hy : W'.heap[gf]? = some (.cells #[.int .i64 n, v] 24 (0, 0))) (hr : Kd.R kSW 31 W' w.heap.size (fun k => k ≠ gf) v' (svs ++ [sv])) (hs : SliceOf w (encW sv) l) : PSL w (W'.setCell ⟨gf, 1, none⟩ v') gf n v' (svs ++ [sv]) (fs ++ [l]) := by
 refine ⟨bws hb h.gfl, blk_put hy 1 v' rfl, Kd.R_far (p := ⟨gf, 1, none⟩) hr (fun _ hk => hk) v', by simp [h.len], fun i sv' l' h1 h2 => ?_, h.gfl⟩
 by_cases hi : i < svs.length
 ·rw [List.getElem?_append_left hi] at h1
  rw [List.getElem?_append_left (by rw [← h.len]; exact hi)] at h2
  exact h.at_ i sv' l' h1 h2
 ·rw [List.getElem?_append_right (by omega)] at h1
  rw [List.getElem?_append_right (by rw [← h.len]; omega), ← h.len] at h2
  have e1 : i - svs.length = 0 := by
   have := (List.getElem?_eq_some_iff.1 h1).1
   simp at this; omega
  rw [e1] at h1 h2
  simp at h1 h2
  rw [← h1, ← h2]; exact hs
end
theorem stp_one {W : World} {base g cap : Nat} {ok : Nat → Prop} {y : Stp} (h : Kd.R kStp 42 W base ok (.slice (some ⟨g, 0, none⟩) 1 cap) [y]) :
  ∃ A c A' c', W.cell? ⟨g, 0, none⟩ = some (.slice A y.f0.length c) ∧ W.cell? ⟨g, 1, none⟩ = some (.bool y.f1) ∧ W.cell? ⟨g, 2, none⟩ = some (.slice A' y.f2.length c') ∧ kStp.M W base (fun k => ok k ∧ k ≠ g) y [.slice A y.f0.length c, .bool y.f1, .slice A' y.f2.length c'] := by
 obtain ⟨cs, hcl, hM, hcc, _⟩ := Kd.R_elem h y 0 (by omega) (by omega)
 have hM' : kStp.M W base (fun k => ok k ∧ k ≠ g) y cs := hM
 have hM2 := hM'
 obtain ⟨c0, c1, rfl, ⟨v0, rfl, g0⟩, c2, c3, rfl, h2, v2, rfl, g2⟩ := hM2
 have h2' : c2 = [.bool y.f1] := h2
 subst h2'
 obtain ⟨A, c, e0⟩ := Kd.R_slice g0
 obtain ⟨A', c', e2⟩ := Kd.R_slice g2
 subst e0 e2
 have a0 := hcc 0 _ rfl
 have a1 := hcc 1 _ rfl
 have a2 := hcc 2 _ rfl
 simp only [Int.toNat_zero, Nat.zero_mul, Nat.zero_add] at a0 a1 a2
 exact ⟨A, c, A', c', a0, a1, a2, hM'⟩
theorem stp_elem {W : World} {base g n cap : Nat} {ok : Nat → Prop} {q : List Stp} (h : Kd.R kStp 42 W base ok (.slice (some ⟨g, 0, none⟩) n cap) q) (i : Nat) (h1 : (i : Int) < n) : ∃ c : List Value, c.length = kStp.sz ∧ ∀ j u, c[j]? = some u → W.cell? ⟨g, (i : Int).toNat * kStp.sz + j, none⟩ = some u := by
 obtain ⟨c, hcl, _, hcc, _⟩ := Kd.R_elem h ⟨[], false, []⟩ (i : Int) (by omega) h1
 exact ⟨c, hcl, hcc⟩
theorem C_one {W : World} {gs : Nat} {s : Stp} {A A' : Option Addr} {c c' : Nat} (hb : W.heap[gs]? = some (.cells #[.slice A s.f0.length c, .bool s.f1, .slice A' s.f2.length c'] 42 (0, 0))) (l0 : s.f0.length ≤ c) (g0 : (Kd.int .i64).C W A s.f0.length s.f0) (l2 : s.f2.length ≤ c') (g2 : (Kd.int .i64).C W A' s.f2.length s.f2) : Kd.C kStp W (some ⟨gs, 0, none⟩) 1 [s] := by
 refine ⟨rfl, by decide, fun _ => ⟨_, rfl, fun j p hj => ?_⟩⟩
 have hj0 : j = 0 := by
  have := (List.getElem?_eq_some_iff.1 hj).1
  simpa using this
 subst hj0
 simp only [List.getElem?_cons_zero, Option.some.injEq] at hj
 subst hj
 refine ⟨_, rfl, k42_mk W s l0 g0 l2 g2, fun i u hu => ?_⟩
 rw [add_plain, Nat.zero_mul, Nat.zero_add]
 exact (bkc hb i).trans (by simpa using hu)
structure PS7 (w w4 W : World) (g cap : Nat) (q : List Stp) (v0 v1 v2 : Value) : Prop where
 h4 : Below w4.heap.size w4 W
 r : Kd.R kStp 42 W w4.heap.size (fun _ => True) (.slice (some ⟨g, 0, none⟩) q.length cap) q
 b : W.heap[w.heap.size + 1]? = some (.cells #[v0, v1, v2] 42 (0, 0))
section
variable {w w4 W W' : World} {g cap : Nat} {q : List Stp} {v0 v1 v2 : Value}
theorem PS7.below (h : PS7 w w4 W g cap q v0 v1 v2) (hb : Below W.heap.size W W') : PS7 w w4 W' g cap q v0 v1 v2 := ⟨bwt h.h4 hb, Kd.R_below h.r hb, blk_below h.b hb⟩
theorem PS7.cells (h : PS7 w w4 W g cap q v0 v1 v2) : W.cell? ⟨w.heap.size + 1, 0, none⟩ = some v0 ∧ W.cell? ⟨w.heap.size + 1, 1, none⟩ = some v1 ∧ W.cell? ⟨w.heap.size + 1, 2, none⟩ = some v2 := ⟨(bkc h.b 0).trans rfl, (bkc h.b 1).trans rfl, (bkc h.b 2).trans rfl⟩
end
def PSoundPost (w : World) (e : Ending) (w' : World) : Prop := e = .returned (.bool true) ∧ Below w.heap.size w w'
theorem psound_calls (vars : Int) (A1 : Option Addr) (c1 : Nat) (cls : List (List Int)) (A2 : Option Addr) (c2 : Nat) (p0 : List Stp) (built : Bool) (at_ : Int) (A3 : Option Addr) (c3 : Nat) (A4 : Option Addr) (c4 : Nat) (wst : Stp) (w : World)
  (hr1 : Kd.C (Kd.slice 3 (Kd.int .i64)) w A1 cls.length cls) (hc1 : cls.length ≤ c1) (hr2 : Kd.C kStp w A2 p0.length p0) (hc2 : p0.length ≤ c2)
  (hr3 : Kd.C (Kd.int .i64) w A3 wst.f0.length wst.f0) (hc3 : wst.f0.length ≤ c3) (hr4 : Kd.C (Kd.int .i64) w A4 wst.f2.length wst.f2) (hc4 : wst.f2.length ≤ c4) :
  Calls Tryz.prog 4 #[.agg #[.int .i64 vars, .slice A1 cls.length c1], .slice A2 p0.length c2, .bool built, .int .i64 at_, .agg #[.slice A3 wst.f0.length c3, .bool wst.f1, .slice A4 wst.f2.length c4]] w (PSoundPost w) := by
 obtain ⟨k, n, x, q0, q1, gi, ok, i, w1s, r, ow⟩ := ps_owed vars cls p0 built at_ wst
 have HRUN := Az.mk ow.run
 have HBAD := Az.mk ow.bad
 have HGOOD := Az.mk ow.good
 have OW := Az.mk ow
 obtain ⟨q, hq⟩ : ∃ q, soundQ built q0 q1 i w1s = q := ⟨_, rfl⟩
 rw [hq] at HRUN HBAD HGOOD
 have HQ := Az.mk hq
 have HR1 := Az.mk hr1
 have HC1 := Az.mk hc1
 have HR2 := Az.mk hr2
 have HC2 := Az.mk hc2
 have HR3 := Az.mk hr3
 have HC3 := Az.mk hc3
 have HR4 := Az.mk hr4
 have HC4 := Az.mk hc4
 clear ow hq hr1 hc1 hr2 hc2 hr3 hc3 hr4 hc4
 obtain ⟨sf0, sf1, sf2⟩ := wst
 simp only at HR3 HC3 HR4 HC4 ⊢
 have hu24 := Tryz.underlying24
 have hu45 := Tryz.underlying42
 go_enter Tryz.func4, Tryz.ntmps4
 go_wp2_with fail
 refine (awake_calls _).mono ?_
 rintro e w1 ⟨rfl, hb1⟩
 have BC1 : Az (w1.heap[w.heap.size]? = some (.cells #[.int .i64 vars, .slice A1 cls.length c1] 24 (0, 0))) := ⟨blk_below (bka (blk_new w _) _) hb1⟩
 have BW1 : Az (w1.heap[w.heap.size + 1]? = some (.cells #[.slice A3 sf0.length c3, .bool sf1, .slice A4 sf2.length c4] 42 (0, 0))) := ⟨by
  have h := blk_new (w.alloc (.cells #[.int .i64 vars, .slice A1 cls.length c1] 24)) (.cells #[.slice A3 sf0.length c3, .bool sf1, .slice A4 sf2.length c4] 42)
  rw [World.size_alloc] at h
  exact blk_below h hb1⟩
 have HB1 : Az (Below w.heap.size w w1) := ⟨bwt (bwa (bwa (Below.refl _ _) _) _) hb1⟩
 clear hb1
 have hx0 : w1.cell? ⟨w.heap.size, 0, none⟩ = some (.int .i64 vars) := (bkc BC1.out 0).trans rfl
 have hx1 : w1.cell? ⟨w.heap.size, 1, none⟩ = some (.slice A1 cls.length c1) := (bkc BC1.out 1).trans rfl
 go_wp2_with fail
 refine (nFt.calls k vars A1 c1 cls 6 30 n x w1 (Kd.C_below HR1.out HB1.out) HC1.out OW.out.fit).mono ?_
 rintro e w2 ⟨v2, rfl, hs2, hb2⟩
 obtain ⟨Ax, cx, hvx, hlx, hCx⟩ := Kd.S_reads hs2
 subst hvx
 have HLX := Az.mk hlx
 have HX2 := Az.mk hCx
 have HB2 := Az.mk (bwt HB1.out hb2)
 have BW2 := Az.mk (blk_below BW1.out hb2)
 clear hs2 hb2 hCx hlx HB1 BW1 BC1 hx0 hx1
 go_wp2_with fail
 have hft := PFewT.nfT.calls k A2 c2 (p0.map sT) 80 (q0.map sT) w2 (by rw [List.length_map]; exact C_sT (Kd.C_below HR2.out HB2.out)) (by rw [List.length_map]; exact HC2.out) OW.out.fewT
 rw [List.length_map] at hft
 refine hft.mono ?_
 clear hft
 rintro e w3 ⟨v3, rfl, hs3, hb3⟩
 obtain ⟨A0, c0, hv3, hl3, hC3⟩ := Kd.R_reads (R_ofT (Kd.S_R hs3))
 subst hv3
 have HB3 := Az.mk (bwt HB2.out hb3)
 have HX3 := Az.mk (Kd.C_below HX2.out hb3)
 have BW3 := Az.mk (blk_below BW2.out hb3)
 have HQ3 : Az (RdRs kStp w3 A0 c0 q0) := ⟨⟨hl3, hC3⟩⟩
 clear hs3 hb3 hl3 hC3 HB2 HX2 BW2
 go_upto_if 29 with fail
 have HM4 : Az (PSX w (w3.alloc (.cells #[.int .i64 n, .slice Ax x.length cx] 24)) w3.heap.size n Ax cx x) := ⟨⟨bwt HB3.out (below_nw _ _), blk_new w3 _, Kd.C_alloc HX3.out _⟩⟩
 have HQ4 := Az.mk (HQ3.out.below (below_nw w3 (.cells #[.int .i64 n, .slice Ax x.length cx] 24)))
 have BW4 := Az.mk (bka BW3.out (.cells #[.int .i64 n, .slice Ax x.length cx] 24))
 clear HB3 HX3 BW3 HQ3
 generalize w3.heap.size = gx at HM4 ⊢
 generalize w3.alloc (.cells #[.int .i64 n, .slice Ax x.length cx] 24) = w4 at HM4 HQ4 BW4 ⊢
 go_cut [12] from 23 (fun s12 wc => ∃ (Aq : Option Addr) (cq : Nat), s12 = .slice Aq q.length cq ∧ Az (PSX w wc gx n Ax cx x) ∧ Az (RdRs kStp wc Aq cq q))
 case first =>
  cases built with
  | false =>
   have hqe : q = q0 := by rw [← HQ.out]; simp [soundQ]
   have HQE := Az.mk hqe
   clear hqe
   go_wp2
   go_meet
   case rel => rw [HQE.out]; exact ⟨A0, c0, rfl, HM4, HQ4⟩
  | true =>
   obtain ⟨hx0, hx1⟩ := HM4.out.cells
   have HCS : Az (∀ l ∈ x, l.length ≤ 1000000) := ⟨fun l hl => by have := (OW.out.lxs l hl).1; omega⟩
   go_wp2_with fail
   refine (tree_calls w4 n (by have := OW.out.hn; omega) Ax cx x HM4.out.dx HLX.out (by have := OW.out.lx; omega) HCS.out).mono ?_
   rintro e w5 ⟨v5, rfl, hR5, hb5⟩
   rw [OW.out.grow] at hR5 ⊢
   have HM5 := Az.mk (HM4.out.below hb5)
   have HB5 := Az.mk hb5
   have BW5 := Az.mk (blk_below BW4.out hb5)
   clear hb5 HQ4 BW4 hx0 hx1
   by_cases hl : 0 < q1.length
   ·obtain ⟨hbr, hil⟩ := OW.out.bring hl
    obtain ⟨g, cap, hv5, hg1, hg2, _⟩ := Kd.R_form hR5 hl
    simp only at hv5 hR5
    subst hv5
    have HR5 := Az.mk hR5
    have HBR := Az.mk hbr
    have HIL := Az.mk hil
    have hl2 : decide (0 < q1.length) = true := decide_eq_true hl
    have HL1 := Az.mk hl
    clear hR5 hbr hil hl
    go_wp2_with fail
    have HFd : Az (PS7 w w4 w5.drew g cap q1 (.slice A3 sf0.length c3) (.bool sf1) (.slice A4 sf2.length c4)) := ⟨⟨bwt HB5.out (below_drew (Below.refl _ _)), Kd.R_drew HR5.out, bkd BW5.out⟩⟩
    clear HM5 HR5 BW5 HB5
    refine start_ (n := 12) (S := fun w' => w'.cell? ⟨w.heap.size + 1, 0, none⟩ = some (.slice A3 sf0.length c3) ∧ w'.cell? ⟨w.heap.size + 1, 1, none⟩ = some (.bool sf1) ∧ w'.cell? ⟨w.heap.size + 1, 2, none⟩ = some (.slice A4 sf2.length c4)) (ds := [11]) #[false, false, false, false, false, false, false, false, false, false, false, false] (by kernel_rfl) rfl rfl HFd.out.cells (fun hHeld => ?_); refine with_tabW psoundR7.tab psoundR7.bits (fun HT_ HW_ => ?_)
    generalize w5.drew = wd at HFd hHeld ⊢
    refine pure_ (i := 0) (N := some 38) (v := ?_) (a' := ?_) (bA 12 1) rfl rfl (aof HT_.out (by kernel_rfl)) (fun _ _ _ h => h) (Or.inl ⟨by rfl, ?_⟩) ?_ ?_
    rotate_left
    ·intro w'
     go_simp
     with_reducible rfl
    rotate_left
    ·simp only [Act.put, zq1, zq2, zq3, iw, jw]
     rfl
    refine pure_ (i := 1) (N := some 39) (v := ?_) (a' := ?_) (bA 12 3) rfl rfl (aof HT_.out (by kernel_rfl)) (fun _ _ _ h => h) (Or.inl ⟨by rfl, ?_⟩) ?_ ?_
    rotate_left
    ·intro w'
     go_simp
     with_reducible rfl
    rotate_left
    ·simp only [Act.put, zq1, zq2, zq3, iw, jw]
     rfl
    refine pure_ (i := 2) (N := some 40) (v := ?_) (a' := ?_) (bA 12 7) rfl rfl (aof HT_.out (by kernel_rfl)) (fun _ _ _ h => h) (Or.inl ⟨by rfl, ?_⟩) ?_ ?_
    rotate_left
    ·intro w'
     go_simp
     with_reducible rfl
    rotate_left
    ·simp only [Act.put, zq1, zq2, zq3, iw, jw]
     rfl
    refine pure_ (i := 3) (N := some 41) (v := ?_) (a' := ?_) (bA 12 15) rfl rfl (aof HT_.out (by kernel_rfl)) (fun _ _ _ h => h) (Or.inl ⟨by rfl, ?_⟩) ?_ ?_
    rotate_left
    ·intro w'
     go_simp
     with_reducible rfl
    rotate_left
    ·simp only [Act.put, zq1, zq2, zq3, iw, jw]
     rfl
    refine take_ (i := 5) (N := some 43) (v := ?_) (a' := ?_) (bA 12 47) rfl rfl (tof HT_.out HW_.out (by kernel_rfl)) (fun _ _ _ h => h) (Or.inl ⟨by rfl, ?_⟩) hHeld ?_ ?_
    rotate_left
    ·rintro w' ⟨s0, s1, s2⟩
     go_simp
     with_reducible rfl
    rotate_left
    ·simp only [Act.put, zq1, zq2, zq3, iw, jw]
     rfl
    refine join_ (σ := Nat) 5 (bA 12 127) (fun gs => [(42, .int .i64 i), (44, .slice (some ⟨gs, 0, none⟩) 1 1)]) (fun gs W' => Az (PS7 w w4 W' g cap q1 (.slice A3 sf0.length c3) (.bool sf1) (.slice A4 sf2.length c4)) ∧ Az (W'.heap[gs]? = some (.cells #[.slice A3 sf0.length c3, .bool sf1, .slice A4 sf2.length c4] 42 (0, 0)))) ?_ ?_
    rotate_left
    ·intro hCont
     refine two_ (i := 4) (j := 6) (Ni := some 42) (Nj := some 44) (bA 12 63) (bA 12 111) rfl rfl rfl rfl (two_of HT_.out (by kernel_rfl)) (by decide) (by decide) (fun K hK => ?_) (fun K hK => ?_)
     ·skip
      refine goes_ Tryz.func23 (by kernel_rfl) rfl #[.int .i64 at_, .int .i64 (q1.length : Int)] (by rfl) rfl rfl (by (try simp only [List.map_toArray, List.map_cons, List.map_nil]); first | done | rfl) ?_
      refine (nBr.calls at_ (q1.length : Int) i wd HBR.out).mono ?_
      rintro e we ⟨rfl, hd⟩
      have HFe := Az.mk (HFd.out.below hd.below)
      refine ⟨_, rfl, ?_⟩
      refine hK.out _ _ HFe.out.cells (fun hHeld => ?_)
      clear hK K hd
      refine norm_ (a' := ?_) ?_ ?_
      rotate_left
      ·show Act.put _ (some 42) _ = _
       simp only [Act.put, zq1, zq2, zq3, iw, jw]
       rfl
      refine QW.PrintLast.one_ (i := 6) (N := some 44) (bA 12 127) rfl rfl (one_of HT_.out (by kernel_rfl)) (by decide) (fun K hK => ?_)
      refine value_ (w1 := ?_) (v := ?_) (by rfl) rfl ?_ ?_
      rotate_left 2
      ·go_simp
       constructor
       ·rfl
       ·rfl
      have HFf := Az.mk (HFe.out.below (below_nw we (.cells #[.slice A3 sf0.length c3, .bool sf1, .slice A4 sf2.length c4] 42)))
      refine hK.out _ _ HFf.out.cells (fun hHeld => ?_)
      clear hK K
      refine norm_ (a' := ?_) ?_ ?_
      rotate_left
      ·show Act.put _ (some 44) _ = _
       simp only [Act.put, zq1, zq2, zq3, iw, jw]
       rfl
      exact norm_ (by first | (simp only [putAll, Act.put, zq1, zq2, zq3]; done) | (simp only [putAll, Act.put, zq1, zq2, zq3]; rfl)) (hCont we.heap.size _ ⟨HFf, ⟨blk_new we _⟩⟩)
     ·skip
      refine value_ (w1 := ?_) (v := ?_) (by rfl) rfl ?_ ?_
      rotate_left 2
      ·go_simp
       constructor
       ·rfl
       ·rfl
      have HFe := Az.mk (HFd.out.below (below_nw wd (.cells #[.slice A3 sf0.length c3, .bool sf1, .slice A4 sf2.length c4] 42)))
      refine hK.out _ _ HFe.out.cells (fun hHeld => ?_)
      clear hK K
      refine norm_ (a' := ?_) ?_ ?_
      rotate_left
      ·show Act.put _ (some 44) _ = _
       simp only [Act.put, zq1, zq2, zq3, iw, jw]
       rfl
      have HBe : Az ((wd.alloc (.cells #[.slice A3 sf0.length c3, .bool sf1, .slice A4 sf2.length c4] 42)).heap[wd.heap.size]? = some (.cells #[.slice A3 sf0.length c3, .bool sf1, .slice A4 sf2.length c4] 42 (0, 0))) := ⟨blk_new wd _⟩
      generalize wd.alloc (.cells #[.slice A3 sf0.length c3, .bool sf1, .slice A4 sf2.length c4] 42) = we at HFe HBe hHeld ⊢
      refine QW.PrintLast.one_ (i := 4) (N := some 42) (bA 12 127) rfl rfl (one_of HT_.out (by kernel_rfl)) (by decide) (fun K hK => ?_)
      refine goes_ Tryz.func23 (by kernel_rfl) rfl #[.int .i64 at_, .int .i64 (q1.length : Int)] (by rfl) rfl rfl (by (try simp only [List.map_toArray, List.map_cons, List.map_nil]); first | done | rfl) ?_
      refine (nBr.calls at_ (q1.length : Int) i we HBR.out).mono ?_
      rintro e wf ⟨rfl, hd⟩
      have HFf := Az.mk (HFe.out.below hd.below)
      have HBf := Az.mk (blk_below HBe.out hd.below)
      refine ⟨_, rfl, ?_⟩
      refine hK.out _ _ HFf.out.cells (fun hHeld => ?_)
      clear hK K hd
      refine norm_ (a' := ?_) ?_ ?_
      rotate_left
      ·show Act.put _ (some 42) _ = _
       simp only [Act.put, zq1, zq2, zq3, iw, jw]
       rfl
      exact norm_ (by first | (simp only [putAll, Act.put, zq1, zq2, zq3]; done) | (simp only [putAll, Act.put, zq1, zq2, zq3]; rfl)) (hCont wd.heap.size _ ⟨HFf, HBf⟩)
    rintro gs wb ⟨HFb, HGb⟩
    clear HFd hHeld
    refine norm_ (a' := ?_) ?_ ?_
    rotate_left
    ·simp only [putAll, Act.put, zq1, zq2, zq3]
     rfl
    refine QW.PrintLast.one_ (i := 7) (N := some 45) (bA 12 255) rfl rfl (one_of HT_.out (by kernel_rfl)) (by decide) (fun K hK => ?_)
    have HWC : Az (Kd.C kStp wb (some ⟨gs, 0, none⟩) 1 [(⟨sf0, sf1, sf2⟩ : Stp)]) := ⟨C_one (s := ⟨sf0, sf1, sf2⟩) HGb.out HC3.out (Kd.C_below HR3.out (bwt HM4.out.hb HFb.out.h4)) HC4.out (Kd.C_below HR4.out (bwt HM4.out.hb HFb.out.h4))⟩
    refine goes_ Tryz.func10 (by kernel_rfl) rfl #[.slice (some ⟨gs, 0, none⟩) 1 1, .int .i64 1] (by rfl) rfl rfl (by (try simp only [List.map_toArray, List.map_cons, List.map_nil]); first | done | rfl) ?_
    refine (PFewT.nfT.calls k (some ⟨gs, 0, none⟩) 1 ([(⟨sf0, sf1, sf2⟩ : Stp)].map sT) 1 ([w1s].map sT) wb (C_sT HWC.out) (by simp) OW.out.fewW).mono ?_
    rintro e wc ⟨v7, rfl, hs7, hb7⟩
    have hR7 := R_ofT (Kd.S_R hs7)
    obtain ⟨g7, cap7, hv7, _, hg7, _⟩ := Kd.R_form hR7 (by simp)
    simp only [List.length_singleton] at hv7
    subst hv7
    obtain ⟨B0, d0, B2, d2, hc0, hc1, hc2, hMs⟩ := stp_one hR7
    have HC0 := Az.mk hc0
    have HC1 := Az.mk hc1
    have HC2 := Az.mk hc2
    have HMs : Az (kStp.M wc w4.heap.size (fun k => k ≠ g) w1s [.slice B0 w1s.f0.length d0, .bool w1s.f1, .slice B2 w1s.f2.length d2]) := ⟨kStp.M_lower HFb.out.h4.size (kStp.M_mono (fun k hk => Nat.ne_of_gt (Nat.lt_of_lt_of_le (Kd.R_lt HFb.out.r g (by simp [Value.ownBlock])) hk.2.1)) (kStp.M_bound hMs))⟩
    have HFc := Az.mk (HFb.out.below hb7)
    clear hs7 hb7 hR7 hc0 hc1 hc2 hMs HWC HGb HFb
    refine ⟨_, rfl, ?_⟩
    refine hK.out _ _ HFc.out.cells (fun hHeld => ?_)
    clear hK K
    refine norm_ (a' := ?_) ?_ ?_
    rotate_left
    ·show Act.put _ (some 45) _ = _
     simp only [Act.put, zq1, zq2, zq3, iw, jw]
     rfl
    refine pure_ (i := 8) (N := some 46) (v := ?_) (a' := ?_) (bA 12 511) rfl rfl (aof HT_.out (by kernel_rfl)) (fun _ _ _ h => h) (Or.inl ⟨by rfl, ?_⟩) ?_ ?_
    rotate_left
    ·intro w'
     go_simp
     with_reducible rfl
    rotate_left
    ·simp only [Act.put, zq1, zq2, zq3, iw, jw]
     rfl
    refine QW.PrintLast.one_ (i := 9) (N := some 47) (bA 12 1023) rfl rfl (one_of HT_.out (by kernel_rfl)) (by decide) (fun K hK => ?_)
    have hc0 := HC0.out
    have hc1 := HC1.out
    have hc2 := HC2.out
    refine value_ (w1 := ?_) (v := ?_) (by rfl) rfl ?_ ?_
    rotate_left 2
    ·go_simp
     constructor
     ·rfl
     ·rfl
    refine hK.out _ _ HFc.out.cells (fun hHeld => ?_)
    clear hK K hc0 hc1 hc2
    refine norm_ (a' := ?_) ?_ ?_
    rotate_left
    ·show Act.put _ (some 47) _ = _
     simp only [Act.put, zq1, zq2, zq3, iw, jw]
     rfl
    have hiq := HIL.out
    refine pure_ (i := 10) (N := some 48) (v := ?_) (a' := ?_) (bA 12 2047) rfl rfl (aof HT_.out (by kernel_rfl)) (fun _ _ _ h => h) (Or.inl ⟨by rfl, ?_⟩) ?_ ?_
    rotate_left
    ·intro w'
     go_simp
     with_reducible rfl
    rotate_left
    ·simp only [Act.put, zq1, zq2, zq3, iw, jw]
     rfl
    clear hiq
    refine last_ (i := 11) (N := none) (bA 12 4095) rfl rfl (one_of HT_.out (by kernel_rfl)) (by decide) (fun K hK => ?_)
    obtain ⟨ce, hcl, hcc⟩ := stp_elem HFc.out.r i (by have := HIL.out; omega)
    refine R_store_lst kStp (w0 := w4) w4.heap.size (by rfl) rfl 42 (.tmp 48) (.tmp 47) rfl 42 (i : Int) 0 q1 w1s (.agg #[.slice B0 w1s.f0.length d0, .bool w1s.f1, .slice B2 w1s.f2.length d2]) [.slice B0 w1s.f0.length d0, .bool w1s.f1, .slice B2 w1s.f2.length d2] ce (fun _ => True) (fun k => k ≠ g) rfl ?sO rfl rfl ?sT ?sU HFc.out.r (by omega) (by have := HIL.out; omega) hcl hcc (Nat.le_refl 3) ?sM (fun k hk => ⟨trivial, hk⟩) HFc.out.h4 ?_
    case sO => rfl
    case sT => kernel_rfl
    case sU => intro u hu; simp only [List.mem_cons, List.not_mem_nil, or_false] at hu; rcases hu with rfl | rfl | rfl <;> rfl
    case sM => rw [List.take_zero, List.nil_append]; show kStp.M _ _ _ _ (_ ++ List.drop 3 ce); rw [List.drop_eq_nil_of_le (show ce.length ≤ 3 from Nat.le_of_eq hcl), List.append_nil]; exact HMs.out
    intro wg hrg hbg hgg
    have HBG := Az.mk hbg
    obtain ⟨hnq, hcq, hCq⟩ := Kd.R_reads' hrg
    have HQR : Az (RdRs kStp wg (some ⟨g, 0, none⟩) cap (q1.set (i : Int).toNat w1s)) := ⟨⟨by rw [← hnq]; exact hcq, hCq⟩⟩
    clear hrg hbg hgg hnq hcq hCq
    refine hK.out _ _ ?_
    clear hK K
    refine done_ (done_of HT_.out (by kernel_rfl)) ?_
    clear HT_ HW_
    have hqe : q = q1.set i w1s := by rw [← HQ.out]; simp [soundQ, HL1.out]
    have HQE := Az.mk hqe
    clear hqe
    go_wp2
    go_meet
    case rel => rw [HQE.out]; exact ⟨some ⟨g, 0, none⟩, cap, by rw [List.length_set], ⟨HM4.out.below HBG.out⟩, ⟨HQR.out⟩⟩
   ·have hqe : q = q1 := by rw [← HQ.out]; simp [soundQ, hl]
    obtain ⟨A5, c5, hv5, hl5, hC5⟩ := Kd.R_reads hR5
    simp only at hv5 hl5 hC5
    subst hv5
    have HQ5 : Az (RdRs kStp w5 A5 c5 q1) := ⟨⟨hl5, hC5⟩⟩
    have hl2 : decide (0 < q1.length) = false := decide_eq_false hl
    have HQE := Az.mk hqe
    clear hl hR5 hl5 hC5 hqe
    go_wp2
    go_meet
    case rel => rw [HQE.out]; exact ⟨A5, c5, rfl, HM5, HQ5⟩
 case rest =>
  clear HM4 HQ4 BW4
  obtain ⟨Aq, cq, rfl, HM, HQR⟩ := hcut
  obtain ⟨hx0, hx1⟩ := HM.out.cells
  have HLX9 : Az (x.length ≤ 4611686018427000000) := ⟨by have := OW.out.lx; omega⟩
  go_wp2_with fail
  refine (check_calls k n Ax cx x Aq cq q r wc HM.out.dx HLX.out HQR.out.c HQR.out.le HRUN.out HLX9.out).mono ?_
  rintro e w6 ⟨rfl, hb6⟩
  have HM6 := Az.mk (HM.out.below hb6)
  have HQ6 := Az.mk (HQR.out.below hb6)
  clear hb6 HM HQR hx0 hx1
  obtain ⟨hx0, hx1⟩ := HM6.out.cells
  go_wp2_with fail
  refine (core_calls k n Ax cx x Aq cq q r w6 HM6.out.dx HLX.out HQ6.out.c HQ6.out.le HRUN.out HLX9.out OW.out.us).mono ?_
  rintro e w7 ⟨v7, rfl, hr7, hb7⟩
  have HM7 := Az.mk (HM6.out.below hb7)
  obtain ⟨A7, c7, hv7, hl7, hC7⟩ := Kd.R_reads hr7
  have HC7 : Az (RdRs (Kd.int .i64) w7 A7 c7 (coreF x.length q r).1) := ⟨⟨hl7, hC7⟩⟩
  clear hr7 hb7 hl7 hC7 HM6 HQ6 hx0 hx1
  subst hv7
  by_cases he : r.e = 0
  ·obtain ⟨core, good⟩ := HGOOD.out he
   have GD := Az.mk good
   rw [GD.out.coreE] at HC7 ⊢
   have he' : (r.e != 0) = false := by rw [he]; rfl
   have HE := Az.mk he
   clear good
   obtain ⟨hx0, hx1⟩ := HM7.out.cells
   go_wp2_with fail
   have HL0 : Az (PSL w7 (w7.alloc (.cells #[.int .i64 n, .slice none 0 0] 24)) w7.heap.size n (.slice none 0 0) [] []) := ⟨⟨below_nw _ _, blk_new w7 _, Kd.R_nil _ _ _ _ _, rfl, fun i sv l h => by simp at h, Nat.le_refl _⟩⟩
   have HX7 := Az.mk HM7.out.cells
   clear hx0 hx1
   generalize w7.heap.size = gf at HL0 ⊢
   generalize w7.alloc (.cells #[.int .i64 n, .slice none 0 0] 24) = w8 at HL0 ⊢
   go_loopw [18] (fun v18 wr => ∃ (j : Nat) (v : Value) (svs : List SW) (fs : List (List Int)), v18 = .int .i64 j ∧ j ≤ core.length ∧ Az (fs = (core.take j).map fun c => rL x (c - 1)) ∧ Az (PSL w7 wr gf n v svs fs)) (fun v18 _ => core.length - (intOf v18).toNat)
   case atStart => exact ⟨0, _, [], [], rfl, Nat.zero_le _, ⟨by simp⟩, HL0⟩
   case round =>
    clear HL0
    obtain ⟨j, v, svs, fs, rfl, hj, HFS, HL⟩ := hrel
    have hx0 := pwc HL.out.hb HX7.out.1
    have hx1 := pwc HL.out.hb HX7.out.2
    by_cases hlt : j < core.length
    ·obtain ⟨adc, hAc, hcc⟩ := Kd.at_int HC7.out.c (j : Int) (by omega) (by omega)
     subst hAc
     rw [rdI hlt] at hcc
     simp only [Int.toNat_natCast] at hcc
     obtain ⟨hr1, hr2⟩ := GD.out.rng core[j] (List.getElem_mem _)
     obtain ⟨adx, Ac, cc, hAx, hcl, hll, hCl⟩ := at_L1 HM7.out.dx (core[j] - 1) (by omega) (by omega)
     subst hAx
     have HPV : Az (∃ (m : Nat) (c' : Int), w7.cell? (adc.add m) = some (.int .i64 c') ∧ (0 < j → IntKind.i64.wrap ((j : Int) - 1) = (m : Int) ∧ m < core.length ∧ c' < core[j])) := ⟨by
      by_cases h0 : 0 < j
      ·have hm : j - 1 < core.length := by omega
       obtain ⟨ad', hA', hc'⟩ := Kd.at_int HC7.out.c ((j - 1 : Nat) : Int) (by omega) (by omega)
       cases hA'
       rw [rdI hm] at hc'
       simp only [Int.toNat_natCast] at hc'
       refine ⟨j - 1, core[j - 1], hc', fun _ => ⟨?_, hm, List.pairwise_iff_getElem.1 GD.out.srt (j - 1) j hm hlt (by omega)⟩⟩
       rw [iw]; unfold wrap64; have := GD.out.lc; omega
      ·exact ⟨j, core[j], hcc, fun h => absurd h h0⟩⟩
     have HTK : Az ((core.take (j + 1)).map (fun c => rL x (c - 1)) = (core.take j).map (fun c => rL x (c - 1)) ++ [rL x (core[j] - 1)]) := ⟨by rw [List.take_succ_eq_append_getElem hlt, List.map_append]; rfl⟩
     have HSL : Az (SliceOf w7 (encW (Ac, (rL x (core[j] - 1)).length, cc)) (rL x (core[j] - 1))) := ⟨_, _, rfl, hll, hCl⟩
     obtain ⟨m1, hm1⟩ : ∃ m1 : Nat, (m1 : Int) = core[j] - 1 := ⟨(core[j] - 1).toNat, by omega⟩
     have hm2 : (core[j] - 1).toNat = m1 := by omega
     rw [hm2] at hcl
     have hm3 : m1 < x.length := by omega
     have hwc : IntKind.i64.wrap (core[j] - 1) = (m1 : Int) := by rw [iw]; unfold wrap64; have := OW.out.lx; omega
     generalize rL x (core[j] - 1) = l at hcl HTK HSL
     generalize core[j] = c at hcc hr1 hr2 HPV hwc
     have HCC := Az.mk hcc
     have HCL := Az.mk hcl
     have HJ := Az.mk hlt
     have hcA : decide (c < 1) = false := decide_eq_false (by omega)
     have hcB : decide (c > (x.length : Int)) = false := decide_eq_false (by omega)
     have hjd : decide ((j : Int) < (core.length : Int)) = true := decide_eq_true (by omega)
     have hjl : (j : Int) < (core.length : Int) := by omega
     have hml : (m1 : Int) < (x.length : Int) := by omega
     clear hcc hr1 hr2 hcl hll hCl hm1 hm2 hm3 hlt
     go_wp2_with fail
     have HLd := Az.mk (HL.out.below (below_drew (Below.refl _ _)))
     obtain ⟨m, c', hcp, hprev⟩ := HPV.out
     have HCP := Az.mk hcp
     clear HL hx0 hx1 hcp HPV
     have hS0 := pwc HLd.out.hb HX7.out.2
     have hS1 := pwc HLd.out.hb HCC.out
     have hS2 := pwc HLd.out.hb HCP.out
     by_cases hj0 : 0 < j
     ·obtain ⟨hwm, hmc, hlc⟩ := hprev hj0
      have hj1 : decide (0 < j) = true := decide_eq_true hj0
      have hcC : decide (c' ≥ c) = false := decide_eq_false (by omega)
      have hmcl : (m : Int) < (core.length : Int) := by omega
      clear hprev hj0 hmc hlc
      refine start_ (n := 31) (S := fun w' => w'.cell? ⟨gx, 1, none⟩ = some (.slice (some adx) x.length cx) ∧ w'.cell? (adc.add j) = some (.int .i64 c) ∧ w'.cell? (adc.add m) = some (.int .i64 c')) (ds := []) #[false, false, false, false, false, false, false, false, false, false, false, false, false, false, false, false, false, false, false, false, false, false, false, false, false, false, false, false, false, false, false] (by kernel_rfl) rfl rfl ⟨hS0, hS1, hS2⟩ (fun hHeld => ?_); refine with_tabW psoundR16.tab psoundR16.bits (fun HT_ HW_ => ?_)
      generalize wr.drew = wd at HLd hS0 hS1 hS2 hHeld ⊢
      refine pure_ (i := 0) (N := some 80) (v := ?_) (a' := ?_) (bA 31 1) rfl rfl (aof HT_.out (by kernel_rfl)) (fun _ _ _ h => h) (Or.inl ⟨by rfl, ?_⟩) ?_ ?_
      rotate_left
      ·intro w'
       go_simp
       with_reducible rfl
      rotate_left
      ·simp only [Act.put, zq1, zq2, zq3, iw, jw]
       rfl
      refine pure_ (i := 1) (N := some 81) (v := ?_) (a' := ?_) (bA 31 3) rfl rfl (aof HT_.out (by kernel_rfl)) (fun _ _ _ h => h) (Or.inl ⟨by rfl, ?_⟩) ?_ ?_
      rotate_left
      ·intro w'
       go_simp
       with_reducible rfl
      rotate_left
      ·simp only [Act.put, zq1, zq2, zq3, iw, jw]
       rfl
      refine pure_ (i := 2) (N := some 82) (v := ?_) (a' := ?_) (bA 31 7) rfl rfl (aof HT_.out (by kernel_rfl)) (fun _ _ _ h => h) (Or.inl ⟨by rfl, ?_⟩) ?_ ?_
      rotate_left
      ·intro w'
       go_simp
       with_reducible rfl
      rotate_left
      ·simp only [Act.put, zq1, zq2, zq3, iw, jw]
       rfl
      refine take_ (i := 3) (N := some 83) (v := ?_) (a' := ?_) (bA 31 15) rfl rfl (tof HT_.out HW_.out (by kernel_rfl)) (fun _ _ _ h => h) (Or.inl ⟨by rfl, ?_⟩) hHeld ?_ ?_
      rotate_left
      ·rintro w' ⟨s0, s1, s2⟩
       go_simp
       with_reducible rfl
      rotate_left
      ·simp only [Act.put, zq1, zq2, zq3, iw, jw]
       rfl
      refine pure_ (i := 4) (N := some 84) (v := ?_) (a' := ?_) (bA 31 31) rfl rfl (aof HT_.out (by kernel_rfl)) (fun _ _ _ h => h) (Or.inl ⟨by rfl, ?_⟩) ?_ ?_
      rotate_left
      ·intro w'
       go_simp
       with_reducible rfl
      rotate_left
      ·simp only [Act.put, zq1, zq2, zq3, iw, jw]
       rfl
      refine pure_ (i := 5) (N := some 85) (v := ?_) (a' := ?_) (bA 31 63) rfl rfl (aof HT_.out (by kernel_rfl)) (fun _ _ _ h => h) (Or.inl ⟨by rfl, ?_⟩) ?_ ?_
      rotate_left
      ·intro w'
       go_simp
       with_reducible rfl
      rotate_left
      ·simp only [Act.put, zq1, zq2, zq3, iw, jw]
       rfl
      refine pure_ (i := 6) (N := some 86) (v := ?_) (a' := ?_) (bA 31 127) rfl rfl (aof HT_.out (by kernel_rfl)) (fun _ _ _ h => h) (Or.inl ⟨by rfl, ?_⟩) ?_ ?_
      rotate_left
      ·intro w'
       go_simp
       with_reducible rfl
      rotate_left
      ·simp only [Act.put, zq1, zq2, zq3, iw, jw]
       rfl
      refine pure_ (i := 7) (N := some 87) (v := ?_) (a' := ?_) (bA 31 255) rfl rfl (aof HT_.out (by kernel_rfl)) (fun _ _ _ h => h) (Or.inl ⟨by rfl, ?_⟩) ?_ ?_
      rotate_left
      ·intro w'
       go_simp
       with_reducible rfl
      rotate_left
      ·simp only [Act.put, zq1, zq2, zq3, iw, jw]
       rfl
      refine pure_ (i := 8) (N := some 88) (v := ?_) (a' := ?_) (bA 31 511) rfl rfl (aof HT_.out (by kernel_rfl)) (fun _ _ _ h => h) (Or.inl ⟨by rfl, ?_⟩) ?_ ?_
      rotate_left
      ·intro w'
       go_simp
       with_reducible rfl
      rotate_left
      ·simp only [Act.put, zq1, zq2, zq3, iw, jw]
       rfl
      refine take_ (i := 9) (N := some 89) (v := ?_) (a' := ?_) (bA 31 1023) rfl rfl (tof HT_.out HW_.out (by kernel_rfl)) (fun _ _ _ h => h) (Or.inl ⟨by rfl, ?_⟩) hHeld ?_ ?_
      rotate_left
      ·rintro w' ⟨s0, s1, s2⟩
       go_simp
       with_reducible rfl
      rotate_left
      ·simp only [Act.put, zq1, zq2, zq3, iw, jw]
       rfl
      refine pure_ (i := 10) (N := some 90) (v := ?_) (a' := ?_) (bA 31 2047) rfl rfl (aof HT_.out (by kernel_rfl)) (fun _ _ _ h => h) (Or.inl ⟨by rfl, ?_⟩) ?_ ?_
      rotate_left
      ·intro w'
       go_simp
       with_reducible rfl
      rotate_left
      ·simp only [Act.put, zq1, zq2, zq3, iw, jw]
       rfl
      refine take_ (i := 11) (N := some 91) (v := ?_) (a' := ?_) (bA 31 4095) rfl rfl (tof HT_.out HW_.out (by kernel_rfl)) (fun _ _ _ h => h) (Or.inl ⟨by rfl, ?_⟩) hHeld ?_ ?_
      rotate_left
      ·rintro w' ⟨s0, s1, s2⟩
       go_simp
       with_reducible rfl
      rotate_left
      ·simp only [Act.put, zq1, zq2, zq3, iw, jw]
       rfl
      refine pure_ (i := 12) (N := some 92) (v := ?_) (a' := ?_) (bA 31 8191) rfl rfl (aof HT_.out (by kernel_rfl)) (fun _ _ _ h => h) (Or.inl ⟨by rfl, ?_⟩) ?_ ?_
      rotate_left
      ·intro w'
       go_simp
       with_reducible rfl
      rotate_left
      ·simp only [Act.put, zq1, zq2, zq3, iw, jw]
       rfl
      refine pure_ (i := 13) (N := some 93) (v := ?_) (a' := ?_) (bA 31 16383) rfl rfl (aof HT_.out (by kernel_rfl)) (fun _ _ _ h => h) (Or.inl ⟨by rfl, ?_⟩) ?_ ?_
      rotate_left
      ·intro w'
       go_simp
       with_reducible rfl
      rotate_left
      ·simp only [Act.put, zq1, zq2, zq3, iw, jw]
       rfl
      refine pure_ (i := 14) (N := some 94) (v := ?_) (a' := ?_) (bA 31 32767) rfl rfl (aof HT_.out (by kernel_rfl)) (fun _ _ _ h => h) (Or.inl ⟨by rfl, ?_⟩) ?_ ?_
      rotate_left
      ·intro w'
       go_simp
       with_reducible rfl
      rotate_left
      ·simp only [Act.put, zq1, zq2, zq3, iw, jw]
       rfl
      refine pure_ (i := 15) (N := some 95) (v := ?_) (a' := ?_) (bA 31 65535) rfl rfl (aof HT_.out (by kernel_rfl)) (fun _ _ _ h => h) (Or.inl ⟨by rfl, ?_⟩) ?_ ?_
      rotate_left
      ·intro w'
       go_simp
       with_reducible rfl
      rotate_left
      ·simp only [Act.put, zq1, zq2, zq3, iw, jw]
       rfl
      refine pure_ (i := 16) (N := some 96) (v := ?_) (a' := ?_) (bA 31 131071) rfl rfl (aof HT_.out (by kernel_rfl)) (fun _ _ _ h => h) (Or.inl ⟨by rfl, ?_⟩) ?_ ?_
      rotate_left
      ·intro w'
       go_simp
       with_reducible rfl
      rotate_left
      ·simp only [Act.put, zq1, zq2, zq3, iw, jw]
       rfl
      refine pure_ (i := 17) (N := some 97) (v := ?_) (a' := ?_) (bA 31 262143) rfl rfl (aof HT_.out (by kernel_rfl)) (fun _ _ _ h => h) (Or.inl ⟨by rfl, ?_⟩) ?_ ?_
      rotate_left
      ·intro w'
       go_simp
       with_reducible rfl
      rotate_left
      ·simp only [Act.put, zq1, zq2, zq3, iw, jw]
       rfl
      refine pure_ (i := 18) (N := some 98) (v := ?_) (a' := ?_) (bA 31 524287) rfl rfl (aof HT_.out (by kernel_rfl)) (fun _ _ _ h => h) (Or.inl ⟨by rfl, ?_⟩) ?_ ?_
      rotate_left
      ·intro w'
       go_simp
       with_reducible rfl
      rotate_left
      ·simp only [Act.put, zq1, zq2, zq3, iw, jw]
       rfl
      refine pure_ (i := 19) (N := some 99) (v := ?_) (a' := ?_) (bA 31 1048575) rfl rfl (aof HT_.out (by kernel_rfl)) (fun _ _ _ h => h) (Or.inl ⟨by rfl, ?_⟩) ?_ ?_
      rotate_left
      ·intro w'
       go_simp
       with_reducible rfl
      rotate_left
      ·simp only [Act.put, zq1, zq2, zq3, iw, jw]
       rfl
      refine pure_ (i := 20) (N := some 100) (v := ?_) (a' := ?_) (bA 31 2097151) rfl rfl (aof HT_.out (by kernel_rfl)) (fun _ _ _ h => h) (Or.inl ⟨by rfl, ?_⟩) ?_ ?_
      rotate_left
      ·intro w'
       go_simp
       with_reducible rfl
      rotate_left
      ·simp only [Act.put, zq1, zq2, zq3, iw, jw]
       rfl
      refine pure_ (i := 21) (N := some 101) (v := ?_) (a' := ?_) (bA 31 4194303) rfl rfl (aof HT_.out (by kernel_rfl)) (fun _ _ _ h => h) (Or.inl ⟨by rfl, ?_⟩) ?_ ?_
      rotate_left
      ·intro w'
       go_simp
       with_reducible rfl
      rotate_left
      ·simp only [Act.put, zq1, zq2, zq3, iw, jw]
       rfl
      refine pure_ (i := 22) (N := some 102) (v := ?_) (a' := ?_) (bA 31 8388607) rfl rfl (aof HT_.out (by kernel_rfl)) (fun _ _ _ h => h) (Or.inl ⟨by rfl, ?_⟩) ?_ ?_
      rotate_left
      ·intro w'
       go_simp
       with_reducible rfl
      rotate_left
      ·simp only [Act.put, zq1, zq2, zq3, iw, jw]
       rfl
      refine take_ (i := 23) (N := some 103) (v := ?_) (a' := ?_) (bA 31 16777215) rfl rfl (tof HT_.out HW_.out (by kernel_rfl)) (fun _ _ _ h => h) (Or.inl ⟨by rfl, ?_⟩) hHeld ?_ ?_
      rotate_left
      ·rintro w' ⟨s0, s1, s2⟩
       go_simp
       with_reducible rfl
      rotate_left
      ·simp only [Act.put, zq1, zq2, zq3, iw, jw]
       rfl
      refine pure_ (i := 24) (N := some 104) (v := ?_) (a' := ?_) (bA 31 33554431) rfl rfl (aof HT_.out (by kernel_rfl)) (fun _ _ _ h => h) (Or.inl ⟨by rfl, ?_⟩) ?_ ?_
      rotate_left
      ·intro w'
       go_simp
       with_reducible rfl
      rotate_left
      ·simp only [Act.put, zq1, zq2, zq3, iw, jw]
       rfl
      refine pure_ (i := 25) (N := some 105) (v := ?_) (a' := ?_) (bA 31 67108863) rfl rfl (aof HT_.out (by kernel_rfl)) (fun _ _ _ h => h) (Or.inl ⟨by rfl, ?_⟩) ?_ ?_
      rotate_left
      ·intro w'
       go_simp
       with_reducible rfl
      rotate_left
      ·simp only [Act.put, zq1, zq2, zq3, iw, jw]
       rfl
      refine pure_ (i := 26) (N := some 106) (v := ?_) (a' := ?_) (bA 31 134217727) rfl rfl (aof HT_.out (by kernel_rfl)) (fun _ _ _ h => h) (Or.inl ⟨by rfl, ?_⟩) ?_ ?_
      rotate_left
      ·intro w'
       go_simp
       with_reducible rfl
      rotate_left
      ·simp only [Act.put, zq1, zq2, zq3, iw, jw]
       rfl
      refine take_ (i := 27) (N := some 107) (v := ?_) (a' := ?_) (bA 31 268435455) rfl rfl (tof HT_.out HW_.out (by kernel_rfl)) (fun _ _ _ h => h) (Or.inl ⟨by rfl, ?_⟩) hHeld ?_ ?_
      rotate_left
      ·rintro w' ⟨s0, s1, s2⟩
       go_simp
       with_reducible rfl
      rotate_left
      ·simp only [Act.put, zq1, zq2, zq3, iw, jw]
       rfl
      refine pure_ (i := 28) (N := some 108) (v := ?_) (a' := ?_) (bA 31 536870911) rfl rfl (aof HT_.out (by kernel_rfl)) (fun _ _ _ h => h) (Or.inl ⟨by rfl, ?_⟩) ?_ ?_
      rotate_left
      ·intro w'
       go_simp
       with_reducible rfl
      rotate_left
      ·simp only [Act.put, zq1, zq2, zq3, iw, jw]
       rfl
      refine pure_ (i := 29) (N := some 109) (v := ?_) (a' := ?_) (bA 31 1073741823) rfl rfl (aof HT_.out (by kernel_rfl)) (fun _ _ _ h => h) (Or.inl ⟨by rfl, ?_⟩) ?_ ?_
      rotate_left
      ·intro w'
       go_simp
       with_reducible rfl
      rotate_left
      ·simp only [Act.put, zq1, zq2, zq3, iw, jw]
       rfl
      refine pure_ (i := 30) (N := some 110) (v := ?_) (a' := ?_) (bA 31 2147483647) rfl rfl (aof HT_.out (by kernel_rfl)) (fun _ _ _ h => h) (Or.inl ⟨by rfl, ?_⟩) ?_ ?_
      rotate_left
      ·intro w'
       go_simp
       with_reducible rfl
      rotate_left
      ·simp only [Act.put, zq1, zq2, zq3, iw, jw]
       rfl
      refine done_ (done_of HT_.out (by kernel_rfl)) ?_
      clear HT_ HW_ hHeld
      go_wp2_with fail
      have HLf := Az.mk (HLd.out.below (below_drew (Below.refl _ _)))
      clear HLd hS0 hS1 hS2
      have hS0 := pwc HLf.out.hb HX7.out.2
      have hS1 := pwc HLf.out.hb HCC.out
      have hS2 := pwc HLf.out.hb HCL.out
      refine start_ (n := 15) (S := fun w' => w'.cell? ⟨gf, 1, none⟩ = some v ∧ w'.cell? ⟨gx, 1, none⟩ = some (.slice (some adx) x.length cx) ∧ w'.cell? (adc.add j) = some (.int .i64 c) ∧ w'.cell? (adx.add m1) = some (.slice Ac l.length cc)) (ds := [14]) #[false, false, false, false, false, false, false, false, false, false, false, false, false, false, false] (by kernel_rfl) rfl rfl ⟨(bkc HLf.out.bf 1).trans rfl, hS0, hS1, hS2⟩ (fun hHeld => ?_); refine with_tabW psoundR18.tab psoundR18.bits (fun HT_ HW_ => ?_)
      generalize wd.drew = wf at HLf hS0 hS1 hS2 hHeld ⊢
      refine pure_ (i := 0) (N := some 111) (v := ?_) (a' := ?_) (bA 15 1) rfl rfl (aof HT_.out (by kernel_rfl)) (fun _ _ _ h => h) (Or.inl ⟨by rfl, ?_⟩) ?_ ?_
      rotate_left
      ·intro w'
       go_simp
       with_reducible rfl
      rotate_left
      ·simp only [Act.put, zq1, zq2, zq3, iw, jw]
       rfl
      refine pure_ (i := 2) (N := some 113) (v := ?_) (a' := ?_) (bA 15 5) rfl rfl (aof HT_.out (by kernel_rfl)) (fun _ _ _ h => h) (Or.inl ⟨by rfl, ?_⟩) ?_ ?_
      rotate_left
      ·intro w'
       go_simp
       with_reducible rfl
      rotate_left
      ·simp only [Act.put, zq1, zq2, zq3, iw, jw]
       rfl
      refine pure_ (i := 4) (N := some 115) (v := ?_) (a' := ?_) (bA 15 21) rfl rfl (aof HT_.out (by kernel_rfl)) (fun _ _ _ h => h) (Or.inl ⟨by rfl, ?_⟩) ?_ ?_
      rotate_left
      ·intro w'
       go_simp
       with_reducible rfl
      rotate_left
      ·simp only [Act.put, zq1, zq2, zq3, iw, jw]
       rfl
      refine pure_ (i := 5) (N := some 116) (v := ?_) (a' := ?_) (bA 15 53) rfl rfl (aof HT_.out (by kernel_rfl)) (fun _ _ _ h => h) (Or.inl ⟨by rfl, ?_⟩) ?_ ?_
      rotate_left
      ·intro w'
       go_simp
       with_reducible rfl
      rotate_left
      ·simp only [Act.put, zq1, zq2, zq3, iw, jw]
       rfl
      refine pure_ (i := 6) (N := some 117) (v := ?_) (a' := ?_) (bA 15 117) rfl rfl (aof HT_.out (by kernel_rfl)) (fun _ _ _ h => h) (Or.inl ⟨by rfl, ?_⟩) ?_ ?_
      rotate_left
      ·intro w'
       go_simp
       with_reducible rfl
      rotate_left
      ·simp only [Act.put, zq1, zq2, zq3, iw, jw]
       rfl
      refine take_ (i := 1) (N := some 112) (v := ?_) (a' := ?_) (bA 15 119) rfl rfl (tof HT_.out HW_.out (by kernel_rfl)) (fun _ _ _ h => h) (Or.inl ⟨by rfl, ?_⟩) hHeld ?_ ?_
      rotate_left
      ·rintro w' ⟨s0, s1, s2, s3⟩
       go_simp
       with_reducible rfl
      rotate_left
      ·simp only [Act.put, zq1, zq2, zq3, iw, jw]
       rfl
      refine take_ (i := 3) (N := some 114) (v := ?_) (a' := ?_) (bA 15 127) rfl rfl (tof HT_.out HW_.out (by kernel_rfl)) (fun _ _ _ h => h) (Or.inl ⟨by rfl, ?_⟩) hHeld ?_ ?_
      rotate_left
      ·rintro w' ⟨s0, s1, s2, s3⟩
       go_simp
       with_reducible rfl
      rotate_left
      ·simp only [Act.put, zq1, zq2, zq3, iw, jw]
       rfl
      refine take_ (i := 7) (N := some 118) (v := ?_) (a' := ?_) (bA 15 255) rfl rfl (tof HT_.out HW_.out (by kernel_rfl)) (fun _ _ _ h => h) (Or.inl ⟨by rfl, ?_⟩) hHeld ?_ ?_
      rotate_left
      ·rintro w' ⟨s0, s1, s2, s3⟩
       go_simp
       with_reducible rfl
      rotate_left
      ·simp only [Act.put, zq1, zq2, zq3, iw, jw]
       rfl
      refine pure_ (i := 8) (N := some 119) (v := ?_) (a' := ?_) (bA 15 511) rfl rfl (aof HT_.out (by kernel_rfl)) (fun _ _ _ h => h) (Or.inl ⟨by rfl, ?_⟩) ?_ ?_
      rotate_left
      ·intro w'
       go_simp
       with_reducible rfl
      rotate_left
      ·simp only [Act.put, zq1, zq2, zq3, iw, jw]
       rfl
      refine pure_ (i := 9) (N := some 120) (v := ?_) (a' := ?_) (bA 15 1023) rfl rfl (aof HT_.out (by kernel_rfl)) (fun _ _ _ h => h) (Or.inl ⟨by rfl, ?_⟩) ?_ ?_
      rotate_left
      ·intro w'
       go_simp
       with_reducible rfl
      rotate_left
      ·simp only [Act.put, zq1, zq2, zq3, iw, jw]
       rfl
      refine take_ (i := 10) (N := some 121) (v := ?_) (a' := ?_) (bA 15 2047) rfl rfl (tof HT_.out HW_.out (by kernel_rfl)) (fun _ _ _ h => h) (Or.inl ⟨by rfl, ?_⟩) hHeld ?_ ?_
      rotate_left
      ·rintro w' ⟨s0, s1, s2, s3⟩
       go_simp
       with_reducible rfl
      rotate_left
      ·simp only [Act.put, zq1, zq2, zq3, iw, jw]
       rfl
      refine QW.PrintLast.one_ (i := 11) (N := some 122) (bA 15 4095) rfl rfl (one_of HT_.out (by kernel_rfl)) (by decide) (fun K hK => ?_)
      refine value_ (w1 := ?_) (v := ?_) (by rfl) rfl ?_ ?_
      rotate_left 2
      ·go_simp
       constructor
       ·rfl
       ·rfl
      have HLg := Az.mk (HLf.out.below (below_nw wf (.cells #[.slice Ac l.length cc] 31)))
      refine hK.out _ _ ⟨(bkc HLg.out.bf 1).trans rfl, pwc HLg.out.hb HX7.out.2, pwc HLg.out.hb HCC.out, pwc HLg.out.hb HCL.out⟩ (fun hHeld => ?_)
      clear hK K HLg
      refine norm_ (a' := ?_) ?_ ?_
      rotate_left
      ·show Act.put _ (some 122) _ = _
       simp only [Act.put, zq1, zq2, zq3, iw, jw]
       rfl
      refine QW.PrintLast.one_ (i := 12) (N := some 123) (bA 15 8191) rfl rfl (one_of HT_.out (by kernel_rfl)) (by decide) (fun K hK => ?_)
      refine Kd.R_append_step kSW (w0 := w7) w7.heap.size (by rfl) (.tmp 112) (.tmp 122) 22 31 (.slice none 0 0) 24 rfl Tryz.underlying22 infoSW rfl (by decide) (by omega) v svs (Ac, l.length, cc) [.slice Ac l.length cc] (fun k => k ≠ gf) (fun _ => False) rfl rfl ?aP (fun _ hk => hk.elim) ?aF ?aO ?aB ?aS ?aL ?_
      (case aP => exact rfl)
      (case aF => exact fun k hk => Nat.ne_of_gt (Nat.lt_of_lt_of_le (blk_lt HLf.out.bf) hk))
      (case aO => exact HLf.out.row)
      (case aB => exact HLf.out.hb)
      (case aS => exact HLf.out.hb.size)
      (case aL => have h1 := GD.out.lc; have h2 := HLf.out.len; have h3 := HFS.out; have h4 : fs.length ≤ 31 := (by rw [h3]; simp; omega); omega)
      intro v9 w9 ho hb hg hat
      obtain ⟨sw2, hsw2⟩ : ∃ y, svs ++ [(Ac, l.length, cc)] = y := ⟨_, rfl⟩
      have HO9 := Az.mk ho
      rw [hsw2] at ho
      obtain ⟨A9, c9, e9⟩ := Kd.R_slice ho
      subst e9
      have BY9 := Az.mk (bkg HLf.out.bf hg (Kd.R_ne HLf.out.row HLf.out.bf (by decide)))
      have HB9 := Az.mk hb
      refine hK.out _ _ ⟨(bkc BY9.out 1).trans rfl, pwc hb HX7.out.2, pwc hb HCC.out, pwc hb HCL.out⟩ (fun hHeld => ?_)
      clear hK K ho hb hg hat hsw2
      refine norm_ (a' := ?_) ?_ ?_
      rotate_left
      ·show Act.put _ (some 123) _ = _
       simp only [Act.put, zq1, zq2, zq3, iw, jw]
       rfl
      refine pure_ (i := 13) (N := some 124) (v := ?_) (a' := ?_) (bA 15 16383) rfl rfl (aof HT_.out (by kernel_rfl)) (fun _ _ _ h => h) (Or.inl ⟨by rfl, ?_⟩) ?_ ?_
      rotate_left
      ·intro w'
       go_simp
       with_reducible rfl
      rotate_left
      ·simp only [Act.put, zq1, zq2, zq3, iw, jw]
       rfl
      refine last_ (i := 14) (N := none) (bA 15 32767) rfl rfl (one_of HT_.out (by kernel_rfl)) (by decide) (fun K hK => ?_)
      have hs : w9.cell? ⟨gf, 1, none⟩ = some v := (bkc BY9.out 1).trans rfl
      have hfs := bkf BY9.out 1
      refine skip_ (w1 := ?_) (by rfl) rfl ?_ ?_
      rotate_left
      ·go_simp
       rfl
      refine hK.out _ _ ?_
      clear hK K hs hfs hHeld
      refine done_ (done_of HT_.out (by kernel_rfl)) ?_
      clear HT_ HW_
      have HLN := Az.mk (PSL.store HLf.out HB9.out BY9.out HO9.out HSL.out)
      clear HB9 BY9 HO9 HLf
      go_wp2
      go_roundw
      case rel => exact ⟨j + 1, _, svs ++ [(Ac, l.length, cc)], fs ++ [l], by rw [wrap_succ HJ.out (by have := GD.out.lc; omega)], by have := HJ.out; omega, ⟨by rw [HTK.out, HFS.out]⟩, HLN⟩
      case measure => exact meas_x HJ.out (wrap_succ HJ.out (by have := GD.out.lc; omega))
     ·have hj1 : decide (0 < j) = false := decide_eq_false hj0
      clear hprev hj0
      refine start_ (n := 31) (S := fun w' => w'.cell? ⟨gx, 1, none⟩ = some (.slice (some adx) x.length cx) ∧ w'.cell? (adc.add j) = some (.int .i64 c) ∧ w'.cell? (adc.add m) = some (.int .i64 c')) (ds := []) #[false, false, false, false, false, false, false, false, false, false, false, false, false, false, false, false, false, false, false, false, false, false, false, false, false, false, false, false, false, false, false] (by kernel_rfl) rfl rfl ⟨hS0, hS1, hS2⟩ (fun hHeld => ?_); refine with_tabW psoundR16.tab psoundR16.bits (fun HT_ HW_ => ?_)
      generalize wr.drew = wd at HLd hS0 hS1 hS2 hHeld ⊢
      refine pure_ (i := 0) (N := some 80) (v := ?_) (a' := ?_) (bA 31 1) rfl rfl (aof HT_.out (by kernel_rfl)) (fun _ _ _ h => h) (Or.inl ⟨by rfl, ?_⟩) ?_ ?_
      rotate_left
      ·intro w'
       go_simp
       with_reducible rfl
      rotate_left
      ·simp only [Act.put, zq1, zq2, zq3, iw, jw]
       rfl
      refine pure_ (i := 1) (N := some 81) (v := ?_) (a' := ?_) (bA 31 3) rfl rfl (aof HT_.out (by kernel_rfl)) (fun _ _ _ h => h) (Or.inl ⟨by rfl, ?_⟩) ?_ ?_
      rotate_left
      ·intro w'
       go_simp
       with_reducible rfl
      rotate_left
      ·simp only [Act.put, zq1, zq2, zq3, iw, jw]
       rfl
      refine pure_ (i := 2) (N := some 82) (v := ?_) (a' := ?_) (bA 31 7) rfl rfl (aof HT_.out (by kernel_rfl)) (fun _ _ _ h => h) (Or.inl ⟨by rfl, ?_⟩) ?_ ?_
      rotate_left
      ·intro w'
       go_simp
       with_reducible rfl
      rotate_left
      ·simp only [Act.put, zq1, zq2, zq3, iw, jw]
       rfl
      refine take_ (i := 3) (N := some 83) (v := ?_) (a' := ?_) (bA 31 15) rfl rfl (tof HT_.out HW_.out (by kernel_rfl)) (fun _ _ _ h => h) (Or.inl ⟨by rfl, ?_⟩) hHeld ?_ ?_
      rotate_left
      ·rintro w' ⟨s0, s1, s2⟩
       go_simp
       with_reducible rfl
      rotate_left
      ·simp only [Act.put, zq1, zq2, zq3, iw, jw]
       rfl
      refine pure_ (i := 4) (N := some 84) (v := ?_) (a' := ?_) (bA 31 31) rfl rfl (aof HT_.out (by kernel_rfl)) (fun _ _ _ h => h) (Or.inl ⟨by rfl, ?_⟩) ?_ ?_
      rotate_left
      ·intro w'
       go_simp
       with_reducible rfl
      rotate_left
      ·simp only [Act.put, zq1, zq2, zq3, iw, jw]
       rfl
      refine pure_ (i := 5) (N := some 85) (v := ?_) (a' := ?_) (bA 31 63) rfl rfl (aof HT_.out (by kernel_rfl)) (fun _ _ _ h => h) (Or.inl ⟨by rfl, ?_⟩) ?_ ?_
      rotate_left
      ·intro w'
       go_simp
       with_reducible rfl
      rotate_left
      ·simp only [Act.put, zq1, zq2, zq3, iw, jw]
       rfl
      refine pure_ (i := 6) (N := some 86) (v := ?_) (a' := ?_) (bA 31 127) rfl rfl (aof HT_.out (by kernel_rfl)) (fun _ _ _ h => h) (Or.inl ⟨by rfl, ?_⟩) ?_ ?_
      rotate_left
      ·intro w'
       go_simp
       with_reducible rfl
      rotate_left
      ·simp only [Act.put, zq1, zq2, zq3, iw, jw]
       rfl
      refine pure_ (i := 7) (N := some 87) (v := ?_) (a' := ?_) (bA 31 255) rfl rfl (aof HT_.out (by kernel_rfl)) (fun _ _ _ h => h) (Or.inl ⟨by rfl, ?_⟩) ?_ ?_
      rotate_left
      ·intro w'
       go_simp
       with_reducible rfl
      rotate_left
      ·simp only [Act.put, zq1, zq2, zq3, iw, jw]
       rfl
      refine pure_ (i := 8) (N := some 88) (v := ?_) (a' := ?_) (bA 31 511) rfl rfl (aof HT_.out (by kernel_rfl)) (fun _ _ _ h => h) (Or.inl ⟨by rfl, ?_⟩) ?_ ?_
      rotate_left
      ·intro w'
       go_simp
       with_reducible rfl
      rotate_left
      ·simp only [Act.put, zq1, zq2, zq3, iw, jw]
       rfl
      refine take_ (i := 9) (N := some 89) (v := ?_) (a' := ?_) (bA 31 1023) rfl rfl (tof HT_.out HW_.out (by kernel_rfl)) (fun _ _ _ h => h) (Or.inl ⟨by rfl, ?_⟩) hHeld ?_ ?_
      rotate_left
      ·rintro w' ⟨s0, s1, s2⟩
       go_simp
       with_reducible rfl
      rotate_left
      ·simp only [Act.put, zq1, zq2, zq3, iw, jw]
       rfl
      refine pure_ (i := 10) (N := some 90) (v := ?_) (a' := ?_) (bA 31 2047) rfl rfl (aof HT_.out (by kernel_rfl)) (fun _ _ _ h => h) (Or.inl ⟨by rfl, ?_⟩) ?_ ?_
      rotate_left
      ·intro w'
       go_simp
       with_reducible rfl
      rotate_left
      ·simp only [Act.put, zq1, zq2, zq3, iw, jw]
       rfl
      refine take_ (i := 11) (N := some 91) (v := ?_) (a' := ?_) (bA 31 4095) rfl rfl (tof HT_.out HW_.out (by kernel_rfl)) (fun _ _ _ h => h) (Or.inl ⟨by rfl, ?_⟩) hHeld ?_ ?_
      rotate_left
      ·rintro w' ⟨s0, s1, s2⟩
       go_simp
       with_reducible rfl
      rotate_left
      ·simp only [Act.put, zq1, zq2, zq3, iw, jw]
       rfl
      refine pure_ (i := 12) (N := some 92) (v := ?_) (a' := ?_) (bA 31 8191) rfl rfl (aof HT_.out (by kernel_rfl)) (fun _ _ _ h => h) (Or.inl ⟨by rfl, ?_⟩) ?_ ?_
      rotate_left
      ·intro w'
       go_simp
       with_reducible rfl
      rotate_left
      ·simp only [Act.put, zq1, zq2, zq3, iw, jw]
       rfl
      refine pure_ (i := 13) (N := some 93) (v := ?_) (a' := ?_) (bA 31 16383) rfl rfl (aof HT_.out (by kernel_rfl)) (fun _ _ _ h => h) (Or.inl ⟨by rfl, ?_⟩) ?_ ?_
      rotate_left
      ·intro w'
       go_simp
       with_reducible rfl
      rotate_left
      ·simp only [Act.put, zq1, zq2, zq3, iw, jw]
       rfl
      refine pure_ (i := 14) (N := some 94) (v := ?_) (a' := ?_) (bA 31 32767) rfl rfl (aof HT_.out (by kernel_rfl)) (fun _ _ _ h => h) (Or.inl ⟨by rfl, ?_⟩) ?_ ?_
      rotate_left
      ·intro w'
       go_simp
       with_reducible rfl
      rotate_left
      ·simp only [Act.put, zq1, zq2, zq3, iw, jw]
       rfl
      refine pure_ (i := 15) (N := some 95) (v := ?_) (a' := ?_) (bA 31 65535) rfl rfl (aof HT_.out (by kernel_rfl)) (fun _ _ _ h => h) (Or.inl ⟨by rfl, ?_⟩) ?_ ?_
      rotate_left
      ·intro w'
       go_simp
       with_reducible rfl
      rotate_left
      ·simp only [Act.put, zq1, zq2, zq3, iw, jw]
       rfl
      refine pure_ (i := 16) (N := some 96) (v := ?_) (a' := ?_) (bA 31 131071) rfl rfl (aof HT_.out (by kernel_rfl)) (fun _ _ _ h => h) (Or.inl ⟨by rfl, ?_⟩) ?_ ?_
      rotate_left
      ·intro w'
       go_simp
       with_reducible rfl
      rotate_left
      ·simp only [Act.put, zq1, zq2, zq3, iw, jw]
       rfl
      refine pure_ (i := 17) (N := some 97) (v := ?_) (a' := ?_) (bA 31 262143) rfl rfl (aof HT_.out (by kernel_rfl)) (fun _ _ _ h => h) (Or.inl ⟨by rfl, ?_⟩) ?_ ?_
      rotate_left
      ·intro w'
       go_simp
       with_reducible rfl
      rotate_left
      ·simp only [Act.put, zq1, zq2, zq3, iw, jw]
       rfl
      refine pure_ (i := 18) (N := some 98) (v := ?_) (a' := ?_) (bA 31 524287) rfl rfl (aof HT_.out (by kernel_rfl)) (fun _ _ _ h => h) (Or.inl ⟨by rfl, ?_⟩) ?_ ?_
      rotate_left
      ·intro w'
       go_simp
       with_reducible rfl
      rotate_left
      ·simp only [Act.put, zq1, zq2, zq3, iw, jw]
       rfl
      refine pure_ (i := 19) (N := some 99) (v := undef) (a' := ?_) (bA 31 1048575) rfl rfl (aof HT_.out (by kernel_rfl)) (fun _ _ _ h => h) (Or.inr ⟨by rfl, rfl⟩) ?_ ?_
      rotate_left
      ·simp only [Act.put, zq1, zq2, zq3, iw, jw]
       rfl
      refine pure_ (i := 20) (N := some 100) (v := undef) (a' := ?_) (bA 31 2097151) rfl rfl (aof HT_.out (by kernel_rfl)) (fun _ _ _ h => h) (Or.inr ⟨by rfl, rfl⟩) ?_ ?_
      rotate_left
      ·simp only [Act.put, zq1, zq2, zq3, iw, jw]
       rfl
      refine pure_ (i := 21) (N := some 101) (v := undef) (a' := ?_) (bA 31 4194303) rfl rfl (aof HT_.out (by kernel_rfl)) (fun _ _ _ h => h) (Or.inr ⟨by rfl, rfl⟩) ?_ ?_
      rotate_left
      ·simp only [Act.put, zq1, zq2, zq3, iw, jw]
       rfl
      refine pure_ (i := 22) (N := some 102) (v := undef) (a' := ?_) (bA 31 8388607) rfl rfl (aof HT_.out (by kernel_rfl)) (fun _ _ _ h => h) (Or.inr ⟨by rfl, rfl⟩) ?_ ?_
      rotate_left
      ·simp only [Act.put, zq1, zq2, zq3, iw, jw]
       rfl
      refine pure_ (i := 23) (N := some 103) (v := undef) (a' := ?_) (bA 31 16777215) rfl rfl (aof HT_.out (by kernel_rfl)) (fun _ _ _ h => h) (Or.inr ⟨by rfl, rfl⟩) ?_ ?_
      rotate_left
      ·simp only [Act.put, zq1, zq2, zq3, iw, jw]
       rfl
      refine pure_ (i := 24) (N := some 104) (v := undef) (a' := ?_) (bA 31 33554431) rfl rfl (aof HT_.out (by kernel_rfl)) (fun _ _ _ h => h) (Or.inr ⟨by rfl, rfl⟩) ?_ ?_
      rotate_left
      ·simp only [Act.put, zq1, zq2, zq3, iw, jw]
       rfl
      refine pure_ (i := 25) (N := some 105) (v := undef) (a' := ?_) (bA 31 67108863) rfl rfl (aof HT_.out (by kernel_rfl)) (fun _ _ _ h => h) (Or.inr ⟨by rfl, rfl⟩) ?_ ?_
      rotate_left
      ·simp only [Act.put, zq1, zq2, zq3, iw, jw]
       rfl
      refine pure_ (i := 26) (N := some 106) (v := undef) (a' := ?_) (bA 31 134217727) rfl rfl (aof HT_.out (by kernel_rfl)) (fun _ _ _ h => h) (Or.inr ⟨by rfl, rfl⟩) ?_ ?_
      rotate_left
      ·simp only [Act.put, zq1, zq2, zq3, iw, jw]
       rfl
      refine pure_ (i := 27) (N := some 107) (v := undef) (a' := ?_) (bA 31 268435455) rfl rfl (aof HT_.out (by kernel_rfl)) (fun _ _ _ h => h) (Or.inr ⟨by rfl, rfl⟩) ?_ ?_
      rotate_left
      ·simp only [Act.put, zq1, zq2, zq3, iw, jw]
       rfl
      refine pure_ (i := 28) (N := some 108) (v := undef) (a' := ?_) (bA 31 536870911) rfl rfl (aof HT_.out (by kernel_rfl)) (fun _ _ _ h => h) (Or.inr ⟨by rfl, rfl⟩) ?_ ?_
      rotate_left
      ·simp only [Act.put, zq1, zq2, zq3, iw, jw]
       rfl
      refine pure_ (i := 29) (N := some 109) (v := ?_) (a' := ?_) (bA 31 1073741823) rfl rfl (aof HT_.out (by kernel_rfl)) (fun _ _ _ h => h) (Or.inl ⟨by rfl, ?_⟩) ?_ ?_
      rotate_left
      ·intro w'
       go_simp
       with_reducible rfl
      rotate_left
      ·simp only [Act.put, zq1, zq2, zq3, iw, jw]
       rfl
      refine pure_ (i := 30) (N := some 110) (v := ?_) (a' := ?_) (bA 31 2147483647) rfl rfl (aof HT_.out (by kernel_rfl)) (fun _ _ _ h => h) (Or.inl ⟨by rfl, ?_⟩) ?_ ?_
      rotate_left
      ·intro w'
       go_simp
       with_reducible rfl
      rotate_left
      ·simp only [Act.put, zq1, zq2, zq3, iw, jw]
       rfl
      refine done_ (done_of HT_.out (by kernel_rfl)) ?_
      clear HT_ HW_ hHeld
      go_wp2_with fail
      have HLf := Az.mk (HLd.out.below (below_drew (Below.refl _ _)))
      clear HLd hS0 hS1 hS2
      have hS0 := pwc HLf.out.hb HX7.out.2
      have hS1 := pwc HLf.out.hb HCC.out
      have hS2 := pwc HLf.out.hb HCL.out
      refine start_ (n := 15) (S := fun w' => w'.cell? ⟨gf, 1, none⟩ = some v ∧ w'.cell? ⟨gx, 1, none⟩ = some (.slice (some adx) x.length cx) ∧ w'.cell? (adc.add j) = some (.int .i64 c) ∧ w'.cell? (adx.add m1) = some (.slice Ac l.length cc)) (ds := [14]) #[false, false, false, false, false, false, false, false, false, false, false, false, false, false, false] (by kernel_rfl) rfl rfl ⟨(bkc HLf.out.bf 1).trans rfl, hS0, hS1, hS2⟩ (fun hHeld => ?_); refine with_tabW psoundR18.tab psoundR18.bits (fun HT_ HW_ => ?_)
      generalize wd.drew = wf at HLf hS0 hS1 hS2 hHeld ⊢
      refine pure_ (i := 0) (N := some 111) (v := ?_) (a' := ?_) (bA 15 1) rfl rfl (aof HT_.out (by kernel_rfl)) (fun _ _ _ h => h) (Or.inl ⟨by rfl, ?_⟩) ?_ ?_
      rotate_left
      ·intro w'
       go_simp
       with_reducible rfl
      rotate_left
      ·simp only [Act.put, zq1, zq2, zq3, iw, jw]
       rfl
      refine pure_ (i := 2) (N := some 113) (v := ?_) (a' := ?_) (bA 15 5) rfl rfl (aof HT_.out (by kernel_rfl)) (fun _ _ _ h => h) (Or.inl ⟨by rfl, ?_⟩) ?_ ?_
      rotate_left
      ·intro w'
       go_simp
       with_reducible rfl
      rotate_left
      ·simp only [Act.put, zq1, zq2, zq3, iw, jw]
       rfl
      refine pure_ (i := 4) (N := some 115) (v := ?_) (a' := ?_) (bA 15 21) rfl rfl (aof HT_.out (by kernel_rfl)) (fun _ _ _ h => h) (Or.inl ⟨by rfl, ?_⟩) ?_ ?_
      rotate_left
      ·intro w'
       go_simp
       with_reducible rfl
      rotate_left
      ·simp only [Act.put, zq1, zq2, zq3, iw, jw]
       rfl
      refine pure_ (i := 5) (N := some 116) (v := ?_) (a' := ?_) (bA 15 53) rfl rfl (aof HT_.out (by kernel_rfl)) (fun _ _ _ h => h) (Or.inl ⟨by rfl, ?_⟩) ?_ ?_
      rotate_left
      ·intro w'
       go_simp
       with_reducible rfl
      rotate_left
      ·simp only [Act.put, zq1, zq2, zq3, iw, jw]
       rfl
      refine pure_ (i := 6) (N := some 117) (v := ?_) (a' := ?_) (bA 15 117) rfl rfl (aof HT_.out (by kernel_rfl)) (fun _ _ _ h => h) (Or.inl ⟨by rfl, ?_⟩) ?_ ?_
      rotate_left
      ·intro w'
       go_simp
       with_reducible rfl
      rotate_left
      ·simp only [Act.put, zq1, zq2, zq3, iw, jw]
       rfl
      refine take_ (i := 1) (N := some 112) (v := ?_) (a' := ?_) (bA 15 119) rfl rfl (tof HT_.out HW_.out (by kernel_rfl)) (fun _ _ _ h => h) (Or.inl ⟨by rfl, ?_⟩) hHeld ?_ ?_
      rotate_left
      ·rintro w' ⟨s0, s1, s2, s3⟩
       go_simp
       with_reducible rfl
      rotate_left
      ·simp only [Act.put, zq1, zq2, zq3, iw, jw]
       rfl
      refine take_ (i := 3) (N := some 114) (v := ?_) (a' := ?_) (bA 15 127) rfl rfl (tof HT_.out HW_.out (by kernel_rfl)) (fun _ _ _ h => h) (Or.inl ⟨by rfl, ?_⟩) hHeld ?_ ?_
      rotate_left
      ·rintro w' ⟨s0, s1, s2, s3⟩
       go_simp
       with_reducible rfl
      rotate_left
      ·simp only [Act.put, zq1, zq2, zq3, iw, jw]
       rfl
      refine take_ (i := 7) (N := some 118) (v := ?_) (a' := ?_) (bA 15 255) rfl rfl (tof HT_.out HW_.out (by kernel_rfl)) (fun _ _ _ h => h) (Or.inl ⟨by rfl, ?_⟩) hHeld ?_ ?_
      rotate_left
      ·rintro w' ⟨s0, s1, s2, s3⟩
       go_simp
       with_reducible rfl
      rotate_left
      ·simp only [Act.put, zq1, zq2, zq3, iw, jw]
       rfl
      refine pure_ (i := 8) (N := some 119) (v := ?_) (a' := ?_) (bA 15 511) rfl rfl (aof HT_.out (by kernel_rfl)) (fun _ _ _ h => h) (Or.inl ⟨by rfl, ?_⟩) ?_ ?_
      rotate_left
      ·intro w'
       go_simp
       with_reducible rfl
      rotate_left
      ·simp only [Act.put, zq1, zq2, zq3, iw, jw]
       rfl
      refine pure_ (i := 9) (N := some 120) (v := ?_) (a' := ?_) (bA 15 1023) rfl rfl (aof HT_.out (by kernel_rfl)) (fun _ _ _ h => h) (Or.inl ⟨by rfl, ?_⟩) ?_ ?_
      rotate_left
      ·intro w'
       go_simp
       with_reducible rfl
      rotate_left
      ·simp only [Act.put, zq1, zq2, zq3, iw, jw]
       rfl
      refine take_ (i := 10) (N := some 121) (v := ?_) (a' := ?_) (bA 15 2047) rfl rfl (tof HT_.out HW_.out (by kernel_rfl)) (fun _ _ _ h => h) (Or.inl ⟨by rfl, ?_⟩) hHeld ?_ ?_
      rotate_left
      ·rintro w' ⟨s0, s1, s2, s3⟩
       go_simp
       with_reducible rfl
      rotate_left
      ·simp only [Act.put, zq1, zq2, zq3, iw, jw]
       rfl
      refine QW.PrintLast.one_ (i := 11) (N := some 122) (bA 15 4095) rfl rfl (one_of HT_.out (by kernel_rfl)) (by decide) (fun K hK => ?_)
      refine value_ (w1 := ?_) (v := ?_) (by rfl) rfl ?_ ?_
      rotate_left 2
      ·go_simp
       constructor
       ·rfl
       ·rfl
      have HLg := Az.mk (HLf.out.below (below_nw wf (.cells #[.slice Ac l.length cc] 31)))
      refine hK.out _ _ ⟨(bkc HLg.out.bf 1).trans rfl, pwc HLg.out.hb HX7.out.2, pwc HLg.out.hb HCC.out, pwc HLg.out.hb HCL.out⟩ (fun hHeld => ?_)
      clear hK K HLg
      refine norm_ (a' := ?_) ?_ ?_
      rotate_left
      ·show Act.put _ (some 122) _ = _
       simp only [Act.put, zq1, zq2, zq3, iw, jw]
       rfl
      refine QW.PrintLast.one_ (i := 12) (N := some 123) (bA 15 8191) rfl rfl (one_of HT_.out (by kernel_rfl)) (by decide) (fun K hK => ?_)
      refine Kd.R_append_step kSW (w0 := w7) w7.heap.size (by rfl) (.tmp 112) (.tmp 122) 22 31 (.slice none 0 0) 24 rfl Tryz.underlying22 infoSW rfl (by decide) (by omega) v svs (Ac, l.length, cc) [.slice Ac l.length cc] (fun k => k ≠ gf) (fun _ => False) rfl rfl ?aP (fun _ hk => hk.elim) ?aF ?aO ?aB ?aS ?aL ?_
      (case aP => exact rfl)
      (case aF => exact fun k hk => Nat.ne_of_gt (Nat.lt_of_lt_of_le (blk_lt HLf.out.bf) hk))
      (case aO => exact HLf.out.row)
      (case aB => exact HLf.out.hb)
      (case aS => exact HLf.out.hb.size)
      (case aL => have h1 := GD.out.lc; have h2 := HLf.out.len; have h3 := HFS.out; have h4 : fs.length ≤ 31 := (by rw [h3]; simp; omega); omega)
      intro v9 w9 ho hb hg hat
      obtain ⟨sw2, hsw2⟩ : ∃ y, svs ++ [(Ac, l.length, cc)] = y := ⟨_, rfl⟩
      have HO9 := Az.mk ho
      rw [hsw2] at ho
      obtain ⟨A9, c9, e9⟩ := Kd.R_slice ho
      subst e9
      have BY9 := Az.mk (bkg HLf.out.bf hg (Kd.R_ne HLf.out.row HLf.out.bf (by decide)))
      have HB9 := Az.mk hb
      refine hK.out _ _ ⟨(bkc BY9.out 1).trans rfl, pwc hb HX7.out.2, pwc hb HCC.out, pwc hb HCL.out⟩ (fun hHeld => ?_)
      clear hK K ho hb hg hat hsw2
      refine norm_ (a' := ?_) ?_ ?_
      rotate_left
      ·show Act.put _ (some 123) _ = _
       simp only [Act.put, zq1, zq2, zq3, iw, jw]
       rfl
      refine pure_ (i := 13) (N := some 124) (v := ?_) (a' := ?_) (bA 15 16383) rfl rfl (aof HT_.out (by kernel_rfl)) (fun _ _ _ h => h) (Or.inl ⟨by rfl, ?_⟩) ?_ ?_
      rotate_left
      ·intro w'
       go_simp
       with_reducible rfl
      rotate_left
      ·simp only [Act.put, zq1, zq2, zq3, iw, jw]
       rfl
      refine last_ (i := 14) (N := none) (bA 15 32767) rfl rfl (one_of HT_.out (by kernel_rfl)) (by decide) (fun K hK => ?_)
      have hs : w9.cell? ⟨gf, 1, none⟩ = some v := (bkc BY9.out 1).trans rfl
      have hfs := bkf BY9.out 1
      refine skip_ (w1 := ?_) (by rfl) rfl ?_ ?_
      rotate_left
      ·go_simp
       rfl
      refine hK.out _ _ ?_
      clear hK K hs hfs hHeld
      refine done_ (done_of HT_.out (by kernel_rfl)) ?_
      clear HT_ HW_
      have HLN := Az.mk (PSL.store HLf.out HB9.out BY9.out HO9.out HSL.out)
      clear HB9 BY9 HO9 HLf
      go_wp2
      go_roundw
      case rel => exact ⟨j + 1, _, svs ++ [(Ac, l.length, cc)], fs ++ [l], by rw [wrap_succ HJ.out (by have := GD.out.lc; omega)], by have := HJ.out; omega, ⟨by rw [HTK.out, HFS.out]⟩, HLN⟩
      case measure => exact meas_x HJ.out (wrap_succ HJ.out (by have := GD.out.lc; omega))
    ·have hje : j = core.length := by omega
     subst hje
     rw [List.take_length] at HFS
     have hFN : Az (fs.length ≤ 100) := ⟨by have h1 := GD.out.lc; rw [HFS.out]; simp only [List.length_map]; omega⟩
     have HFL : Az (∀ l ∈ fs, l.length ≤ 1000000000 ∧ ∀ y ∈ l, LitOk n y) := ⟨fun l hl => by
      rw [HFS.out] at hl
      have := GD.out.lits l hl
      exact ⟨by omega, this.2⟩⟩
     have HCK : Az (cnf_Check.f k n fs = some 0) := ⟨by rw [HFS.out]; exact GD.out.chk⟩
     have HNF : Az (¬ ∃ M, Mod n fs M) := ⟨by rw [HFS.out]; exact GD.out.nof⟩
     have HLI : Az (∀ l ∈ x, l.length ≤ 1000000000 ∧ ∀ y ∈ l, LitOk n y) := ⟨fun l hl => ⟨by have := (OW.out.lxs l hl).1; omega, (OW.out.lxs l hl).2⟩⟩
     obtain ⟨Av, cv, hv, hlv, hCv⟩ := Kd.R_reads HL.out.row
     rw [HL.out.len] at hv hlv hCv
     subst hv
     have HCV := Az.mk (C_ofSW hCv HL.out.len HL.out.hb HL.out.at_)
     have HLV := Az.mk hlv
     have HBF := Az.mk HL.out.bf
     have HWB := Az.mk (bwt HM7.out.hb HL.out.hb)
     have hjd : decide ((core.length : Int) < (core.length : Int)) = false := by simp
     clear hlv hCv hlt
     go_wp2_with fail
     refine (count_calls k n Ax cx x wr (Nat.le_trans OW.out.hn (by decide)) (Kd.C_below HM7.out.dx HL.out.hb) HLX.out (Nat.le_trans OW.out.lx (by decide)) HLI.out OW.out.chk).mono ?_
     rintro e w9 ⟨cm, rfl, hcm, hb9⟩
     have hcz : cm = 0 := hcm.zero.2 (fun ⟨M, hM, _⟩ => GD.out.nox ⟨M, hM⟩)
     subst hcz
     have HB9 := Az.mk (bwt HWB.out hb9)
     have HF9 := Az.mk (blk_below HBF.out hb9)
     have HV9 := Az.mk (Kd.C_below HCV.out hb9)
     clear hcm hb9 HL HCV HBF HWB hx0 hx1 hjd
     have hy0 : w9.cell? ⟨gf, 0, none⟩ = some (.int .i64 n) := (bkc HF9.out 0).trans rfl
     have hy1 : w9.cell? ⟨gf, 1, none⟩ = some (.slice Av fs.length cv) := (bkc HF9.out 1).trans rfl
     go_wp2_with fail
     refine (count_calls k n Av cv fs w9 (Nat.le_trans OW.out.hn (by decide)) HV9.out HLV.out (Nat.le_trans hFN.out (by decide)) HFL.out HCK.out).mono ?_
     rintro e w10 ⟨cf, rfl, hcf, hb10⟩
     have hcz : cf = 0 := hcf.zero.2 (fun ⟨M, hM, _⟩ => HNF.out ⟨M, hM⟩)
     subst hcz
     have HB10 := Az.mk (bwt HB9.out hb10)
     clear hcf hb10 hy0 hy1
     go_wp2
     go_ret
     exact ⟨rfl, HB10.out⟩
  ·have hb := HBAD.out he
   rw [hb] at HC7 ⊢
   have he' : (r.e != 0) = true := by simpa using he
   clear hb HC7
   go_wp2
   go_ret
   exact ⟨rfl, HM7.out.hb⟩
end Go.Proofs.YtogicccdngpafaaGreatDoor.NState
end
