/-
  Part 25 of the proof of proofTrims_card: walks and lemmas, packed by the session's own wip/pack.py out of its texts and of what the kit's print.sh printed.
-/
import Derived.Test.YtogicccdngpafaaDoorTA16
import Derived.Test.YtogicccdngpafaaDoorTA19
import Derived.Test.YtogicccdngpafaaDoorTA24
section
namespace Go.Proofs.YtogicccdngpafaaDoor.NState
open Go Go.RowKit Go.Shelf Go.Proofs.YtogicccdngpafaaDoorW.PrintWords Go.Proofs.YtogicccdngpafaaDoorW.PrintLast Go.Proofs.YtogicccdngpafaaDoorW.PrintMore Go.Proofs.YtogicccdngpafaaDoor.NMap
open Go.Proofs.YtogicccdngpafaaDoor.PCheck (cnf_Check.f)
open Go.Proofs.YtogicccdngpafaaDoor.PEqInts (netlabref32_EqInts.calls netlabref32_EqInts.f)
open Go.Proofs.YtogicccdngpafaaDoor.PHas (netlabref32_Has.calls netlabref32_Has.f)
open Go.Proofs.YtogicccdngpafaaDoor.PFit (netlabref32_Fit.calls netlabref32_Fit.f)
open Go.Proofs.YtogicccdngpafaaDoor.PSame (netlabref33_Same.calls netlabref33_Same.f S45 k45 rd_T45 at_T45)
open Go.Proofs.YtogicccdngpafaaDoor.NPlain (growL PTOwed PTGood pt_owed sT C_sT usedB usedB_low usedB_mem usedB_all)
theorem R_ofT {e base : Nat} {ok : Nat → Prop} {W : World} {v : Value} {p : List Stp} (h : Kd.R PFewT.k45 e W base ok v (p.map sT)) : Kd.R kStp e W base ok v p := by
 obtain ⟨h0, inner, ho, hr1, hr2⟩ := h
 rw [List.length_map] at ho hr1
 refine ⟨h0, inner, ho, hr1, fun j x hj => ?_⟩
 exact hr2 j (sT x) (by rw [List.getElem?_map, hj]; rfl)
structure PTW (w W : World) (gx n : Nat) (Ax : Option Addr) (cx : Nat) (x : List (List Int)) (Aq : Option Addr) (q : List Stp) : Prop where
 hb : Below w.heap.size w W
 bx : W.heap[gx]? = some (.cells #[.int .i64 n, .slice Ax x.length cx] 24 (0, 0))
 dx : Kd.C (Kd.slice 3 (Kd.int .i64)) W Ax x.length x
 dq : Kd.C kStp W Aq q.length q
theorem PTW.below {w W W' : World} {gx n : Nat} {Ax : Option Addr} {cx : Nat} {x : List (List Int)} {Aq : Option Addr} {q : List Stp} (h : PTW w W gx n Ax cx x Aq q) (hb : Below W.heap.size W W') : PTW w W' gx n Ax cx x Aq q :=
 ⟨below_step h.hb hb, blk_below h.bx hb, Kd.C_below h.dx hb, Kd.C_below h.dq hb⟩
structure RdRw {α : Type} (d : Kd α) (W : World) (A : Option Addr) (c : Nat) (xs : List α) : Prop where
 le : xs.length ≤ c
 c : d.C W A xs.length xs
theorem RdRw.below {α : Type} {d : Kd α} {W W' : World} {A : Option Addr} {c : Nat} {xs : List α} (h : RdRw d W A c xs) (hb : Below W.heap.size W W') : RdRw d W' A c xs := ⟨h.le, Kd.C_below h.c hb⟩
def ptrimsR24.T : Bool × List (List Nat × List Nat) := (true, [([], []), ([0], [0]), ([1], [1]), ([1], [1]), ([2, 3, 1], [1, 2, 3]), ([4, 1], [1, 4]), ([5, 1], [1, 5]), ([1], [1]), ([7, 1], [1, 7]), ([8, 1], [1, 8]), ([1], [1]), ([9, 10, 1], [1, 9, 10]), ([11, 1], [1, 11]), ([6, 12, 1, 1], [1, 6, 12]), ([1, 13], [1, 13]), ([14, 13, 0, 1, 2, 3, 4, 5, 6, 7, 8, 9, 10, 11, 12, 13, 14], [0, 14])])
def ptrimsR24.B : List Nat := [0, 1, 3, 3, 15, 31, 63, 3, 131, 387, 3, 1923, 3971, 8191, 16383, 32767]
theorem ptrimsR24.tab : rtab .any (opsOf Tryd.f4 24) = ptrimsR24.T := by kernel_rfl
theorem ptrimsR24.bits : waitsOk ptrimsR24.T.2 ptrimsR24.B = true := by kernel_rfl
theorem wrap_two {a b : Nat} (ha : a ≤ 1000) (hb : b ≤ 1000) : wrap64 ((a : Int) + (b : Int)) = (a : Int) + (b : Int) ∧ wrap64 ((a : Int) + (b : Int) + 1) = (a : Int) + (b : Int) + 1 := by
 constructor <;> (unfold wrap64; omega)
def PTrimsPost (w : World) (e : Ending) (w' : World) : Prop := e = .returned (.bool true) ∧ Below w.heap.size w w'
set_option maxHeartbeats 8000000 in
set_option maxRecDepth 100000 in
theorem ptrims_calls (vars : Int) (A1 : Option Addr) (c1 : Nat) (cls : List (List Int)) (A2 : Option Addr) (c2 : Nat) (more : List Stp) (w : World)
  (hr1 : Kd.C (Kd.slice 3 (Kd.int .i64)) w A1 cls.length cls) (hc1 : cls.length ≤ c1) (hr2 : Kd.C kStp w A2 more.length more) (hc2 : more.length ≤ c2) :
  Calls Tryd.prog 4 #[.agg #[.int .i64 vars, .slice A1 cls.length c1], .slice A2 more.length c2] w (PTrimsPost w) := by
 obtain ⟨k, n, x, m, q, r, t, c, ow⟩ := pt_owed vars cls more
 have OW := Aside0.mk ow
 have HR1 := Aside0.mk hr1
 have HR2 := Aside0.mk hr2
 have HC1 := Aside0.mk hc1
 have HC2 := Aside0.mk hc2
 clear ow hr1 hr2 hc1 hc2
 have hu24 := Tryd.underlying24
 have hu45 := Tryd.underlying45
 go_enter Tryd.func4, Tryd.ntmps4
 go_wp2_with fail
 refine (netlabref32_Fit.calls k vars A1 c1 cls 6 30 n x _ (Kd.C_alloc HR1.out _) HC1.out OW.out.fit).mono ?_
 rintro e w1 ⟨v1, rfl, hs1, hb1⟩
 obtain ⟨Ax, cx, hvx, hlx, hCx⟩ := Kd.S_reads hs1
 subst hvx
 have HX1 := Aside0.mk hCx
 have HLX := Aside0.mk hlx
 have HS1 := Aside0.mk (Kd.S_lower hs1 (show w.heap.size ≤ (w.alloc (.cells #[.int .i64 vars, .slice A1 cls.length c1] 24)).heap.size by simp))
 have HB1 : Aside0 (Below w.heap.size w w1) := ⟨below_step ((Below.refl _ _).alloc (Nat.le_refl _) _) hb1⟩
 clear hs1 hb1 hCx hlx
 go_wp2_with fail
 have HLX5 : Aside0 (x.length ≤ 100000) := ⟨by have := OW.out.lx; omega⟩
 have HCS : Aside0 (∀ l ∈ x, l.length ≤ 1000000) := ⟨fun l hl => by have := OW.out.lxs l hl; omega⟩
 refine (tree_calls (w1.alloc (.cells #[.int .i64 n, .slice Ax x.length cx] 24)) n (by have := OW.out.hn; omega) Ax cx x (Kd.C_alloc HX1.out _) HLX.out HLX5.out HCS.out).mono ?_
 rintro e w3 ⟨v3, rfl, hR3, hb3⟩
 obtain ⟨Ap, cp, hv3⟩ := Kd.R_slice hR3
 subst hv3
 have HB3 : Aside0 (Below w.heap.size w w3) := ⟨below_step (below_step HB1.out (below_nw _ _)) hb3⟩
 have HP3 := Aside0.mk (Kd.R_lower hR3 (show w.heap.size ≤ (w1.alloc (.cells #[.int .i64 n, .slice Ax x.length cx] 24)).heap.size by have := HB1.out.size; simp; omega))
 have HS3 := Aside0.mk (Kd.S_below (Kd.S_alloc HS1.out (.cells #[.int .i64 n, .slice Ax x.length cx] 24)) hb3)
 have BX3 := Aside0.mk (blk_below (blk_new w1 (.cells #[.int .i64 n, .slice Ax x.length cx] 24)) hb3)
 clear hR3 hb3 HX1 HS1 HB1
 generalize w1.heap.size = gx at BX3 ⊢
 have HQ := Aside0.mk OW.out.hq
 obtain ⟨g, hg⟩ : ∃ g, growL x n [] [] = g := ⟨_, rfl⟩
 rw [hg] at HP3 HQ
 rw [hg]
 clear hg
 obtain ⟨p0, gn, ok0⟩ := g
 cases ok0 with
 | false =>
  go_wp2_with fail
  refine (awake_calls _).mono ?_
  rintro e w9 ⟨rfl, hb9⟩
  have HB9 := Aside0.mk (below_step HB3.out hb9)
  clear hb9
  go_wp2
  go_ret
  exact ⟨rfl, HB9.out⟩
 | true =>
  go_wp2_with fail
  have hft := PFewT.netlabref33_Few.calls k A2 c2 (more.map sT) 10 (m.map sT) w3 (by rw [List.length_map]; exact Kd.C_below (C_sT HR2.out) HB3.out) (by rw [List.length_map]; exact HC2.out) OW.out.fewT
  rw [List.length_map] at hft
  refine hft.mono ?_
  clear hft
  rintro e w4 ⟨v4, rfl, hs4, hb4⟩
  have HLT : Aside0 (∀ b, (Value.slice Ap p0.length cp).ownBlock = some b → b < w3.heap.size) := ⟨fun b hb => Kd.R_lt HP3.out b hb⟩
  have HSZ : Aside0 (w.heap.size ≤ w3.heap.size) := ⟨HB3.out.size⟩
  have hm4 := Kd.R_lower (Kd.R_mono (Kd.R_bound (R_ofT (Kd.S_R hs4))) (ok' := fun k => some k ≠ (Value.slice Ap p0.length cp).ownBlock) (fun k hk he => by have h1 := HLT.out k he.symm; have h2 := hk.2.1; omega)) HSZ.out
  obtain ⟨Am, cm, hvm, hlm, hCm⟩ := OwnRow.reads hm4.2
  subst hvm
  have HCM := Aside0.mk hCm
  have HB4 := Aside0.mk (below_step HB3.out hb4)
  have HP4 := Aside0.mk (Kd.R_below HP3.out hb4)
  have HS4 := Aside0.mk (Kd.S_below HS3.out hb4)
  have BX4 := Aside0.mk (blk_below BX3.out hb4)
  clear hs4 hb4 hm4 hlm hCm BX3 HS3 HP3 HB3
  go_wp2_with ((with_reducible refine gate_builtin (b := .append) (xs := #[.tmp 35, .tmp 37]) rfl ?_); at_builtin; refine hold_l ?_)
  refine Hold.mk ?_
  refine Kd.R_append_rows kStp (w0 := w) w.heap.size rfl (.tmp 35) (.tmp 37) 33 45 (.agg #[.slice none 0 0, .bool false, .slice none 0 0]) 56 rfl Tryd.underlying33 infoStep rfl (by decide) (by omega) (.slice Ap p0.length cp) p0 m Am _ cm (fun _ => True) (fun k => some k ≠ (Value.slice Ap p0.length cp).ownBlock) rfl rfl HP4.out HCM.out (fun y cs hy => kStp.M_mono (fun k hk => hk.1) hy) (fun k hk => ⟨trivial, hk⟩) (fun _ _ => trivial) HB4.out HB4.out.size ?aL ?_
  case aL => have h1 := OW.out.lq; have h2 := HQ.out; rw [h2, List.length_append] at h1; omega
  intro v5 w5 ho hb hg hat
  rw [← HQ.out] at ho
  obtain ⟨Aq, cq, hv5, hlq, hCq⟩ := Kd.R_reads ho
  subst hv5
  have HLQ := Aside0.mk hlq
  have hx5 := Kd.S_over' HS4.out (Kd.R_typed HP4.out) (by decide) hg
  obtain ⟨Ax', cx', hxe, _, hCx5⟩ := Kd.S_reads hx5
  cases hxe
  have HM5 : Aside0 (PTW w w5 gx n Ax cx x Aq q) := ⟨⟨hb, blk_grown BX4.out hg (Kd.R_ne HP4.out BX4.out (by decide)), hCx5, hCq⟩⟩
  clear ho hb hg hat hlq hx5 hCx5 hCq HS4 BX4 HP4 HB4 HCM
  have hx0 : w5.cell? ⟨gx, 0, none⟩ = some (.int .i64 n) := (blk_cell HM5.out.bx 0).trans rfl
  have hx1 : w5.cell? ⟨gx, 1, none⟩ = some (.slice Ax x.length cx) := (blk_cell HM5.out.bx 1).trans rfl
  go_wp2_with fail
  have HLX9 : Aside0 (x.length ≤ 4611686018427000000) := ⟨by have := OW.out.lx; omega⟩
  have HPS2 : Aside0 (∀ y ∈ q, y.f0.length ≤ 268435455 ∧ y.f2.length ≤ 268435455) := ⟨fun y hy => by have := OW.out.lqs y hy; omega⟩
  refine (check_calls k n Ax cx x Aq cq q r w5 HM5.out.dx HLX.out HM5.out.dq HLQ.out OW.out.run HLX9.out).mono ?_
  rintro e w6 ⟨rfl, hb6⟩
  have HM6 := Aside0.mk (HM5.out.below hb6)
  clear hb6 HM5 hx0 hx1
  have hx0 : w6.cell? ⟨gx, 0, none⟩ = some (.int .i64 n) := (blk_cell HM6.out.bx 0).trans rfl
  have hx1 : w6.cell? ⟨gx, 1, none⟩ = some (.slice Ax x.length cx) := (blk_cell HM6.out.bx 1).trans rfl
  by_cases he : r.e = 0
  ·obtain ⟨r', hgood⟩ := OW.out.good he
   have GD := Aside0.mk hgood
   have HE := Aside0.mk he
   have he' : (r.e != 0) = false := by rw [he]; rfl
   clear hgood he
   have HPT2 : Aside0 (∀ y ∈ t, y.f0.length ≤ 268435455 ∧ y.f2.length ≤ 268435455) := ⟨fun y hy => by have := GD.out.sizes y hy; omega⟩
   go_wp2_with fail
   have htc := trim_calls k n Ax cx x Aq cq q r w6 HM6.out.dx HLX.out HM6.out.dq HLQ.out OW.out.run HLX9.out HPS2.out
   rw [OW.out.trim, HE.out] at htc
   refine htc.mono ?_
   clear htc
   rintro e w7 ⟨v7, rfl, hr7, hb7⟩
   obtain ⟨At, ct, hv7, hl7, hC7⟩ := Kd.R_reads hr7
   simp only at hv7 hl7 hC7
   subst hv7
   have HM7 := Aside0.mk (HM6.out.below hb7)
   have HT7 : Aside0 (RdRw kStp w7 At ct t) := ⟨⟨hl7, hC7⟩⟩
   clear hr7 hb7 hl7 hC7 HM6
   clear hx0 hx1
   have hx0 : w7.cell? ⟨gx, 0, none⟩ = some (.int .i64 n) := (blk_cell HM7.out.bx 0).trans rfl
   have hx1 : w7.cell? ⟨gx, 1, none⟩ = some (.slice Ax x.length cx) := (blk_cell HM7.out.bx 1).trans rfl
   go_wp2_with fail
   have htc := trim_calls k n Ax cx x At ct t r' w7 HM7.out.dx HLX.out HT7.out.c HT7.out.le GD.out.run HLX9.out HPT2.out
   rw [GD.out.trim] at htc
   refine htc.mono ?_
   clear htc
   rintro e w8 ⟨v8, rfl, hr8, hb8⟩
   obtain ⟨Au, cu, hv8, hl8, hC8⟩ := Kd.R_reads hr8
   simp only at hv8 hl8 hC8
   subst hv8
   have HM8 := Aside0.mk (HM7.out.below hb8)
   have HT8 := Aside0.mk (HT7.out.below hb8)
   have HU8 : Aside0 (RdRw kStp w8 Au cu t) := ⟨⟨hl8, hC8⟩⟩
   clear hr8 hb8 hl8 hC8 HM7 HT7
   clear hx0 hx1
   have hx0 : w8.cell? ⟨gx, 0, none⟩ = some (.int .i64 n) := (blk_cell HM8.out.bx 0).trans rfl
   have hx1 : w8.cell? ⟨gx, 1, none⟩ = some (.slice Ax x.length cx) := (blk_cell HM8.out.bx 1).trans rfl
   go_wp2_with fail
   have hcc := check_calls k n Ax cx x At ct t r' w8 HM8.out.dx HLX.out HT8.out.c HT8.out.le GD.out.run HLX9.out
   rw [GD.out.e] at hcc
   refine hcc.mono ?_
   clear hcc
   rintro e w9 ⟨rfl, hb9⟩
   have HM9 := Aside0.mk (HM8.out.below hb9)
   have HT9 := Aside0.mk (HT8.out.below hb9)
   have HU9 := Aside0.mk (HU8.out.below hb9)
   clear hb9 HM8 HT8 HU8
   clear hx0 hx1
   have hx0 : w9.cell? ⟨gx, 0, none⟩ = some (.int .i64 n) := (blk_cell HM9.out.bx 0).trans rfl
   have hx1 : w9.cell? ⟨gx, 1, none⟩ = some (.slice Ax x.length cx) := (blk_cell HM9.out.bx 1).trans rfl
   go_wp2_with fail
   have hcc := core_calls k n Ax cx x Aq cq q r w9 HM9.out.dx HLX.out HM9.out.dq HLQ.out OW.out.run HLX9.out OW.out.us
   rw [OW.out.core, HE.out] at hcc
   refine hcc.mono ?_
   clear hcc
   rintro e w10 ⟨v10, rfl, hr10, hb10⟩
   obtain ⟨Aa, ca, hv10, hl10, hC10⟩ := Kd.R_reads hr10
   simp only at hv10 hl10 hC10
   subst hv10
   have HM10 := Aside0.mk (HM9.out.below hb10)
   have HT10 := Aside0.mk (HT9.out.below hb10)
   have HU10 := Aside0.mk (HU9.out.below hb10)
   have HA10 : Aside0 (RdRw (Kd.int .i64) w10 Aa ca c) := ⟨⟨hl10, hC10⟩⟩
   clear hr10 hb10 hl10 hC10 HM9 HT9 HU9
   clear hx0 hx1
   have hx0 : w10.cell? ⟨gx, 0, none⟩ = some (.int .i64 n) := (blk_cell HM10.out.bx 0).trans rfl
   have hx1 : w10.cell? ⟨gx, 1, none⟩ = some (.slice Ax x.length cx) := (blk_cell HM10.out.bx 1).trans rfl
   go_wp2_with fail
   have hcc := core_calls k n Ax cx x At ct t r' w10 HM10.out.dx HLX.out HT10.out.c HT10.out.le GD.out.run HLX9.out GD.out.us
   rw [GD.out.core] at hcc
   refine hcc.mono ?_
   clear hcc
   rintro e w11 ⟨v11, rfl, hr11, hb11⟩
   obtain ⟨Ab, cb, hv11, hl11, hC11⟩ := Kd.R_reads hr11
   simp only at hv11 hl11 hC11
   subst hv11
   have HM11 := Aside0.mk (HM10.out.below hb11)
   have HT11 := Aside0.mk (HT10.out.below hb11)
   have HU11 := Aside0.mk (HU10.out.below hb11)
   have HA11 := Aside0.mk (HA10.out.below hb11)
   have HD11 : Aside0 (RdRw (Kd.int .i64) w11 Ab cb c) := ⟨⟨hl11, hC11⟩⟩
   clear hr11 hb11 hl11 hC11 HM10 HT10 HU10 HA10 hx0 hx1
   go_wp2_with fail
   refine (netlabref33_Same.calls k At ct t Au cu t true w11 HT11.out.c HT11.out.le HU11.out.c HU11.out.le GD.out.same).mono ?_
   rintro e w12 ⟨rfl, hb12⟩
   have HM12 := Aside0.mk (HM11.out.below hb12)
   have HT12 := Aside0.mk (HT11.out.below hb12)
   have HA12 := Aside0.mk (HA11.out.below hb12)
   have HD12 := Aside0.mk (HD11.out.below hb12)
   clear hb12 HM11 HT11 HU11 HA11 HD11
   go_wp2_with fail
   refine (netlabref32_EqInts.calls k Aa ca c Ab cb c true w12 HA12.out.c HA12.out.le HD12.out.c HD12.out.le GD.out.eq).mono ?_
   rintro e w13 ⟨rfl, hd13⟩
   have HM13 := Aside0.mk (HM12.out.below hd13.below)
   have HT13 := Aside0.mk (HT12.out.below hd13.below)
   clear hd13 HM12 HT12 HA12 HD12
   obtain ⟨T, hT⟩ : ∃ T, t.length = T + 1 := ⟨t.length - 1, by have := GD.out.pos; omega⟩
   have HTE := Aside0.mk hT
   have HTL : Aside0 (T + 1 ≤ 200) := ⟨by have h1 := GD.out.le; have h2 := OW.out.lq; omega⟩
   have hle0 : T + 1 ≤ q.length := by have h1 := GD.out.le; omega
   have hle1 : decide ((q.length : Int) < (T : Int) + 1) = false := decide_eq_false (by omega)
   have hle2 : decide (q.length < T + 1) = false := decide_eq_false (by omega)
   have hle3 : decide (q.length ≤ T) = false := decide_eq_false (by omega)
   have hpos1 : (((T : Int) + 1) == 0) = false := by simp; omega
   have hwt : wrap64 ((T : Int) + 1 - 1) = (T : Int) := by have := HTL.out; unfold wrap64; omega
   have hwt2 : wrap64 (T : Int) = (T : Int) := by have := HTL.out; unfold wrap64; omega
   have hl0 : (rd_T45 t (T : Int)).f0 = [] := by have := GD.out.last; rw [hT] at this; exact this
   obtain ⟨adt, A3, c3, A4, c4, hAt, hp0, _, _, _, _, _, _⟩ := at_T45 HT13.out.c (T : Int) (by omega) (by omega)
   subst hAt
   rw [hl0] at hp0
   simp only [Int.toNat_natCast, List.length_nil] at hp0
   have hTlt : (T : Int) < (T : Int) + 1 := by omega
   clear hl0 hle0
   go_wp2_with fail
   have HWT2 := Aside0.mk hwt2
   clear hle1 hle2 hle3 hpos1 hp0 hT hwt2
   go_loopw [22] (fun v22 wr => ∃ (j : Nat), v22 = .int .i64 j ∧ j ≤ T + 1 ∧ Aside0 (PTW w wr gx n Ax cx x Aq q) ∧ Aside0 (RdRw kStp wr (some adt) ct t)) (fun v22 _ => T + 1 - (intOf v22).toNat)
   case atStart => exact ⟨0, rfl, Nat.zero_le _, HM13, HT13⟩
   case round =>
    clear HM13 HT13
    obtain ⟨j, rfl, hj, HM, HT⟩ := hrel
    by_cases hjl : j < T + 1
    ·have hjc : decide ((j : Int) < (T : Int) + 1) = true := decide_eq_true (by omega)
     have HJL := Aside0.mk hjl
     go_wp2_with fail
     clear hjc hjl
     generalize decide ((j : Int) < (T : Int) + 1) = bq1
     generalize decide (j < T + 1) = bq2
     generalize decide (j ≤ T) = bq3
     go_loopw [23, 24] (fun v23 v24 wr => ∃ (i : Nat), v24 = .int .i64 i ∧ i ≤ T + 1 ∧ v23 = .bool (usedB t x.length j i) ∧ Aside0 (j + 1 ≤ i) ∧ Aside0 (PTW w wr gx n Ax cx x Aq q) ∧ Aside0 (RdRw kStp wr (some adt) ct t)) (fun _ v24 _ => T + 1 - (intOf v24).toNat)
     case atStart =>
      have hj1 := HJL.out
      refine ⟨j + 1, by rw [wrap_succ (show j < 1000 by have := HTL.out; omega) (by omega)], by omega, ?_, ⟨Nat.le_refl _⟩, HM, HT⟩
      rw [usedB_low (j + 1) (Nat.le_refl _), HTE.out, HWT2.out, Nat.add_sub_cancel]
      congr 1
      cases h : decide (j = T) <;> simp at h ⊢ <;> omega
     case round =>
      clear HM HT
      obtain ⟨i, rfl, hi, hv23, HJI, HM, HT⟩ := hrel
      obtain ⟨ub, hub⟩ : ∃ ub, usedB t x.length j i = ub := ⟨_, rfl⟩
      rw [hub] at hv23
      subst hv23
      have HUB := Aside0.mk hub
      clear hub
      by_cases hil : i < T + 1
      ·have hic : decide ((i : Int) < (T : Int) + 1) = true := decide_eq_true (by omega)
       have HIL := Aside0.mk hil
       have hitl : (i : Int) < (T : Int) + 1 := by omega
       go_wp2_with fail
       obtain ⟨adt', A3, c3, A4, c4, hAt, _, _, hp2, _, _, hl4, hC4⟩ := at_T45 HT.out.c (i : Int) (by omega) (by rw [HTE.out]; omega)
       cases hAt
       simp only [Int.toNat_natCast] at hp2
       have HHS : Aside0 (usedB t x.length j (i + 1) = (ub || (decide (j < i) && (rd_T45 t (i : Int)).f2.contains ((x.length + j + 1 : Nat) : Int)))) := ⟨by rw [usedB, HUB.out]⟩
       have HHAS : Aside0 (netlabref32_Has.f k (rd_T45 t (i : Int)).f2 ((x.length : Int) + (j : Int) + 1) = some ((rd_T45 t (i : Int)).f2.contains ((x.length : Int) + (j : Int) + 1))) := ⟨GD.out.has i _ (by rw [HTE.out]; exact hil)⟩
       generalize (rd_T45 t (i : Int)).f2 = hs at hp2 hl4 hC4 HHS HHAS
       have HLH := Aside0.mk hl4
       have HCH := Aside0.mk (Kd.C_below hC4 (below_drew (Below.refl wr.heap.size wr)))
       have HMd := Aside0.mk (HM.out.below (below_drew (Below.refl _ _)))
       have HTd := Aside0.mk (HT.out.below (below_drew (Below.refl _ _)))
       have hS1 : wr.drew.cell? ⟨gx, 1, none⟩ = some (.slice Ax x.length cx) := (blk_cell HMd.out.bx 1).trans rfl
       have hS2 : wr.drew.cell? ⟨(adt.add (i * 3)).block, (adt.add (i * 3)).off + 2, none⟩ = some (.slice A4 hs.length c4) := pw_cell_below (below_drew (Below.refl wr.heap.size wr)) hp2
       obtain ⟨hw1, hw2⟩ := wrap_two (Nat.le_trans OW.out.lx (by decide)) (Nat.le_trans (Nat.le_of_lt HJL.out) (Nat.le_trans HTL.out (by decide)))
       clear hp2 hl4 hC4 HM HT hic
       cases ub with
       | false =>
        refine start_ (n := 16) (S := fun w' => w'.cell? ⟨gx, 1, none⟩ = some (.slice Ax x.length cx) ∧ w'.cell? ⟨(adt.add (i * 3)).block, (adt.add (i * 3)).off + 2, none⟩ = some (.slice A4 hs.length c4)) (ds := []) #[false, false, false, false, false, false, false, false, false, false, false, false, false, false, false, false] (by kernel_rfl) rfl rfl ⟨hS1, hS2⟩ (fun hHeld => ?_); refine with_tabW ptrimsR24.tab ptrimsR24.bits (fun HT_ HW_ => ?_)
        generalize wr.drew = wd at HMd HTd hS1 hS2 hHeld HCH ⊢
        refine pure_ (i := 0) (N := some 161) (v := ?_) (a' := ?_) #[true, false, false, false, false, false, false, false, false, false, false, false, false, false, false, false] rfl rfl (any_of HT_.out (by kernel_rfl)) (fun _ _ _ h => h) (Or.inl ⟨by rfl, ?_⟩) ?_ ?_
        rotate_left
        ·intro w'
         go_simp
         with_reducible rfl
        rotate_left
        ·simp only [Act.put, List.setIfInBounds_toArray, List.set_cons_zero, List.set_cons_succ, i64_w, i32_w]
         rfl
        refine pure_ (i := 1) (N := some 162) (v := ?_) (a' := ?_) #[true, true, false, false, false, false, false, false, false, false, false, false, false, false, false, false] rfl rfl (any_of HT_.out (by kernel_rfl)) (fun _ _ _ h => h) (Or.inl ⟨by rfl, ?_⟩) ?_ ?_
        rotate_left
        ·intro w'
         go_simp
         with_reducible rfl
        rotate_left
        ·simp only [Act.put, List.setIfInBounds_toArray, List.set_cons_zero, List.set_cons_succ, i64_w, i32_w]
         rfl
        refine pure_ (i := 2) (N := some 163) (v := ?_) (a' := ?_) #[true, true, true, false, false, false, false, false, false, false, false, false, false, false, false, false] rfl rfl (any_of HT_.out (by kernel_rfl)) (fun _ _ _ h => h) (Or.inl ⟨by rfl, ?_⟩) ?_ ?_
        rotate_left
        ·intro w'
         go_simp
         with_reducible rfl
        rotate_left
        ·simp only [Act.put, List.setIfInBounds_toArray, List.set_cons_zero, List.set_cons_succ, i64_w, i32_w]
         rfl
        refine pure_ (i := 3) (N := some 164) (v := ?_) (a' := ?_) #[true, true, true, true, false, false, false, false, false, false, false, false, false, false, false, false] rfl rfl (any_of HT_.out (by kernel_rfl)) (fun _ _ _ h => h) (Or.inl ⟨by rfl, ?_⟩) ?_ ?_
        rotate_left
        ·intro w'
         go_simp
         with_reducible rfl
        rotate_left
        ·simp only [Act.put, List.setIfInBounds_toArray, List.set_cons_zero, List.set_cons_succ, i64_w, i32_w]
         rfl
        refine pure_ (i := 7) (N := some 168) (v := ?_) (a' := ?_) #[true, true, true, true, false, false, false, true, false, false, false, false, false, false, false, false] rfl rfl (any_of HT_.out (by kernel_rfl)) (fun _ _ _ h => h) (Or.inl ⟨by rfl, ?_⟩) ?_ ?_
        rotate_left
        ·intro w'
         go_simp
         with_reducible rfl
        rotate_left
        ·simp only [Act.put, List.setIfInBounds_toArray, List.set_cons_zero, List.set_cons_succ, i64_w, i32_w]
         rfl
        refine pure_ (i := 10) (N := some 171) (v := ?_) (a' := ?_) #[true, true, true, true, false, false, false, true, false, false, true, false, false, false, false, false] rfl rfl (any_of HT_.out (by kernel_rfl)) (fun _ _ _ h => h) (Or.inl ⟨by rfl, ?_⟩) ?_ ?_
        rotate_left
        ·intro w'
         go_simp
         with_reducible rfl
        rotate_left
        ·simp only [Act.put, List.setIfInBounds_toArray, List.set_cons_zero, List.set_cons_succ, i64_w, i32_w]
         rfl
        refine pure_ (i := 4) (N := some 165) (v := ?_) (a' := ?_) #[true, true, true, true, true, false, false, true, false, false, true, false, false, false, false, false] rfl rfl (any_of HT_.out (by kernel_rfl)) (fun _ _ _ h => h) (Or.inl ⟨by rfl, ?_⟩) ?_ ?_
        rotate_left
        ·intro w'
         go_simp
         with_reducible rfl
        rotate_left
        ·simp only [Act.put, List.setIfInBounds_toArray, List.set_cons_zero, List.set_cons_succ, i64_w, i32_w]
         rfl
        refine pure_ (i := 5) (N := some 166) (v := ?_) (a' := ?_) #[true, true, true, true, true, true, false, true, false, false, true, false, false, false, false, false] rfl rfl (any_of HT_.out (by kernel_rfl)) (fun _ _ _ h => h) (Or.inl ⟨by rfl, ?_⟩) ?_ ?_
        rotate_left
        ·intro w'
         go_simp
         with_reducible rfl
        rotate_left
        ·simp only [Act.put, List.setIfInBounds_toArray, List.set_cons_zero, List.set_cons_succ, i64_w, i32_w]
         rfl
        refine take_ (i := 6) (N := some 167) (v := ?_) (a' := ?_) #[true, true, true, true, true, true, true, true, false, false, true, false, false, false, false, false] rfl rfl (take_ofW HT_.out HW_.out (by kernel_rfl)) (fun _ _ _ h => h) (Or.inl ⟨by rfl, ?_⟩) hHeld ?_ ?_
        rotate_left
        ·rintro w' ⟨s0, s1⟩
         go_simp
         with_reducible rfl
        rotate_left
        ·simp only [Act.put, List.setIfInBounds_toArray, List.set_cons_zero, List.set_cons_succ, i64_w, i32_w]
         rfl
        refine take_ (i := 8) (N := some 169) (v := ?_) (a' := ?_) #[true, true, true, true, true, true, true, true, true, false, true, false, false, false, false, false] rfl rfl (take_ofW HT_.out HW_.out (by kernel_rfl)) (fun _ _ _ h => h) (Or.inl ⟨by rfl, ?_⟩) hHeld ?_ ?_
        rotate_left
        ·rintro w' ⟨s0, s1⟩
         go_simp
         with_reducible rfl
        rotate_left
        ·simp only [Act.put, List.setIfInBounds_toArray, List.set_cons_zero, List.set_cons_succ, i64_w, i32_w]
         rfl
        refine pure_ (i := 9) (N := some 170) (v := ?_) (a' := ?_) #[true, true, true, true, true, true, true, true, true, true, true, false, false, false, false, false] rfl rfl (any_of HT_.out (by kernel_rfl)) (fun _ _ _ h => h) (Or.inl ⟨by rfl, ?_⟩) ?_ ?_
        rotate_left
        ·intro w'
         go_simp
         with_reducible rfl
        rotate_left
        ·simp only [Act.put, List.setIfInBounds_toArray, List.set_cons_zero, List.set_cons_succ, i64_w, i32_w]
         rfl
        refine pure_ (i := 11) (N := some 172) (v := ?_) (a' := ?_) #[true, true, true, true, true, true, true, true, true, true, true, true, false, false, false, false] rfl rfl (any_of HT_.out (by kernel_rfl)) (fun _ _ _ h => h) (Or.inl ⟨by rfl, ?_⟩) ?_ ?_
        rotate_left
        ·intro w'
         go_simp
         with_reducible rfl
        rotate_left
        ·simp only [Act.put, List.setIfInBounds_toArray, List.set_cons_zero, List.set_cons_succ, i64_w, i32_w]
         rfl
        refine pure_ (i := 12) (N := some 173) (v := ?_) (a' := ?_) #[true, true, true, true, true, true, true, true, true, true, true, true, true, false, false, false] rfl rfl (any_of HT_.out (by kernel_rfl)) (fun _ _ _ h => h) (Or.inl ⟨by rfl, ?_⟩) ?_ ?_
        rotate_left
        ·intro w'
         go_simp
         with_reducible rfl
        rotate_left
        ·simp only [Act.put, List.setIfInBounds_toArray, List.set_cons_zero, List.set_cons_succ, i64_w, i32_w]
         rfl
        refine Go.Proofs.YtogicccdngpafaaDoorW.PrintLast.one_ (i := 13) (N := some 174) #[true, true, true, true, true, true, true, true, true, true, true, true, true, true, false, false] rfl rfl (one_of HT_.out (by kernel_rfl)) (by decide) (fun K hK => ?_)
        refine goes_ Tryd.func18 (by kernel_rfl) rfl #[.slice A4 hs.length c4, .int .i64 (wrap64 ((x.length : Int) + (j : Int) + 1))] (by rfl) rfl rfl (by (try simp only [List.map_toArray, List.map_cons, List.map_nil]); first | done | rfl) ?_
        rw [hw2]
        refine (netlabref32_Has.calls k A4 c4 hs ((x.length : Int) + (j : Int) + 1) (hs.contains ((x.length : Int) + (j : Int) + 1)) wd HCH.out HLH.out HHAS.out).mono ?_
        rintro e w6 ⟨rfl, hd6⟩
        have hb6 := hd6.below
        refine ⟨_, rfl, ?_⟩
        refine hK.out _ _ ⟨pw_cell_below hb6 hS1, pw_cell_below hb6 hS2⟩ (fun hHeld => ?_)
        clear hK K
        have HMe := Aside0.mk (HMd.out.below hb6)
        have HTe := Aside0.mk (HTd.out.below hb6)
        clear hb6 hd6
        refine norm_ (a' := ?_) ?_ ?_
        rotate_left
        ·show Act.put _ (some 174) _ = _
         simp only [Act.put, List.setIfInBounds_toArray, List.set_cons_zero, List.set_cons_succ, i64_w, i32_w]
         rfl
        refine pure_ (i := 14) (N := some 175) (v := ?_) (a' := ?_) #[true, true, true, true, true, true, true, true, true, true, true, true, true, true, true, false] rfl rfl (any_of HT_.out (by kernel_rfl)) (fun _ _ _ h => h) (Or.inl ⟨by rfl, ?_⟩) ?_ ?_
        rotate_left
        ·intro w'
         go_simp
         with_reducible rfl
        rotate_left
        ·simp only [Act.put, List.setIfInBounds_toArray, List.set_cons_zero, List.set_cons_succ, i64_w, i32_w]
         rfl
        refine pure_ (i := 15) (N := some 23) (v := ?_) (a' := ?_) #[true, true, true, true, true, true, true, true, true, true, true, true, true, true, true, true] rfl rfl (any_of HT_.out (by kernel_rfl)) (fun _ _ _ h => h) (Or.inl ⟨by rfl, ?_⟩) ?_ ?_
        rotate_left
        ·intro w'
         go_simp
         with_reducible rfl
        rotate_left
        ·simp only [Act.put, List.setIfInBounds_toArray, List.set_cons_zero, List.set_cons_succ, i64_w, i32_w]
         rfl
        refine done_ (done_of HT_.out (by kernel_rfl)) ?_
        clear HT_ HW_ hHeld hS1 hS2
        go_wp2
        go_roundw
        case rel =>
         refine ⟨i + 1, by rw [wrap_succ (show i < 1000 by have := HTL.out; have := HIL.out; omega) (by omega)], by have := HIL.out; omega, ?_, ⟨by have := HJI.out; omega⟩, HMe, HTe⟩
         rw [HHS.out, decide_eq_true (show j < i by have := HJI.out; omega)]
         have e : ((x.length + j + 1 : Nat) : Int) = (x.length : Int) + (j : Int) + 1 := by omega
         rw [e]; simp
        case measure => exact meas_x HIL.out (wrap_succ (show i < 1000 by have := HTL.out; have := HIL.out; omega) (by omega))
       | true =>
        refine start_ (n := 16) (S := fun w' => w'.cell? ⟨gx, 1, none⟩ = some (.slice Ax x.length cx) ∧ w'.cell? ⟨(adt.add (i * 3)).block, (adt.add (i * 3)).off + 2, none⟩ = some (.slice A4 hs.length c4)) (ds := []) #[false, false, false, false, false, false, false, false, false, false, false, false, false, false, false, false] (by kernel_rfl) rfl rfl ⟨hS1, hS2⟩ (fun hHeld => ?_); refine with_tabW ptrimsR24.tab ptrimsR24.bits (fun HT_ HW_ => ?_)
        generalize wr.drew = wd at HMd HTd hS1 hS2 hHeld ⊢
        refine pure_ (i := 0) (N := some 161) (v := ?_) (a' := ?_) #[true, false, false, false, false, false, false, false, false, false, false, false, false, false, false, false] rfl rfl (any_of HT_.out (by kernel_rfl)) (fun _ _ _ h => h) (Or.inl ⟨by rfl, ?_⟩) ?_ ?_
        rotate_left
        ·intro w'
         go_simp
         with_reducible rfl
        rotate_left
        ·simp only [Act.put, List.setIfInBounds_toArray, List.set_cons_zero, List.set_cons_succ, i64_w, i32_w]
         rfl
        refine pure_ (i := 1) (N := some 162) (v := ?_) (a' := ?_) #[true, true, false, false, false, false, false, false, false, false, false, false, false, false, false, false] rfl rfl (any_of HT_.out (by kernel_rfl)) (fun _ _ _ h => h) (Or.inl ⟨by rfl, ?_⟩) ?_ ?_
        rotate_left
        ·intro w'
         go_simp
         with_reducible rfl
        rotate_left
        ·simp only [Act.put, List.setIfInBounds_toArray, List.set_cons_zero, List.set_cons_succ, i64_w, i32_w]
         rfl
        refine pure_ (i := 2) (N := some 163) (v := undef) (a' := ?_) #[true, true, true, false, false, false, false, false, false, false, false, false, false, false, false, false] rfl rfl (any_of HT_.out (by kernel_rfl)) (fun _ _ _ h => h) (Or.inr ⟨by rfl, rfl⟩) ?_ ?_
        rotate_left
        ·simp only [Act.put, List.setIfInBounds_toArray, List.set_cons_zero, List.set_cons_succ, i64_w, i32_w]
         rfl
        refine pure_ (i := 3) (N := some 164) (v := undef) (a' := ?_) #[true, true, true, true, false, false, false, false, false, false, false, false, false, false, false, false] rfl rfl (any_of HT_.out (by kernel_rfl)) (fun _ _ _ h => h) (Or.inr ⟨by rfl, rfl⟩) ?_ ?_
        rotate_left
        ·simp only [Act.put, List.setIfInBounds_toArray, List.set_cons_zero, List.set_cons_succ, i64_w, i32_w]
         rfl
        refine pure_ (i := 4) (N := some 165) (v := undef) (a' := ?_) #[true, true, true, true, true, false, false, false, false, false, false, false, false, false, false, false] rfl rfl (any_of HT_.out (by kernel_rfl)) (fun _ _ _ h => h) (Or.inr ⟨by rfl, rfl⟩) ?_ ?_
        rotate_left
        ·simp only [Act.put, List.setIfInBounds_toArray, List.set_cons_zero, List.set_cons_succ, i64_w, i32_w]
         rfl
        refine pure_ (i := 5) (N := some 166) (v := undef) (a' := ?_) #[true, true, true, true, true, true, false, false, false, false, false, false, false, false, false, false] rfl rfl (any_of HT_.out (by kernel_rfl)) (fun _ _ _ h => h) (Or.inr ⟨by rfl, rfl⟩) ?_ ?_
        rotate_left
        ·simp only [Act.put, List.setIfInBounds_toArray, List.set_cons_zero, List.set_cons_succ, i64_w, i32_w]
         rfl
        refine pure_ (i := 6) (N := some 167) (v := undef) (a' := ?_) #[true, true, true, true, true, true, true, false, false, false, false, false, false, false, false, false] rfl rfl (any_of HT_.out (by kernel_rfl)) (fun _ _ _ h => h) (Or.inr ⟨by rfl, rfl⟩) ?_ ?_
        rotate_left
        ·simp only [Act.put, List.setIfInBounds_toArray, List.set_cons_zero, List.set_cons_succ, i64_w, i32_w]
         rfl
        refine pure_ (i := 7) (N := some 168) (v := undef) (a' := ?_) #[true, true, true, true, true, true, true, true, false, false, false, false, false, false, false, false] rfl rfl (any_of HT_.out (by kernel_rfl)) (fun _ _ _ h => h) (Or.inr ⟨by rfl, rfl⟩) ?_ ?_
        rotate_left
        ·simp only [Act.put, List.setIfInBounds_toArray, List.set_cons_zero, List.set_cons_succ, i64_w, i32_w]
         rfl
        refine pure_ (i := 8) (N := some 169) (v := undef) (a' := ?_) #[true, true, true, true, true, true, true, true, true, false, false, false, false, false, false, false] rfl rfl (any_of HT_.out (by kernel_rfl)) (fun _ _ _ h => h) (Or.inr ⟨by rfl, rfl⟩) ?_ ?_
        rotate_left
        ·simp only [Act.put, List.setIfInBounds_toArray, List.set_cons_zero, List.set_cons_succ, i64_w, i32_w]
         rfl
        refine pure_ (i := 9) (N := some 170) (v := undef) (a' := ?_) #[true, true, true, true, true, true, true, true, true, true, false, false, false, false, false, false] rfl rfl (any_of HT_.out (by kernel_rfl)) (fun _ _ _ h => h) (Or.inr ⟨by rfl, rfl⟩) ?_ ?_
        rotate_left
        ·simp only [Act.put, List.setIfInBounds_toArray, List.set_cons_zero, List.set_cons_succ, i64_w, i32_w]
         rfl
        refine pure_ (i := 10) (N := some 171) (v := undef) (a' := ?_) #[true, true, true, true, true, true, true, true, true, true, true, false, false, false, false, false] rfl rfl (any_of HT_.out (by kernel_rfl)) (fun _ _ _ h => h) (Or.inr ⟨by rfl, rfl⟩) ?_ ?_
        rotate_left
        ·simp only [Act.put, List.setIfInBounds_toArray, List.set_cons_zero, List.set_cons_succ, i64_w, i32_w]
         rfl
        refine pure_ (i := 11) (N := some 172) (v := undef) (a' := ?_) #[true, true, true, true, true, true, true, true, true, true, true, true, false, false, false, false] rfl rfl (any_of HT_.out (by kernel_rfl)) (fun _ _ _ h => h) (Or.inr ⟨by rfl, rfl⟩) ?_ ?_
        rotate_left
        ·simp only [Act.put, List.setIfInBounds_toArray, List.set_cons_zero, List.set_cons_succ, i64_w, i32_w]
         rfl
        refine pure_ (i := 12) (N := some 173) (v := undef) (a' := ?_) #[true, true, true, true, true, true, true, true, true, true, true, true, true, false, false, false] rfl rfl (any_of HT_.out (by kernel_rfl)) (fun _ _ _ h => h) (Or.inr ⟨by rfl, rfl⟩) ?_ ?_
        rotate_left
        ·simp only [Act.put, List.setIfInBounds_toArray, List.set_cons_zero, List.set_cons_succ, i64_w, i32_w]
         rfl
        refine Go.Proofs.YtogicccdngpafaaDoorW.PrintLast.one_ (i := 13) (N := some 174) #[true, true, true, true, true, true, true, true, true, true, true, true, true, true, false, false] rfl rfl (one_of HT_.out (by kernel_rfl)) (by decide) (fun K hK => ?_)
        refine off_ (by rfl) ?_
        refine hK.out _ _ ⟨hS1, hS2⟩ (fun hHeld => ?_)
        clear hK K
        refine norm_ (a' := ?_) ?_ ?_
        rotate_left
        ·show Act.put _ (some 174) _ = _
         simp only [Act.put, List.setIfInBounds_toArray, List.set_cons_zero, List.set_cons_succ, i64_w, i32_w]
         rfl
        refine pure_ (i := 14) (N := some 175) (v := ?_) (a' := ?_) #[true, true, true, true, true, true, true, true, true, true, true, true, true, true, true, false] rfl rfl (any_of HT_.out (by kernel_rfl)) (fun _ _ _ h => h) (Or.inl ⟨by rfl, ?_⟩) ?_ ?_
        rotate_left
        ·intro w'
         go_simp
         with_reducible rfl
        rotate_left
        ·simp only [Act.put, List.setIfInBounds_toArray, List.set_cons_zero, List.set_cons_succ, i64_w, i32_w]
         rfl
        refine pure_ (i := 15) (N := some 23) (v := ?_) (a' := ?_) #[true, true, true, true, true, true, true, true, true, true, true, true, true, true, true, true] rfl rfl (any_of HT_.out (by kernel_rfl)) (fun _ _ _ h => h) (Or.inl ⟨by rfl, ?_⟩) ?_ ?_
        rotate_left
        ·intro w'
         go_simp
         with_reducible rfl
        rotate_left
        ·simp only [Act.put, List.setIfInBounds_toArray, List.set_cons_zero, List.set_cons_succ, i64_w, i32_w]
         rfl
        refine done_ (done_of HT_.out (by kernel_rfl)) ?_
        clear HT_ HW_ hHeld hS1 hS2
        go_wp2
        go_roundw
        case rel =>
         refine ⟨i + 1, by rw [wrap_succ (show i < 1000 by have := HTL.out; have := HIL.out; omega) (by omega)], by have := HIL.out; omega, ?_, ⟨by have := HJI.out; omega⟩, HMd, HTd⟩
         rw [HHS.out]; rfl
        case measure => exact meas_x HIL.out (wrap_succ (show i < 1000 by have := HTL.out; have := HIL.out; omega) (by omega))
      ·have hie : i = T + 1 := by omega
       subst hie
       have hubt : ub = true := by rw [← HUB.out, ← HTE.out]; exact usedB_all (GD.out.later j (by rw [HTE.out]; exact HJL.out)) (by rw [HTE.out]; exact HJL.out)
       subst hubt
       have hjt : (j : Int) < (T : Int) + 1 := by have := HJL.out; omega
       obtain ⟨adt', A3, c3, A4, c4, hAt, _, hp1, _, _, _, _, _⟩ := at_T45 HT.out.c (j : Int) (by omega) (by rw [HTE.out]; omega)
       cases hAt
       rw [GD.out.noGone j (by rw [HTE.out]; exact HJL.out)] at hp1
       simp only [Int.toNat_natCast] at hp1
       go_wp2
       go_roundw
       case rel => exact ⟨j + 1, by rw [wrap_succ (show j < 1000 by have := HTL.out; have := HJL.out; omega) (by omega)], by have := HJL.out; omega, HM, HT⟩
       case measure => exact meas_x HJL.out (wrap_succ (show j < 1000 by have := HTL.out; have := HJL.out; omega) (by omega))
    ·have hje : j = T + 1 := by omega
     subst hje
     go_wp2_with fail
     refine (awake_calls _).mono ?_
     rintro e w20 ⟨rfl, hb20⟩
     have HB20 := Aside0.mk (below_step HM.out.hb hb20)
     clear hb20
     go_wp2
     go_ret
     exact ⟨rfl, HB20.out⟩
  ·have he' : (r.e != 0) = true := by simpa using he
   clear he
   go_wp2_with fail
   have htc := trim_calls k n Ax cx x Aq cq q r w6 HM6.out.dx HLX.out HM6.out.dq HLQ.out OW.out.run HLX9.out HPS2.out
   rw [OW.out.trim] at htc
   refine htc.mono ?_
   clear htc
   rintro e w7 ⟨v7, rfl, hr7, hb7⟩
   obtain ⟨At, ct, hv7⟩ := Kd.R_slice hr7
   subst hv7
   have HB7 := Aside0.mk (below_step HM6.out.hb hb7)
   clear hr7 hb7 HM6 hx0 hx1
   go_wp2_with fail
   refine (awake_calls _).mono ?_
   rintro e w9 ⟨rfl, hb9⟩
   have HB9 := Aside0.mk (below_step HB7.out hb9)
   clear hb9
   go_wp2
   go_ret
   exact ⟨rfl, HB9.out⟩
end Go.Proofs.YtogicccdngpafaaDoor.NState
end
