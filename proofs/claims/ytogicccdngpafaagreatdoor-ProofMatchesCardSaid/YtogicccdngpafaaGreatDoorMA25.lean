/-
  Part 25 of the proof of proofMatches_card: walks and lemmas, packed by the session's own wip/pack.py out of its texts and of what the kit's print.sh printed.
-/
import Derived.Test.YtogicccdngpafaaGreatDoorMA16
import Derived.Test.YtogicccdngpafaaGreatDoorMA22
import Derived.Test.YtogicccdngpafaaGreatDoorMA24
section
namespace Go.Proofs.YtogicccdngpafaaGreatDoor.NState
open Go Go.RowKit Go.Shelf Go.Proofs.YtogicccdngpafaaGreatDoorW.PrintWords Go.Proofs.YtogicccdngpafaaGreatDoorW.PrintLast Go.Proofs.YtogicccdngpafaaGreatDoorW.PrintMore Go.Proofs.YtogicccdngpafaaGreatDoor.NMap
open Go.Proofs.YtogicccdngpafaaGreatDoor.PCheck (cnf_Check.f)
open Go.Proofs.YtogicccdngpafaaGreatDoor.PEqInts (netlabref32_EqInts.calls netlabref32_EqInts.f)
open Go.Proofs.YtogicccdngpafaaGreatDoor.PFew (netlabref32_Few.calls netlabref32_Few.f)
open Go.Proofs.YtogicccdngpafaaGreatDoor.PSame (netlabref33_Same.calls netlabref33_Same.f S42 k42 rd_T42)
open Go.Proofs.YtogicccdngpafaaGreatDoor.NPlain
structure PMW (w W : World) (gx : Nat) (vars : Int) (A1 : Option Addr) (c1 : Nat) (cls : List (List Int)) (A2 : Option Addr) (p : List Stp) (Ax : Option Addr) (cx : Nat) (x : List (List Int)) (Aq : Option Addr) (q : List Stp) : Prop where
 hb : Below w.heap.size w W
 bc : W.heap[w.heap.size]? = some (.cells #[.int .i64 vars, .slice A1 cls.length c1] 24 (0, 0))
 bx : W.heap[gx]? = some (.cells #[.int .i64 vars, .slice Ax x.length cx] 24 (0, 0))
 dc : Kd.C (Kd.slice 3 (Kd.int .i64)) W A1 cls.length cls
 dp : Kd.C kStp W A2 p.length p
 dx : Kd.C (Kd.slice 3 (Kd.int .i64)) W Ax x.length x
 dq : Kd.C kStp W Aq q.length q
theorem PMW.below {w W W' : World} {gx : Nat} {vars : Int} {A1 : Option Addr} {c1 : Nat} {cls : List (List Int)} {A2 : Option Addr} {p : List Stp} {Ax : Option Addr} {cx : Nat} {x : List (List Int)} {Aq : Option Addr} {q : List Stp} (h : PMW w W gx vars A1 c1 cls A2 p Ax cx x Aq q) (hb : Below W.heap.size W W') : PMW w W' gx vars A1 c1 cls A2 p Ax cx x Aq q :=
 ⟨below_step h.hb hb, blk_below h.bc hb, blk_below h.bx hb, Kd.C_below h.dc hb, Kd.C_below h.dp hb, Kd.C_below h.dx hb, Kd.C_below h.dq hb⟩
theorem PMW.cells {w W : World} {gx : Nat} {vars : Int} {A1 : Option Addr} {c1 : Nat} {cls : List (List Int)} {A2 : Option Addr} {p : List Stp} {Ax : Option Addr} {cx : Nat} {x : List (List Int)} {Aq : Option Addr} {q : List Stp} (h : PMW w W gx vars A1 c1 cls A2 p Ax cx x Aq q) :
  W.cell? ⟨w.heap.size, 0, none⟩ = some (.int .i64 vars) ∧ W.cell? ⟨w.heap.size, 1, none⟩ = some (.slice A1 cls.length c1) ∧ W.cell? ⟨gx, 0, none⟩ = some (.int .i64 vars) ∧ W.cell? ⟨gx, 1, none⟩ = some (.slice Ax x.length cx) :=
 ⟨(blk_cell h.bc 0).trans rfl, (blk_cell h.bc 1).trans rfl, (blk_cell h.bx 0).trans rfl, (blk_cell h.bx 1).trans rfl⟩
def pmatchR8.T : Bool × List (List Nat × List Nat) := (true, [([], []), ([], []), ([0, 1], [0, 1]), ([2], [2]), ([3], [3]), ([3], [3]), ([4, 5, 3], [3, 4, 5]), ([3, 6], [3, 6]), ([7, 3], [7]), ([8], [8]), ([8], [8]), ([9, 10, 8, 8], [8, 9, 10]), ([8, 11], [8, 11]), ([12, 11], [12]), ([13], [13]), ([13], [13]), ([14, 15, 13], [13, 14, 15]), ([13, 16], [13, 16]), ([17, 13], [17]), ([18], [18]), ([18], [18]), ([19, 20, 18, 18], [18, 19, 20]), ([18, 21], [18, 21]), ([22, 21], [22]), ([23], [23]), ([23], [23]), ([24, 25, 23], [23, 24, 25]), ([23, 26], [23, 26]), ([27, 23], [27]), ([28], [28]), ([28], [28]), ([30, 28, 28], [28, 30]), ([29, 31, 31, 28], [28, 29, 31]), ([28, 32], [28, 32]), ([33, 32], [33]), ([34], [34]), ([34], [34]), ([36, 34, 34], [34, 36]), ([35, 37, 37, 34], [34, 35, 37]), ([34, 38], [34, 38]), ([39, 38], [39]), ([40, 40], [40]), ([40, 41], [40, 41]), ([42, 41, 0, 1, 2, 3, 4, 5, 6, 7, 8, 9, 10, 11, 12, 13, 14, 15, 16, 17, 18, 19, 20, 21, 22, 23, 24, 25, 26, 27, 28, 29, 30, 31, 32, 33, 34, 35, 36, 37, 38, 39, 40, 41, 42], [42])])
def pmatchR8.B : List Nat := [0, 0, 3, 7, 15, 15, 63, 127, 255, 511, 511, 2047, 4095, 8191, 16383, 16383, 65535, 131071, 262143, 524287, 524287, 2097151, 4194303, 8388607, 16777215, 16777215, 67108863, 134217727, 268435455, 536870911, 536870911, 1610612735, 4294967295, 8589934591, 17179869183, 34359738367, 34359738367, 103079215103, 274877906943, 549755813887, 1099511627775, 2199023255551, 4398046511103, 8796093022207]
theorem pmatchR8.tab : rtab .any (opsOf Tryz.f3 8) = pmatchR8.T := by kernel_rfl
theorem pmatchR8.bits : waitsOk pmatchR8.T.2 pmatchR8.B = true := by kernel_rfl
structure RdRow {α : Type} (d : Kd α) (W : World) (A : Option Addr) (c : Nat) (xs : List α) : Prop where
 le : xs.length ≤ c
 c : d.C W A xs.length xs
theorem RdRow.below {α : Type} {d : Kd α} {W W' : World} {A : Option Addr} {c : Nat} {xs : List α} (h : RdRow d W A c xs) (hb : Below W.heap.size W W') : RdRow d W' A c xs := ⟨h.le, Kd.C_below h.c hb⟩
def PMatchPost (w : World) (e : Ending) (w' : World) : Prop := e = .returned (.bool true) ∧ Below w.heap.size w w'
set_option maxHeartbeats 8000000 in
set_option maxRecDepth 100000 in
theorem pmatch_calls (vars : Int) (A1 : Option Addr) (c1 : Nat) (cls : List (List Int)) (A2 : Option Addr) (c2 : Nat) (p : List Stp) (w : World)
  (hr1 : Kd.C (Kd.slice 3 (Kd.int .i64)) w A1 cls.length cls) (hc1 : cls.length ≤ c1) (hr2 : Kd.C kStp w A2 p.length p) (hc2 : p.length ≤ c2) :
  Calls Tryz.prog 3 #[.agg #[.int .i64 vars, .slice A1 cls.length c1], .slice A2 p.length c2] w (PMatchPost w) := by
 obtain ⟨k, x, q, e0, r, ow⟩ := pm_owed vars cls p
 have OW := Aside0.mk ow
 have HR1 := Aside0.mk hr1
 have HR2 := Aside0.mk hr2
 have HC1 := Aside0.mk hc1
 have HC2 := Aside0.mk hc2
 clear ow hr1 hr2 hc1 hc2
 have hu24 := Tryz.underlying24
 go_enter Tryz.func3, Tryz.ntmps3
 go_wp2_with fail
 refine (netlabref32_Few.calls k vars A1 c1 cls 40 vars x _ (Kd.C_alloc HR1.out _) HC1.out OW.out.few).mono ?_
 rintro e w1 ⟨v1, rfl, hs1, hb1⟩
 obtain ⟨Ax, cx, hvx, hlx, hCx⟩ := Kd.S_reads hs1
 subst hvx
 have HX1 := Aside0.mk hCx
 have HLX := Aside0.mk hlx
 have HB1 : Aside0 (Below w.heap.size w w1) := ⟨below_step ((Below.refl _ _).alloc (Nat.le_refl _) _) hb1⟩
 have BC1 : Aside0 (w1.heap[w.heap.size]? = some (.cells #[.int .i64 vars, .slice A1 cls.length c1] 24 (0, 0))) := ⟨blk_below (blk_new w _) hb1⟩
 clear hs1 hb1 hCx hlx
 go_wp2_with fail
 have hft := PFewT.netlabref33_Few.calls k A2 c2 (p.map sT) 80 (q.map sT) w1 (by rw [List.length_map]; exact Kd.C_below (C_sT HR2.out) HB1.out) (by rw [List.length_map]; exact HC2.out) OW.out.fewT
 rw [List.length_map] at hft
 refine hft.mono ?_
 clear hft
 rintro e w2 ⟨v2, rfl, hs2, hb2⟩
 obtain ⟨Aq, cq, hvq, hlq, hCq⟩ := Kd.S_reads hs2
 rw [List.length_map] at hvq hlq hCq
 subst hvq
 have HQ2 := Aside0.mk (C_ofT hCq)
 have HLQ := Aside0.mk hlq
 have HX2 := Aside0.mk (Kd.C_below HX1.out hb2)
 have BC2 := Aside0.mk (blk_below BC1.out hb2)
 have HB2 := Aside0.mk (below_step HB1.out hb2)
 clear hs2 hb2 hCq hlq HX1 BC1 HB1
 go_wp2_with fail
 have HM3 : Aside0 (PMW w (w2.alloc (.cells #[.int .i64 vars, .slice Ax x.length cx] 24)) w2.heap.size vars A1 c1 cls A2 p Ax cx x Aq q) := ⟨⟨below_step HB2.out (below_new _ _), blk_below BC2.out (below_new _ _), blk_new w2 _, Kd.C_below HR1.out (below_step HB2.out (below_new _ _)), Kd.C_below HR2.out (below_step HB2.out (below_new _ _)), Kd.C_alloc HX2.out _, Kd.C_alloc HQ2.out _⟩⟩
 clear HB2 BC2 HX2 HQ2 HR1 HR2
 generalize w2.heap.size = gx at HM3 ⊢
 generalize w2.alloc (.cells #[.int .i64 vars, .slice Ax x.length cx] 24) = w3 at HM3 ⊢
 have HLX9 : Aside0 (x.length ≤ 4611686018427000000) := ⟨by have := OW.out.lx; omega⟩
 have HLX5 : Aside0 (x.length ≤ 100000) := ⟨by have := OW.out.lx; omega⟩
 have HCS : Aside0 (∀ l ∈ x, l.length ≤ 1000000) := ⟨fun l hl => by have := OW.out.lxs l hl; omega⟩
 have HPS : Aside0 (∀ y ∈ q, y.f0.length ≤ 1000000 ∧ y.f2.length ≤ 1000000) := ⟨fun y hy => by have := OW.out.lqs y hy; omega⟩
 have HPS2 : Aside0 (∀ y ∈ q, y.f0.length ≤ 268435455 ∧ y.f2.length ≤ 268435455) := ⟨fun y hy => by have := OW.out.lqs y hy; omega⟩
 refine (check_calls k vars Ax cx x Aq cq q r w3 HM3.out.dx HLX.out HM3.out.dq HLQ.out OW.out.run HLX9.out).mono ?_
 rintro e w4 ⟨rfl, hb4⟩
 have HM4 := Aside0.mk (HM3.out.below hb4)
 clear hb4 HM3
 have hx0 : w4.cell? ⟨gx, 0, none⟩ = some (.int .i64 vars) := (blk_cell HM4.out.bx 0).trans rfl
 have hx1 : w4.cell? ⟨gx, 1, none⟩ = some (.slice Ax x.length cx) := (blk_cell HM4.out.bx 1).trans rfl
 go_wp2_with fail
 refine (refCheck_calls k k e0 vars Ax cx x Aq cq q r w4 HM4.out.dx HLX.out HM4.out.dq OW.out.chk OW.out.chkR OW.out.hv OW.out.run HLX5.out HCS.out HPS.out).mono ?_
 rintro e w5 ⟨rfl, hb5⟩
 have HM5 := Aside0.mk (HM4.out.below hb5)
 clear hb5 HM4 hx0 hx1
 have hx0 : w5.cell? ⟨gx, 0, none⟩ = some (.int .i64 vars) := (blk_cell HM5.out.bx 0).trans rfl
 have hx1 : w5.cell? ⟨gx, 1, none⟩ = some (.slice Ax x.length cx) := (blk_cell HM5.out.bx 1).trans rfl
 go_wp2_with fail
 have hcc := core_calls k vars Ax cx x Aq cq q r w5 HM5.out.dx HLX.out HM5.out.dq HLQ.out OW.out.run HLX9.out OW.out.us
 rw [OW.out.core] at hcc
 refine hcc.mono ?_
 clear hcc
 rintro e w6 ⟨v6, rfl, hr6, hb6⟩
 obtain ⟨Aa, ca, hv6, hl6, hC6⟩ := Kd.R_reads hr6
 simp only at hv6 hl6 hC6
 subst hv6
 have HM6 := Aside0.mk (HM5.out.below hb6)
 have HA6 : Aside0 (RdRow (Kd.int .i64) w6 Aa ca (coreR x.length q r)) := ⟨⟨hl6, hC6⟩⟩
 clear hr6 hb6 hl6 hC6 HM5 hx0 hx1
 have hx0 : w6.cell? ⟨gx, 0, none⟩ = some (.int .i64 vars) := (blk_cell HM6.out.bx 0).trans rfl
 have hx1 : w6.cell? ⟨gx, 1, none⟩ = some (.slice Ax x.length cx) := (blk_cell HM6.out.bx 1).trans rfl
 go_wp2_with fail
 refine (refCore_calls k k k e0 vars Ax cx x Aq cq q r (finP q r x.length) (coreP q r x.length) w6 HM6.out.dx HLX.out HM6.out.dq HLQ.out OW.out.chk OW.out.chkR OW.out.hv OW.out.run HLX5.out HCS.out HPS.out OW.out.marks OW.out.m2l).mono ?_
 rintro e w7 ⟨v7, rfl, hr7, hb7⟩
 change Kd.R (Kd.int .i64) 3 w7 w6.heap.size (fun _ => True) v7 (coreR x.length q r) at hr7
 obtain ⟨Ab, cb, hv7, hl7, hC7⟩ := Kd.R_reads hr7
 subst hv7
 have HM7 := Aside0.mk (HM6.out.below hb7)
 have HA7 := Aside0.mk (HA6.out.below hb7)
 have HD7 : Aside0 (RdRow (Kd.int .i64) w7 Ab cb (coreR x.length q r)) := ⟨⟨hl7, hC7⟩⟩
 clear hr7 hb7 hl7 hC7 HM6 HA6 hx0 hx1
 have hx0 : w7.cell? ⟨gx, 0, none⟩ = some (.int .i64 vars) := (blk_cell HM7.out.bx 0).trans rfl
 have hx1 : w7.cell? ⟨gx, 1, none⟩ = some (.slice Ax x.length cx) := (blk_cell HM7.out.bx 1).trans rfl
 go_wp2_with fail
 have htc := trim_calls k vars Ax cx x Aq cq q r w7 HM7.out.dx HLX.out HM7.out.dq HLQ.out OW.out.run HLX9.out HPS2.out
 rw [OW.out.trim] at htc
 refine htc.mono ?_
 clear htc
 rintro e w8 ⟨v8, rfl, hr8, hb8⟩
 obtain ⟨At, ct, hv8, hl8, hC8⟩ := Kd.R_reads hr8
 simp only at hv8 hl8 hC8
 subst hv8
 have HM8 := Aside0.mk (HM7.out.below hb8)
 have HA8 := Aside0.mk (HA7.out.below hb8)
 have HD8 := Aside0.mk (HD7.out.below hb8)
 have HT8 : Aside0 (RdRow kStp w8 At ct (trimR x.length q r)) := ⟨⟨hl8, hC8⟩⟩
 clear hr8 hb8 hl8 hC8 HM7 HA7 HD7 hx0 hx1
 have hx0 : w8.cell? ⟨gx, 0, none⟩ = some (.int .i64 vars) := (blk_cell HM8.out.bx 0).trans rfl
 have hx1 : w8.cell? ⟨gx, 1, none⟩ = some (.slice Ax x.length cx) := (blk_cell HM8.out.bx 1).trans rfl
 go_wp2_with fail
 refine (refTrim_calls k k k k e0 vars Ax cx x Aq cq q r (finP q r x.length) (coreP q r x.length) (stF x.length r.byL) w8 HM8.out.dx HLX.out HM8.out.dq HLQ.out OW.out.chk OW.out.chkR OW.out.hv OW.out.run HLX5.out HCS.out HPS.out OW.out.marks OW.out.m1l OW.out.step).mono ?_
 rintro e w9 ⟨v9, rfl, hr9, hb9⟩
 change Kd.R kStp 42 w9 w8.heap.size (fun _ => True) v9 (trimR x.length q r) at hr9
 obtain ⟨Au, cu, hv9, hl9, hC9⟩ := Kd.R_reads hr9
 subst hv9
 have HM9 := Aside0.mk (HM8.out.below hb9)
 have HA9 := Aside0.mk (HA8.out.below hb9)
 have HD9 := Aside0.mk (HD8.out.below hb9)
 have HT9 := Aside0.mk (HT8.out.below hb9)
 have HU9 : Aside0 (RdRow kStp w9 Au cu (trimR x.length q r)) := ⟨⟨hl9, hC9⟩⟩
 clear hr9 hb9 hl9 hC9 HM8 HA8 HD8 HT8 hx0 hx1
 go_wp2_with fail
 have HMd := Aside0.mk (HM9.out.below (below_drew (Below.refl _ _)))
 have HAd := Aside0.mk (HA9.out.below (below_drew (Below.refl _ _)))
 have HDd := Aside0.mk (HD9.out.below (below_drew (Below.refl _ _)))
 have HTd := Aside0.mk (HT9.out.below (below_drew (Below.refl _ _)))
 have HUd := Aside0.mk (HU9.out.below (below_drew (Below.refl _ _)))
 clear HM9 HA9 HD9 HT9 HU9
 refine start_ (n := 44) (S := fun w' => w'.cell? ⟨w.heap.size, 0, none⟩ = some (.int .i64 vars) ∧ w'.cell? ⟨w.heap.size, 1, none⟩ = some (.slice A1 cls.length c1) ∧ w'.cell? ⟨gx, 0, none⟩ = some (.int .i64 vars) ∧ w'.cell? ⟨gx, 1, none⟩ = some (.slice Ax x.length cx)) (ds := []) #[false, false, false, false, false, false, false, false, false, false, false, false, false, false, false, false, false, false, false, false, false, false, false, false, false, false, false, false, false, false, false, false, false, false, false, false, false, false, false, false, false, false, false, false] (by kernel_rfl) rfl rfl HMd.out.cells (fun hHeld => ?_); refine with_tabW pmatchR8.tab pmatchR8.bits (fun HT_ HW_ => ?_)
 generalize w9.drew = wd at HMd HAd HDd HTd HUd hHeld ⊢
 refine pure_ (i := 0) (N := some 59) (v := ?_) (a' := ?_) #[true, false, false, false, false, false, false, false, false, false, false, false, false, false, false, false, false, false, false, false, false, false, false, false, false, false, false, false, false, false, false, false, false, false, false, false, false, false, false, false, false, false, false, false] rfl rfl (any_of HT_.out (by kernel_rfl)) (fun _ _ _ h => h) (Or.inl ⟨by rfl, ?_⟩) ?_ ?_
 rotate_left
 ·intro w'
  go_simp
  with_reducible rfl
 rotate_left
 ·simp only [Act.put, List.setIfInBounds_toArray, List.set_cons_zero, List.set_cons_succ, i64_w, i32_w]
  rfl
 refine pure_ (i := 1) (N := some 60) (v := ?_) (a' := ?_) #[true, true, false, false, false, false, false, false, false, false, false, false, false, false, false, false, false, false, false, false, false, false, false, false, false, false, false, false, false, false, false, false, false, false, false, false, false, false, false, false, false, false, false, false] rfl rfl (any_of HT_.out (by kernel_rfl)) (fun _ _ _ h => h) (Or.inl ⟨by rfl, ?_⟩) ?_ ?_
 rotate_left
 ·intro w'
  go_simp
  with_reducible rfl
 rotate_left
 ·simp only [Act.put, List.setIfInBounds_toArray, List.set_cons_zero, List.set_cons_succ, i64_w, i32_w]
  rfl
 refine pure_ (i := 2) (N := some 61) (v := ?_) (a' := ?_) #[true, true, true, false, false, false, false, false, false, false, false, false, false, false, false, false, false, false, false, false, false, false, false, false, false, false, false, false, false, false, false, false, false, false, false, false, false, false, false, false, false, false, false, false] rfl rfl (any_of HT_.out (by kernel_rfl)) (fun _ _ _ h => h) (Or.inl ⟨by rfl, ?_⟩) ?_ ?_
 rotate_left
 ·intro w'
  go_simp
  with_reducible rfl
 rotate_left
 ·simp only [Act.put, List.setIfInBounds_toArray, List.set_cons_zero, List.set_cons_succ, i64_w, i32_w]
  rfl
 refine pure_ (i := 3) (N := some 62) (v := ?_) (a' := ?_) #[true, true, true, true, false, false, false, false, false, false, false, false, false, false, false, false, false, false, false, false, false, false, false, false, false, false, false, false, false, false, false, false, false, false, false, false, false, false, false, false, false, false, false, false] rfl rfl (any_of HT_.out (by kernel_rfl)) (fun _ _ _ h => h) (Or.inl ⟨by rfl, ?_⟩) ?_ ?_
 rotate_left
 ·intro w'
  go_simp
  with_reducible rfl
 rotate_left
 ·simp only [Act.put, List.setIfInBounds_toArray, List.set_cons_zero, List.set_cons_succ, i64_w, i32_w]
  rfl
 refine pure_ (i := 4) (N := some 63) (v := ?_) (a' := ?_) #[true, true, true, true, true, false, false, false, false, false, false, false, false, false, false, false, false, false, false, false, false, false, false, false, false, false, false, false, false, false, false, false, false, false, false, false, false, false, false, false, false, false, false, false] rfl rfl (any_of HT_.out (by kernel_rfl)) (fun _ _ _ h => h) (Or.inl ⟨by rfl, ?_⟩) ?_ ?_
 rotate_left
 ·intro w'
  go_simp
  with_reducible rfl
 rotate_left
 ·simp only [Act.put, List.setIfInBounds_toArray, List.set_cons_zero, List.set_cons_succ, i64_w, i32_w]
  rfl
 refine pure_ (i := 5) (N := some 64) (v := ?_) (a' := ?_) #[true, true, true, true, true, true, false, false, false, false, false, false, false, false, false, false, false, false, false, false, false, false, false, false, false, false, false, false, false, false, false, false, false, false, false, false, false, false, false, false, false, false, false, false] rfl rfl (any_of HT_.out (by kernel_rfl)) (fun _ _ _ h => h) (Or.inl ⟨by rfl, ?_⟩) ?_ ?_
 rotate_left
 ·intro w'
  go_simp
  with_reducible rfl
 rotate_left
 ·simp only [Act.put, List.setIfInBounds_toArray, List.set_cons_zero, List.set_cons_succ, i64_w, i32_w]
  rfl
 refine pure_ (i := 6) (N := some 65) (v := ?_) (a' := ?_) #[true, true, true, true, true, true, true, false, false, false, false, false, false, false, false, false, false, false, false, false, false, false, false, false, false, false, false, false, false, false, false, false, false, false, false, false, false, false, false, false, false, false, false, false] rfl rfl (any_of HT_.out (by kernel_rfl)) (fun _ _ _ h => h) (Or.inl ⟨by rfl, ?_⟩) ?_ ?_
 rotate_left
 ·intro w'
  go_simp
  with_reducible rfl
 rotate_left
 ·simp only [Act.put, List.setIfInBounds_toArray, List.set_cons_zero, List.set_cons_succ, i64_w, i32_w]
  rfl
 refine pure_ (i := 7) (N := some 66) (v := ?_) (a' := ?_) #[true, true, true, true, true, true, true, true, false, false, false, false, false, false, false, false, false, false, false, false, false, false, false, false, false, false, false, false, false, false, false, false, false, false, false, false, false, false, false, false, false, false, false, false] rfl rfl (any_of HT_.out (by kernel_rfl)) (fun _ _ _ h => h) (Or.inl ⟨by rfl, ?_⟩) ?_ ?_
 rotate_left
 ·intro w'
  go_simp
  with_reducible rfl
 rotate_left
 ·simp only [Act.put, List.setIfInBounds_toArray, List.set_cons_zero, List.set_cons_succ, i64_w, i32_w]
  rfl
 refine pure_ (i := 8) (N := some 67) (v := ?_) (a' := ?_) #[true, true, true, true, true, true, true, true, true, false, false, false, false, false, false, false, false, false, false, false, false, false, false, false, false, false, false, false, false, false, false, false, false, false, false, false, false, false, false, false, false, false, false, false] rfl rfl (any_of HT_.out (by kernel_rfl)) (fun _ _ _ h => h) (Or.inl ⟨by rfl, ?_⟩) ?_ ?_
 rotate_left
 ·intro w'
  go_simp
  with_reducible rfl
 rotate_left
 ·simp only [Act.put, List.setIfInBounds_toArray, List.set_cons_zero, List.set_cons_succ, i64_w, i32_w]
  rfl
 refine pure_ (i := 9) (N := some 68) (v := ?_) (a' := ?_) #[true, true, true, true, true, true, true, true, true, true, false, false, false, false, false, false, false, false, false, false, false, false, false, false, false, false, false, false, false, false, false, false, false, false, false, false, false, false, false, false, false, false, false, false] rfl rfl (any_of HT_.out (by kernel_rfl)) (fun _ _ _ h => h) (Or.inl ⟨by rfl, ?_⟩) ?_ ?_
 rotate_left
 ·intro w'
  go_simp
  with_reducible rfl
 rotate_left
 ·simp only [Act.put, List.setIfInBounds_toArray, List.set_cons_zero, List.set_cons_succ, i64_w, i32_w]
  rfl
 refine pure_ (i := 10) (N := some 69) (v := ?_) (a' := ?_) #[true, true, true, true, true, true, true, true, true, true, true, false, false, false, false, false, false, false, false, false, false, false, false, false, false, false, false, false, false, false, false, false, false, false, false, false, false, false, false, false, false, false, false, false] rfl rfl (any_of HT_.out (by kernel_rfl)) (fun _ _ _ h => h) (Or.inl ⟨by rfl, ?_⟩) ?_ ?_
 rotate_left
 ·intro w'
  go_simp
  with_reducible rfl
 rotate_left
 ·simp only [Act.put, List.setIfInBounds_toArray, List.set_cons_zero, List.set_cons_succ, i64_w, i32_w]
  rfl
 refine Go.Proofs.YtogicccdngpafaaGreatDoorW.PrintLast.one_ (i := 11) (N := some 70) #[true, true, true, true, true, true, true, true, true, true, true, true, false, false, false, false, false, false, false, false, false, false, false, false, false, false, false, false, false, false, false, false, false, false, false, false, false, false, false, false, false, false, false, false] rfl rfl (one_of HT_.out (by kernel_rfl)) (by decide) (fun K hK => ?_)
 refine goes_ Tryz.func17 (by kernel_rfl) rfl #[.slice Aa (coreR x.length q r).length ca, .slice Ab (coreR x.length q r).length cb] (by rfl) rfl rfl (by (try simp only [List.map_toArray, List.map_cons, List.map_nil]); first | done | rfl) ?_
 refine (netlabref32_EqInts.calls k Aa ca (coreR x.length q r) Ab cb (coreR x.length q r) true wd HAd.out.c HAd.out.le HDd.out.c HDd.out.le OW.out.eqC).mono ?_
 rintro e w11 ⟨rfl, hd11⟩
 have hb11 := hd11.below
 have HM11 := Aside0.mk (HMd.out.below hb11)
 have HT11 := Aside0.mk (HTd.out.below hb11)
 have HU11 := Aside0.mk (HUd.out.below hb11)
 refine ⟨_, rfl, ?_⟩
 refine hK.out _ _ HM11.out.cells (fun hHeld => ?_)
 clear hK K hb11 HMd
 refine norm_ (a' := ?_) ?_ ?_
 rotate_left
 ·show Act.put _ (some 70) _ = _
  simp only [Act.put, List.setIfInBounds_toArray, List.set_cons_zero, List.set_cons_succ, i64_w, i32_w]
  rfl
 refine pure_ (i := 12) (N := some 71) (v := ?_) (a' := ?_) #[true, true, true, true, true, true, true, true, true, true, true, true, true, false, false, false, false, false, false, false, false, false, false, false, false, false, false, false, false, false, false, false, false, false, false, false, false, false, false, false, false, false, false, false] rfl rfl (any_of HT_.out (by kernel_rfl)) (fun _ _ _ h => h) (Or.inl ⟨by rfl, ?_⟩) ?_ ?_
 rotate_left
 ·intro w'
  go_simp
  with_reducible rfl
 rotate_left
 ·simp only [Act.put, List.setIfInBounds_toArray, List.set_cons_zero, List.set_cons_succ, i64_w, i32_w]
  rfl
 refine pure_ (i := 13) (N := some 72) (v := ?_) (a' := ?_) #[true, true, true, true, true, true, true, true, true, true, true, true, true, true, false, false, false, false, false, false, false, false, false, false, false, false, false, false, false, false, false, false, false, false, false, false, false, false, false, false, false, false, false, false] rfl rfl (any_of HT_.out (by kernel_rfl)) (fun _ _ _ h => h) (Or.inl ⟨by rfl, ?_⟩) ?_ ?_
 rotate_left
 ·intro w'
  go_simp
  with_reducible rfl
 rotate_left
 ·simp only [Act.put, List.setIfInBounds_toArray, List.set_cons_zero, List.set_cons_succ, i64_w, i32_w]
  rfl
 refine pure_ (i := 14) (N := some 73) (v := ?_) (a' := ?_) #[true, true, true, true, true, true, true, true, true, true, true, true, true, true, true, false, false, false, false, false, false, false, false, false, false, false, false, false, false, false, false, false, false, false, false, false, false, false, false, false, false, false, false, false] rfl rfl (any_of HT_.out (by kernel_rfl)) (fun _ _ _ h => h) (Or.inl ⟨by rfl, ?_⟩) ?_ ?_
 rotate_left
 ·intro w'
  go_simp
  with_reducible rfl
 rotate_left
 ·simp only [Act.put, List.setIfInBounds_toArray, List.set_cons_zero, List.set_cons_succ, i64_w, i32_w]
  rfl
 refine pure_ (i := 15) (N := some 74) (v := ?_) (a' := ?_) #[true, true, true, true, true, true, true, true, true, true, true, true, true, true, true, true, false, false, false, false, false, false, false, false, false, false, false, false, false, false, false, false, false, false, false, false, false, false, false, false, false, false, false, false] rfl rfl (any_of HT_.out (by kernel_rfl)) (fun _ _ _ h => h) (Or.inl ⟨by rfl, ?_⟩) ?_ ?_
 rotate_left
 ·intro w'
  go_simp
  with_reducible rfl
 rotate_left
 ·simp only [Act.put, List.setIfInBounds_toArray, List.set_cons_zero, List.set_cons_succ, i64_w, i32_w]
  rfl
 refine pure_ (i := 16) (N := some 75) (v := ?_) (a' := ?_) #[true, true, true, true, true, true, true, true, true, true, true, true, true, true, true, true, true, false, false, false, false, false, false, false, false, false, false, false, false, false, false, false, false, false, false, false, false, false, false, false, false, false, false, false] rfl rfl (any_of HT_.out (by kernel_rfl)) (fun _ _ _ h => h) (Or.inl ⟨by rfl, ?_⟩) ?_ ?_
 rotate_left
 ·intro w'
  go_simp
  with_reducible rfl
 rotate_left
 ·simp only [Act.put, List.setIfInBounds_toArray, List.set_cons_zero, List.set_cons_succ, i64_w, i32_w]
  rfl
 refine pure_ (i := 17) (N := some 76) (v := ?_) (a' := ?_) #[true, true, true, true, true, true, true, true, true, true, true, true, true, true, true, true, true, true, false, false, false, false, false, false, false, false, false, false, false, false, false, false, false, false, false, false, false, false, false, false, false, false, false, false] rfl rfl (any_of HT_.out (by kernel_rfl)) (fun _ _ _ h => h) (Or.inl ⟨by rfl, ?_⟩) ?_ ?_
 rotate_left
 ·intro w'
  go_simp
  with_reducible rfl
 rotate_left
 ·simp only [Act.put, List.setIfInBounds_toArray, List.set_cons_zero, List.set_cons_succ, i64_w, i32_w]
  rfl
 refine pure_ (i := 18) (N := some 77) (v := ?_) (a' := ?_) #[true, true, true, true, true, true, true, true, true, true, true, true, true, true, true, true, true, true, true, false, false, false, false, false, false, false, false, false, false, false, false, false, false, false, false, false, false, false, false, false, false, false, false, false] rfl rfl (any_of HT_.out (by kernel_rfl)) (fun _ _ _ h => h) (Or.inl ⟨by rfl, ?_⟩) ?_ ?_
 rotate_left
 ·intro w'
  go_simp
  with_reducible rfl
 rotate_left
 ·simp only [Act.put, List.setIfInBounds_toArray, List.set_cons_zero, List.set_cons_succ, i64_w, i32_w]
  rfl
 refine pure_ (i := 19) (N := some 78) (v := ?_) (a' := ?_) #[true, true, true, true, true, true, true, true, true, true, true, true, true, true, true, true, true, true, true, true, false, false, false, false, false, false, false, false, false, false, false, false, false, false, false, false, false, false, false, false, false, false, false, false] rfl rfl (any_of HT_.out (by kernel_rfl)) (fun _ _ _ h => h) (Or.inl ⟨by rfl, ?_⟩) ?_ ?_
 rotate_left
 ·intro w'
  go_simp
  with_reducible rfl
 rotate_left
 ·simp only [Act.put, List.setIfInBounds_toArray, List.set_cons_zero, List.set_cons_succ, i64_w, i32_w]
  rfl
 refine pure_ (i := 20) (N := some 79) (v := ?_) (a' := ?_) #[true, true, true, true, true, true, true, true, true, true, true, true, true, true, true, true, true, true, true, true, true, false, false, false, false, false, false, false, false, false, false, false, false, false, false, false, false, false, false, false, false, false, false, false] rfl rfl (any_of HT_.out (by kernel_rfl)) (fun _ _ _ h => h) (Or.inl ⟨by rfl, ?_⟩) ?_ ?_
 rotate_left
 ·intro w'
  go_simp
  with_reducible rfl
 rotate_left
 ·simp only [Act.put, List.setIfInBounds_toArray, List.set_cons_zero, List.set_cons_succ, i64_w, i32_w]
  rfl
 refine Go.Proofs.YtogicccdngpafaaGreatDoorW.PrintLast.one_ (i := 21) (N := some 80) #[true, true, true, true, true, true, true, true, true, true, true, true, true, true, true, true, true, true, true, true, true, true, false, false, false, false, false, false, false, false, false, false, false, false, false, false, false, false, false, false, false, false, false, false] rfl rfl (one_of HT_.out (by kernel_rfl)) (by decide) (fun K hK => ?_)
 refine goes_ Tryz.func18 (by kernel_rfl) rfl #[.slice At (trimR x.length q r).length ct, .slice Au (trimR x.length q r).length cu] (by rfl) rfl rfl (by (try simp only [List.map_toArray, List.map_cons, List.map_nil]); first | done | rfl) ?_
 refine (netlabref33_Same.calls k At ct (trimR x.length q r) Au cu (trimR x.length q r) true w11 HT11.out.c HT11.out.le HU11.out.c HU11.out.le OW.out.eqT).mono ?_
 rintro e w21 ⟨rfl, hb21⟩
 have HM21 := Aside0.mk (HM11.out.below hb21)
 refine ⟨_, rfl, ?_⟩
 refine hK.out _ _ HM21.out.cells (fun hHeld => ?_)
 clear hK K hb21 HM11
 refine norm_ (a' := ?_) ?_ ?_
 rotate_left
 ·show Act.put _ (some 80) _ = _
  simp only [Act.put, List.setIfInBounds_toArray, List.set_cons_zero, List.set_cons_succ, i64_w, i32_w]
  rfl
 refine pure_ (i := 22) (N := some 81) (v := ?_) (a' := ?_) #[true, true, true, true, true, true, true, true, true, true, true, true, true, true, true, true, true, true, true, true, true, true, true, false, false, false, false, false, false, false, false, false, false, false, false, false, false, false, false, false, false, false, false, false] rfl rfl (any_of HT_.out (by kernel_rfl)) (fun _ _ _ h => h) (Or.inl ⟨by rfl, ?_⟩) ?_ ?_
 rotate_left
 ·intro w'
  go_simp
  with_reducible rfl
 rotate_left
 ·simp only [Act.put, List.setIfInBounds_toArray, List.set_cons_zero, List.set_cons_succ, i64_w, i32_w]
  rfl
 refine pure_ (i := 23) (N := some 82) (v := ?_) (a' := ?_) #[true, true, true, true, true, true, true, true, true, true, true, true, true, true, true, true, true, true, true, true, true, true, true, true, false, false, false, false, false, false, false, false, false, false, false, false, false, false, false, false, false, false, false, false] rfl rfl (any_of HT_.out (by kernel_rfl)) (fun _ _ _ h => h) (Or.inl ⟨by rfl, ?_⟩) ?_ ?_
 rotate_left
 ·intro w'
  go_simp
  with_reducible rfl
 rotate_left
 ·simp only [Act.put, List.setIfInBounds_toArray, List.set_cons_zero, List.set_cons_succ, i64_w, i32_w]
  rfl
 refine pure_ (i := 24) (N := some 83) (v := ?_) (a' := ?_) #[true, true, true, true, true, true, true, true, true, true, true, true, true, true, true, true, true, true, true, true, true, true, true, true, true, false, false, false, false, false, false, false, false, false, false, false, false, false, false, false, false, false, false, false] rfl rfl (any_of HT_.out (by kernel_rfl)) (fun _ _ _ h => h) (Or.inl ⟨by rfl, ?_⟩) ?_ ?_
 rotate_left
 ·intro w'
  go_simp
  with_reducible rfl
 rotate_left
 ·simp only [Act.put, List.setIfInBounds_toArray, List.set_cons_zero, List.set_cons_succ, i64_w, i32_w]
  rfl
 refine pure_ (i := 25) (N := some 84) (v := ?_) (a' := ?_) #[true, true, true, true, true, true, true, true, true, true, true, true, true, true, true, true, true, true, true, true, true, true, true, true, true, true, false, false, false, false, false, false, false, false, false, false, false, false, false, false, false, false, false, false] rfl rfl (any_of HT_.out (by kernel_rfl)) (fun _ _ _ h => h) (Or.inl ⟨by rfl, ?_⟩) ?_ ?_
 rotate_left
 ·intro w'
  go_simp
  with_reducible rfl
 rotate_left
 ·simp only [Act.put, List.setIfInBounds_toArray, List.set_cons_zero, List.set_cons_succ, i64_w, i32_w]
  rfl
 refine pure_ (i := 26) (N := some 85) (v := ?_) (a' := ?_) #[true, true, true, true, true, true, true, true, true, true, true, true, true, true, true, true, true, true, true, true, true, true, true, true, true, true, true, false, false, false, false, false, false, false, false, false, false, false, false, false, false, false, false, false] rfl rfl (any_of HT_.out (by kernel_rfl)) (fun _ _ _ h => h) (Or.inl ⟨by rfl, ?_⟩) ?_ ?_
 rotate_left
 ·intro w'
  go_simp
  with_reducible rfl
 rotate_left
 ·simp only [Act.put, List.setIfInBounds_toArray, List.set_cons_zero, List.set_cons_succ, i64_w, i32_w]
  rfl
 refine pure_ (i := 27) (N := some 86) (v := ?_) (a' := ?_) #[true, true, true, true, true, true, true, true, true, true, true, true, true, true, true, true, true, true, true, true, true, true, true, true, true, true, true, true, false, false, false, false, false, false, false, false, false, false, false, false, false, false, false, false] rfl rfl (any_of HT_.out (by kernel_rfl)) (fun _ _ _ h => h) (Or.inl ⟨by rfl, ?_⟩) ?_ ?_
 rotate_left
 ·intro w'
  go_simp
  with_reducible rfl
 rotate_left
 ·simp only [Act.put, List.setIfInBounds_toArray, List.set_cons_zero, List.set_cons_succ, i64_w, i32_w]
  rfl
 refine pure_ (i := 28) (N := some 87) (v := ?_) (a' := ?_) #[true, true, true, true, true, true, true, true, true, true, true, true, true, true, true, true, true, true, true, true, true, true, true, true, true, true, true, true, true, false, false, false, false, false, false, false, false, false, false, false, false, false, false, false] rfl rfl (any_of HT_.out (by kernel_rfl)) (fun _ _ _ h => h) (Or.inl ⟨by rfl, ?_⟩) ?_ ?_
 rotate_left
 ·intro w'
  go_simp
  with_reducible rfl
 rotate_left
 ·simp only [Act.put, List.setIfInBounds_toArray, List.set_cons_zero, List.set_cons_succ, i64_w, i32_w]
  rfl
 refine take_ (i := 29) (N := some 88) (v := ?_) (a' := ?_) #[true, true, true, true, true, true, true, true, true, true, true, true, true, true, true, true, true, true, true, true, true, true, true, true, true, true, true, true, true, true, false, false, false, false, false, false, false, false, false, false, false, false, false, false] rfl rfl (take_ofW HT_.out HW_.out (by kernel_rfl)) (fun _ _ _ h => h) (Or.inl ⟨by rfl, ?_⟩) hHeld ?_ ?_
 rotate_left
 ·rintro w' ⟨s0, s1, s2, s3⟩
  go_simp
  with_reducible rfl
 rotate_left
 ·simp only [Act.put, List.setIfInBounds_toArray, List.set_cons_zero, List.set_cons_succ, i64_w, i32_w]
  rfl
 refine take_ (i := 30) (N := some 89) (v := ?_) (a' := ?_) #[true, true, true, true, true, true, true, true, true, true, true, true, true, true, true, true, true, true, true, true, true, true, true, true, true, true, true, true, true, true, true, false, false, false, false, false, false, false, false, false, false, false, false, false] rfl rfl (take_ofW HT_.out HW_.out (by kernel_rfl)) (fun _ _ _ h => h) (Or.inl ⟨by rfl, ?_⟩) hHeld ?_ ?_
 rotate_left
 ·rintro w' ⟨s0, s1, s2, s3⟩
  go_simp
  with_reducible rfl
 rotate_left
 ·simp only [Act.put, List.setIfInBounds_toArray, List.set_cons_zero, List.set_cons_succ, i64_w, i32_w]
  rfl
 refine Go.Proofs.YtogicccdngpafaaGreatDoorW.PrintLast.one_ (i := 31) (N := some 90) #[true, true, true, true, true, true, true, true, true, true, true, true, true, true, true, true, true, true, true, true, true, true, true, true, true, true, true, true, true, true, true, true, false, false, false, false, false, false, false, false, false, false, false, false] rfl rfl (one_of HT_.out (by kernel_rfl)) (by decide) (fun K hK => ?_)
 refine goes_ Tryz.func9 (by kernel_rfl) rfl #[.agg #[.int .i64 vars, .slice A1 cls.length c1], .int .i64 40] (by rfl) rfl rfl (by (try simp only [List.map_toArray, List.map_cons, List.map_nil]); first | done | rfl) ?_
 refine (netlabref32_Few.calls k vars A1 c1 cls 40 vars x w21 HM21.out.dc HC1.out OW.out.few).mono ?_
 rintro e w31 ⟨v31, rfl, hs31, hb31⟩
 obtain ⟨Ay, cy, hvy, hly, hCy⟩ := Kd.S_reads hs31
 subst hvy
 have HY31 : Aside0 (RdRow (Kd.slice 3 (Kd.int .i64)) w31 Ay cy x) := ⟨⟨hly, hCy⟩⟩
 clear hs31 hly hCy
 have HM31 := Aside0.mk (HM21.out.below hb31)
 refine ⟨_, rfl, ?_⟩
 refine hK.out _ _ HM31.out.cells (fun hHeld => ?_)
 clear hK K hb31 HM21
 refine norm_ (a' := ?_) ?_ ?_
 rotate_left
 ·show Act.put _ (some 90) _ = _
  simp only [Act.put, List.setIfInBounds_toArray, List.set_cons_zero, List.set_cons_succ, i64_w, i32_w]
  rfl
 refine Go.Proofs.YtogicccdngpafaaGreatDoorW.PrintLast.one_ (i := 32) (N := some 91) #[true, true, true, true, true, true, true, true, true, true, true, true, true, true, true, true, true, true, true, true, true, true, true, true, true, true, true, true, true, true, true, true, true, false, false, false, false, false, false, false, false, false, false, false] rfl rfl (one_of HT_.out (by kernel_rfl)) (by decide) (fun K hK => ?_)
 refine goes_ Tryz.func19 (by kernel_rfl) rfl #[.agg #[.int .i64 vars, .slice Ax x.length cx], .agg #[.int .i64 vars, .slice Ay x.length cy]] (by rfl) rfl rfl (by (try simp only [List.map_toArray, List.map_cons, List.map_nil]); first | done | rfl) ?_
 refine (PSameC.netlabref32_Same.calls k vars Ax cx x vars Ay cy x true w31 HM31.out.dx HLX.out HY31.out.c HY31.out.le OW.out.eqX).mono ?_
 rintro e w32 ⟨rfl, hb32⟩
 have HM32 := Aside0.mk (HM31.out.below hb32)
 refine ⟨_, rfl, ?_⟩
 refine hK.out _ _ HM32.out.cells (fun hHeld => ?_)
 clear hK K hb32 HM31
 refine norm_ (a' := ?_) ?_ ?_
 rotate_left
 ·show Act.put _ (some 91) _ = _
  simp only [Act.put, List.setIfInBounds_toArray, List.set_cons_zero, List.set_cons_succ, i64_w, i32_w]
  rfl
 refine pure_ (i := 33) (N := some 92) (v := ?_) (a' := ?_) #[true, true, true, true, true, true, true, true, true, true, true, true, true, true, true, true, true, true, true, true, true, true, true, true, true, true, true, true, true, true, true, true, true, true, false, false, false, false, false, false, false, false, false, false] rfl rfl (any_of HT_.out (by kernel_rfl)) (fun _ _ _ h => h) (Or.inl ⟨by rfl, ?_⟩) ?_ ?_
 rotate_left
 ·intro w'
  go_simp
  with_reducible rfl
 rotate_left
 ·simp only [Act.put, List.setIfInBounds_toArray, List.set_cons_zero, List.set_cons_succ, i64_w, i32_w]
  rfl
 refine pure_ (i := 34) (N := some 93) (v := ?_) (a' := ?_) #[true, true, true, true, true, true, true, true, true, true, true, true, true, true, true, true, true, true, true, true, true, true, true, true, true, true, true, true, true, true, true, true, true, true, true, false, false, false, false, false, false, false, false, false] rfl rfl (any_of HT_.out (by kernel_rfl)) (fun _ _ _ h => h) (Or.inl ⟨by rfl, ?_⟩) ?_ ?_
 rotate_left
 ·intro w'
  go_simp
  with_reducible rfl
 rotate_left
 ·simp only [Act.put, List.setIfInBounds_toArray, List.set_cons_zero, List.set_cons_succ, i64_w, i32_w]
  rfl
 refine pure_ (i := 35) (N := some 94) (v := ?_) (a' := ?_) #[true, true, true, true, true, true, true, true, true, true, true, true, true, true, true, true, true, true, true, true, true, true, true, true, true, true, true, true, true, true, true, true, true, true, true, true, false, false, false, false, false, false, false, false] rfl rfl (any_of HT_.out (by kernel_rfl)) (fun _ _ _ h => h) (Or.inl ⟨by rfl, ?_⟩) ?_ ?_
 rotate_left
 ·intro w'
  go_simp
  with_reducible rfl
 rotate_left
 ·simp only [Act.put, List.setIfInBounds_toArray, List.set_cons_zero, List.set_cons_succ, i64_w, i32_w]
  rfl
 refine pure_ (i := 36) (N := some 95) (v := ?_) (a' := ?_) #[true, true, true, true, true, true, true, true, true, true, true, true, true, true, true, true, true, true, true, true, true, true, true, true, true, true, true, true, true, true, true, true, true, true, true, true, true, false, false, false, false, false, false, false] rfl rfl (any_of HT_.out (by kernel_rfl)) (fun _ _ _ h => h) (Or.inl ⟨by rfl, ?_⟩) ?_ ?_
 rotate_left
 ·intro w'
  go_simp
  with_reducible rfl
 rotate_left
 ·simp only [Act.put, List.setIfInBounds_toArray, List.set_cons_zero, List.set_cons_succ, i64_w, i32_w]
  rfl
 refine Go.Proofs.YtogicccdngpafaaGreatDoorW.PrintLast.one_ (i := 37) (N := some 96) #[true, true, true, true, true, true, true, true, true, true, true, true, true, true, true, true, true, true, true, true, true, true, true, true, true, true, true, true, true, true, true, true, true, true, true, true, true, true, false, false, false, false, false, false] rfl rfl (one_of HT_.out (by kernel_rfl)) (by decide) (fun K hK => ?_)
 refine goes_ Tryz.func10 (by kernel_rfl) rfl #[.slice A2 p.length c2, .int .i64 80] (by rfl) rfl rfl (by (try simp only [List.map_toArray, List.map_cons, List.map_nil]); first | done | rfl) ?_
 have hft := PFewT.netlabref33_Few.calls k A2 c2 (p.map sT) 80 (q.map sT) w32 (by rw [List.length_map]; exact C_sT HM32.out.dp) (by rw [List.length_map]; exact HC2.out) OW.out.fewT
 rw [List.length_map] at hft
 refine hft.mono ?_
 clear hft
 rintro e w37 ⟨v37, rfl, hs37, hb37⟩
 obtain ⟨Az, cz, hvz, hlz, hCz⟩ := Kd.S_reads hs37
 rw [List.length_map] at hvz hlz hCz
 subst hvz
 have HZ37 : Aside0 (RdRow kStp w37 Az cz q) := ⟨⟨hlz, C_ofT hCz⟩⟩
 clear hs37 hlz hCz
 have HM37 := Aside0.mk (HM32.out.below hb37)
 refine ⟨_, rfl, ?_⟩
 refine hK.out _ _ HM37.out.cells (fun hHeld => ?_)
 clear hK K hb37 HM32
 refine norm_ (a' := ?_) ?_ ?_
 rotate_left
 ·show Act.put _ (some 96) _ = _
  simp only [Act.put, List.setIfInBounds_toArray, List.set_cons_zero, List.set_cons_succ, i64_w, i32_w]
  rfl
 refine Go.Proofs.YtogicccdngpafaaGreatDoorW.PrintLast.one_ (i := 38) (N := some 97) #[true, true, true, true, true, true, true, true, true, true, true, true, true, true, true, true, true, true, true, true, true, true, true, true, true, true, true, true, true, true, true, true, true, true, true, true, true, true, true, false, false, false, false, false] rfl rfl (one_of HT_.out (by kernel_rfl)) (by decide) (fun K hK => ?_)
 refine goes_ Tryz.func18 (by kernel_rfl) rfl #[.slice Aq q.length cq, .slice Az q.length cz] (by rfl) rfl rfl (by (try simp only [List.map_toArray, List.map_cons, List.map_nil]); first | done | rfl) ?_
 refine (netlabref33_Same.calls k Aq cq q Az cz q true w37 HM37.out.dq HLQ.out HZ37.out.c HZ37.out.le OW.out.eqQ).mono ?_
 rintro e w38 ⟨rfl, hb38⟩
 have HM38 := Aside0.mk (HM37.out.below hb38)
 refine ⟨_, rfl, ?_⟩
 refine hK.out _ _ HM38.out.cells (fun hHeld => ?_)
 clear hK K hb38 HM37
 refine norm_ (a' := ?_) ?_ ?_
 rotate_left
 ·show Act.put _ (some 97) _ = _
  simp only [Act.put, List.setIfInBounds_toArray, List.set_cons_zero, List.set_cons_succ, i64_w, i32_w]
  rfl
 refine pure_ (i := 39) (N := some 98) (v := ?_) (a' := ?_) #[true, true, true, true, true, true, true, true, true, true, true, true, true, true, true, true, true, true, true, true, true, true, true, true, true, true, true, true, true, true, true, true, true, true, true, true, true, true, true, true, false, false, false, false] rfl rfl (any_of HT_.out (by kernel_rfl)) (fun _ _ _ h => h) (Or.inl ⟨by rfl, ?_⟩) ?_ ?_
 rotate_left
 ·intro w'
  go_simp
  with_reducible rfl
 rotate_left
 ·simp only [Act.put, List.setIfInBounds_toArray, List.set_cons_zero, List.set_cons_succ, i64_w, i32_w]
  rfl
 refine pure_ (i := 40) (N := some 99) (v := ?_) (a' := ?_) #[true, true, true, true, true, true, true, true, true, true, true, true, true, true, true, true, true, true, true, true, true, true, true, true, true, true, true, true, true, true, true, true, true, true, true, true, true, true, true, true, true, false, false, false] rfl rfl (any_of HT_.out (by kernel_rfl)) (fun _ _ _ h => h) (Or.inl ⟨by rfl, ?_⟩) ?_ ?_
 rotate_left
 ·intro w'
  go_simp
  with_reducible rfl
 rotate_left
 ·simp only [Act.put, List.setIfInBounds_toArray, List.set_cons_zero, List.set_cons_succ, i64_w, i32_w]
  rfl
 refine Go.Proofs.YtogicccdngpafaaGreatDoorW.PrintLast.one_ (i := 41) (N := some 100) #[true, true, true, true, true, true, true, true, true, true, true, true, true, true, true, true, true, true, true, true, true, true, true, true, true, true, true, true, true, true, true, true, true, true, true, true, true, true, true, true, true, true, false, false] rfl rfl (one_of HT_.out (by kernel_rfl)) (by decide) (fun K hK => ?_)
 refine goes_ Tryz.func20 (by kernel_rfl) rfl #[] (by rfl) rfl rfl (by (try simp only [List.map_toArray, List.map_cons, List.map_nil]); first | done | rfl) ?_
 refine (awake_calls w38).mono ?_
 rintro e w41 ⟨rfl, hb41⟩
 have HM41 := Aside0.mk (HM38.out.below hb41)
 refine ⟨_, rfl, ?_⟩
 refine hK.out _ _ HM41.out.cells (fun hHeld => ?_)
 clear hK K hb41 HM38
 refine norm_ (a' := ?_) ?_ ?_
 rotate_left
 ·show Act.put _ (some 100) _ = _
  simp only [Act.put, List.setIfInBounds_toArray, List.set_cons_zero, List.set_cons_succ, i64_w, i32_w]
  rfl
 refine pure_ (i := 42) (N := some 101) (v := ?_) (a' := ?_) #[true, true, true, true, true, true, true, true, true, true, true, true, true, true, true, true, true, true, true, true, true, true, true, true, true, true, true, true, true, true, true, true, true, true, true, true, true, true, true, true, true, true, true, false] rfl rfl (any_of HT_.out (by kernel_rfl)) (fun _ _ _ h => h) (Or.inl ⟨by rfl, ?_⟩) ?_ ?_
 rotate_left
 ·intro w'
  go_simp
  with_reducible rfl
 rotate_left
 ·simp only [Act.put, List.setIfInBounds_toArray, List.set_cons_zero, List.set_cons_succ, i64_w, i32_w]
  rfl
 refine pure_ (i := 43) (N := some 4) (v := ?_) (a' := ?_) #[true, true, true, true, true, true, true, true, true, true, true, true, true, true, true, true, true, true, true, true, true, true, true, true, true, true, true, true, true, true, true, true, true, true, true, true, true, true, true, true, true, true, true, true] rfl rfl (any_of HT_.out (by kernel_rfl)) (fun _ _ _ h => h) (Or.inl ⟨by rfl, ?_⟩) ?_ ?_
 rotate_left
 ·intro w'
  go_simp
  with_reducible rfl
 rotate_left
 ·simp only [Act.put, List.setIfInBounds_toArray, List.set_cons_zero, List.set_cons_succ, i64_w, i32_w]
  rfl
 refine done_ (done_of HT_.out (by kernel_rfl)) ?_
 clear HT_ HW_ hHeld
 go_wp2
 go_ret
 exact ⟨rfl, HM41.out.hb⟩
end Go.Proofs.YtogicccdngpafaaGreatDoor.NState
end
