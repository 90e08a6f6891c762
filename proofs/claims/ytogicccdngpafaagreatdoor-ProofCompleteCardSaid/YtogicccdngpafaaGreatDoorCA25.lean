/-
  Part 25 of the proof of proofComplete_card: walks and lemmas, packed by the session's own wip/pack.py out of its texts and of what the kit's print.sh printed.
-/
import Derived.Test.YtogicccdngpafaaGreatDoorCA16
import Derived.Test.YtogicccdngpafaaGreatDoorCA19
import Derived.Test.YtogicccdngpafaaGreatDoorCA23
import Derived.Test.YtogicccdngpafaaGreatDoorCA24
section
namespace Go.Proofs.YtogicccdngpafaaGreatDoor.NState
open Go Go.RowKit Go.Shelf Go.Proofs.YtogicccdngpafaaGreatDoorW.PrintWords Go.Proofs.YtogicccdngpafaaGreatDoorW.PrintLast Go.Proofs.YtogicccdngpafaaGreatDoorW.PrintMore Go.Proofs.YtogicccdngpafaaGreatDoor.NMap
open Go.Proofs.YtogicccdngpafaaGreatDoor.PCheck (cnf_Check.f rd_L1 at_L1)
open Go.Proofs.YtogicccdngpafaaGreatDoor.PFew (netlabref32_Few.calls netlabref32_Few.f)
open Go.Proofs.YtogicccdngpafaaGreatDoor.PFit (netlabref32_Fit.calls netlabref32_Fit.f netlabref20_Bring.calls)
open Go.Proofs.YtogicccdngpafaaGreatDoor.PSame (S42 k42 rd_T42 at_T42)
open Go.Proofs.YtogicccdngpafaaGreatDoor.NPlain (growL negL PCOwed PCGood pc_owed CountIs Mod Sub LitOk unitsL)
theorem infoSV : (Tryz.prog.info? 31).map (fun i => (i.zero, i.size, i.bytes)) = some (some (.slice none 0 0), 1, 24) := by kernel_rfl
def pcompR14.T : Bool × List (List Nat × List Nat) := (true, [([], []), ([0], [0]), ([], []), ([], []), ([2, 3], [2, 3]), ([4], [4]), ([5], [5]), ([], []), ([6, 7], [6, 7]), ([8], [8]), ([9], [9]), ([10], [10]), ([11], [11]), ([1, 12], [1, 12]), ([0, 1, 2, 3, 4, 5, 6, 7, 8, 9, 10, 11, 12, 13], []), ([14, 13, 13, 0, 1, 2, 3, 4, 5, 6, 7, 8, 9, 10, 11, 12, 13], [13, 14])])
def pcompR14.B : List Nat := [0, 1, 0, 0, 12, 28, 60, 0, 252, 508, 1020, 2044, 4092, 8191, 16383, 32767]
theorem pcompR14.tab : rtab .any (opsOf Tryz.f5 14) = pcompR14.T := by kernel_rfl
theorem pcompR14.bits : waitsOk pcompR14.T.2 pcompR14.B = true := by kernel_rfl
structure PCW (w W : World) (gx n : Nat) (Ax : Option Addr) (cx : Nat) (x : List (List Int)) : Prop where
 hb : Below w.heap.size w W
 bx : W.heap[gx]? = some (.cells #[.int .i64 n, .slice Ax x.length cx] 24 (0, 0))
 dx : Kd.C (Kd.slice 3 (Kd.int .i64)) W Ax x.length x
theorem PCW.below {w W W' : World} {gx n : Nat} {Ax : Option Addr} {cx : Nat} {x : List (List Int)} (h : PCW w W gx n Ax cx x) (hb : Below W.heap.size W W') : PCW w W' gx n Ax cx x :=
 ⟨below_step h.hb hb, blk_below h.bx hb, Kd.C_below h.dx hb⟩
theorem PCW.cells {w W : World} {gx n : Nat} {Ax : Option Addr} {cx : Nat} {x : List (List Int)} (h : PCW w W gx n Ax cx x) : W.cell? ⟨gx, 0, none⟩ = some (.int .i64 n) ∧ W.cell? ⟨gx, 1, none⟩ = some (.slice Ax x.length cx) := ⟨(blk_cell h.bx 0).trans rfl, (blk_cell h.bx 1).trans rfl⟩
structure PCL (w W : World) (gy n : Nat) (v : Value) (ws : List (List Int)) : Prop where
 hb : Below w.heap.size w W
 by_ : W.heap[gy]? = some (.cells #[.int .i64 n, v] 24 (0, 0))
 row : Kd.R (Kd.slice 3 (Kd.int .i64)) 31 W w.heap.size (fun k => k ≠ gy) v ws
 gyl : w.heap.size ≤ gy
section
variable {w W W' : World} {gy n : Nat} {v : Value} {ws : List (List Int)}
theorem PCL.below (h : PCL w W gy n v ws) (hb : Below W.heap.size W W') : PCL w W' gy n v ws :=
 ⟨below_step h.hb hb, blk_below h.by_ hb, Kd.R_below h.row hb, h.gyl⟩
theorem PCL.held (h : PCL w W gy n v ws) {a b : Addr} {s t : Value} (h1 : w.cell? a = some s) (h2 : w.cell? b = some t) : W.cell? ⟨gy, 1, none⟩ = some v ∧ W.cell? a = some s ∧ W.cell? b = some t :=
 ⟨(blk_cell h.by_ 1).trans rfl, pw_cell_below h.hb h1, pw_cell_below h.hb h2⟩
theorem PCL.store {v' : Value} {ws' : List (List Int)} (hb : Below w.heap.size w W') (hy : W'.heap[gy]? = some (.cells #[.int .i64 n, v] 24 (0, 0))) (hr : Kd.R (Kd.slice 3 (Kd.int .i64)) 31 W' w.heap.size (fun k => k ≠ gy) v' ws') (hl : w.heap.size ≤ gy) : PCL w (W'.setCell ⟨gy, 1, none⟩ v') gy n v' ws' :=
 ⟨below_set hb hl, blk_put hy 1 v' rfl, Kd.R_far (p := ⟨gy, 1, none⟩) hr (fun _ hk => hk) v', hl⟩
end
theorem R_not_box {α : Type} {d : Kd α} {e base : Nat} {ok : Nat → Prop} {W : World} {v : Value} {xs : List α} (h : d.R e W base ok v xs) (g : Nat) (hg : W.heap.size ≤ g) : d.R e W base (fun k => k ≠ g) v xs := Kd.R_mono (Kd.R_bound h) (fun k hk => by have := hk.2.2.1; omega)
theorem units_take {A : List Int} {j : Nat} (h : j < A.length) : (A.take (j + 1)).map (fun a => [a]) = (A.take j).map (fun a => [a]) ++ [[A[j]]] := by
 rw [List.take_succ_eq_append_getElem h, List.map_append]; rfl
def PCompPost (w : World) (e : Ending) (w' : World) : Prop := e = .returned (.bool true) ∧ Below w.heap.size w w'
set_option maxHeartbeats 8000000 in
set_option maxRecDepth 100000 in
theorem pcomp_calls (vars : Int) (A1 : Option Addr) (c1 : Nat) (cls : List (List Int)) (at_ : Int) (w : World)
  (hr1 : Kd.C (Kd.slice 3 (Kd.int .i64)) w A1 cls.length cls) (hc1 : cls.length ≤ c1) :
  Calls Tryz.prog 5 #[.agg #[.int .i64 vars, .slice A1 cls.length c1], .int .i64 at_] w (PCompPost w) := by
 obtain ⟨k, n, x, p, gi, ok, ow⟩ := pc_owed vars cls at_
 have OW := Aside0.mk ow
 have HR1 := Aside0.mk hr1
 have HC1 := Aside0.mk hc1
 clear ow hr1 hc1
 have hu24 := Tryz.underlying24
 have hu45 := Tryz.underlying42
 go_enter Tryz.func5, Tryz.ntmps5
 go_wp2_with fail
 refine (netlabref32_Fit.calls k vars A1 c1 cls 6 30 n x _ (Kd.C_alloc HR1.out _) HC1.out OW.out.fit).mono ?_
 rintro e w1 ⟨v1, rfl, hs1, hb1⟩
 obtain ⟨Ax, cx, hvx, hlx, hCx⟩ := Kd.S_reads hs1
 subst hvx
 have HX1 := Aside0.mk hCx
 have HLX := Aside0.mk hlx
 have HB1 : Aside0 (Below w.heap.size w w1) := ⟨below_step ((Below.refl _ _).alloc (Nat.le_refl _) _) hb1⟩
 clear hs1 hb1 hCx hlx
 go_wp2_with fail
 have HLX9 : Aside0 (x.length ≤ 1000000000) := ⟨by have := OW.out.lx; omega⟩
 have HLI : Aside0 (∀ l ∈ x, l.length ≤ 1000000000 ∧ ∀ y ∈ l, LitOk n y) := ⟨fun l hl => ⟨by have := (OW.out.lxs l hl).1; omega, (OW.out.lxs l hl).2⟩⟩
 have HM1 : Aside0 (PCW w (w1.alloc (.cells #[.int .i64 n, .slice Ax x.length cx] 24)) w1.heap.size n Ax cx x) := ⟨⟨below_step HB1.out (below_nw _ _), blk_new w1 _, Kd.C_alloc HX1.out _⟩⟩
 clear HX1 HB1
 refine (count_calls k n Ax cx x _ (by have := OW.out.hn; omega) HM1.out.dx HLX.out HLX9.out HLI.out OW.out.chk).mono ?_
 rintro e w2 ⟨cn, rfl, hcn, hb2⟩
 have HM2 := Aside0.mk (HM1.out.below hb2)
 have HCN := Aside0.mk hcn
 clear hcn hb2 HM1
 generalize w1.heap.size = gx at HM2 ⊢
 obtain ⟨hx0, hx1⟩ := HM2.out.cells
 go_wp2_with fail
 have HCS : Aside0 (∀ l ∈ x, l.length ≤ 1000000) := ⟨fun l hl => by have := (OW.out.lxs l hl).1; omega⟩
 refine (tree_calls w2 n (by have := OW.out.hn; omega) Ax cx x HM2.out.dx HLX.out (by have := OW.out.lx; omega) HCS.out).mono ?_
 rintro e w3 ⟨v3, rfl, hR3, hb3⟩
 have HM3 := Aside0.mk (HM2.out.below hb3)
 have hrr := Kd.R_lower hR3 HM2.out.hb.size
 rw [OW.out.grow] at hrr
 rw [OW.out.grow]
 obtain ⟨Ap, cp, hv3⟩ := Kd.R_slice hrr
 subst hv3
 have HP3 := Aside0.mk hrr
 clear hrr hR3 hb3 HM2 hx0 hx1
 obtain ⟨hx0, hx1⟩ := HM3.out.cells
 have hsub : ∀ M : List Int, Sub [] M := fun M y hy => by simp at hy
 cases ok with
 | false =>
  have hcz : ((cn : Int) == 0) = false := by
   obtain ⟨M, hM⟩ := OW.out.no rfl
   have h0 : ¬ cn = 0 := fun h => HCN.out.zero.1 h ⟨M, hM, hsub M⟩
   simp; omega
  have hcz2 : (cn == 0) = false := by simp at hcz ⊢; omega
  go_wp2_with fail
  refine (awake_calls _).mono ?_
  rintro e w9 ⟨rfl, hb9⟩
  have HB9 := Aside0.mk (below_step HM3.out.hb hb9)
  clear hb9
  go_wp2
  go_ret
  exact ⟨rfl, HB9.out⟩
 | true =>
  obtain ⟨hno, i, A, r, good⟩ := OW.out.yes rfl
  have GD := Aside0.mk good
  have hcz : cn = 0 := HCN.out.zero.2 (fun ⟨M, hM, _⟩ => hno ⟨M, hM⟩)
  subst hcz
  clear hno good hsub HCN
  go_wp2_with fail
  have HCP := Aside0.mk (Kd.R_reads' HP3.out).2
  have hcc := check_calls k n Ax cx x Ap cp p r w3 HM3.out.dx HLX.out HCP.out.2 HCP.out.1 GD.out.run (by have := OW.out.lx; omega)
  rw [GD.out.re, GD.out.rat] at hcc
  refine hcc.mono ?_
  clear hcc
  rintro e w4 ⟨rfl, hb4⟩
  have HM4 := Aside0.mk (HM3.out.below hb4)
  have HP4 := Aside0.mk (Kd.R_below HP3.out hb4)
  clear hb4 HM3 HP3 HCP hx0 hx1
  obtain ⟨hx0, hx1⟩ := HM4.out.cells
  go_wp2_with fail
  refine (netlabref20_Bring.calls at_ (p.length : Int) i w4 GD.out.bring).mono ?_
  rintro e w5 ⟨rfl, hd5⟩
  have HM5 := Aside0.mk (HM4.out.below hd5.below)
  have HP5 := Aside0.mk (Kd.R_below HP4.out hd5.below)
  clear hd5 HM4 HP4 hx0 hx1
  obtain ⟨hx0, hx1⟩ := HM5.out.cells
  go_wp2_with fail
  refine (netlabref32_Few.calls k n Ax cx x 30 n x w5 HM5.out.dx HLX.out GD.out.few).mono ?_
  rintro e w6 ⟨v6, rfl, hs6, hb6⟩
  have HB5 := Aside0.mk HM5.out.hb
  have HB6 := Aside0.mk hb6
  have HR6 := Aside0.mk (Kd.S_R hs6)
  have HC5 := Aside0.mk (Kd.R_reads' HP5.out).2.2
  obtain ⟨A6, c6, hv6⟩ := Kd.R_slice HR6.out
  subst hv6
  clear hs6 hb6 HM5 HP5 hx0 hx1
  have HI : Aside0 (i < p.length) := ⟨GD.out.hi⟩
  go_wp2_with fail
  have HL0 : Aside0 (PCL w5 (w6.alloc (.cells #[.int .i64 n, .slice A6 x.length c6] 24)) w6.heap.size n (.slice A6 x.length c6) x) := ⟨⟨below_step HB6.out (below_nw _ _), blk_new w6 _, Kd.R_alloc (R_not_box HR6.out w6.heap.size (Nat.le_refl _)) _, HB6.out.size⟩⟩
  clear HB6 HR6
  generalize w6.heap.size = gy at HL0 ⊢
  generalize w6.alloc (.cells #[.int .i64 n, .slice A6 x.length c6] 24) = w7 at HL0 ⊢
  go_loopw [14] (fun v14 wr => ∃ (j : Nat) (v : Value) (ws : List (List Int)), v14 = .int .i64 j ∧ j ≤ A.length ∧ Aside0 (ws = x ++ unitsL (A.take j)) ∧ Aside0 (PCL w5 wr gy n v ws)) (fun v14 _ => A.length - (intOf v14).toNat)
  case atStart => exact ⟨0, _, x, rfl, Nat.zero_le _, ⟨by simp [unitsL]⟩, HL0⟩
  case round =>
   clear HL0
   obtain ⟨j, v, ws, rfl, hj, HWS, HL⟩ := hrel
   have hlA : (negL A).length = A.length := by simp [negL]
   obtain ⟨adt, A3, c3, A4, c4, hAt, hp0, _, _, hl3, hC3, _, _⟩ := at_T42 HC5.out (i : Int) (by omega) (by have := HI.out; omega)
   subst hAt
   rw [GD.out.step] at hp0 hl3 hC3
   rw [hlA] at hp0 hl3 hC3
   simp only [Int.toNat_natCast] at hp0
   have hil : (i : Int) < (p.length : Int) := by have := HI.out; omega
   have hd0 := pw_cell_below HL.out.hb hp0
   have hy0 : wr.cell? ⟨gy, 0, none⟩ = some (.int .i64 n) := (blk_cell HL.out.by_ 0).trans rfl
   have hy1 : wr.cell? ⟨gy, 1, none⟩ = some v := (blk_cell HL.out.by_ 1).trans rfl
   by_cases hlt : j < A.length
   ·have hjd : decide ((j : Int) < (A.length : Int)) = true := decide_eq_true (by omega)
    obtain ⟨ad3, hA3, hcy⟩ := Kd.at_int hC3 (j : Int) (by omega) (by omega)
    subst hA3
    have hrd : rd (negL A) (j : Int) = wrap64 (-(A[j])) := by
     have : j < (negL A).length := by rw [hlA]; exact hlt
     simp [rd, List.getD, negL, List.getElem?_eq_getElem hlt]
    rw [hrd] at hcy
    have HLIT : Aside0 (LitOk n A[j]) := ⟨GD.out.lits _ (List.getElem_mem _)⟩
    have HUT := Aside0.mk (units_take hlt)
    have HJ := Aside0.mk hlt
    generalize A[j] = a at hcy HLIT HUT
    have hwa : wrap64 (-a) = -a := NPlain.wneg (by have := HLIT.out.2.1; have := OW.out.hn; omega) (by have := HLIT.out.2.2; have := OW.out.hn; omega)
    rw [hwa] at hcy
    simp only [Int.toNat_natCast] at hcy
    have hwb : IntKind.i64.wrap a = a := by
     rw [i64_w]; have h1 := HLIT.out.2.1; have h2 := HLIT.out.2.2; have h3 := OW.out.hn; unfold wrap64; omega
    have HWB := Aside0.mk hwb
    have hjl : (j : Int) < (A.length : Int) := by omega
    clear hlt hrd hwa
    go_wp2_with fail
    have HLd := Aside0.mk (HL.out.below (below_drew (Below.refl _ _)))
    have HP0 := Aside0.mk hp0
    have HCY := Aside0.mk hcy
    clear HL hd0 hy0 hy1 hjd hl3 hC3 hp0 hcy
    refine start_ (n := 16) (S := fun w' => w'.cell? ⟨gy, 1, none⟩ = some v ∧ w'.cell? (adt.add (i * 3)) = some (.slice (some ad3) A.length c3) ∧ w'.cell? (ad3.add j) = some (.int .i64 (-a))) (ds := [15]) #[false, false, false, false, false, false, false, false, false, false, false, false, false, false, false, false] (by kernel_rfl) rfl rfl (HLd.out.held HP0.out HCY.out) (fun hHeld => ?_); refine with_tabW pcompR14.tab pcompR14.bits (fun HT_ HW_ => ?_)
    generalize wr.drew = wd at HLd hHeld ⊢
    refine pure_ (i := 0) (N := some 62) (v := ?_) (a' := ?_) #[true, false, false, false, false, false, false, false, false, false, false, false, false, false, false, false] rfl rfl (any_of HT_.out (by kernel_rfl)) (fun _ _ _ h => h) (Or.inl ⟨by rfl, ?_⟩) ?_ ?_
    rotate_left
    ·intro w'
     go_simp
     with_reducible rfl
    rotate_left
    ·simp only [Act.put, List.setIfInBounds_toArray, List.set_cons_zero, List.set_cons_succ, i64_w, i32_w]
     rfl
    refine pure_ (i := 2) (N := some 64) (v := ?_) (a' := ?_) #[true, false, true, false, false, false, false, false, false, false, false, false, false, false, false, false] rfl rfl (any_of HT_.out (by kernel_rfl)) (fun _ _ _ h => h) (Or.inl ⟨by rfl, ?_⟩) ?_ ?_
    rotate_left
    ·intro w'
     go_simp
     with_reducible rfl
    rotate_left
    ·simp only [Act.put, List.setIfInBounds_toArray, List.set_cons_zero, List.set_cons_succ, i64_w, i32_w]
     rfl
    refine pure_ (i := 3) (N := some 65) (v := ?_) (a' := ?_) #[true, false, true, true, false, false, false, false, false, false, false, false, false, false, false, false] rfl rfl (any_of HT_.out (by kernel_rfl)) (fun _ _ _ h => h) (Or.inl ⟨by rfl, ?_⟩) ?_ ?_
    rotate_left
    ·intro w'
     go_simp
     with_reducible rfl
    rotate_left
    ·simp only [Act.put, List.setIfInBounds_toArray, List.set_cons_zero, List.set_cons_succ, i64_w, i32_w]
     rfl
    refine pure_ (i := 7) (N := some 69) (v := ?_) (a' := ?_) #[true, false, true, true, false, false, false, true, false, false, false, false, false, false, false, false] rfl rfl (any_of HT_.out (by kernel_rfl)) (fun _ _ _ h => h) (Or.inl ⟨by rfl, ?_⟩) ?_ ?_
    rotate_left
    ·intro w'
     go_simp
     with_reducible rfl
    rotate_left
    ·simp only [Act.put, List.setIfInBounds_toArray, List.set_cons_zero, List.set_cons_succ, i64_w, i32_w]
     rfl
    refine pure_ (i := 4) (N := some 66) (v := ?_) (a' := ?_) #[true, false, true, true, true, false, false, true, false, false, false, false, false, false, false, false] rfl rfl (any_of HT_.out (by kernel_rfl)) (fun _ _ _ h => h) (Or.inl ⟨by rfl, ?_⟩) ?_ ?_
    rotate_left
    ·intro w'
     go_simp
     with_reducible rfl
    rotate_left
    ·simp only [Act.put, List.setIfInBounds_toArray, List.set_cons_zero, List.set_cons_succ, i64_w, i32_w]
     rfl
    refine pure_ (i := 5) (N := some 67) (v := ?_) (a' := ?_) #[true, false, true, true, true, true, false, true, false, false, false, false, false, false, false, false] rfl rfl (any_of HT_.out (by kernel_rfl)) (fun _ _ _ h => h) (Or.inl ⟨by rfl, ?_⟩) ?_ ?_
    rotate_left
    ·intro w'
     go_simp
     with_reducible rfl
    rotate_left
    ·simp only [Act.put, List.setIfInBounds_toArray, List.set_cons_zero, List.set_cons_succ, i64_w, i32_w]
     rfl
    refine take_ (i := 1) (N := some 63) (v := ?_) (a' := ?_) #[true, true, true, true, true, true, false, true, false, false, false, false, false, false, false, false] rfl rfl (take_ofW HT_.out HW_.out (by kernel_rfl)) (fun _ _ _ h => h) (Or.inl ⟨by rfl, ?_⟩) hHeld ?_ ?_
    rotate_left
    ·rintro w' ⟨s0, s1, s2⟩
     go_simp
     with_reducible rfl
    rotate_left
    ·simp only [Act.put, List.setIfInBounds_toArray, List.set_cons_zero, List.set_cons_succ, i64_w, i32_w]
     rfl
    refine take_ (i := 6) (N := some 68) (v := ?_) (a' := ?_) #[true, true, true, true, true, true, true, true, false, false, false, false, false, false, false, false] rfl rfl (take_ofW HT_.out HW_.out (by kernel_rfl)) (fun _ _ _ h => h) (Or.inl ⟨by rfl, ?_⟩) hHeld ?_ ?_
    rotate_left
    ·rintro w' ⟨s0, s1, s2⟩
     go_simp
     with_reducible rfl
    rotate_left
    ·simp only [Act.put, List.setIfInBounds_toArray, List.set_cons_zero, List.set_cons_succ, i64_w, i32_w]
     rfl
    refine pure_ (i := 8) (N := some 70) (v := ?_) (a' := ?_) #[true, true, true, true, true, true, true, true, true, false, false, false, false, false, false, false] rfl rfl (any_of HT_.out (by kernel_rfl)) (fun _ _ _ h => h) (Or.inl ⟨by rfl, ?_⟩) ?_ ?_
    rotate_left
    ·intro w'
     go_simp
     with_reducible rfl
    rotate_left
    ·simp only [Act.put, List.setIfInBounds_toArray, List.set_cons_zero, List.set_cons_succ, i64_w, i32_w]
     rfl
    refine take_ (i := 9) (N := some 71) (v := ?_) (a' := ?_) #[true, true, true, true, true, true, true, true, true, true, false, false, false, false, false, false] rfl rfl (take_ofW HT_.out HW_.out (by kernel_rfl)) (fun _ _ _ h => h) (Or.inl ⟨by rfl, ?_⟩) hHeld ?_ ?_
    rotate_left
    ·rintro w' ⟨s0, s1, s2⟩
     go_simp
     with_reducible rfl
    rotate_left
    ·simp only [Act.put, List.setIfInBounds_toArray, List.set_cons_zero, List.set_cons_succ, i64_w, i32_w]
     rfl
    refine pure_ (i := 10) (N := some 72) (v := ?_) (a' := ?_) #[true, true, true, true, true, true, true, true, true, true, true, false, false, false, false, false] rfl rfl (any_of HT_.out (by kernel_rfl)) (fun _ _ _ h => h) (Or.inl ⟨by rfl, ?_⟩) ?_ ?_
    rotate_left
    ·intro w'
     go_simp
     with_reducible rfl
    rotate_left
    ·simp only [Act.put, List.setIfInBounds_toArray, List.set_cons_zero, List.set_cons_succ, i64_w, i32_w]
     rfl
    refine Go.Proofs.YtogicccdngpafaaGreatDoorW.PrintLast.one_ (i := 11) (N := some 73) #[true, true, true, true, true, true, true, true, true, true, true, true, false, false, false, false] rfl rfl (one_of HT_.out (by kernel_rfl)) (by decide) (fun K hK => ?_)
    refine value_ (w1 := ?_) (v := ?_) (by rfl) rfl ?_ ?_
    rotate_left 2
    ·go_simp
     constructor
     ·rfl
     ·rfl
    have HLb := Aside0.mk (HLd.out.below (below_nw wd (.cells #[.int .i64 a] 3)))
    have HIN : Aside0 (Kd.R (Kd.int .i64) 3 (wd.alloc (.cells #[.int .i64 a] 3)) wd.heap.size (fun _ => True) (.slice (some ⟨wd.heap.size, 0, none⟩) 1 1) [a]) := ⟨R_lit1 wd [a] #[.int .i64 a] rfl (by simp)⟩
    have HIB : Aside0 (w5.heap.size ≤ wd.heap.size ∧ gy < wd.heap.size ∧ ∀ k, v.ownBlock = some k → k < wd.heap.size) := ⟨⟨HLd.out.hb.size, blk_lt HLd.out.by_, Kd.R_lt HLd.out.row⟩⟩
    refine hK.out _ _ (HLb.out.held HP0.out HCY.out) (fun hHeld => ?_)
    clear hK K
    generalize wd.alloc (.cells #[.int .i64 a] 3) = wb at HIN HLb hHeld ⊢
    generalize wd.heap.size = ib at HIN HIB ⊢
    refine norm_ (a' := ?_) ?_ ?_
    rotate_left
    ·show Act.put _ (some 73) _ = _
     simp only [Act.put, List.setIfInBounds_toArray, List.set_cons_zero, List.set_cons_succ, i64_w, i32_w]
     rfl
    refine Go.Proofs.YtogicccdngpafaaGreatDoorW.PrintLast.one_ (i := 12) (N := some 74) #[true, true, true, true, true, true, true, true, true, true, true, true, true, false, false, false] rfl rfl (one_of HT_.out (by kernel_rfl)) (by decide) (fun K hK => ?_)
    refine value_ (w1 := ?_) (v := ?_) (by rfl) rfl ?_ ?_
    rotate_left 2
    ·go_simp
     constructor
     ·rfl
     ·rfl
    refine hK.out _ _ ((HLb.out.below (below_nw wb _)).held HP0.out HCY.out) (fun hHeld => ?_)
    clear hK K
    refine norm_ (a' := ?_) ?_ ?_
    rotate_left
    ·show Act.put _ (some 74) _ = _
     simp only [Act.put, List.setIfInBounds_toArray, List.set_cons_zero, List.set_cons_succ, i64_w, i32_w]
     rfl
    refine Go.Proofs.YtogicccdngpafaaGreatDoorW.PrintLast.one_ (i := 13) (N := some 75) #[true, true, true, true, true, true, true, true, true, true, true, true, true, true, false, false] rfl rfl (one_of HT_.out (by kernel_rfl)) (by decide) (fun K hK => ?_)
    refine Kd.R_append_step (Kd.slice 3 (Kd.int .i64)) (w0 := w5) w5.heap.size (by rfl) (.tmp 63) (.tmp 74) 22 31 (.slice none 0 0) 24 rfl Tryz.underlying22 infoSV rfl (by decide) (by omega) v ws [a] [.slice (some ⟨ib, 0, none⟩) 1 1] (fun k => k ≠ gy) (fun k => some k = (Value.slice (some ⟨ib, 0, none⟩) 1 1).ownBlock) rfl rfl ?aP ?aQ ?aF ?aO ?aB ?aS ?aL ?_
    (case aP => exact Kd.M_row (Kd.R_tight rfl (Kd.R_lower HIN.out HIB.out.1)))
    (case aQ => exact fun k hk => by have e : k = ib := (by simpa [Value.ownBlock] using hk); subst e; exact ⟨Nat.ne_of_gt HIB.out.2.1, fun h => Nat.lt_irrefl _ (HIB.out.2.2 k h.symm)⟩)
    (case aF => exact fun k hk => Nat.ne_of_gt (Nat.lt_of_lt_of_le (blk_lt HLb.out.by_) hk))
    (case aO => exact HLb.out.row)
    (case aB => exact HLb.out.hb)
    (case aS => exact HLb.out.hb.size)
    (case aL => have h1 := OW.out.lx; have h2 := GD.out.lA; rw [HWS.out]; unfold unitsL; simp only [List.length_append, List.length_map, List.length_take]; omega)
    intro v9 w9 ho hb hg hat
    obtain ⟨ws2, hws2⟩ : ∃ y, ws ++ [[a]] = y := ⟨_, rfl⟩
    rw [hws2] at ho
    have HW2 := Aside0.mk hws2
    clear hws2
    obtain ⟨A9, c9, e9⟩ := Kd.R_slice ho
    subst e9
    have BY9 := Aside0.mk (blk_grown HLb.out.by_ hg (Kd.R_ne HLb.out.row HLb.out.by_ (by decide)))
    have HO9 := Aside0.mk ho
    have HB9 := Aside0.mk hb
    refine hK.out _ _ ⟨(blk_cell BY9.out 1).trans rfl, pw_cell_below hb HP0.out, pw_cell_below hb HCY.out⟩ (fun hHeld => ?_)
    clear hK K ho hb hg hat HLb HIN
    refine norm_ (a' := ?_) ?_ ?_
    rotate_left
    ·show Act.put _ (some 75) _ = _
     simp only [Act.put, List.setIfInBounds_toArray, List.set_cons_zero, List.set_cons_succ, i64_w, i32_w]
     rfl
    refine pure_ (i := 14) (N := some 76) (v := ?_) (a' := ?_) #[true, true, true, true, true, true, true, true, true, true, true, true, true, true, true, false] rfl rfl (any_of HT_.out (by kernel_rfl)) (fun _ _ _ h => h) (Or.inl ⟨by rfl, ?_⟩) ?_ ?_
    rotate_left
    ·intro w'
     go_simp
     with_reducible rfl
    rotate_left
    ·simp only [Act.put, List.setIfInBounds_toArray, List.set_cons_zero, List.set_cons_succ, i64_w, i32_w]
     rfl
    refine last_ (i := 15) (N := none) #[true, true, true, true, true, true, true, true, true, true, true, true, true, true, true, true] rfl rfl (one_of HT_.out (by kernel_rfl)) (by decide) (fun K hK => ?_)
    have hs : w9.cell? ⟨gy, 1, none⟩ = some v := (blk_cell BY9.out 1).trans rfl
    have hfs := blk_frozen BY9.out 1
    refine skip_ (w1 := ?_) (by rfl) rfl ?_ ?_
    rotate_left
    ·go_simp
     rfl
    refine hK.out _ _ ?_
    clear hK K hs hfs
    refine done_ (done_of HT_.out (by kernel_rfl)) ?_
    clear HT_ HW_
    have HLN := Aside0.mk (PCL.store HB9.out BY9.out HO9.out HLd.out.gyl)
    clear HB9 BY9 HO9 HLd HIB
    go_wp2
    go_roundw
    case rel => exact ⟨j + 1, _, ws2, by rw [wrap_succ HJ.out (by have := GD.out.lA; omega)], by have := HJ.out; omega, ⟨by rw [← HW2.out, HWS.out]; unfold unitsL; rw [HUT.out, List.append_assoc]⟩, HLN⟩
    case measure => exact meas_x HJ.out (wrap_succ HJ.out (by have := GD.out.lA; omega))
   ·have hje : j = A.length := by omega
    subst hje
    have hjd : decide ((A.length : Int) < (A.length : Int)) = false := by simp
    rw [List.take_length] at HWS
    have HWN : Aside0 (ws.length ≤ 100) := ⟨by have h1 := OW.out.lx; have h2 := GD.out.lA; rw [HWS.out]; unfold unitsL; simp only [List.length_append, List.length_map]; omega⟩
    have HWL : Aside0 (∀ l ∈ ws, l.length ≤ 1000000000 ∧ ∀ y ∈ l, LitOk n y) := ⟨fun l hl => by
     rw [HWS.out] at hl
     rcases List.mem_append.1 hl with h | h
     ·exact HLI.out l h
     ·obtain ⟨a, ha, rfl⟩ := List.mem_map.1 h
      refine ⟨by simp, fun y hy => ?_⟩
      rw [List.mem_singleton] at hy; subst hy; exact GD.out.lits _ ha⟩
    have HCK : Aside0 (cnf_Check.f k n ws = some 0) := ⟨by rw [HWS.out]; exact GD.out.chk⟩
    have HNO : Aside0 (¬ ∃ M, Mod n ws M) := ⟨by rw [HWS.out]; exact GD.out.none_⟩
    obtain ⟨Av, cv, hv, hlv, hCv⟩ := Kd.R_reads HL.out.row
    subst hv
    have HCV := Aside0.mk hCv
    have HLV := Aside0.mk hlv
    clear hlv hCv hl3 hC3 hlt
    go_wp2_with fail
    refine (count_calls k n Av cv ws wr (Nat.le_trans OW.out.hn (by decide)) HCV.out HLV.out (Nat.le_trans HWN.out (by decide)) HWL.out HCK.out).mono ?_
    rintro e w8 ⟨cm, rfl, hcm, hb8⟩
    have hcz : cm = 0 := hcm.zero.2 (fun ⟨M, hM, _⟩ => HNO.out ⟨M, hM⟩)
    subst hcz
    have HB8 := Aside0.mk (below_step (below_step HB5.out (HL.out.hb)) hb8)
    clear hcm hb8 HL HCV HLV hy0 hy1 hd0 hjd
    go_wp2_with fail
    refine (awake_calls _).mono ?_
    rintro e w9 ⟨rfl, hb9⟩
    have HB9 := Aside0.mk (below_step HB8.out hb9)
    clear hb9 HB8
    go_wp2
    go_ret
    exact ⟨rfl, HB9.out⟩
end Go.Proofs.YtogicccdngpafaaGreatDoor.NState
end
