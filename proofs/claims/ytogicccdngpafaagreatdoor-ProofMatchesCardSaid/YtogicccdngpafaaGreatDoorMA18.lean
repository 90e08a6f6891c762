/-
  Part 18 of the proof of proofMatches_card: walks and lemmas, packed by the session's own wip/pack.py out of its texts and of what the kit's print.sh printed.
-/
import Derived.Test.YtogicccdngpafaaGreatDoorMA8
import Derived.Test.YtogicccdngpafaaGreatDoorMA7
import Derived.Test.YtogicccdngpafaaGreatDoorMA17
import Derived.Deep.RegionWith
section
namespace Go.Proofs.YtogicccdngpafaaGreatDoor.NState
open Go Go.RowKit Go.Shelf Go.Proofs.YtogicccdngpafaaGreatDoorW.PrintWords Go.Proofs.YtogicccdngpafaaGreatDoorW.PrintLast Go.Proofs.YtogicccdngpafaaGreatDoorW.PrintMore Go.Proofs.YtogicccdngpafaaGreatDoor.NMap
open Go.Proofs.YtogicccdngpafaaGreatDoor.PCheck (cnf_Check.f cnf_Check.calls rd_L1 at_L1)
abbrev SV := Option Addr × Nat × Nat
def encS (x : SV) : Value := .slice x.1 x.2.1 x.2.2
def kSV : Kd SV := Kd.scalar encS (fun _ => rfl)
structure RefB (w0 W : World) (base B : Nat) (vC vP : Value) (svs : List SV) (cl : List (List Int)) (pr : List Bool) : Prop where
 blk : W.heap[B]? = some (.cells #[vC, vP] 151 (0, 0))
 ge : base ≤ B
 rc : Kd.R kSV 31 W base (fun _ => True) vC svs
 rp : Kd.R Kd.bool 4 W base (fun _ => True) vP pr
 lc : svs.length = cl.length
 lp : pr.length = cl.length
 at_ : ∀ (i : Nat) sv l, svs[i]? = some sv → cl[i]? = some l → SliceOf w0 (encS sv) l
theorem RefB.below {w0 W W' : World} {base B : Nat} {vC vP : Value} {svs : List SV} {cl : List (List Int)} {pr : List Bool} (h : RefB w0 W base B vC vP svs cl pr) (hb : Below W.heap.size W W') : RefB w0 W' base B vC vP svs cl pr :=
 ⟨blk_below h.blk hb, h.ge, Kd.R_below h.rc hb, Kd.R_below h.rp hb, h.lc, h.lp, h.at_⟩
def prP (cl : List (List Int)) (pr : List Bool) : List (Option (List Int)) := List.zipWith (fun l b => if b then some l else none) cl pr
theorem prP_len {cl : List (List Int)} {pr : List Bool} (h : pr.length = cl.length) : (prP cl pr).length = cl.length := by simp [prP]; omega
theorem look_prP {cl : List (List Int)} {pr : List Bool} (h : pr.length = cl.length) (n : Int) : lookP (prP cl pr) n = if 1 ≤ n ∧ n ≤ (cl.length : Int) ∧ rdOf false pr (n - 1) = true then some (cl.getD (n - 1).toNat []) else none := by
 unfold lookP
 by_cases h1 : 1 ≤ n
 ·rw [if_pos h1]
  by_cases h2 : n ≤ (cl.length : Int)
  ·have hi : (n - 1).toNat < cl.length := by omega
   have hj : (n - 1).toNat < pr.length := by omega
   have e2 : rdOf false pr (n - 1) = pr.getD (n - 1).toNat false := rfl
   rw [e2]
   generalize (n - 1).toNat = m at hi hj
   have e : (prP cl pr)[m]? = some (if pr[m] then some cl[m] else none) := by
    simp [prP, List.getElem?_zipWith, hi, hj]
   have e3 : pr.getD m false = pr[m] := by simp [List.getD, hj]
   have e4 : cl.getD m [] = cl[m] := by simp [List.getD, hi]
   rw [e, e3, e4]
   simp only [Option.join_some, h1, h2, true_and]
  ·have e : (prP cl pr)[(n - 1).toNat]? = none := by
    rw [List.getElem?_eq_none_iff, prP_len h]; omega
   rw [e, if_neg (fun hh => h2 hh.2.1)]; rfl
 ·rw [if_neg h1, if_neg (fun hh => h1 hh.1)]
set_option maxHeartbeats 1000000 in
set_option maxRecDepth 100000 in
theorem has_calls (w0 W : World) (base B : Nat) (vC vP : Value) (svs : List SV) (cl : List (List Int)) (pr : List Bool) (h : Int) (hb : RefB w0 W base B vC vP svs cl pr) (hl : cl.length ≤ 1000000000) :
  Calls Tryz.prog 86 #[.pointer (some ⟨B, 0, none⟩), .int .i64 h] W fun e w' => e = .returned (.bool (lookP (prP cl pr) h).isSome) ∧ W = w' := by
 have HLK := Aside0.mk (look_prP hb.lp h)
 have HB := Aside0.mk hb
 have HLC := Aside0.mk hb.lc
 have HL := Aside0.mk hl
 obtain ⟨AC, cc, hvc⟩ := Kd.R_slice hb.rc
 rw [hb.lc] at hvc
 obtain ⟨AP, cp, hvp⟩ := Kd.R_slice hb.rp
 rw [hb.lp] at hvp
 have hx0 : W.cell? ⟨B, 0, none⟩ = some (.slice AC cl.length cc) := by rw [← hvc]; exact (blk_cell hb.blk 0).trans rfl
 have hx1 : W.cell? ⟨B, 1, none⟩ = some (.slice AP cl.length cp) := by rw [← hvp]; exact (blk_cell hb.blk 1).trans rfl
 have hu151 := Tryz.underlying151
 by_cases h1 : 1 ≤ h
 ·have h1' : decide (1 ≤ h) = true := decide_eq_true h1
  by_cases h2 : h ≤ (cl.length : Int)
  ·have h2' : decide (h ≤ (cl.length : Int)) = true := decide_eq_true h2
   obtain ⟨g, cg, eo, _, _, _, _⟩ := Kd.R_form hb.rp (by rw [hb.lp]; omega)
   rw [hb.lp] at eo
   rw [hvp] at eo
   injection eo with ea _ ec
   subst ea
   have hrp := hb.rp
   rw [hvp] at hrp
   obtain ⟨hz, _⟩ := Kd.R_celln false hrp (h - 1) (by omega) (by omega)
   rw [show (h - 1).toNat = h.toNat - 1 by omega] at hz
   have hw : wrap64 (h - 1) = h - 1 := by unfold wrap64; omega
   have q1 : 0 ≤ h - 1 := by omega
   have q2 : h - 1 < (cl.length : Int) := by omega
   have HH : Aside0 ((lookP (prP cl pr) h).isSome = rdOf false pr (h - 1)) := ⟨by
    rw [HLK.out]
    cases hc : rdOf false pr (h - 1) with
    | true => rw [if_pos ⟨h1, h2, rfl⟩]; rfl
    | false => rw [if_neg (fun hh => by cases hh.2.2)]; rfl⟩
   rw [HH.out]
   generalize rdOf false pr (h - 1) = z at hz ⊢
   clear HLK hb hrp h1 h2
   go_enter Tryz.func86, Tryz.ntmps86
   go_wp2
   go_ret
   exact ⟨rfl, rfl⟩
  ·have h2' : decide (h ≤ (cl.length : Int)) = false := decide_eq_false h2
   rw [HLK.out, if_neg (fun hh => h2 hh.2.1)]
   clear HLK hb
   go_enter Tryz.func86, Tryz.ntmps86
   go_wp2
   go_ret
   exact ⟨rfl, rfl⟩
 ·have h1' : decide (1 ≤ h) = false := decide_eq_false h1
  rw [HLK.out, if_neg (fun hh => h1 hh.1)]
  clear HLK hb
  go_enter Tryz.func86, Tryz.ntmps86
  go_wp2
  go_ret
  exact ⟨rfl, rfl⟩
end Go.Proofs.YtogicccdngpafaaGreatDoor.NState
end
section
namespace Go.Proofs.YtogicccdngpafaaGreatDoor.NState
open Go Go.RowKit Go.Shelf Go.Proofs.YtogicccdngpafaaGreatDoorW.PrintWords Go.Proofs.YtogicccdngpafaaGreatDoorW.PrintLast Go.Proofs.YtogicccdngpafaaGreatDoorW.PrintMore Go.Proofs.YtogicccdngpafaaGreatDoor.NMap
open Go.Proofs.YtogicccdngpafaaGreatDoor.PCheck (cnf_Check.f cnf_Check.calls rd_L1 at_L1)
theorem infoSV : (Tryz.prog.info? 31).map (fun i => (i.zero, i.size, i.bytes)) = some (some (.slice none 0 0), 1, 24) := by kernel_rfl
theorem infoB1 : (Tryz.prog.info? 4).map (fun i => (i.zero, i.size, i.bytes)) = some (some (.bool false), 1, 1) := by kernel_rfl
theorem take_rd {cls : List (List Int)} {j : Nat} (hlt : j < cls.length) : cls.take (j + 1) = cls.take j ++ [rd_L1 cls j] := drop_map_rd hlt
theorem repl_snoc (i : Nat) : List.replicate (i + 1) true = List.replicate i true ++ [true] := by rw [List.replicate_succ']
def beginR5.T : Bool × List (List Nat × List Nat) := (true, [([], []), ([], []), ([1], [1]), ([2], [2]), ([3], [3]), ([], []), ([5], [5]), ([], []), ([6, 7], [6, 7]), ([8], [8]), ([9], [9]), ([4, 10], [4, 10]), ([0, 0, 1, 2, 3, 4, 5, 6, 7, 8, 9, 10, 11], [0]), ([12, 0, 1, 2, 3, 4, 5, 6, 7, 8, 9, 10, 11], [12]), ([13, 11, 11, 0, 1, 2, 3, 4, 5, 6, 7, 8, 9, 10, 11], [11, 13])])
def beginR5.B : List Nat := [0, 0, 2, 6, 14, 0, 32, 0, 224, 480, 992, 2046, 4095, 8191, 16383]
theorem beginR5.tab : rtab .any (opsOf Tryz.f85 5) = beginR5.T := by kernel_rfl
theorem beginR5.bits : waitsOk beginR5.T.2 beginR5.B = true := by kernel_rfl
def BeginRPost (w : World) (cls : List (List Int)) (e : Ending) (w' : World) : Prop := ∃ B vC vP svs, e = .returned (.pointer (some ⟨B, 0, none⟩)) ∧ RefB w w' w.heap.size B vC vP svs cls (List.replicate cls.length true) ∧ Below w.heap.size w w'
set_option maxHeartbeats 4000000 in
set_option maxRecDepth 100000 in
theorem beginR_calls (vars : Int) (A1 : Option Addr) (c1 : Nat) (cls : List (List Int)) (w : World) (hr1 : Kd.C (Kd.slice 3 (Kd.int .i64)) w A1 cls.length cls) (hlen : cls.length ≤ 1000000) :
  Calls Tryz.prog 85 #[.agg #[.int .i64 vars, .slice A1 cls.length c1]] w (BeginRPost w cls) := by
 have HR1 := Aside0.mk hr1
 have HLEN := Aside0.mk hlen
 clear hr1 hlen
 have hu24 := Tryz.underlying24
 have hu151 := Tryz.underlying151
 go_enter Tryz.func85, Tryz.ntmps85
 go_wp2
 have BKc := blk_alloc (blk_new w (.cells #[.int .i64 vars, .slice A1 cls.length c1] 24)) (.cells #[.slice none 0 0, .slice none 0 0] 151)
 have BKb := blk_new (w.alloc (.cells #[.int .i64 vars, .slice A1 cls.length c1] 24)) (.cells #[.slice none 0 0, .slice none 0 0] 151)
 rw [World.size_alloc] at BKb
 have hb : Below w.heap.size w ((w.alloc (.cells #[.int .i64 vars, .slice A1 cls.length c1] 24)).alloc (.cells #[.slice none 0 0, .slice none 0 0] 151)) := ((Below.refl _ _).alloc (Nat.le_refl _) _).alloc (by simp) _
 generalize ((w.alloc (.cells #[.int .i64 vars, .slice A1 cls.length c1] 24)).alloc (.cells #[.slice none 0 0, .slice none 0 0] 151)) = w2 at BKc BKb hb ⊢
 have HKC := Aside0.mk BKc
 have HRB : Aside0 (RefB w w2 w.heap.size (w.heap.size + 1) (.slice none 0 0) (.slice none 0 0) [] [] []) := ⟨⟨BKb, Nat.le_succ _, Kd.R_nil _ _ _ _ _, Kd.R_nil _ _ _ _ _, rfl, rfl, fun i sv l h => by simp at h⟩⟩
 have HB := Aside0.mk hb
 clear BKc BKb hb
 go_loopw [4] (fun v4 wr => ∃ (i : Nat) (vC vP : Value) (svs : List SV), v4 = .int .i64 i ∧ i ≤ cls.length ∧ Aside0 (RefB w wr w.heap.size (w.heap.size + 1) vC vP svs (cls.take i) (List.replicate i true)) ∧ Aside0 (Below w.heap.size w wr) ∧ Aside0 (wr.heap[w.heap.size]? = some (.cells #[.int .i64 vars, .slice A1 cls.length c1] 24 (0, 0)))) (fun v4 _ => cls.length - (intOf v4).toNat)
 case atStart => exact ⟨0, _, _, _, rfl, Nat.zero_le _, by simpa using HRB, HB, HKC⟩
 case round =>
  clear HRB HB HKC
  obtain ⟨i, vC, vP, svs, rfl, hi, HRB, HB, HKC⟩ := hrel
  have hx1 : wr.cell? ⟨w.heap.size, 1, none⟩ = some (.slice A1 cls.length c1) := (blk_cell HKC.out 1).trans rfl
  by_cases hlt : i < cls.length
  ·obtain ⟨ad, A2, c2, rfl, hcw, hl2, hC2⟩ := at_L1 HR1.out (i : Int) (by omega) (by omega)
   simp only [Int.toNat_natCast] at hcw
   have HTK := Aside0.mk (take_rd hlt)
   generalize rd_L1 cls i = l at hcw hl2 hC2 HTK
   have HSL : Aside0 (SliceOf w (.slice A2 l.length c2) l) := ⟨_, _, rfl, hl2, hC2⟩
   have HCW := Aside0.mk hcw
   clear hl2 hC2 hcw
   go_wp2_with fail
   replace HRB := Aside0.mk (HRB.out.below (below_drew (Below.refl _ _)))
   replace HKC := Aside0.mk (blk_below HKC.out (below_drew (Below.refl _ _)))
   replace HB := Aside0.mk (below_drew HB.out)
   have hcd := pw_cell_below HB.out HCW.out
   clear hx1
   refine start_ (n := 15) (S := fun w' => w'.cell? ⟨w.heap.size + 1, 0, none⟩ = some vC ∧ w'.cell? ⟨w.heap.size, 1, none⟩ = some (.slice (some ad) cls.length c1) ∧ w'.cell? (ad.add i) = some (.slice A2 l.length c2)) (ds := [14]) #[false, false, false, false, false, false, false, false, false, false, false, false, false, false, false] (by kernel_rfl) rfl rfl ⟨(blk_cell HRB.out.blk 0).trans rfl, (blk_cell HKC.out 1).trans rfl, hcd⟩ (fun hHeld => ?_); refine with_tabW beginR5.tab beginR5.bits (fun HT_ HW_ => ?_)
   generalize wr.drew = wd at HRB HB HKC hcd hHeld ⊢
   refine pure_ (i := 0) (N := some 14) (v := ?_) (a' := ?_) #[true, false, false, false, false, false, false, false, false, false, false, false, false, false, false] rfl rfl (any_of HT_.out (by kernel_rfl)) (fun _ _ _ h => h) (Or.inl ⟨by rfl, ?_⟩) ?_ ?_
   rotate_left
   ·intro w'
    go_simp
    with_reducible rfl
   rotate_left
   ·simp only [Act.put, List.setIfInBounds_toArray, List.set_cons_zero, List.set_cons_succ, i64_w, i32_w]
    rfl
   refine pure_ (i := 1) (N := some 15) (v := ?_) (a' := ?_) #[true, true, false, false, false, false, false, false, false, false, false, false, false, false, false] rfl rfl (any_of HT_.out (by kernel_rfl)) (fun _ _ _ h => h) (Or.inl ⟨by rfl, ?_⟩) ?_ ?_
   rotate_left
   ·intro w'
    go_simp
    with_reducible rfl
   rotate_left
   ·simp only [Act.put, List.setIfInBounds_toArray, List.set_cons_zero, List.set_cons_succ, i64_w, i32_w]
    rfl
   refine pure_ (i := 2) (N := some 16) (v := ?_) (a' := ?_) #[true, true, true, false, false, false, false, false, false, false, false, false, false, false, false] rfl rfl (any_of HT_.out (by kernel_rfl)) (fun _ _ _ h => h) (Or.inl ⟨by rfl, ?_⟩) ?_ ?_
   rotate_left
   ·intro w'
    go_simp
    with_reducible rfl
   rotate_left
   ·simp only [Act.put, List.setIfInBounds_toArray, List.set_cons_zero, List.set_cons_succ, i64_w, i32_w]
    rfl
   refine pure_ (i := 3) (N := some 17) (v := ?_) (a' := ?_) #[true, true, true, true, false, false, false, false, false, false, false, false, false, false, false] rfl rfl (any_of HT_.out (by kernel_rfl)) (fun _ _ _ h => h) (Or.inl ⟨by rfl, ?_⟩) ?_ ?_
   rotate_left
   ·intro w'
    go_simp
    with_reducible rfl
   rotate_left
   ·simp only [Act.put, List.setIfInBounds_toArray, List.set_cons_zero, List.set_cons_succ, i64_w, i32_w]
    rfl
   refine pure_ (i := 5) (N := some 19) (v := ?_) (a' := ?_) #[true, true, true, true, false, true, false, false, false, false, false, false, false, false, false] rfl rfl (any_of HT_.out (by kernel_rfl)) (fun _ _ _ h => h) (Or.inl ⟨by rfl, ?_⟩) ?_ ?_
   rotate_left
   ·intro w'
    go_simp
    with_reducible rfl
   rotate_left
   ·simp only [Act.put, List.setIfInBounds_toArray, List.set_cons_zero, List.set_cons_succ, i64_w, i32_w]
    rfl
   refine pure_ (i := 7) (N := some 21) (v := ?_) (a' := ?_) #[true, true, true, true, false, true, false, true, false, false, false, false, false, false, false] rfl rfl (any_of HT_.out (by kernel_rfl)) (fun _ _ _ h => h) (Or.inl ⟨by rfl, ?_⟩) ?_ ?_
   rotate_left
   ·intro w'
    go_simp
    with_reducible rfl
   rotate_left
   ·simp only [Act.put, List.setIfInBounds_toArray, List.set_cons_zero, List.set_cons_succ, i64_w, i32_w]
    rfl
   refine take_ (i := 4) (N := some 18) (v := ?_) (a' := ?_) #[true, true, true, true, true, true, false, true, false, false, false, false, false, false, false] rfl rfl (take_ofW HT_.out HW_.out (by kernel_rfl)) (fun _ _ _ h => h) (Or.inl ⟨by rfl, ?_⟩) hHeld ?_ ?_
   rotate_left
   ·rintro w' ⟨s0, s1, s2⟩
    go_simp
    with_reducible rfl
   rotate_left
   ·simp only [Act.put, List.setIfInBounds_toArray, List.set_cons_zero, List.set_cons_succ, i64_w, i32_w]
    rfl
   refine take_ (i := 6) (N := some 20) (v := ?_) (a' := ?_) #[true, true, true, true, true, true, true, true, false, false, false, false, false, false, false] rfl rfl (take_ofW HT_.out HW_.out (by kernel_rfl)) (fun _ _ _ h => h) (Or.inl ⟨by rfl, ?_⟩) hHeld ?_ ?_
   rotate_left
   ·rintro w' ⟨s0, s1, s2⟩
    go_simp
    with_reducible rfl
   rotate_left
   ·simp only [Act.put, List.setIfInBounds_toArray, List.set_cons_zero, List.set_cons_succ, i64_w, i32_w]
    rfl
   refine pure_ (i := 8) (N := some 22) (v := ?_) (a' := ?_) #[true, true, true, true, true, true, true, true, true, false, false, false, false, false, false] rfl rfl (any_of HT_.out (by kernel_rfl)) (fun _ _ _ h => h) (Or.inl ⟨by rfl, ?_⟩) ?_ ?_
   rotate_left
   ·intro w'
    go_simp
    with_reducible rfl
   rotate_left
   ·simp only [Act.put, List.setIfInBounds_toArray, List.set_cons_zero, List.set_cons_succ, i64_w, i32_w]
    rfl
   refine take_ (i := 9) (N := some 23) (v := ?_) (a' := ?_) #[true, true, true, true, true, true, true, true, true, true, false, false, false, false, false] rfl rfl (take_ofW HT_.out HW_.out (by kernel_rfl)) (fun _ _ _ h => h) (Or.inl ⟨by rfl, ?_⟩) hHeld ?_ ?_
   rotate_left
   ·rintro w' ⟨s0, s1, s2⟩
    go_simp
    with_reducible rfl
   rotate_left
   ·simp only [Act.put, List.setIfInBounds_toArray, List.set_cons_zero, List.set_cons_succ, i64_w, i32_w]
    rfl
   refine one_ (i := 10) (N := some 24) #[true, true, true, true, true, true, true, true, true, true, true, false, false, false, false] rfl rfl (one_of HT_.out (by kernel_rfl)) (by decide) (fun K hK => ?_)
   refine value_ (w1 := ?_) (v := ?_) (by rfl) rfl ?_ ?_
   rotate_left 2
   ·go_simp
    constructor
    ·rfl
    ·rfl
   refine hK.out _ _ ⟨(blk_cell (blk_alloc HRB.out.blk _) 0).trans rfl, (blk_cell (blk_alloc HKC.out _) 1).trans rfl, (pw_cell_below ((Below.refl _ _).alloc (Nat.le_refl _) _) hcd)⟩ (fun hHeld => ?_)
   clear hK K
   refine norm_ (a' := ?_) ?_ ?_
   rotate_left
   ·show Act.put _ (some 24) _ = _
    simp only [Act.put, List.setIfInBounds_toArray, List.set_cons_zero, List.set_cons_succ, i64_w, i32_w]
    rfl
   refine one_ (i := 11) (N := some 25) #[true, true, true, true, true, true, true, true, true, true, true, true, false, false, false] rfl rfl (one_of HT_.out (by kernel_rfl)) (by decide) (fun K hK => ?_)
   refine Kd.R_append_step kSV (w0 := w) w.heap.size (by rfl) (.tmp 18) (.tmp 24) 22 31 (.slice none 0 0) 24 rfl Tryz.underlying22 infoSV rfl (by decide) (by omega) vC svs (A2, l.length, c2) [.slice A2 l.length c2] (fun _ => True) (fun _ => False) rfl rfl ?aP (fun _ hk => hk.elim) ?aF ?aO ?aB ?aS ?aL ?_
   (case aP => exact rfl)
   (case aF => exact fun _ _ => trivial)
   (case aO => exact HRB.out.rc)
   (case aB => exact HB.out)
   (case aS => exact HB.out.size)
   (case aL => have h1 := HRB.out.lc; have h2 := HLEN.out; rw [List.length_take] at h1; omega)
   intro v9 w3 ho hb hg hat
   obtain ⟨A9, c9, e9⟩ := Kd.R_slice ho
   rw [show (svs ++ [(A2, l.length, c2)]).length = i + 1 by have h1 := HRB.out.lc; rw [List.length_take] at h1; simp; omega] at e9
   subst e9
   have HBL := Aside0.mk (blk_grown HRB.out.blk hg (Kd.R_ne HRB.out.rc HRB.out.blk (by decide)))
   have HKC3 := Aside0.mk (blk_grown HKC.out hg (Kd.R_ne HRB.out.rc HKC.out (by decide)))
   have HRP3 := Aside0.mk (Kd.R_mono (Kd.R_grown (Kd.R_apart' HRB.out.rp (Kd.R_typed HRB.out.rc) (by decide)) hg (fun k hk => hk.2)) (ok' := fun _ => True) (fun _ _ => trivial))
   have HRC3 := Aside0.mk ho
   have HB3 := Aside0.mk hb
   clear ho hg hat
   refine hK.out _ _ ⟨(blk_cell HBL.out 0).trans rfl, (blk_cell HKC3.out 1).trans rfl, (pw_cell_below hb HCW.out)⟩ (fun hHeld => ?_)
   clear hK K hb
   refine norm_ (a' := ?_) ?_ ?_
   rotate_left
   ·show Act.put _ (some 25) _ = _
    simp only [Act.put, List.setIfInBounds_toArray, List.set_cons_zero, List.set_cons_succ, i64_w, i32_w]
    rfl
   refine pure_ (i := 12) (N := some 26) (v := ?_) (a' := ?_) #[true, true, true, true, true, true, true, true, true, true, true, true, true, false, false] rfl rfl (any_of HT_.out (by kernel_rfl)) (fun _ _ _ h => h) (Or.inl ⟨by rfl, ?_⟩) ?_ ?_
   rotate_left
   ·intro w'
    go_simp
    with_reducible rfl
   rotate_left
   ·simp only [Act.put, List.setIfInBounds_toArray, List.set_cons_zero, List.set_cons_succ, i64_w, i32_w]
    rfl
   refine pure_ (i := 13) (N := some 27) (v := ?_) (a' := ?_) #[true, true, true, true, true, true, true, true, true, true, true, true, true, true, false] rfl rfl (any_of HT_.out (by kernel_rfl)) (fun _ _ _ h => h) (Or.inl ⟨by rfl, ?_⟩) ?_ ?_
   rotate_left
   ·intro w'
    go_simp
    with_reducible rfl
   rotate_left
   ·simp only [Act.put, List.setIfInBounds_toArray, List.set_cons_zero, List.set_cons_succ, i64_w, i32_w]
    rfl
   refine last_ (i := 14) (N := none) #[true, true, true, true, true, true, true, true, true, true, true, true, true, true, true] rfl rfl (one_of HT_.out (by kernel_rfl)) (by decide) (fun K hK => ?_)
   have hs : w3.cell? ⟨w.heap.size + 1, 0, none⟩ = some vC := (blk_cell HBL.out 0).trans rfl
   have hfs := blk_frozen HBL.out 0
   refine skip_ (w1 := ?_) (by rfl) rfl ?_ ?_
   rotate_left
   ·go_simp
    rfl
   refine hK.out _ _ ?_
   clear hK K
   refine done_ (done_of HT_.out (by kernel_rfl)) ?_
   have HB4 : Aside0 (Below w.heap.size w (w3.setCell ⟨w.heap.size + 1, 0, none⟩ (.slice A9 (i + 1) c9))) := ⟨below_set HB3.out (Nat.le_succ _)⟩
   have HRC4 := Aside0.mk (Kd.R_set HRC3.out HBL.out (by decide) 0 (.slice A9 (i + 1) c9))
   have HRP4 := Aside0.mk (Kd.R_set HRP3.out HBL.out (by decide) 0 (.slice A9 (i + 1) c9))
   have HBL4 : Aside0 ((w3.setCell ⟨w.heap.size + 1, 0, none⟩ (.slice A9 (i + 1) c9)).heap[w.heap.size + 1]? = some (.cells #[.slice A9 (i + 1) c9, vP] 151 (0, 0))) := ⟨blk_set HBL.out 0 (.slice A9 (i + 1) c9)⟩
   have HKC4 : Aside0 ((w3.setCell ⟨w.heap.size + 1, 0, none⟩ (.slice A9 (i + 1) c9)).heap[w.heap.size]? = some (.cells #[.int .i64 vars, .slice (some ad) cls.length c1] 24 (0, 0))) := ⟨blk_far HKC3.out (show w.heap.size ≠ w.heap.size + 1 by omega) _⟩
   generalize w3.setCell ⟨w.heap.size + 1, 0, none⟩ (.slice A9 (i + 1) c9) = w4 at HB4 HRC4 HRP4 HBL4 HKC4 ⊢
   clear hHeld hcd
   have hy1 : w4.cell? ⟨w.heap.size + 1, 1, none⟩ = some vP := (blk_cell HBL4.out 1).trans rfl
   have hyf := blk_frozen HBL4.out 1
   go_wp2_with ((with_reducible refine gate_builtin (b := .append) (xs := #[.tmp 32, .tmp 33]) rfl ?_); at_builtin; refine Kd.R_append Kd.bool (w0 := w) w.heap.size rfl (.tmp 32) (.tmp 33) 77 4 (.bool false) 1 rfl Tryz.underlying77 infoB1 rfl (by decide) (by omega) vP (List.replicate i true) true [.bool true] (fun _ => True) (fun _ => False) rfl rfl ?aP (fun _ hk => hk.elim) ?aF ?aO ?aB ?aS ?aL ?_; (case aP => exact rfl); (case aF => exact fun _ _ => trivial); (case aO => exact HRP4.out); (case aB => exact HB4.out); (case aS => exact HB4.out.size); (case aL => have h2 := HLEN.out; simp; omega); intro vn w5 ho hb hg hat; obtain ⟨An, cn, en⟩ := Kd.R_slice ho; rw [show (List.replicate i true ++ [true]).length = i + 1 by simp] at en; subst en; have HBL5 := Aside0.mk (blk_grown HBL4.out hg (Kd.R_ne HRP4.out HBL4.out (by decide))); have HKC5 := Aside0.mk (blk_grown HKC4.out hg (Kd.R_ne HRP4.out HKC4.out (by decide))); have HRC5 := Aside0.mk (Kd.R_mono (Kd.R_grown (Kd.R_apart' HRC4.out (Kd.R_typed HRP4.out) (by decide)) hg (fun k hk => hk.2)) (ok' := fun _ => True) (fun _ _ => trivial)); have HRP5 := Aside0.mk ho; have HB5 := Aside0.mk hb; have hz1 := (blk_cell HBL5.out 1).trans rfl; have hzf := blk_frozen HBL5.out 1; clear ho hb hg hat hy1 hyf)
   go_roundw
   case rel =>
    refine ⟨i + 1, _, _, svs ++ [(A2, l.length, c2)], by rw [wrap_succ hlt (by have := HLEN.out; omega)], by omega, ⟨⟨blk_set HBL5.out 1 _, Nat.le_succ _, Kd.R_set HRC5.out HBL5.out (by decide) 1 _, by rw [repl_snoc]; exact Kd.R_set HRP5.out HBL5.out (by decide) 1 _, ?_, ?_, ?_⟩⟩, ⟨below_set HB5.out (Nat.le_succ _)⟩, ⟨blk_far HKC5.out (show w.heap.size ≠ w.heap.size + 1 by omega) _⟩⟩
    ·rw [List.length_append, HRB.out.lc, HTK.out]; simp
    ·simp; omega
    ·intro j sv l' h1 h2
     rw [HTK.out] at h2
     by_cases hj : j < svs.length
     ·rw [List.getElem?_append_left hj] at h1
      rw [List.getElem?_append_left (by rw [← HRB.out.lc]; exact hj)] at h2
      exact HRB.out.at_ j sv l' h1 h2
     ·rw [List.getElem?_append_right (by omega)] at h1
      rw [List.getElem?_append_right (by rw [← HRB.out.lc]; omega), ← HRB.out.lc] at h2
      have e1 : j - svs.length = 0 := by
       by_cases h : j - svs.length = 0
       ·exact h
       ·rw [List.getElem?_eq_none (by simp; omega)] at h1
        cases h1
      rw [e1] at h1 h2
      simp at h1 h2
      subst h1; subst h2
      exact HSL.out
   case measure => exact meas_x hlt (wrap_succ hlt (by have := HLEN.out; omega))
  ·go_wp2
   go_ret
   have e : i = cls.length := by omega
   subst e
   rw [List.take_length] at HRB
   exact ⟨_, _, _, _, rfl, HRB.out, HB.out⟩
end Go.Proofs.YtogicccdngpafaaGreatDoor.NState
end
