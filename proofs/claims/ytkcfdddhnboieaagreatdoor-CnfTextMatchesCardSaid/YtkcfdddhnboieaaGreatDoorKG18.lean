/-
  Part 18 of the proof of cnfTextMatches_card: walks and lemmas.
-/
import Derived.Test.YtkcfdddhnboieaaGreatDoorKG13
import Derived.Test.YtkcfdddhnboieaaGreatDoorKG17
import Derived.Deep.CutRange
import Derived.Deep.CutBlock
import Derived.Test.YtkcfdddhnboieaaGreatDoorKG6
import Derived.Test.YtkcfdddhnboieaaGreatDoorKG5
import Derived.Test.YtkcfdddhnboieaaGreatDoorKG12
import Derived.Test.YtkcfdddhnboieaaGreatDoorKG10
set_option linter.unusedVariables false
set_option linter.unusedSimpArgs false
section
set_option maxHeartbeats 4000000
set_option maxRecDepth 100000
namespace Go.Proofs.YtkcfdddhnboieaaGreatDoor.NText
open Go Go.RowKit Go.Shelf Go.Lib QW.PrintWords QW.PrintLast QW.PrintMore
open NState (infoInt infoInts)
open NPlain (tot chkL check_code)
open PCheck (cnf_Check.f cnf_Check.calls)
theorem MOK.below {w w' : World} (h : MOK w) (hb : Below w.heap.size w w') : MOK w' := by
 obtain ⟨m, h⟩ := h
 exact ⟨m, (hb.cell (World.block_lt_of_cell? w _ h)).trans h⟩
structure PC (w W : World) (gr bx : Nat) (s : ByteArray) (r : RS) (vars : Int) (q : Nat → Prop) (v : Value) (out : List (List Int)) : Prop where
 hb : Below w.heap.size w W
 gl : w.heap.size ≤ gr
 bl : w.heap.size ≤ bx
 ne : gr ≠ bx
 box : W.heap[gr]? = some (.cells (rdC s r) 118 (0, 0))
 xb : W.heap[bx]? = some (.cells #[.int .i64 vars, v] 24 (0, 0))
 row : Kd.R (Kd.slice 3 (Kd.int .i64)) 26 W w.heap.size (fun k => (k ≠ gr ∧ k ≠ bx) ∧ q k) v out
section
variable {w W W' : World} {gr bx : Nat} {s : ByteArray} {r r' : RS} {vars : Int} {q : Nat → Prop} {v : Value} {out : List (List Int)}
theorem PC.rd (h : PC w W gr bx s r vars q v out) (h' : RdPost W gr s r' W') : PC w W' gr bx s r' vars q v out :=
 ⟨h.hb.grown h'.grown h.hb.size (fun k hk => by injection hk with hk; rw [← hk]; exact h.gl), h.gl, h.bl, h.ne, h'.box, (h'.grown.block bx (blk_lt h.xb) (fun e => h.ne (by injection e with e; exact e.symm))).trans h.xb, Kd.R_grown h.row h'.grown (fun k hk e => hk.1.1 (by injection e))⟩
theorem PC.below (h : PC w W gr bx s r vars q v out) (hb : Below W.heap.size W W') : PC w W' gr bx s r vars q v out :=
 ⟨bwt h.hb hb, h.gl, h.bl, h.ne, blk_below h.box hb, blk_below h.xb hb, Kd.R_below h.row hb⟩
theorem PC.cells (h : PC w W gr bx s r vars q v out) : W.cell? ⟨gr, 0, none⟩ = some (.string s) ∧ W.cell? ⟨gr, 1, none⟩ = some (.int .i64 r.at_) ∧ W.cell? ⟨gr, 2, none⟩ = some (.int .i64 r.wrong) ∧ W.cell? ⟨gr, 3, none⟩ = some (.int .i64 r.e) := (rd_start h.box).cells
theorem PC.xcells (h : PC w W gr bx s r vars q v out) : W.cell? ⟨bx, 0, none⟩ = some (.int .i64 vars) ∧ W.cell? ⟨bx, 1, none⟩ = some v := ⟨(bkc h.xb 0).trans rfl, (bkc h.xb 1).trans rfl⟩
theorem PC.frozen (h : PC w W gr bx s r vars q v out) (j : Nat) : W.frozen? ⟨bx, j, none⟩ = false := bkf h.xb j
theorem PC.vset (h : PC w W gr bx s r vars q v out) (x : Int) : PC w (W.setCell ⟨bx, 0, none⟩ (.int .i64 x)) gr bx s r x q v out :=
 ⟨bws h.hb h.bl, h.gl, h.bl, h.ne, blk_far h.box h.ne _, blk_put h.xb 0 _ rfl, Kd.R_far (p := ⟨bx, 0, none⟩) h.row (fun _ hk => hk.1.2) _⟩
theorem PC.mono {q' : Nat → Prop} (h : PC w W gr bx s r vars q v out) (hq : ∀ k, k < W.heap.size → q k → q' k) : PC w W gr bx s r vars q' v out :=
 ⟨h.hb, h.gl, h.bl, h.ne, h.box, h.xb, Kd.R_mono (Kd.R_bound h.row) (fun k hk => ⟨hk.1.1, hq k hk.2.2.1 hk.1.2⟩)⟩
theorem PC.reset {q' : Nat → Prop} (h : PC w W gr bx s r vars q v out) : PC w ((W.setCell ⟨bx, 0, none⟩ (.int .i64 0)).setCell ⟨bx, 1, none⟩ (.slice none 0 0)) gr bx s r 0 q' (.slice none 0 0) [] :=
 ⟨bws (bws h.hb h.bl) h.bl, h.gl, h.bl, h.ne, blk_far (blk_far h.box h.ne _) h.ne _, blk_put (blk_put h.xb 0 _ rfl) 1 _ rfl, Kd.R_nil _ _ _ _ _⟩
theorem PC.same (h : PC w W gr bx s r vars q v out) : PC w ((W.setCell ⟨bx, 0, none⟩ (.int .i64 vars)).setCell ⟨bx, 1, none⟩ v) gr bx s r vars q v out :=
 ⟨bws (bws h.hb h.bl) h.bl, h.gl, h.bl, h.ne, blk_far (blk_far h.box h.ne _) h.ne _, blk_put (blk_put h.xb 0 _ rfl) 1 _ rfl, Kd.R_far (p := ⟨bx, 1, none⟩) (Kd.R_far (p := ⟨bx, 0, none⟩) h.row (fun _ hk => hk.1.2) _) (fun _ hk => hk.1.2) _⟩
theorem PC.over {B base : Nat} {cv : Value} {cl : List Int} (h : PC w W gr bx s r vars (fun k => k < B) v out) (hr : Kd.R (Kd.int .i64) 3 W base (fun k => B ≤ k) cv cl) (hg : W.grownBy W' cv.ownBlock) (hb : Below w.heap.size w W') : PC w W' gr bx s r vars (fun k => k < B) v out :=
 ⟨hb, h.gl, h.bl, h.ne, bkg h.box hg (Kd.R_ne hr h.box (by decide)), bkg h.xb hg (Kd.R_ne hr h.xb (by decide)), Kd.R_grown h.row hg (fun k hk e => by have := hr.1 k e.symm; omega)⟩
theorem PC.put {v1 : Value} {out1 : List (List Int)} {q' : Nat → Prop} (h : PC w W gr bx s r vars q v out) (hr : Kd.R (Kd.slice 3 (Kd.int .i64)) 26 W' w.heap.size (fun k => (k ≠ gr ∧ k ≠ bx) ∧ q' k) v1 out1) (hg : W.grownBy W' v.ownBlock) (hb : Below w.heap.size w W') : PC w (W'.setCell ⟨bx, 1, none⟩ v1) gr bx s r vars q' v1 out1 := by
 have h1 : W'.heap[gr]? = _ := bkg h.box hg (Kd.R_ne h.row h.box (by decide))
 have h2 : W'.heap[bx]? = _ := bkg h.xb hg (Kd.R_ne h.row h.xb (by decide))
 exact ⟨bws hb h.bl, h.gl, h.bl, h.ne, blk_far h1 h.ne _, blk_put h2 1 _ rfl, Kd.R_far (p := ⟨bx, 1, none⟩) hr (fun _ hk => hk.1.2) _⟩
theorem PC.gok (h : PC w W gr bx s r vars q v out) (hg : GOK w) : ∀ W1, W.grownBy W1 (some gr) → GOK W1 :=
 fun W1 h1 => hg.below (h.hb.grown h1 h.hb.size (fun k hk => by injection hk with hk; rw [← hk]; exact h.gl))
theorem PC.mok (h : PC w W gr bx s r vars q v out) (hg : MOK w) : ∀ W1, W.grownBy W1 (some gr) → MOK W1 :=
 fun W1 h1 => hg.below (h.hb.grown h1 h.hb.size (fun k hk => by injection hk with hk; rw [← hk]; exact h.gl))
end
def ParseCPost (w : World) (o : Int × List (List Int) × Int × Int) (e : Ending) (W' : World) : Prop :=
 ∃ v, e = .returned (.tuple #[.agg #[.int .i64 o.1, v], .int .i64 o.2.2.1, .int .i64 o.2.2.2]) ∧ Kd.R (Kd.slice 3 (Kd.int .i64)) 26 W' w.heap.size (fun _ => True) v o.2.1 ∧ Below w.heap.size w W'
def litM (x : Int) (r : RS) (ts : List (Nat × List UInt8)) : Nat := 2 * ts.length + (if x ≠ 0 ∧ r.e = 0 then 1 else 0)
theorem len_tot {cls : List (List Int)} {l : List Int} (h : l ∈ cls) : l.length ≤ tot cls := by
 induction cls with
 | nil => cases h
 | cons a cls ih =>
  have ht : tot (a :: cls) = a.length + tot cls := by simp [tot]
  rcases List.mem_cons.1 h with rfl | h
  ·omega
  ·have := ih h; omega
def parsR23.T : Bool × List (List Nat × List Nat) := (true, [([], []), ([], []), ([1], [1]), ([2], [2]), ([3], [3]), ([], []), ([5], [5]), ([6], [6]), ([7], [7]), ([0, 0], [0]), ([4, 9, 0, 1, 2, 3, 4, 9], [4]), ([8, 10, 0, 1, 2, 3, 4, 5, 6, 7, 8, 9, 10], [8])])
def parsR23.B : List Nat := [0, 0, 2, 6, 14, 0, 32, 96, 224, 1, 543, 2047]
theorem parsR23.tab : rtab .any (opsOf Tryz.f31 23) = parsR23.T := by kernel_rfl
theorem parsR23.bits : waitsOk parsR23.T.2 parsR23.B = true := by kernel_rfl
theorem parseC_calls (s : ByteArray) (w : World) (hg : GOK w) (hm : MOK w) (ts : List (Nat × List UInt8)) (ht : Tk s.data.toList (s.size - (commL s.size s.data.toList).length) ts) :
  Calls Tryz.prog 31 #[.string s] w (ParseCPost w (parseC s.size (s.size - (commL s.size s.data.toList).length) ts)) := by
 have HG := Az.mk hg
 have HM := Az.mk hm
 have hu24 := Tryz.underlying24
 obtain ⟨p0, hp0⟩ : ∃ p0, s.size - (commL s.size s.data.toList).length = p0 := ⟨_, rfl⟩
 rw [hp0] at ht ⊢
 clear hg hm
 go_enter Tryz.func31, Tryz.ntmps31
 by_cases hl : 65536 < s.size
 ·have hl' : decide ((s.size : Int) > 65536) = true := decide_eq_true (by omega)
  have HQ : Az (parseC s.size p0 ts = (0, [], 0, 5)) := ⟨by unfold parseC; rw [if_pos hl]⟩
  clear hl
  have BX := Az.mk (blk_new w (.cells #[.int .i64 0, .slice none 0 0] 24))
  go_wp2_with fail
  refine bodyPost_ret (results_ctt rfl _ _ w.heap.size 24 #[.int .i64 0, .slice none 0 0] (0, 0) _ rfl BX.out hu24 rfl (by kernel_rfl)) rfl ?_
  unfold ParseCPost; rw [HQ.out]
  exact ⟨_, rfl, Kd.R_nil _ _ _ _ _, below_nw _ _⟩
 ·have hl' : decide ((s.size : Int) > 65536) = false := decide_eq_false (by omega)
  have hs : s.size ≤ 65536 := by omega
  have HP : Az (parseC s.size p0 ts = tailS (headS s.size p0 ts).2.1 (bodyS s.size (headS s.size p0 ts)).2.1 (endS s.size (bodyS s.size (headS s.size p0 ts)).1 (bodyS s.size (headS s.size p0 ts)).2.2)) := ⟨by unfold parseC; rw [if_neg hl]⟩
  have HS := Az.mk hs
  have HP0 := Az.mk hp0
  have HSL : Az (s.data.toList.length = s.size) := ⟨(size_eq s).symm⟩
  have HT0 := Az.mk ht
  clear hl hs ht hp0
  have HX0 : Az (PC w ((w.alloc (.cells #[.int .i64 0, .slice none 0 0] 24)).alloc (.cells #[.string s, .int .i64 0, .int .i64 0, .int .i64 0] 118)) (w.heap.size + 1) w.heap.size s ⟨0, 0, 0⟩ 0 (fun _ => True) (.slice none 0 0) []) := ⟨by
   have h1 := blk_new (w.alloc (.cells #[.int .i64 0, .slice none 0 0] 24)) (.cells (rdC s ⟨0, 0, 0⟩) 118)
   rw [World.size_alloc] at h1
   exact ⟨(below_nw _ _).alloc (by rw [World.size_alloc]; omega) _, Nat.le_succ _, Nat.le_refl _, by omega, h1, blk_below (blk_new w _) (below_nw _ _), Kd.R_nil _ _ _ _ _⟩⟩
  go_upto_region 4 with fail
  generalize (w.alloc (.cells #[.int .i64 0, .slice none 0 0] 24)).alloc (.cells #[.string s, .int .i64 0, .int .i64 0, .int .i64 0] 118) = w1 at HX0 ⊢
  generalize w.heap.size + 1 = gr at HX0 ⊢
  go_upto_region 5 with (go_at_call 79; refine (comments_calls w1 gr s HS.out _ rfl (rd_start HX0.out.box) (HX0.out.mok HM.out)).mono ?_; rintro e w2 ⟨rfl, hb2⟩; rw [HP0.out] at hb2; have HX1 := Az.mk (HX0.out.rd hb2); clear hb2)
  clear HX0 HP0
  obtain ⟨k1, hk1⟩ : ∃ k1, wordT s.size (isK [112]) ⟨p0, 0, 0⟩ ts = k1 := ⟨_, rfl⟩
  have HT1 : Az (Tk s.data.toList k1.1.at_ k1.2) := ⟨by rw [← hk1, ← HSL.out]; exact wordT_tk HT0.out⟩
  have HK1 := Az.mk hk1
  go_upto_region 6 with (go_at_call 80; refine (key_calls w2 gr s HS.out ⟨p0, 0, 0⟩ ts HT0.out (rd_start HX1.out.box) _).mono ?_; rintro e w3 ⟨rfl, hb3⟩; have HX2 := Az.mk (HX1.out.rd hb3); clear hb3)
  have HX2 : Az (PC w w3 gr w.heap.size s k1.1 0 (fun _ => True) (.slice none 0 0) []) := ⟨by rw [← hk1]; exact HX2.out⟩
  clear HX1 hk1
  obtain ⟨k2, hk2⟩ : ∃ k2, wordT s.size (isK [99, 110, 102]) k1.1 k1.2 = k2 := ⟨_, rfl⟩
  have HT2 : Az (Tk s.data.toList k2.1.at_ k2.2) := ⟨by rw [← hk2, ← HSL.out]; exact wordT_tk HT1.out⟩
  have HK2 := Az.mk hk2
  go_upto_region 7 with (go_at_call 80; refine (key_calls w3 gr s HS.out k1.1 k1.2 HT1.out (rd_start HX2.out.box) _).mono ?_; rintro e w4 ⟨rfl, hb4⟩; have HX3 := Az.mk (HX2.out.rd hb4); clear hb4)
  have HX3 : Az (PC w w4 gr w.heap.size s k2.1 0 (fun _ => True) (.slice none 0 0) []) := ⟨by rw [← hk2]; exact HX3.out⟩
  clear HX2 hk2
  obtain ⟨k3, hk3⟩ : ∃ k3, wordT s.size (numF 4096) k2.1 k2.2 = k3 := ⟨_, rfl⟩
  obtain ⟨vars, hvars⟩ : ∃ v, wordV (fun x => (valueL x).1) k2.1 k2.2 = v := ⟨_, rfl⟩
  have HT3 : Az (Tk s.data.toList k3.1.at_ k3.2) := ⟨by rw [← hk3, ← HSL.out]; exact wordT_tk HT2.out⟩
  have HN3 := Az.mk (number_calls w4 gr s HS.out k2.1 k2.2 HT2.out (rd_start HX3.out.box) 4096 (HX3.out.gok HG.out))
  rw [hk3, hvars] at HN3
  have HK3 := Az.mk hk3
  have HVARS := Az.mk hvars
  clear hk3 hvars
  go_upto_region 8 with (go_at_call 81; refine HN3.out.mono ?_; rintro e w5 ⟨rfl, hb5⟩; have HX4 := Az.mk (HX3.out.rd hb5); have c0 := HX4.out.xcells.1; have f0 := HX4.out.frozen 0; clear hb5)
  have HX5 := Az.mk (HX4.out.vset vars)
  clear HX3 HX4 HN3 c0 f0
  generalize w5.setCell ⟨w.heap.size, 0, none⟩ (.int .i64 vars) = w6 at HX5 ⊢
  obtain ⟨k4, hk4⟩ : ∃ k4, wordT s.size (numF 16384) k3.1 k3.2 = k4 := ⟨_, rfl⟩
  obtain ⟨many, hmany⟩ : ∃ v, wordV (fun x => (valueL x).1) k3.1 k3.2 = v := ⟨_, rfl⟩
  have HT4 : Az (Tk s.data.toList k4.1.at_ k4.2) := ⟨by rw [← hk4, ← HSL.out]; exact wordT_tk HT3.out⟩
  have HN4 := Az.mk (number_calls w6 gr s HS.out k3.1 k3.2 HT3.out (rd_start HX5.out.box) 16384 (HX5.out.gok HG.out))
  have HMB : Az (0 ≤ many ∧ many ≤ 4294967295) := ⟨by rw [← hmany]; exact wordV_bound⟩
  rw [hk4, hmany] at HN4
  have HK4 := Az.mk hk4
  have HMANY := Az.mk hmany
  clear hk4 hmany
  go_upto_region 9 with (go_at_call 81; refine HN4.out.mono ?_; rintro e w7 ⟨rfl, hb7⟩; have HX6 := Az.mk (HX5.out.rd hb7); clear hb7)
  clear HX5 HN4
  have HHEAD : Az (headS s.size p0 ts = (k4, vars, many)) := ⟨by unfold headS; simp only [HK1.out, HK2.out, HK3.out, HK4.out, HVARS.out, HMANY.out]⟩
  rw [HHEAD.out] at HP
  clear HHEAD HK1 HK2 HK3 HK4 HVARS HMANY HT0 HT1 HT2 HT3
  obtain ⟨c, hc⟩ : ∃ c, bodyS s.size (k4, vars, many) = c := ⟨_, rfl⟩
  have HC : Az (clsS s.size many.toNat k4.1 k4.2 = c) := ⟨hc⟩
  rw [hc] at HP
  have HCS : Az (c.2.1.length ≤ 65537 ∧ tot c.2.1 ≤ 65536 ∧ Tk s.data.toList c.1.at_ c.2.2) := ⟨by
   have h1 := clsS_sizes s.size many.toNat k4.1 k4.2
   have h2 := tk_count HT4.out
   have h3 := clsS_tk (m := many.toNat) HT4.out
   rw [HSL.out] at h2 h3
   have h4 := HS.out
   rw [HC.out] at h1 h3
   exact ⟨by omega, by omega, h3⟩⟩
  have HN : Az (k4.2.length ≤ s.size) := ⟨by have h2 := tk_count HT4.out; rw [HSL.out] at h2; omega⟩
  clear hc
  go_upto_block 0 with fail
  go_cut [7] from 29 to 63 (fun _ wc => ∃ v, Az (PC w wc gr w.heap.size s c.1 vars (fun _ => True) v c.2.1))
  case first =>
   clear HP hu24
   go_wp2_with fail
   go_loopg [7] many.toNat (fun g v7 wr => ∃ (i : Nat) (r : RS) (ts' : List (Nat × List UInt8)) (v : Value) (out : List (List Int)), v7 = .int .i64 i ∧ Az (i + g = many.toNat ∧ out.length ≤ i) ∧ Az (PC w wr gr w.heap.size s r vars (fun _ => True) v out) ∧ Az (Tk s.data.toList r.at_ ts') ∧ Az (clsS s.size many.toNat k4.1 k4.2 = ((clsS s.size g r ts').1, out ++ (clsS s.size g r ts').2.1, (clsS s.size g r ts').2.2)))
   case atStart => exact ⟨0, k4.1, k4.2, _, [], rfl, ⟨⟨by omega, Nat.le_refl _⟩⟩, HX6, HT4, ⟨by simp⟩⟩
   case round =>
    clear HX6 HT4 HN
    obtain ⟨i, r, ts', v, out, rfl, HI, HX, HT, HE⟩ := hrel
    obtain ⟨h0, h1, h2, h3⟩ := HX.out.cells
    by_cases hlt : i < many.toNat
    ·have hlt' : decide ((i : Int) < many) = true := decide_eq_true (by omega)
     by_cases he : r.e = 0
     ·have he' : (r.e == 0) = true := by rw [he]; rfl
      have HE0 := Az.mk he
      have HLT := Az.mk hlt
      clear he hlt
      go_upto_region 13 with fail
      have HTN : Az (ts'.length ≤ s.size) := ⟨by have h2 := tk_count HT.out; rw [HSL.out] at h2; omega⟩
      have HL0 := Az.mk (literal_calls wr gr s HS.out r ts' HT.out (rd_start HX.out.box) (HX.out.gok HG.out))
      have HBW : Az (gr < wr.heap.size ∧ w.heap.size < wr.heap.size) := ⟨blk_lt HX.out.box, blk_lt HX.out.xb⟩
      have HXB : Az (PC w wr gr w.heap.size s r vars (fun k => k < wr.heap.size) v out) := ⟨HX.out.mono (fun k hk _ => hk)⟩
      clear HX
      obtain ⟨B, hB⟩ : ∃ B, wr.heap.size = B := ⟨_, rfl⟩
      have HBS0 : Az (B ≤ wr.heap.size) := ⟨by omega⟩
      rw [hB] at HBW HXB
      clear hB
      obtain ⟨q1, hq1⟩ : ∃ q1, wordT s.size (fun x => (litT x).2) r ts' = q1 := ⟨_, rfl⟩
      obtain ⟨x1, hx1⟩ : ∃ x1, wordV (fun x => (litT x).1) r ts' = x1 := ⟨_, rfl⟩
      have HQ1 := Az.mk hq1
      have HQX := Az.mk hx1
      rw [hq1, hx1] at HL0
      clear hq1 hx1
      clear h0 h1 h2 h3
      go_upto_block 2 with (go_at_call 82; refine HL0.out.mono ?_; rintro e w8 ⟨rfl, hb8⟩; have HX8 := Az.mk (HXB.out.rd hb8); have HBS8 := Az.mk (Nat.le_trans HBS0.out hb8.grown.size); clear hb8)
      clear HL0 HXB
      obtain ⟨lo, hlo⟩ : ∃ lo, litsS s.size ts' r = lo := ⟨_, rfl⟩
      have HLO := Az.mk hlo
      clear hlo
      go_cut [8, 9] from 43 to 57 (fun s8 _ wc => Az (PC w wc gr w.heap.size s lo.1 vars (fun k => k < B) v out) ∧ Az (Kd.R (Kd.int .i64) 3 wc w.heap.size (fun k => B ≤ k) s8 lo.2.1))
      case first =>
       go_wp2_with fail
       go_loopg [8, 9] (litM x1 q1.1 q1.2) (fun g v8 v9 wx => ∃ (x : Int) (rr : RS) (tt : List (Nat × List UInt8)) (cl : List Int), g = litM x rr tt ∧ v9 = .int .i64 x ∧ Az (PC w wx gr w.heap.size s rr vars (fun k => k < B) v out) ∧ Az (Kd.R (Kd.int .i64) 3 wx w.heap.size (fun k => B ≤ k) v8 cl) ∧ Az (Tk s.data.toList rr.at_ tt) ∧ Az (cl.length + tt.length + (if x = 0 then 0 else 1) ≤ s.size) ∧ Az (B ≤ wx.heap.size) ∧ Az (lo = if x ≠ 0 ∧ rr.e = 0 then ((litsS s.size tt rr).1, cl ++ x :: (litsS s.size tt rr).2.1, (litsS s.size tt rr).2.2) else (rr, cl, tt)))
       case atStart => exact ⟨x1, q1.1, q1.2, [], rfl, rfl, HX8, ⟨Kd.R_nil _ _ _ _ _⟩, ⟨by rw [← HQ1.out, ← HSL.out]; exact wordT_tk HT.out⟩, ⟨by
        have h1 := HTN.out
        rw [← HQ1.out]
        by_cases hx : x1 = 0
        ·have := wordT_le s.size (fun x => (litT x).2) r ts'
         rw [if_pos hx]; simp; omega
        ·have h2 := wordT_lt (len := s.size) (F := fun x => (litT x).2) (V := fun x => (litT x).1) (r := r) (ts := ts') (by rw [HQX.out]; exact hx)
         rw [if_neg hx]; simp; omega⟩, ⟨HBS8.out⟩, ⟨by rw [← HLO.out, litsS_eq, HQ1.out, HQX.out]; rfl⟩⟩
       case round =>
        clear HX8 HBS8 HE HI HT
        obtain ⟨x, rr, tt, cl, rfl, rfl, HX, HR, HTT, HSZ, HBS, HLE⟩ := hrel
        obtain ⟨h0, h1, h2, h3⟩ := HX.out.cells
        obtain ⟨Ac, cc, ec⟩ := Kd.R_slice HR.out
        subst ec
        by_cases hx0 : x = 0
        ·have hx' : (x != 0) = false := by rw [hx0]; rfl
         have HQ : Az (lo = (rr, cl, tt)) := ⟨by rw [HLE.out, if_neg (by simp [hx0])]⟩
         clear hx0
         go_wp2_with fail
         go_meet
         case rel => exact ⟨by rw [HQ.out]; exact HX, by rw [HQ.out]; exact HR⟩
        ·have hx' : (x != 0) = true := bne_iff_ne.2 hx0
         by_cases he : rr.e = 0
         ·have he' : (rr.e == 0) = true := by rw [he]; rfl
          have HQ : Az (lo = ((litsS s.size tt rr).1, cl ++ x :: (litsS s.size tt rr).2.1, (litsS s.size tt rr).2.2)) := ⟨by rw [HLE.out, if_pos ⟨hx0, he⟩]⟩
          have HSZ2 : Az (cl.length + 1 + tt.length ≤ s.size) := ⟨by have := HSZ.out; rw [if_neg hx0] at this; omega⟩
          have HGE : Az (litM x rr tt = 2 * tt.length + 1) := ⟨by unfold litM; rw [if_pos ⟨hx0, he⟩]⟩
          have HL1 : Az (∀ W1, PC w W1 gr w.heap.size s rr vars (fun k => k < B) v out → Calls Tryz.prog 82 #[.pointer (some ⟨gr, 0, none⟩)] W1 fun e W' => e = .returned (.int .i64 (wordV (fun x => (litT x).1) rr tt)) ∧ RdPost W1 gr s (wordT s.size (fun x => (litT x).2) rr tt).1 W') := ⟨fun W1 h1 => literal_calls W1 gr s HS.out rr tt HTT.out (rd_start h1.box) (h1.gok HG.out)⟩
          obtain ⟨q2, hq2⟩ : ∃ q2, wordT s.size (fun x => (litT x).2) rr tt = q2 := ⟨_, rfl⟩
          obtain ⟨x2, hx2⟩ : ∃ x2, wordV (fun x => (litT x).1) rr tt = x2 := ⟨_, rfl⟩
          have HQ2 := Az.mk hq2
          have HQX2 := Az.mk hx2
          rw [hq2, hx2] at HL1
          clear hq2 hx2 hx0 he HSZ HLE
          go_wp2_with (first | (go_at_call 82; refine (HL1.out w9 HX9.out).mono ?_; rintro e w10 ⟨rfl, hb10⟩; have HX10 := Az.mk (HX9.out.rd hb10); have HR10 := Az.mk (Kd.R_grown HR9.out hb10.grown (fun k hk e => by injection e with e; have := HBW.out.1; omega)); have HB10 := Az.mk (Nat.le_trans HB9.out hb10.grown.size); clear hb10) | ((with_reducible refine gate_builtin (b := .append) (xs := #[.tmp 54, .tmp 56]) rfl ?_); at_builtin; refine Kd.R_append (Kd.int .i64) (w0 := w) w.heap.size rfl (.tmp 54) (.tmp 56) 26 3 (.int .i64 0) 8 rfl Tryz.underlying26 infoInt rfl (by decide) (by omega) (.slice Ac cl.length cc) cl x [.int .i64 x] (fun k => B ≤ k) (fun _ => False) rfl rfl ?aP (fun _ hk => hk.elim) ?aF ?aO ?aB ?aS ?aL ?_; (case aP => exact rfl); (case aF => exact fun k hk => Nat.le_trans HBS.out hk); (case aO => exact HR.out); (case aB => exact HX.out.hb); (case aS => exact HX.out.hb.size); (case aL => have h1 := HSZ2.out; have h2 := HS.out; omega); intro v9 w9 ho hb hg hat; have HX9 := Az.mk (HX.out.over HR.out hg hb); have HR9 := Az.mk ho; have HB9 := Az.mk (Nat.le_trans HBS.out hg.size); clear ho hb hg hat h0 h1 h2 h3))
          go_roundg (litM x2 q2.1 q2.2)
          case measure =>
           rw [HGE.out]
           unfold litM
           by_cases hx : x2 = 0
           ·have := wordT_le s.size (fun x => (litT x).2) rr tt
            rw [HQ2.out] at this
            rw [if_neg (by simp [hx])]; omega
           ·have h2 := wordT_lt (len := s.size) (F := fun x => (litT x).2) (V := fun x => (litT x).1) (r := rr) (ts := tt) (by rw [HQX2.out]; exact hx)
            rw [HQ2.out] at h2
            split <;> omega
          case rel =>
           refine ⟨x2, q2.1, q2.2, cl ++ [x], rfl, rfl, HX10, HR10, ⟨by rw [← HQ2.out, ← HSL.out]; exact wordT_tk HTT.out⟩, ⟨?_⟩, HB10, ⟨?_⟩⟩
           ·have h1 := HSZ2.out
            rw [List.length_append, List.length_singleton]
            by_cases hx : x2 = 0
            ·have := wordT_le s.size (fun x => (litT x).2) rr tt
             rw [HQ2.out] at this
             rw [if_pos hx]; omega
            ·have h2 := wordT_lt (len := s.size) (F := fun x => (litT x).2) (V := fun x => (litT x).1) (r := rr) (ts := tt) (by rw [HQX2.out]; exact hx)
             rw [HQ2.out] at h2
             rw [if_neg hx]; omega
           ·rw [HQ.out, litsS_eq, HQ2.out, HQX2.out]
            split <;> simp
         ·have he' : (rr.e == 0) = false := beq_eq_false_iff_ne.2 he
          have HQ : Az (lo = (rr, cl, tt)) := ⟨by rw [HLE.out, if_neg (by simp [he])]⟩
          clear he hx0
          go_wp2_with fail
          go_meet
          case rel => exact ⟨by rw [HQ.out]; exact HX, by rw [HQ.out]; exact HR⟩
      case rest =>
       clear HX8 HBS8
       obtain ⟨HX11, HR11⟩ := hcut
       obtain ⟨A8, c8, e8⟩ := Kd.R_slice HR11.out
       subst e8
       obtain ⟨Av, cv, ev⟩ := Kd.R_slice HX11.out.row
       subst ev
       have x1 := HX11.out.xcells.2
       have f1 := HX11.out.frozen 1
       obtain ⟨g, rfl⟩ : ∃ g, gk = g + 1 := ⟨gk - 1, by have h1 := HI.out.1; have h2 := HLT.out; omega⟩
       have HWB : Az (i < 4294967296) := ⟨by have h1 := HLT.out; have h2 := HMB.out.2; omega⟩
       have hwi : IntKind.i64.wrap ((i : Int) + 1) = ((i + 1 : Nat) : Int) := by rw [IntKind.wrap_i64]; have := HWB.out; omega
       go_wp2_with ((with_reducible refine gate_builtin (b := .append) (xs := #[.tmp 59, .tmp 61]) rfl ?_); at_builtin; refine Kd.R_append (Kd.slice 3 (Kd.int .i64)) (w0 := w) w.heap.size rfl (.tmp 59) (.tmp 61) 22 26 (.slice none 0 0) 24 rfl Tryz.underlying22 infoInts rfl (by decide) (by decide) (.slice Av out.length cv) out lo.2.1 [.slice A8 lo.2.1.length c8] (fun k => (k ≠ gr ∧ k ≠ w.heap.size) ∧ True) (fun k => B ≤ k) rfl rfl ?aP ?aK ?aF ?aO ?aB ?aS ?aL ?_; (case aP => exact Kd.M_row HR11.out); (case aK => exact fun k hk => ⟨⟨⟨by have := HBW.out.1; omega, by have := HBW.out.2; omega⟩, trivial⟩, fun e => by have := HX11.out.row.1 k e.symm; omega⟩); (case aF => exact fun k hk => ⟨⟨by have := blk_lt HX11.out.box; omega, by have := blk_lt HX11.out.xb; omega⟩, trivial⟩); (case aO => exact Kd.R_mono HX11.out.row (fun k hk => ⟨hk.1, trivial⟩)); (case aB => exact HX11.out.hb); (case aS => exact HX11.out.hb.size); (case aL => have h1 := HI.out.2; have h2 := HWB.out; omega); intro v9 w9 ho hb hg hat; obtain ⟨A9, c9, e9⟩ := Kd.R_slice ho; subst e9; have HX12 := Az.mk (HX11.out.put ho hg hb); have x2 := (bkc (bkg HX11.out.xb hg (Kd.R_ne HX11.out.row HX11.out.xb (by decide))) 1).trans rfl; have f2 := bkf (bkg HX11.out.xb hg (Kd.R_ne HX11.out.row HX11.out.xb (by decide))) 1; clear ho hb hg hat)
       go_roundg g
       case measure => omega
       case rel =>
        have HXN := HX12
        simp only [List.length_append, List.length_singleton] at HXN
        refine ⟨i + 1, lo.1, lo.2.2, _, out ++ [lo.2.1], rfl, ⟨⟨by have := HI.out.1; omega, by have := HI.out.2; simp; omega⟩⟩, HXN, ⟨by rw [← HLO.out, ← HSL.out]; exact litsS_tk HT.out⟩, ⟨?_⟩⟩
        rw [HE.out, clsS, if_pos HE0.out, HLO.out]
        simp
     ·have he' : (r.e == 0) = false := beq_eq_false_iff_ne.2 he
      have HQ : Az (c = (r, out, ts')) := ⟨by rw [← HC.out, HE.out, clsS_stop he]; simp⟩
      clear he hlt
      go_wp2_with fail
      go_meet
      case rel => exact ⟨v, by rw [HQ.out]; exact HX⟩
    ·have hlt' : decide ((i : Int) < many) = false := decide_eq_false (by have := HMB.out; omega)
     obtain rfl : gk = 0 := by have := HI.out.1; omega
     have HQ : Az (c = (r, out, ts')) := ⟨by rw [← HC.out, HE.out]; simp [clsS]⟩
     clear hlt
     go_wp2_with fail
     go_meet
     case rel => exact ⟨v, by rw [HQ.out]; exact HX⟩
  case rest =>
   clear HX6 HT4 HN HC HMB
   obtain ⟨v, HX⟩ := hcut
   obtain ⟨h0, h1, h2, h3⟩ := HX.out.cells
   obtain ⟨er, her⟩ : ∃ er, endS s.size c.1 c.2.2 = er := ⟨_, rfl⟩
   rw [her] at HP
   have HER := Az.mk her
   clear her
   go_upto_if 68 with fail
   go_cut [] from 64 to 83 (fun wc => Az (PC w wc gr w.heap.size s er vars (fun _ => True) v c.2.1))
   case first =>
    obtain ⟨A0, c0, e0⟩ := Kd.R_slice HX.out.row
    subst e0
    by_cases he : c.1.e = 0
    ·have he' : (c.1.e == 0) = true := by rw [he]; rfl
     have HSK := Az.mk (skip_calls wc wc gr s HS.out c.1 c.2.2 HCS.out.2.2 (rd_start HX.out.box))
     have HE0 : Az (er = if (peekT s.size c.2.2).2 < s.size then failS (skipS s.size c.1 c.2.2) (peekT s.size c.2.2).2 6 else skipS s.size c.1 c.2.2) := ⟨by rw [← HER.out]; unfold endS; rw [if_pos he]⟩
     have HSA : Az ((skipS s.size c.1 c.2.2).at_ = (peekT s.size c.2.2).2) := ⟨rfl⟩
     generalize skipS s.size c.1 c.2.2 = rs at HSK HE0 HSA
     clear he
     obtain ⟨pz, hpz⟩ : ∃ pz : Int, ((peekT s.size c.2.2).2 : Int) = pz := ⟨_, rfl⟩
     rw [hpz] at HE0
     have HPZ := Az.mk hpz
     by_cases hlt : (peekT s.size c.2.2).2 < s.size
     ·have hlt' : decide (pz < (s.size : Int)) = true := decide_eq_true (by omega)
      rw [if_pos hlt] at HE0
      clear hlt hpz
      go_wp2_with (first | (go_at_call 83; refine HSK.out.mono ?_; rintro e w8 ⟨rfl, hb8⟩; have HX8 := Az.mk (HX.out.rd hb8); obtain ⟨g0, g1, g2, g3⟩ := hb8.cells; rw [HSA.out, HPZ.out] at g1; clear hb8 h0 h1 h2 h3) | (go_at_call 84; refine (fail_calls w8 gr s _ _ _ (rd_start HX8.out.box)).mono ?_; rintro e w9 ⟨rfl, hb9⟩; have HX9 := Az.mk (HX8.out.rd hb9); clear hb9))
      go_meet
      case rel => exact ⟨by rw [HE0.out]; exact HX9.out⟩
     ·have hlt' : decide (pz < (s.size : Int)) = false := decide_eq_false (by omega)
      rw [if_neg hlt] at HE0
      clear hlt hpz
      go_wp2_with (go_at_call 83; refine HSK.out.mono ?_; rintro e w8 ⟨rfl, hb8⟩; have HX8 := Az.mk (HX.out.rd hb8); obtain ⟨g0, g1, g2, g3⟩ := hb8.cells; rw [HSA.out, HPZ.out] at g1; clear hb8 h0 h1 h2 h3)
      go_meet
      case rel => exact ⟨by rw [HE0.out]; exact HX8.out⟩
    ·have he' : (c.1.e == 0) = false := beq_eq_false_iff_ne.2 he
     have HE0 : Az (er = c.1) := ⟨by rw [← HER.out]; unfold endS; rw [if_neg he]⟩
     clear he
     go_wp2_with fail
     go_meet
     case rel => exact ⟨by rw [HE0.out]; exact HX.out⟩
   case rest =>
    clear HX h0 h1 h2 h3
    have HXe := hcut
    clear hcut
    obtain ⟨h0, h1, h2, h3⟩ := HXe.out.cells
    by_cases he : er.e = 0
    ·have he' : (er.e != 0) = false := by rw [he]; rfl
     have HT2 : Az (tailS vars c.2.1 er = if chkL vars c.2.1 = 0 then (vars, c.2.1, 0, 0) else (0, [], 0, chkL vars c.2.1)) := ⟨by unfold tailS; rw [if_pos he]⟩
     obtain ⟨Av, cv, ev⟩ := Kd.R_slice HXe.out.row
     subst ev
     obtain ⟨x0, x1⟩ := HXe.out.xcells
     have hcv := check_code vars c.2.1 (by have := HCS.out.1; omega) (by have := HCS.out.2.1; omega) (fun l hl => by
      have h1 := HCS.out.2.1
      have h2 : l.length ≤ tot c.2.1 := len_tot hl
      omega)
     obtain ⟨kk, hkk⟩ := hcv
     have hkk := hkk kk (Nat.le_refl _)
     simp only at hkk
     have HCK := Az.mk hkk
     have HRC := Az.mk (Kd.R_reads' HXe.out.row)
     clear he hkk
     by_cases hc0 : chkL vars c.2.1 = 0
     ·rw [if_pos hc0] at HT2
      rw [hc0] at HCK
      clear hc0
      go_wp2_with (go_at_call 21; refine (cnf_Check.calls kk vars Av cv c.2.1 _ wc HRC.out.2.2 HRC.out.2.1 HCK.out).mono ?_; rintro e w9 ⟨rfl, hb9⟩; have HX9 := Az.mk (HXe.out.below hb9); obtain ⟨y0, y1⟩ := HX9.out.xcells; have y2 := HX9.out.frozen 0; have y3 := HX9.out.frozen 1; clear hb9 x0 x1)
      have HXf := Az.mk HX9.out.same
      refine bodyPost_ret (results_ctt rfl _ _ w.heap.size 24 #[.int .i64 vars, .slice Av c.2.1.length cv] (0, 0) _ rfl HXf.out.xb hu24 rfl (by kernel_rfl)) rfl ?_
      unfold ParseCPost; rw [HP.out, HT2.out]
      exact ⟨_, rfl, Kd.R_mono HXf.out.row (fun _ _ => trivial), HXf.out.hb⟩
     ·rw [if_neg hc0] at HT2
      have hcb : (chkL vars c.2.1 != 0) = true := bne_iff_ne.2 hc0
      clear hc0
      go_wp2_with (go_at_call 21; refine (cnf_Check.calls kk vars Av cv c.2.1 _ wc HRC.out.2.2 HRC.out.2.1 HCK.out).mono ?_; rintro e w9 ⟨rfl, hb9⟩; have HX9 := Az.mk (HXe.out.below hb9); obtain ⟨y0, y1⟩ := HX9.out.xcells; have y2 := HX9.out.frozen 0; have y3 := HX9.out.frozen 1; clear hb9 x0 x1)
      have HXf := Az.mk (HX9.out.reset (q' := fun _ => True))
      refine bodyPost_ret (results_ctt rfl _ _ w.heap.size 24 #[.int .i64 0, .slice none 0 0] (0, 0) _ rfl HXf.out.xb hu24 rfl (by kernel_rfl)) rfl ?_
      unfold ParseCPost; rw [HP.out, HT2.out]
      exact ⟨_, rfl, Kd.R_nil _ _ _ _ _, HXf.out.hb⟩
    ·have he' : (er.e != 0) = true := bne_iff_ne.2 he
     have HQ : Az (tailS vars c.2.1 er = (0, [], er.wrong, er.e)) := ⟨by unfold tailS; rw [if_neg he]⟩
     obtain ⟨Av, cv, ev⟩ := Kd.R_slice HXe.out.row
     subst ev
     clear he
     go_wp2_with fail
     have HXe : Az (PC w wc.drew gr w.heap.size s er vars (fun _ => True) (.slice Av c.2.1.length cv) c.2.1) := ⟨HXe.out.below (below_drew (Below.refl _ _))⟩
     refine start_ (n := 12) (S := fun w' => w'.cell? ⟨gr, 2, none⟩ = some (.int .i64 er.wrong) ∧ w'.cell? ⟨gr, 3, none⟩ = some (.int .i64 er.e)) (ds := []) (Array.replicate 12 false) (by kernel_rfl) rfl rfl ⟨HXe.out.cells.2.2.1, HXe.out.cells.2.2.2⟩ (fun hHeld => ?_); refine with_tabW parsR23.tab parsR23.bits (fun HT_ HW_ => ?_)
     generalize wc.drew = wd at HXe hHeld ⊢
     refine pA 0 (some 89) (bA 12 1) rfl rfl HT_.out (by intro w'; go_simp; with_reducible rfl) (by simp only [Act.put, zq1, zq2, zq3, iw, jw]; rfl) ?_
     refine pA 1 (some 90) (bA 12 3) rfl rfl HT_.out (by intro w'; go_simp; with_reducible rfl) (by simp only [Act.put, zq1, zq2, zq3, iw, jw]; rfl) ?_
     refine pA 2 (some 91) (bA 12 7) rfl rfl HT_.out (by intro w'; go_simp; with_reducible rfl) (by simp only [Act.put, zq1, zq2, zq3, iw, jw]; rfl) ?_
     refine pA 3 (some 92) (bA 12 15) rfl rfl HT_.out (by intro w'; go_simp; with_reducible rfl) (by simp only [Act.put, zq1, zq2, zq3, iw, jw]; rfl) ?_
     refine pT 4 (some 93) (bA 12 31) rfl rfl HT_.out HW_.out hHeld (by rintro w' ⟨s0, s1⟩; go_simp; with_reducible rfl) (by simp only [Act.put, zq1, zq2, zq3, iw, jw]; rfl) ?_
     refine pA 5 (some 94) (bA 12 63) rfl rfl HT_.out (by intro w'; go_simp; with_reducible rfl) (by simp only [Act.put, zq1, zq2, zq3, iw, jw]; rfl) ?_
     refine pA 6 (some 95) (bA 12 127) rfl rfl HT_.out (by intro w'; go_simp; with_reducible rfl) (by simp only [Act.put, zq1, zq2, zq3, iw, jw]; rfl) ?_
     refine pA 7 (some 96) (bA 12 255) rfl rfl HT_.out (by intro w'; go_simp; with_reducible rfl) (by simp only [Act.put, zq1, zq2, zq3, iw, jw]; rfl) ?_
     refine pT 8 (some 97) (bA 12 511) rfl rfl HT_.out HW_.out hHeld (by rintro w' ⟨s0, s1⟩; go_simp; with_reducible rfl) (by simp only [Act.put, zq1, zq2, zq3, iw, jw]; rfl) ?_
     refine QW.PrintLast.one_ (i := 9) (N := none) (bA 12 1023) rfl rfl (one_of HT_.out (by kernel_rfl)) (by decide) (fun K hK => ?_)
     have hs1 := HXe.out.xcells.1
     have hs2 := HXe.out.xcells.2
     have hf1 := HXe.out.frozen 0
     have hf2 := HXe.out.frozen 1
     refine skip_ (w1 := ?_) (by rfl) rfl ?_ ?_
     rotate_left
     ·go_simp
      rfl
     have HXf : Az (PC w ((wd.setCell ⟨w.heap.size, 0, none⟩ (.int .i64 0)).setCell ⟨w.heap.size, 1, none⟩ (.slice none 0 0)) gr w.heap.size s er 0 (fun _ => True) (.slice none 0 0) []) := ⟨HXe.out.reset⟩
     refine hK.out _ _ ⟨HXf.out.cells.2.2.1, HXf.out.cells.2.2.2⟩ (fun hHeld => ?_)
     clear hK K
     refine pA 10 (some 3) (bA 12 2047) rfl rfl HT_.out (by intro w'; go_simp; with_reducible rfl) (by simp only [Act.put, zq1, zq2, zq3, iw, jw]; rfl) ?_
     refine pA 11 (some 4) (bA 12 4095) rfl rfl HT_.out (by intro w'; go_simp; with_reducible rfl) (by simp only [Act.put, zq1, zq2, zq3, iw, jw]; rfl) ?_
     refine done_ (done_of HT_.out (by kernel_rfl)) ?_
     clear hHeld HT_ HW_
     go_wp2_with fail
     refine bodyPost_ret (results_ctt rfl _ _ w.heap.size 24 #[.int .i64 0, .slice none 0 0] (0, 0) _ rfl HXf.out.xb hu24 rfl (by kernel_rfl)) rfl ?_
     unfold ParseCPost; rw [HP.out, HQ.out]
     exact ⟨_, rfl, Kd.R_nil _ _ _ _ _, HXf.out.hb⟩
end Go.Proofs.YtkcfdddhnboieaaGreatDoor.NText
end
section
set_option maxHeartbeats 1000000
set_option maxRecDepth 100000
namespace Go.Proofs.YtkcfdddhnboieaaGreatDoor.NState
open Go Go.RowKit Go.Shelf QW.PrintWords QW.PrintLast QW.PrintMore NMap
set_option maxHeartbeats 1000000
set_option maxRecDepth 100000
theorem formula_calls (n : Int) (A : Option Addr) (m c : Nat) (w : World) : Calls Tryz.prog 37 #[.int .i64 n, .slice A m c] w fun e w' => e = .returned (.agg #[.int .i64 n, .slice A m c]) ∧ Below w.heap.size w w' := by
 have hu24 := Tryz.underlying24
 go_enter Tryz.func37, Tryz.ntmps37
 go_wp2
 refine bodyPost_ret (results_cell_row rfl _ _ w.heap.size 24 #[.int .i64 n, .slice A m c] (0, 0) _ rfl (blk_new w _) hu24 rfl (by kernel_rfl)) rfl ?_
 exact ⟨rfl, below_new w _⟩
end Go.Proofs.YtkcfdddhnboieaaGreatDoor.NState
namespace Go.Proofs.YtkcfdddhnboieaaGreatDoor.NText
open Go Go.RowKit Go.Shelf Go.Lib QW.PrintWords QW.PrintLast QW.PrintMore
def toksF : Nat → List UInt8 → Nat → List (Nat × List UInt8)
 | 0, _, _ => []
 | f + 1, r, i =>
  if r.dropWhile wh = [] then []
  else (i + (r.length - (r.dropWhile wh).length), (r.dropWhile wh).takeWhile nw) :: toksF f ((r.dropWhile wh).drop ((r.dropWhile wh).takeWhile nw).length) (i + (r.length - (r.dropWhile wh).length) + ((r.dropWhile wh).takeWhile nw).length)
theorem drop_while_drop (l : List UInt8) : l.dropWhile wh = l.drop (l.length - (l.dropWhile wh).length) := by
 induction l with
 | nil => rfl
 | cons b l ih =>
  have hle := dropWhile_le (p := wh) l
  rw [List.dropWhile_cons]
  split
  ·rw [List.length_cons, show l.length + 1 - (l.dropWhile wh).length = (l.length - (l.dropWhile wh).length) + 1 by omega, List.drop_succ_cons]
   exact ih
  ·simp
theorem toksF_tk (l : List UInt8) : ∀ (f : Nat) (r : List UInt8) (i : Nat), i ≤ l.length → l.drop i = r → r.length ≤ f → Tk l i (toksF f r i)
 | 0, r, i, hi, hr, hf => .nil hi (by
   have : r = [] := List.length_eq_zero_iff.1 (by omega)
   rw [hr, this]; rfl)
 | f + 1, r, i, hi, hr, hf => by
  rw [toksF]
  by_cases he : r.dropWhile wh = []
  ·rw [if_pos he]
   exact .nil hi (by rw [hr]; exact he)
  ·rw [if_neg he]
   have hp := word_pos rfl he
   have h1 := dropWhile_le (p := wh) r
   have h2 := takeWhile_le (p := nw) (r.dropWhile wh)
   have hrl : r.length = l.length - i := by rw [← hr, List.length_drop]
   have hd := drop_while_drop r
   refine .cons hi (by rw [hr]) he (by omega) ?_
   refine toksF_tk l f _ _ (by omega) ?_ (by rw [List.length_drop]; omega)
   rw [← List.drop_drop, ← List.drop_drop, hr]
   exact congrArg (List.drop _) hd.symm
theorem parsed_calls (s : ByteArray) (at_ e : Int) (w : World) (hg : GOK w) (hm : MOK w) (v : Int) (cls : List (List Int)) (p : Nat) (hp : s.size - (commL s.size s.data.toList).length = p) (h : parseC s.size p (toksF s.size (s.data.toList.drop p) p) = (v, cls, at_, e)) (he : e = 0 ∨ (v = 0 ∧ cls = [])) :
  Calls Tryz.prog 39 #[.string s, .int .i64 at_, .int .i64 e] w fun e' W' => e' = .returned (.bool true) ∧ Below w.heap.size w W' := by
 have htk : Tk s.data.toList p (toksF s.size (s.data.toList.drop p) p) := toksF_tk _ _ _ _ (by rw [← hp, ← size_eq]; omega) rfl (by rw [List.length_drop, size_eq]; omega)
 have hpc := parseC_calls s w hg hm _ (by rw [hp]; exact htk)
 rw [hp, h] at hpc
 have HPC := Az.mk hpc
 clear hpc htk h hg hm hp
 go_enter Tryz.func39, Tryz.ntmps39
 go_wp2_with fail
 refine HPC.out.mono ?_
 clear HPC
 rintro e1 w1 ⟨v1, rfl, hr1, hb1⟩
 obtain ⟨A, c, hv1, _⟩ := Kd.R_reads hr1
 subst hv1
 have HB1 := Az.mk hb1
 clear hr1 hb1
 by_cases h0 : e = 0
 ·subst h0
  clear he
  go_wp2
  go_ret
  exact ⟨rfl, HB1.out.alloc HB1.out.size _⟩
 ·obtain ⟨rfl, rfl⟩ := he.resolve_left h0
  have he' : (e == 0) = false := beq_eq_false_iff_ne.2 h0
  clear he
  go_wp2
  go_ret
  exact ⟨rfl, HB1.out.alloc HB1.out.size _⟩
end Go.Proofs.YtkcfdddhnboieaaGreatDoor.NText
end
section
set_option maxHeartbeats 1000000
set_option maxRecDepth 100000
namespace Go.Proofs.YtkcfdddhnboieaaGreatDoor.NState
open Go Go.RowKit Go.Shelf QW.PrintWords QW.PrintLast QW.PrintMore NMap
open PSameC (netlabref32_EqInts.calls netlabref32_Same.calls)
def caw4T : Bool × List (List Nat × List Nat) := (true, [([], []), ([0], [0]), ([1], [1]), ([2], [2]), ([3, 2], [2, 3]), ([2, 4], [2, 4]), ([5, 2], [5]), ([6], [6]), ([7, 6], [6, 7]), ([6, 8], [6, 8]), ([9, 6], [9]), ([10], [10]), ([11, 10], [10, 11]), ([10, 12], [10, 12]), ([13, 10], [13]), ([14], [14]), ([14, 15], [14, 15]), ([16, 14], [16]), ([17], [17]), ([17], [17]), ([17], [17]), ([19, 20, 17], [17, 19, 20]), ([21, 17, 17], [17, 21]), ([18, 22, 22, 17], [17, 18, 22]), ([23, 17], [17, 23]), ([17, 24], [17, 24])])
def caw4B : List Nat := [0, 1, 3, 7, 15, 31, 63, 127, 255, 511, 1023, 2047, 4095, 8191, 16383, 32767, 65535, 131071, 262143, 262143, 262143, 1835007, 3932159, 8388607, 16777215, 33554431]
theorem caw4tab : rtab .any (opsOf Tryz.f25 4) = caw4T := by kernel_rfl
theorem caw4bits : waitsOk caw4T.2 caw4B = true := by kernel_rfl
def caw4L : List Nat := [49, 50, 51, 52, 53, 54, 55, 56, 57, 58, 59, 60, 61, 62, 63, 64, 65, 66, 67, 68, 69, 70, 71, 72, 73, 74]
def caw4O : List Nat := [0, 1, 2, 3, 4, 5, 6, 7, 8, 9, 10, 11, 12, 13, 14, 15, 16, 17, 18, 19, 20, 21, 22, 23, 24, 25]
def caw4tb : List SpG := [.is (.int .i64 0), .is (.bool false), .is (.bool false), .is (.int .i64 0), .is (.bool false), .is (.bool false), .is (.bool false), .is (.int .i64 0), .is (.bool false), .is (.bool false), .is (.bool false), .is (.bool true), .is (.bool false), .is (.bool false), .is (.bool false), .is (.bool false), .is (.bool false), .is (.bool false), .cnf 3 [[1], [-1, 2]], .ints [1], .ints [-1, 2], .rows [[1], [-1, 2]], .cnf 3 [[1], [-1, 2]], .is (.bool true), .is (.bool false), .is (.bool false)]
theorem caw4nd : caw4L.Nodup := by decide
structure caw4H (W : World) (a0 : Act) (g5 : Nat) (v5 : Value) : Prop where
 size : a0.tmps.size = 180
 t1 : a0.tmps[1]? = some (.bool true)
 t2 : a0.tmps[2]? = some (.int .i64 0)
 t3 : a0.tmps[3]? = some (.bool false)
 t4 : a0.tmps[4]? = some (.int .i64 0)
 t6 : a0.tmps[6]? = some (.int .i64 0)
 t5 : a0.tmps[5]? = some (.pointer (some ⟨g5, 0, none⟩))
 b5 : W.heap[g5]? = some (.cells #[.int .i64 3, v5] 24 (0, 0))
 s5 : (SpG.cnf 3 [[1], [-1, 2]]).p W (.agg #[.int .i64 3, v5])
section
variable {W : World} {a0 : Act} {g5 : Nat} {v5 : Value} {Q : Exit → Act → World → Prop}
abbrev caw4Step (W : World) (a0 : Act) (Q : Exit → Act → World → Prop) (i : Nat) : Prop := StepAt Tryz.prog (opsOf Tryz.f25 4) Q caw4B caw4O (RelG W a0 caw4L caw4tb) i
theorem caw40 (H : caw4H W a0 g5 v5) : caw4Step W a0 Q 0 := by
 obtain ⟨oi, hoi, hop, hdst, hgd, hty⟩ : ∃ oi, (opsOf Tryz.f25 4)[0]? = some oi ∧ oi.op = Op.move (Operand.tmp 2) ∧ oi.dst = some 49 ∧ oi.guard = none ∧ oi.type = 28 := ⟨_, rfl, by kernel_rfl, by kernel_rfl, by kernel_rfl, by kernel_rfl⟩
 refine step_val (t := 49) hoi hdst (Or.inl hgd) caw4nd rfl (by rw [H.size]; decide) rfl ?_
 intro b a w h hon
 have e2 := h.elder (t := 2) (by rfl) H.t2
 refine ⟨.int .i64 0, w, ?_, Below.refl _ _, rfl⟩
 simp only [execOp, hop, hty]
 go_simp
 try rfl
theorem caw41 (H : caw4H W a0 g5 v5) : caw4Step W a0 Q 1 := by
 obtain ⟨oi, hoi, hop, hdst, hgd, hty⟩ : ∃ oi, (opsOf Tryz.f25 4)[1]? = some oi ∧ oi.op = Op.binOp BinOp.neq 28 (Operand.tmp 49) (Operand.const (Value.int IntKind.i64 0)) 28 ∧ oi.dst = some 50 ∧ oi.guard = none ∧ oi.type = 4 := ⟨_, rfl, by kernel_rfl, by kernel_rfl, by kernel_rfl, by kernel_rfl⟩
 refine step_val (t := 50) hoi hdst (Or.inl hgd) caw4nd rfl (by rw [H.size]; decide) rfl ?_
 intro b a w h hon
 have e49 := h.gis (i := 0) (t := 49) (hon 0 (by kernel_rfl)) rfl rfl
 refine ⟨.bool false, w, ?_, Below.refl _ _, rfl⟩
 simp only [execOp, hop, hty]
 go_simp
 try rfl
theorem caw42 (H : caw4H W a0 g5 v5) : caw4Step W a0 Q 2 := by
 obtain ⟨oi, hoi, hop, hdst, hgd, hty⟩ : ∃ oi, (opsOf Tryz.f25 4)[2]? = some oi ∧ oi.op = Op.move (Operand.tmp 50) ∧ oi.dst = some 51 ∧ oi.guard = none ∧ oi.type = 4 := ⟨_, rfl, by kernel_rfl, by kernel_rfl, by kernel_rfl, by kernel_rfl⟩
 refine step_val (t := 51) hoi hdst (Or.inl hgd) caw4nd rfl (by rw [H.size]; decide) rfl ?_
 intro b a w h hon
 have e50 := h.gis (i := 1) (t := 50) (hon 1 (by kernel_rfl)) rfl rfl
 refine ⟨.bool false, w, ?_, Below.refl _ _, rfl⟩
 simp only [execOp, hop, hty]
 go_simp
 try rfl
theorem caw43 (H : caw4H W a0 g5 v5) : caw4Step W a0 Q 3 := by
 obtain ⟨oi, hoi, hop, hdst, hgd, hty⟩ : ∃ oi, (opsOf Tryz.f25 4)[3]? = some oi ∧ oi.op = Op.move (Operand.tmp 4) ∧ oi.dst = some 52 ∧ oi.guard = some (2, false) ∧ oi.type = 28 := ⟨_, rfl, by kernel_rfl, by kernel_rfl, by kernel_rfl, by kernel_rfl⟩
 refine step_val (t := 52) hoi hdst (Or.inr ⟨2, false, _, 51, hgd, rfl, by kernel_rfl, rfl, rfl, by kernel_rfl⟩) caw4nd rfl (by rw [H.size]; decide) rfl ?_
 intro b a w h hon
 have e4 := h.elder (t := 4) (by rfl) H.t4
 refine ⟨.int .i64 0, w, ?_, Below.refl _ _, rfl⟩
 simp only [execOp, hop, hty]
 go_simp
 try rfl
theorem caw44 (H : caw4H W a0 g5 v5) : caw4Step W a0 Q 4 := by
 obtain ⟨oi, hoi, hop, hdst, hgd, hty⟩ : ∃ oi, (opsOf Tryz.f25 4)[4]? = some oi ∧ oi.op = Op.binOp BinOp.neq 28 (Operand.tmp 52) (Operand.const (Value.int IntKind.i64 0)) 28 ∧ oi.dst = some 53 ∧ oi.guard = some (2, false) ∧ oi.type = 4 := ⟨_, rfl, by kernel_rfl, by kernel_rfl, by kernel_rfl, by kernel_rfl⟩
 refine step_val (t := 53) hoi hdst (Or.inr ⟨2, false, _, 51, hgd, rfl, by kernel_rfl, rfl, rfl, by kernel_rfl⟩) caw4nd rfl (by rw [H.size]; decide) rfl ?_
 intro b a w h hon
 have e52 := h.gis (i := 3) (t := 52) (hon 3 (by kernel_rfl)) rfl rfl
 refine ⟨.bool false, w, ?_, Below.refl _ _, rfl⟩
 simp only [execOp, hop, hty]
 go_simp
 try rfl
theorem caw45 (H : caw4H W a0 g5 v5) : caw4Step W a0 Q 5 := by
 obtain ⟨oi, hoi, hop, hdst, hgd, hty⟩ : ∃ oi, (opsOf Tryz.f25 4)[5]? = some oi ∧ oi.op = Op.pick (Operand.tmp 51) (Operand.const (Value.bool true)) (Operand.tmp 53) ∧ oi.dst = some 54 ∧ oi.guard = none ∧ oi.type = 4 := ⟨_, rfl, by kernel_rfl, by kernel_rfl, by kernel_rfl, by kernel_rfl⟩
 refine step_val (t := 54) hoi hdst (Or.inl hgd) caw4nd rfl (by rw [H.size]; decide) rfl ?_
 intro b a w h hon
 have e51 := h.gis (i := 2) (t := 51) (hon 2 (by kernel_rfl)) rfl rfl
 have e53 := h.gis (i := 4) (t := 53) (hon 4 (by kernel_rfl)) rfl rfl
 refine ⟨.bool false, w, ?_, Below.refl _ _, rfl⟩
 simp only [execOp, hop, hty]
 go_simp
 try rfl
theorem caw46 (H : caw4H W a0 g5 v5) : caw4Step W a0 Q 6 := by
 obtain ⟨oi, hoi, hop, hdst, hgd, hty⟩ : ∃ oi, (opsOf Tryz.f25 4)[6]? = some oi ∧ oi.op = Op.move (Operand.tmp 54) ∧ oi.dst = some 55 ∧ oi.guard = none ∧ oi.type = 4 := ⟨_, rfl, by kernel_rfl, by kernel_rfl, by kernel_rfl, by kernel_rfl⟩
 refine step_val (t := 55) hoi hdst (Or.inl hgd) caw4nd rfl (by rw [H.size]; decide) rfl ?_
 intro b a w h hon
 have e54 := h.gis (i := 5) (t := 54) (hon 5 (by kernel_rfl)) rfl rfl
 refine ⟨.bool false, w, ?_, Below.refl _ _, rfl⟩
 simp only [execOp, hop, hty]
 go_simp
 try rfl
theorem caw47 (H : caw4H W a0 g5 v5) : caw4Step W a0 Q 7 := by
 obtain ⟨oi, hoi, hop, hdst, hgd, hty⟩ : ∃ oi, (opsOf Tryz.f25 4)[7]? = some oi ∧ oi.op = Op.move (Operand.tmp 6) ∧ oi.dst = some 56 ∧ oi.guard = some (6, false) ∧ oi.type = 28 := ⟨_, rfl, by kernel_rfl, by kernel_rfl, by kernel_rfl, by kernel_rfl⟩
 refine step_val (t := 56) hoi hdst (Or.inr ⟨6, false, _, 55, hgd, rfl, by kernel_rfl, rfl, rfl, by kernel_rfl⟩) caw4nd rfl (by rw [H.size]; decide) rfl ?_
 intro b a w h hon
 have e6 := h.elder (t := 6) (by rfl) H.t6
 refine ⟨.int .i64 0, w, ?_, Below.refl _ _, rfl⟩
 simp only [execOp, hop, hty]
 go_simp
 try rfl
theorem caw48 (H : caw4H W a0 g5 v5) : caw4Step W a0 Q 8 := by
 obtain ⟨oi, hoi, hop, hdst, hgd, hty⟩ : ∃ oi, (opsOf Tryz.f25 4)[8]? = some oi ∧ oi.op = Op.binOp BinOp.neq 28 (Operand.tmp 56) (Operand.const (Value.int IntKind.i64 0)) 28 ∧ oi.dst = some 57 ∧ oi.guard = some (6, false) ∧ oi.type = 4 := ⟨_, rfl, by kernel_rfl, by kernel_rfl, by kernel_rfl, by kernel_rfl⟩
 refine step_val (t := 57) hoi hdst (Or.inr ⟨6, false, _, 55, hgd, rfl, by kernel_rfl, rfl, rfl, by kernel_rfl⟩) caw4nd rfl (by rw [H.size]; decide) rfl ?_
 intro b a w h hon
 have e56 := h.gis (i := 7) (t := 56) (hon 7 (by kernel_rfl)) rfl rfl
 refine ⟨.bool false, w, ?_, Below.refl _ _, rfl⟩
 simp only [execOp, hop, hty]
 go_simp
 try rfl
theorem caw49 (H : caw4H W a0 g5 v5) : caw4Step W a0 Q 9 := by
 obtain ⟨oi, hoi, hop, hdst, hgd, hty⟩ : ∃ oi, (opsOf Tryz.f25 4)[9]? = some oi ∧ oi.op = Op.pick (Operand.tmp 55) (Operand.const (Value.bool true)) (Operand.tmp 57) ∧ oi.dst = some 58 ∧ oi.guard = none ∧ oi.type = 4 := ⟨_, rfl, by kernel_rfl, by kernel_rfl, by kernel_rfl, by kernel_rfl⟩
 refine step_val (t := 58) hoi hdst (Or.inl hgd) caw4nd rfl (by rw [H.size]; decide) rfl ?_
 intro b a w h hon
 have e55 := h.gis (i := 6) (t := 55) (hon 6 (by kernel_rfl)) rfl rfl
 have e57 := h.gis (i := 8) (t := 57) (hon 8 (by kernel_rfl)) rfl rfl
 refine ⟨.bool false, w, ?_, Below.refl _ _, rfl⟩
 simp only [execOp, hop, hty]
 go_simp
 try rfl
theorem caw410 (H : caw4H W a0 g5 v5) : caw4Step W a0 Q 10 := by
 obtain ⟨oi, hoi, hop, hdst, hgd, hty⟩ : ∃ oi, (opsOf Tryz.f25 4)[10]? = some oi ∧ oi.op = Op.move (Operand.tmp 58) ∧ oi.dst = some 59 ∧ oi.guard = none ∧ oi.type = 4 := ⟨_, rfl, by kernel_rfl, by kernel_rfl, by kernel_rfl, by kernel_rfl⟩
 refine step_val (t := 59) hoi hdst (Or.inl hgd) caw4nd rfl (by rw [H.size]; decide) rfl ?_
 intro b a w h hon
 have e58 := h.gis (i := 9) (t := 58) (hon 9 (by kernel_rfl)) rfl rfl
 refine ⟨.bool false, w, ?_, Below.refl _ _, rfl⟩
 simp only [execOp, hop, hty]
 go_simp
 try rfl
theorem caw411 (H : caw4H W a0 g5 v5) : caw4Step W a0 Q 11 := by
 obtain ⟨oi, hoi, hop, hdst, hgd, hty⟩ : ∃ oi, (opsOf Tryz.f25 4)[11]? = some oi ∧ oi.op = Op.move (Operand.tmp 1) ∧ oi.dst = some 60 ∧ oi.guard = some (10, false) ∧ oi.type = 4 := ⟨_, rfl, by kernel_rfl, by kernel_rfl, by kernel_rfl, by kernel_rfl⟩
 refine step_val (t := 60) hoi hdst (Or.inr ⟨10, false, _, 59, hgd, rfl, by kernel_rfl, rfl, rfl, by kernel_rfl⟩) caw4nd rfl (by rw [H.size]; decide) rfl ?_
 intro b a w h hon
 have e1 := h.elder (t := 1) (by rfl) H.t1
 refine ⟨.bool true, w, ?_, Below.refl _ _, rfl⟩
 simp only [execOp, hop, hty]
 go_simp
 try rfl
theorem caw412 (H : caw4H W a0 g5 v5) : caw4Step W a0 Q 12 := by
 obtain ⟨oi, hoi, hop, hdst, hgd, hty⟩ : ∃ oi, (opsOf Tryz.f25 4)[12]? = some oi ∧ oi.op = Op.unOp UnOp.not 4 (Operand.tmp 60) ∧ oi.dst = some 61 ∧ oi.guard = some (10, false) ∧ oi.type = 4 := ⟨_, rfl, by kernel_rfl, by kernel_rfl, by kernel_rfl, by kernel_rfl⟩
 refine step_val (t := 61) hoi hdst (Or.inr ⟨10, false, _, 59, hgd, rfl, by kernel_rfl, rfl, rfl, by kernel_rfl⟩) caw4nd rfl (by rw [H.size]; decide) rfl ?_
 intro b a w h hon
 have e60 := h.gis (i := 11) (t := 60) (hon 11 (by kernel_rfl)) rfl rfl
 refine ⟨.bool false, w, ?_, Below.refl _ _, rfl⟩
 simp only [execOp, hop, hty]
 go_simp
 try rfl
theorem caw413 (H : caw4H W a0 g5 v5) : caw4Step W a0 Q 13 := by
 obtain ⟨oi, hoi, hop, hdst, hgd, hty⟩ : ∃ oi, (opsOf Tryz.f25 4)[13]? = some oi ∧ oi.op = Op.pick (Operand.tmp 59) (Operand.const (Value.bool true)) (Operand.tmp 61) ∧ oi.dst = some 62 ∧ oi.guard = none ∧ oi.type = 4 := ⟨_, rfl, by kernel_rfl, by kernel_rfl, by kernel_rfl, by kernel_rfl⟩
 refine step_val (t := 62) hoi hdst (Or.inl hgd) caw4nd rfl (by rw [H.size]; decide) rfl ?_
 intro b a w h hon
 have e59 := h.gis (i := 10) (t := 59) (hon 10 (by kernel_rfl)) rfl rfl
 have e61 := h.gis (i := 12) (t := 61) (hon 12 (by kernel_rfl)) rfl rfl
 refine ⟨.bool false, w, ?_, Below.refl _ _, rfl⟩
 simp only [execOp, hop, hty]
 go_simp
 try rfl
theorem caw414 (H : caw4H W a0 g5 v5) : caw4Step W a0 Q 14 := by
 obtain ⟨oi, hoi, hop, hdst, hgd, hty⟩ : ∃ oi, (opsOf Tryz.f25 4)[14]? = some oi ∧ oi.op = Op.move (Operand.tmp 62) ∧ oi.dst = some 63 ∧ oi.guard = none ∧ oi.type = 4 := ⟨_, rfl, by kernel_rfl, by kernel_rfl, by kernel_rfl, by kernel_rfl⟩
 refine step_val (t := 63) hoi hdst (Or.inl hgd) caw4nd rfl (by rw [H.size]; decide) rfl ?_
 intro b a w h hon
 have e62 := h.gis (i := 13) (t := 62) (hon 13 (by kernel_rfl)) rfl rfl
 refine ⟨.bool false, w, ?_, Below.refl _ _, rfl⟩
 simp only [execOp, hop, hty]
 go_simp
 try rfl
theorem caw415 (H : caw4H W a0 g5 v5) : caw4Step W a0 Q 15 := by
 obtain ⟨oi, hoi, hop, hdst, hgd, hty⟩ : ∃ oi, (opsOf Tryz.f25 4)[15]? = some oi ∧ oi.op = Op.move (Operand.tmp 3) ∧ oi.dst = some 64 ∧ oi.guard = some (14, false) ∧ oi.type = 4 := ⟨_, rfl, by kernel_rfl, by kernel_rfl, by kernel_rfl, by kernel_rfl⟩
 refine step_val (t := 64) hoi hdst (Or.inr ⟨14, false, _, 63, hgd, rfl, by kernel_rfl, rfl, rfl, by kernel_rfl⟩) caw4nd rfl (by rw [H.size]; decide) rfl ?_
 intro b a w h hon
 have e3 := h.elder (t := 3) (by rfl) H.t3
 refine ⟨.bool false, w, ?_, Below.refl _ _, rfl⟩
 simp only [execOp, hop, hty]
 go_simp
 try rfl
theorem caw416 (H : caw4H W a0 g5 v5) : caw4Step W a0 Q 16 := by
 obtain ⟨oi, hoi, hop, hdst, hgd, hty⟩ : ∃ oi, (opsOf Tryz.f25 4)[16]? = some oi ∧ oi.op = Op.pick (Operand.tmp 63) (Operand.const (Value.bool true)) (Operand.tmp 64) ∧ oi.dst = some 65 ∧ oi.guard = none ∧ oi.type = 4 := ⟨_, rfl, by kernel_rfl, by kernel_rfl, by kernel_rfl, by kernel_rfl⟩
 refine step_val (t := 65) hoi hdst (Or.inl hgd) caw4nd rfl (by rw [H.size]; decide) rfl ?_
 intro b a w h hon
 have e63 := h.gis (i := 14) (t := 63) (hon 14 (by kernel_rfl)) rfl rfl
 have e64 := h.gis (i := 15) (t := 64) (hon 15 (by kernel_rfl)) rfl rfl
 refine ⟨.bool false, w, ?_, Below.refl _ _, rfl⟩
 simp only [execOp, hop, hty]
 go_simp
 try rfl
theorem caw417 (H : caw4H W a0 g5 v5) : caw4Step W a0 Q 17 := by
 obtain ⟨oi, hoi, hop, hdst, hgd, hty⟩ : ∃ oi, (opsOf Tryz.f25 4)[17]? = some oi ∧ oi.op = Op.move (Operand.tmp 65) ∧ oi.dst = some 66 ∧ oi.guard = none ∧ oi.type = 4 := ⟨_, rfl, by kernel_rfl, by kernel_rfl, by kernel_rfl, by kernel_rfl⟩
 refine step_val (t := 66) hoi hdst (Or.inl hgd) caw4nd rfl (by rw [H.size]; decide) rfl ?_
 intro b a w h hon
 have e65 := h.gis (i := 16) (t := 65) (hon 16 (by kernel_rfl)) rfl rfl
 refine ⟨.bool false, w, ?_, Below.refl _ _, rfl⟩
 simp only [execOp, hop, hty]
 go_simp
 try rfl
theorem caw418 (H : caw4H W a0 g5 v5) : caw4Step W a0 Q 18 := by
 obtain ⟨oi, hoi, hop, hdst, hgd, hty⟩ : ∃ oi, (opsOf Tryz.f25 4)[18]? = some oi ∧ oi.op = Op.load 24 (Operand.tmp 5) ∧ oi.dst = some 67 ∧ oi.guard = some (17, false) ∧ oi.type = 24 := ⟨_, rfl, by kernel_rfl, by kernel_rfl, by kernel_rfl, by kernel_rfl⟩
 refine step_val (t := 67) hoi hdst (Or.inr ⟨17, false, _, 66, hgd, rfl, by kernel_rfl, rfl, rfl, by kernel_rfl⟩) caw4nd rfl (by rw [H.size]; decide) rfl ?_
 intro b a w h hon
 have e5 := h.elder (t := 5) (by rfl) H.t5
 obtain ⟨A5, c5, hv5, l5, q5⟩ := (SpG.cnf 3 [[1], [-1, 2]]).st H.s5 h.reads
 have hb := blk_below H.b5 h.reads
 have hx0 : w.cell? ⟨g5, 0, none⟩ = some (.int .i64 3) := (bkc hb 0).trans rfl
 have hx1 : w.cell? ⟨g5, 1, none⟩ = some v5 := (bkc hb 1).trans rfl
 refine ⟨.agg #[.int .i64 3, v5], w, ?_, Below.refl _ _, ⟨A5, c5, hv5, l5, q5⟩⟩
 simp only [execOp, hop, hty]
 go_simp
 try rfl
theorem caw419 (H : caw4H W a0 g5 v5) : caw4Step W a0 Q 19 := by
 obtain ⟨oi, hoi, hop, hdst, hgd, hty⟩ : ∃ oi, (opsOf Tryz.f25 4)[19]? = some oi ∧ oi.op = Op.buildSlice 26 1 #[(0, Operand.const (Value.int IntKind.i64 1))] ∧ oi.dst = some 68 ∧ oi.guard = some (17, false) ∧ oi.type = 26 := ⟨_, rfl, by kernel_rfl, by kernel_rfl, by kernel_rfl, by kernel_rfl⟩
 refine step_val (t := 68) hoi hdst (Or.inr ⟨17, false, _, 66, hgd, rfl, by kernel_rfl, rfl, rfl, by kernel_rfl⟩) caw4nd rfl (by rw [H.size]; decide) rfl ?_
 intro b a w h hon
 refine ⟨.slice (some ⟨w.heap.size, 0, none⟩) 1 1, w.alloc (.cells #[.int .i64 1] 3), ?_, below_new _ _, ints_lit w [1] _ rfl (by decide)⟩
 simp only [execOp, hop, hty]
 go_simp
 try rfl
theorem caw420 (H : caw4H W a0 g5 v5) : caw4Step W a0 Q 20 := by
 obtain ⟨oi, hoi, hop, hdst, hgd, hty⟩ : ∃ oi, (opsOf Tryz.f25 4)[20]? = some oi ∧ oi.op = Op.buildSlice 26 2 #[(0, Operand.const (Value.int IntKind.i64 (-1))), (1, Operand.const (Value.int IntKind.i64 2))] ∧ oi.dst = some 69 ∧ oi.guard = some (17, false) ∧ oi.type = 26 := ⟨_, rfl, by kernel_rfl, by kernel_rfl, by kernel_rfl, by kernel_rfl⟩
 refine step_val (t := 69) hoi hdst (Or.inr ⟨17, false, _, 66, hgd, rfl, by kernel_rfl, rfl, rfl, by kernel_rfl⟩) caw4nd rfl (by rw [H.size]; decide) rfl ?_
 intro b a w h hon
 refine ⟨.slice (some ⟨w.heap.size, 0, none⟩) 2 2, w.alloc (.cells #[.int .i64 (-1), .int .i64 2] 3), ?_, below_new _ _, ints_lit w [-1, 2] _ rfl (by decide)⟩
 simp only [execOp, hop, hty]
 go_simp
 try rfl
theorem caw421 (H : caw4H W a0 g5 v5) : caw4Step W a0 Q 21 := by
 obtain ⟨oi, hoi, hop, hdst, hgd, hty⟩ : ∃ oi, (opsOf Tryz.f25 4)[21]? = some oi ∧ oi.op = Op.buildSlice 22 2 #[(0, Operand.tmp 68), (1, Operand.tmp 69)] ∧ oi.dst = some 70 ∧ oi.guard = some (17, false) ∧ oi.type = 22 := ⟨_, rfl, by kernel_rfl, by kernel_rfl, by kernel_rfl, by kernel_rfl⟩
 refine step_val (t := 70) hoi hdst (Or.inr ⟨17, false, _, 66, hgd, rfl, by kernel_rfl, rfl, rfl, by kernel_rfl⟩) caw4nd rfl (by rw [H.size]; decide) rfl ?_
 intro b a w h hon
 obtain ⟨u68, e68, p68⟩ := h.get (i := 19) (t := 68) (hon 19 (by kernel_rfl)) rfl rfl
 obtain ⟨A68, c68, rfl, l68, q68⟩ := p68
 obtain ⟨u69, e69, p69⟩ := h.get (i := 20) (t := 69) (hon 20 (by kernel_rfl)) rfl rfl
 obtain ⟨A69, c69, rfl, l69, q69⟩ := p69
 refine ⟨.slice (some ⟨w.heap.size, 0, none⟩) 2 2, w.alloc (.cells #[.slice A68 ([1] : List Int).length c68, .slice A69 ([-1, 2] : List Int).length c69] 26), ?_, below_new _ _, ⟨_, _, rfl, Nat.le_refl _, C_lit (Kd.slice 3 (Kd.int .i64)) w 26 [[1], [-1, 2]] _ (Reps.snoc (p := ([-1, 2] : List Int)) (c := [.slice A69 ([-1, 2] : List Int).length c69]) (Reps.snoc (p := ([1] : List Int)) (c := [.slice A68 ([1] : List Int).length c68]) (Reps.none ((Kd.slice 3 (Kd.int .i64)).K w) 1) ⟨A68, c68, rfl, l68, q68⟩ rfl) ⟨A69, c69, rfl, l69, q69⟩ rfl) (by decide)⟩⟩
 simp only [execOp, hop, hty]
 go_simp
 try rfl
theorem caw422 (H : caw4H W a0 g5 v5) : caw4Step W a0 Q 22 := by
 obtain ⟨oi, hoi, hop, hdst, hgd, hty⟩ : ∃ oi, (opsOf Tryz.f25 4)[22]? = some oi ∧ oi.op = Op.call { callee := Callee.value (Operand.func 37), args := #[Operand.const (Value.int IntKind.i64 3), Operand.tmp 70], argTypes := #[3, 22] } ∧ oi.dst = some 71 ∧ oi.guard = some (17, false) ∧ oi.type = 24 := ⟨_, rfl, by kernel_rfl, by kernel_rfl, by kernel_rfl, by kernel_rfl⟩
 refine step_call (t := 71) hoi hdst (Or.inr ⟨17, false, _, 66, hgd, rfl, by kernel_rfl, rfl, rfl, by kernel_rfl⟩) caw4nd rfl (by rw [H.size]; decide) rfl ?_
 intro b a w h hon
 obtain ⟨u70, e70, p70⟩ := h.get (i := 21) (t := 70) (hon 21 (by kernel_rfl)) rfl rfl
 obtain ⟨A70, c70, rfl, l70, q70⟩ := p70
 refine ⟨37, #[.int .i64 3, .slice A70 2 c70], ?_, (formula_calls 3 A70 2 c70 w).mono ?_⟩
 ·simp only [execOp, hop, hty]
  go_simp
  try rfl
 rintro e w' ⟨rfl, hb⟩
 exact ⟨_, rfl, hb, ⟨A70, c70, rfl, l70, Kd.C_below q70 hb⟩⟩
theorem caw423 (H : caw4H W a0 g5 v5) : caw4Step W a0 Q 23 := by
 obtain ⟨oi, hoi, hop, hdst, hgd, hty⟩ : ∃ oi, (opsOf Tryz.f25 4)[23]? = some oi ∧ oi.op = Op.call { callee := Callee.value (Operand.func 23), args := #[Operand.tmp 67, Operand.tmp 71], argTypes := #[24, 24] } ∧ oi.dst = some 72 ∧ oi.guard = some (17, false) ∧ oi.type = 4 := ⟨_, rfl, by kernel_rfl, by kernel_rfl, by kernel_rfl, by kernel_rfl⟩
 refine step_call (t := 72) hoi hdst (Or.inr ⟨17, false, _, 66, hgd, rfl, by kernel_rfl, rfl, rfl, by kernel_rfl⟩) caw4nd rfl (by rw [H.size]; decide) rfl ?_
 intro b a w h hon
 obtain ⟨u67, e67, p67⟩ := h.get (i := 18) (t := 67) (hon 18 (by kernel_rfl)) rfl rfl
 obtain ⟨A67, c67, rfl, l67, q67⟩ := p67
 obtain ⟨u71, e71, p71⟩ := h.get (i := 22) (t := 71) (hon 22 (by kernel_rfl)) rfl rfl
 obtain ⟨A71, c71, rfl, l71, q71⟩ := p71
 refine ⟨23, #[.agg #[.int .i64 3, .slice A67 2 c67], .agg #[.int .i64 3, .slice A71 2 c71]], ?_, (netlabref32_Same.calls 20 3 A67 c67 [[1], [-1, 2]] 3 A71 c71 [[1], [-1, 2]] true w q67 l67 q71 l71 (by kernel_rfl)).mono ?_⟩
 ·simp only [execOp, hop, hty]
  go_simp
  try rfl
 rintro e w' ⟨rfl, hb⟩
 exact ⟨_, rfl, hb, rfl⟩
theorem caw424 (H : caw4H W a0 g5 v5) : caw4Step W a0 Q 24 := by
 obtain ⟨oi, hoi, hop, hdst, hgd, hty⟩ : ∃ oi, (opsOf Tryz.f25 4)[24]? = some oi ∧ oi.op = Op.unOp UnOp.not 4 (Operand.tmp 72) ∧ oi.dst = some 73 ∧ oi.guard = some (17, false) ∧ oi.type = 4 := ⟨_, rfl, by kernel_rfl, by kernel_rfl, by kernel_rfl, by kernel_rfl⟩
 refine step_val (t := 73) hoi hdst (Or.inr ⟨17, false, _, 66, hgd, rfl, by kernel_rfl, rfl, rfl, by kernel_rfl⟩) caw4nd rfl (by rw [H.size]; decide) rfl ?_
 intro b a w h hon
 have e72 := h.gis (i := 23) (t := 72) (hon 23 (by kernel_rfl)) rfl rfl
 refine ⟨.bool false, w, ?_, Below.refl _ _, rfl⟩
 simp only [execOp, hop, hty]
 go_simp
 try rfl
theorem caw425 (H : caw4H W a0 g5 v5) : caw4Step W a0 Q 25 := by
 obtain ⟨oi, hoi, hop, hdst, hgd, hty⟩ : ∃ oi, (opsOf Tryz.f25 4)[25]? = some oi ∧ oi.op = Op.pick (Operand.tmp 66) (Operand.const (Value.bool true)) (Operand.tmp 73) ∧ oi.dst = some 74 ∧ oi.guard = none ∧ oi.type = 4 := ⟨_, rfl, by kernel_rfl, by kernel_rfl, by kernel_rfl, by kernel_rfl⟩
 refine step_val (t := 74) hoi hdst (Or.inl hgd) caw4nd rfl (by rw [H.size]; decide) rfl ?_
 intro b a w h hon
 have e66 := h.gis (i := 17) (t := 66) (hon 17 (by kernel_rfl)) rfl rfl
 have e73 := h.gis (i := 24) (t := 73) (hon 24 (by kernel_rfl)) rfl rfl
 refine ⟨.bool false, w, ?_, Below.refl _ _, rfl⟩
 simp only [execOp, hop, hty]
 go_simp
 try rfl
theorem caw4_steps (H : caw4H W a0 g5 v5) : ∀ i ∈ caw4O, caw4Step W a0 Q i := (stc (caw40 H) (stc (caw41 H) (stc (caw42 H) (stc (caw43 H) (stc (caw44 H) (stc (caw45 H) (stc (caw46 H) (stc (caw47 H) (stc (caw48 H) (stc (caw49 H) (stc (caw410 H) (stc (caw411 H) (stc (caw412 H) (stc (caw413 H) (stc (caw414 H) (stc (caw415 H) (stc (caw416 H) (stc (caw417 H) (stc (caw418 H) (stc (caw419 H) (stc (caw420 H) (stc (caw421 H) (stc (caw422 H) (stc (caw423 H) (stc (caw424 H) (stc (caw425 H) steps_nil))))))))))))))))))))))))))
end
theorem caw4_region {W : World} {a0 : Act} {g5 : Nat} {v5 : Value} {Q : Exit → Act → World → Prop} (H : caw4H W.drew a0 g5 v5)
  (hQ : ∀ (v : Nat → Value) (w : World), v 25 = .bool false → Below W.heap.size W w → Q .normal (fillAll a0 caw4L v) w) : (Code.region 4 (opsOf Tryz.f25 4) true).wp Tryz.prog Q a0 W := by
 refine start_ (n := 26) (S := fun _ => True) (ds := []) (Array.replicate 26 false) (by kernel_rfl) (by kernel_rfl) rfl trivial (fun _ => ?_)
 refine inv_ caw4O (RelG W.drew a0 caw4L caw4tb) caw4tab caw4bits (by kernel_rfl) (by kernel_rfl) (RelG.start _ _ _ _) (caw4_steps H) ?_
 intro b a w hall hr
 obtain ⟨v, h1, h2, h3⟩ := hr
 have hb : ∀ i, i < caw4L.length → b i = true := by
  intro i hi
  have : i < 26 := by simpa [caw4L] using hi
  exact hall i (by rw [List.contains_iff_mem]; unfold caw4O; simp; omega)
 rw [h1.all hb]
 exact hQ v w (h3 25 _ rfl (hb 25 (by simp [caw4L]))) ⟨h2.os, h2.tape, h2.output, h2.size, h2.block⟩
end Go.Proofs.YtkcfdddhnboieaaGreatDoor.NState
end
section
set_option maxHeartbeats 1000000
set_option maxRecDepth 100000
namespace Go.Proofs.YtkcfdddhnboieaaGreatDoor.NState
open Go Go.RowKit Go.Shelf QW.PrintWords QW.PrintLast QW.PrintMore NMap
open PSameC (netlabref32_EqInts.calls netlabref32_Same.calls)
def caw14T : Bool × List (List Nat × List Nat) := (true, [([], []), ([0], [0]), ([1], [1]), ([2], [2]), ([3, 2], [2, 3]), ([2, 4], [2, 4]), ([5, 2], [5]), ([6], [6]), ([6], [6]), ([7, 8, 6, 6], [6, 7, 8]), ([6, 9], [6, 9]), ([10, 9], [10]), ([11], [11]), ([11], [11]), ([11], [11]), ([11], [11]), ([11], [11]), ([13, 14, 15, 16, 11], [11, 13, 14, 15, 16]), ([17, 11, 11], [11, 17]), ([12, 18, 18, 11], [11, 12, 18]), ([11, 19], [11, 19]), ([20, 19], [20]), ([21], [21]), ([22, 21], [21, 22]), ([21, 23], [21, 23]), ([24, 21], [24]), ([25, 25], [25]), ([25, 26], [25, 26]), ([27, 26], [27]), ([28, 28], [28]), ([28, 29], [28, 29]), ([30, 29, 0, 1, 2, 3, 4, 5, 6, 7, 8, 9, 10, 11, 12, 13, 14, 15, 16, 17, 18, 19, 20, 21, 22, 23, 24, 25, 26, 27, 28, 29, 30], [30])])
def caw14B : List Nat := [0, 1, 3, 7, 15, 31, 63, 127, 127, 511, 1023, 2047, 4095, 4095, 4095, 4095, 4095, 126975, 258047, 524287, 1048575, 2097151, 4194303, 8388607, 16777215, 33554431, 67108863, 134217727, 268435455, 536870911, 1073741823, 2147483647]
theorem caw14tab : rtab .any (opsOf Tryz.f25 14) = caw14T := by kernel_rfl
theorem caw14bits : waitsOk caw14T.2 caw14B = true := by kernel_rfl
def caw14L : List Nat := [149, 150, 151, 152, 153, 154, 155, 156, 157, 158, 159, 160, 161, 162, 163, 164, 165, 166, 167, 168, 169, 170, 171, 172, 173, 174, 175, 176, 177, 178, 179, 0]
def caw14O : List Nat := [0, 1, 2, 3, 4, 5, 6, 7, 8, 9, 10, 11, 12, 13, 14, 15, 16, 17, 18, 19, 20, 21, 22, 23, 24, 25, 26, 27, 28, 29, 30, 31]
def caw14tb : List SpG := [.is (.int .i64 0), .is (.bool true), .is (.bool true), .is (.int .i64 0), .is (.bool true), .is (.bool true), .is (.bool true), .ints [0, 1, 2, 3], .ints [0, 1, 2, 3], .is (.bool true), .is (.bool true), .is (.bool true), .cnf 3 [[-3, 1], [-3, -2], [3, -1, 2], [-3]], .ints [-3, 1], .ints [-3, -2], .ints [3, -1, 2], .ints [-3], .rows [[-3, 1], [-3, -2], [3, -1, 2], [-3]], .cnf 3 [[-3, 1], [-3, -2], [3, -1, 2], [-3]], .is (.bool true), .is (.bool true), .is (.bool true), .is (.string ⟨#[112, 32, 99, 110, 102, 32, 50, 32, 49, 10, 49, 32, 45, 50, 32, 48, 10]⟩), .is (.bool true), .is (.bool true), .is (.bool true), .is (.bool true), .is (.bool true), .is (.bool true), .is (.bool true), .is (.bool true), .is (.bool true)]
theorem caw14nd : caw14L.Nodup := by decide
structure caw14H (W : World) (a0 : Act) (g16 : Nat) (v16 v17 : Value) : Prop where
 size : a0.tmps.size = 180
 t18 : a0.tmps[18]? = some (.int .i64 0)
 t20 : a0.tmps[20]? = some (.int .i64 0)
 t19 : a0.tmps[19]? = some (.string ⟨#[112, 32, 99, 110, 102, 32, 50, 32, 49, 10, 49, 32, 45, 50, 32, 48, 10]⟩)
 t16 : a0.tmps[16]? = some (.pointer (some ⟨g16, 0, none⟩))
 t17 : a0.tmps[17]? = some v17
 s17 : (SpG.ints [0, 1, 2, 3]).p W v17
 b16 : W.heap[g16]? = some (.cells #[.int .i64 3, v16] 24 (0, 0))
 s16 : (SpG.cnf 3 [[-3, 1], [-3, -2], [3, -1, 2], [-3]]).p W (.agg #[.int .i64 3, v16])
 gok : NText.GOK W
 mok : NText.MOK W
section
variable {W : World} {a0 : Act} {g16 : Nat} {v16 v17 : Value} {Q : Exit → Act → World → Prop}
abbrev caw14Step (W : World) (a0 : Act) (Q : Exit → Act → World → Prop) (i : Nat) : Prop := StepAt Tryz.prog (opsOf Tryz.f25 14) Q caw14B caw14O (RelG W a0 caw14L caw14tb) i
theorem caw140 (H : caw14H W a0 g16 v16 v17) : caw14Step W a0 Q 0 := by
 obtain ⟨oi, hoi, hop, hdst, hgd, hty⟩ : ∃ oi, (opsOf Tryz.f25 14)[0]? = some oi ∧ oi.op = Op.move (Operand.tmp 18) ∧ oi.dst = some 149 ∧ oi.guard = none ∧ oi.type = 28 := ⟨_, rfl, by kernel_rfl, by kernel_rfl, by kernel_rfl, by kernel_rfl⟩
 refine step_val (t := 149) hoi hdst (Or.inl hgd) caw14nd rfl (by rw [H.size]; decide) rfl ?_
 intro b a w h hon
 have e18 := h.elder (t := 18) (by rfl) H.t18
 refine ⟨.int .i64 0, w, ?_, Below.refl _ _, rfl⟩
 simp only [execOp, hop, hty]
 go_simp
 try rfl
theorem caw141 (H : caw14H W a0 g16 v16 v17) : caw14Step W a0 Q 1 := by
 obtain ⟨oi, hoi, hop, hdst, hgd, hty⟩ : ∃ oi, (opsOf Tryz.f25 14)[1]? = some oi ∧ oi.op = Op.binOp BinOp.eql 28 (Operand.tmp 149) (Operand.const (Value.int IntKind.i64 0)) 28 ∧ oi.dst = some 150 ∧ oi.guard = none ∧ oi.type = 4 := ⟨_, rfl, by kernel_rfl, by kernel_rfl, by kernel_rfl, by kernel_rfl⟩
 refine step_val (t := 150) hoi hdst (Or.inl hgd) caw14nd rfl (by rw [H.size]; decide) rfl ?_
 intro b a w h hon
 have e149 := h.gis (i := 0) (t := 149) (hon 0 (by kernel_rfl)) rfl rfl
 refine ⟨.bool true, w, ?_, Below.refl _ _, rfl⟩
 simp only [execOp, hop, hty]
 go_simp
 try rfl
theorem caw142 (H : caw14H W a0 g16 v16 v17) : caw14Step W a0 Q 2 := by
 obtain ⟨oi, hoi, hop, hdst, hgd, hty⟩ : ∃ oi, (opsOf Tryz.f25 14)[2]? = some oi ∧ oi.op = Op.move (Operand.tmp 150) ∧ oi.dst = some 151 ∧ oi.guard = none ∧ oi.type = 4 := ⟨_, rfl, by kernel_rfl, by kernel_rfl, by kernel_rfl, by kernel_rfl⟩
 refine step_val (t := 151) hoi hdst (Or.inl hgd) caw14nd rfl (by rw [H.size]; decide) rfl ?_
 intro b a w h hon
 have e150 := h.gis (i := 1) (t := 150) (hon 1 (by kernel_rfl)) rfl rfl
 refine ⟨.bool true, w, ?_, Below.refl _ _, rfl⟩
 simp only [execOp, hop, hty]
 go_simp
 try rfl
theorem caw143 (H : caw14H W a0 g16 v16 v17) : caw14Step W a0 Q 3 := by
 obtain ⟨oi, hoi, hop, hdst, hgd, hty⟩ : ∃ oi, (opsOf Tryz.f25 14)[3]? = some oi ∧ oi.op = Op.move (Operand.tmp 20) ∧ oi.dst = some 152 ∧ oi.guard = some (2, true) ∧ oi.type = 28 := ⟨_, rfl, by kernel_rfl, by kernel_rfl, by kernel_rfl, by kernel_rfl⟩
 refine step_val (t := 152) hoi hdst (Or.inr ⟨2, true, _, 151, hgd, rfl, by kernel_rfl, rfl, rfl, by kernel_rfl⟩) caw14nd rfl (by rw [H.size]; decide) rfl ?_
 intro b a w h hon
 have e20 := h.elder (t := 20) (by rfl) H.t20
 refine ⟨.int .i64 0, w, ?_, Below.refl _ _, rfl⟩
 simp only [execOp, hop, hty]
 go_simp
 try rfl
theorem caw144 (H : caw14H W a0 g16 v16 v17) : caw14Step W a0 Q 4 := by
 obtain ⟨oi, hoi, hop, hdst, hgd, hty⟩ : ∃ oi, (opsOf Tryz.f25 14)[4]? = some oi ∧ oi.op = Op.binOp BinOp.eql 28 (Operand.tmp 152) (Operand.const (Value.int IntKind.i64 0)) 28 ∧ oi.dst = some 153 ∧ oi.guard = some (2, true) ∧ oi.type = 4 := ⟨_, rfl, by kernel_rfl, by kernel_rfl, by kernel_rfl, by kernel_rfl⟩
 refine step_val (t := 153) hoi hdst (Or.inr ⟨2, true, _, 151, hgd, rfl, by kernel_rfl, rfl, rfl, by kernel_rfl⟩) caw14nd rfl (by rw [H.size]; decide) rfl ?_
 intro b a w h hon
 have e152 := h.gis (i := 3) (t := 152) (hon 3 (by kernel_rfl)) rfl rfl
 refine ⟨.bool true, w, ?_, Below.refl _ _, rfl⟩
 simp only [execOp, hop, hty]
 go_simp
 try rfl
theorem caw145 (H : caw14H W a0 g16 v16 v17) : caw14Step W a0 Q 5 := by
 obtain ⟨oi, hoi, hop, hdst, hgd, hty⟩ : ∃ oi, (opsOf Tryz.f25 14)[5]? = some oi ∧ oi.op = Op.pick (Operand.tmp 151) (Operand.tmp 153) (Operand.const (Value.bool false)) ∧ oi.dst = some 154 ∧ oi.guard = none ∧ oi.type = 4 := ⟨_, rfl, by kernel_rfl, by kernel_rfl, by kernel_rfl, by kernel_rfl⟩
 refine step_val (t := 154) hoi hdst (Or.inl hgd) caw14nd rfl (by rw [H.size]; decide) rfl ?_
 intro b a w h hon
 have e151 := h.gis (i := 2) (t := 151) (hon 2 (by kernel_rfl)) rfl rfl
 have e153 := h.gis (i := 4) (t := 153) (hon 4 (by kernel_rfl)) rfl rfl
 refine ⟨.bool true, w, ?_, Below.refl _ _, rfl⟩
 simp only [execOp, hop, hty]
 go_simp
 try rfl
theorem caw146 (H : caw14H W a0 g16 v16 v17) : caw14Step W a0 Q 6 := by
 obtain ⟨oi, hoi, hop, hdst, hgd, hty⟩ : ∃ oi, (opsOf Tryz.f25 14)[6]? = some oi ∧ oi.op = Op.move (Operand.tmp 154) ∧ oi.dst = some 155 ∧ oi.guard = none ∧ oi.type = 4 := ⟨_, rfl, by kernel_rfl, by kernel_rfl, by kernel_rfl, by kernel_rfl⟩
 refine step_val (t := 155) hoi hdst (Or.inl hgd) caw14nd rfl (by rw [H.size]; decide) rfl ?_
 intro b a w h hon
 have e154 := h.gis (i := 5) (t := 154) (hon 5 (by kernel_rfl)) rfl rfl
 refine ⟨.bool true, w, ?_, Below.refl _ _, rfl⟩
 simp only [execOp, hop, hty]
 go_simp
 try rfl
theorem caw147 (H : caw14H W a0 g16 v16 v17) : caw14Step W a0 Q 7 := by
 obtain ⟨oi, hoi, hop, hdst, hgd, hty⟩ : ∃ oi, (opsOf Tryz.f25 14)[7]? = some oi ∧ oi.op = Op.move (Operand.tmp 17) ∧ oi.dst = some 156 ∧ oi.guard = some (6, true) ∧ oi.type = 26 := ⟨_, rfl, by kernel_rfl, by kernel_rfl, by kernel_rfl, by kernel_rfl⟩
 refine step_val (t := 156) hoi hdst (Or.inr ⟨6, true, _, 155, hgd, rfl, by kernel_rfl, rfl, rfl, by kernel_rfl⟩) caw14nd rfl (by rw [H.size]; decide) rfl ?_
 intro b a w h hon
 have e17 := h.elder (t := 17) (by rfl) H.t17
 obtain ⟨A17, c17, hv17, l17, q17⟩ := (SpG.ints [0, 1, 2, 3]).st H.s17 h.reads
 rw [hv17] at e17
 refine ⟨_, w, ?_, Below.refl _ _, ⟨A17, c17, rfl, l17, q17⟩⟩
 simp only [execOp, hop, hty]
 go_simp
 try rfl
theorem caw148 (H : caw14H W a0 g16 v16 v17) : caw14Step W a0 Q 8 := by
 obtain ⟨oi, hoi, hop, hdst, hgd, hty⟩ : ∃ oi, (opsOf Tryz.f25 14)[8]? = some oi ∧ oi.op = Op.buildSlice 26 4 #[(0, Operand.const (Value.int IntKind.i64 0)), (1, Operand.const (Value.int IntKind.i64 1)), (2, Operand.const (Value.int IntKind.i64 2)), (3, Operand.const (Value.int IntKind.i64 3))] ∧ oi.dst = some 157 ∧ oi.guard = some (6, true) ∧ oi.type = 26 := ⟨_, rfl, by kernel_rfl, by kernel_rfl, by kernel_rfl, by kernel_rfl⟩
 refine step_val (t := 157) hoi hdst (Or.inr ⟨6, true, _, 155, hgd, rfl, by kernel_rfl, rfl, rfl, by kernel_rfl⟩) caw14nd rfl (by rw [H.size]; decide) rfl ?_
 intro b a w h hon
 refine ⟨.slice (some ⟨w.heap.size, 0, none⟩) 4 4, w.alloc (.cells #[.int .i64 0, .int .i64 1, .int .i64 2, .int .i64 3] 3), ?_, below_new _ _, ints_lit w [0, 1, 2, 3] _ rfl (by decide)⟩
 simp only [execOp, hop, hty]
 go_simp
 try rfl
theorem caw149 (H : caw14H W a0 g16 v16 v17) : caw14Step W a0 Q 9 := by
 obtain ⟨oi, hoi, hop, hdst, hgd, hty⟩ : ∃ oi, (opsOf Tryz.f25 14)[9]? = some oi ∧ oi.op = Op.call { callee := Callee.value (Operand.func 24), args := #[Operand.tmp 156, Operand.tmp 157], argTypes := #[26, 26] } ∧ oi.dst = some 158 ∧ oi.guard = some (6, true) ∧ oi.type = 4 := ⟨_, rfl, by kernel_rfl, by kernel_rfl, by kernel_rfl, by kernel_rfl⟩
 refine step_call (t := 158) hoi hdst (Or.inr ⟨6, true, _, 155, hgd, rfl, by kernel_rfl, rfl, rfl, by kernel_rfl⟩) caw14nd rfl (by rw [H.size]; decide) rfl ?_
 intro b a w h hon
 obtain ⟨u156, e156, p156⟩ := h.get (i := 7) (t := 156) (hon 7 (by kernel_rfl)) rfl rfl
 obtain ⟨A156, c156, rfl, l156, q156⟩ := p156
 obtain ⟨u157, e157, p157⟩ := h.get (i := 8) (t := 157) (hon 8 (by kernel_rfl)) rfl rfl
 obtain ⟨A157, c157, rfl, l157, q157⟩ := p157
 refine ⟨24, #[.slice A156 4 c156, .slice A157 4 c157], ?_, (netlabref32_EqInts.calls 20 A156 c156 [0, 1, 2, 3] A157 c157 [0, 1, 2, 3] true w q156 l156 q157 l157 (by kernel_rfl)).mono ?_⟩
 ·simp only [execOp, hop, hty]
  go_simp
  try rfl
 rintro e w' ⟨rfl, hd⟩
 exact ⟨_, rfl, hd.below, rfl⟩
theorem caw1410 (H : caw14H W a0 g16 v16 v17) : caw14Step W a0 Q 10 := by
 obtain ⟨oi, hoi, hop, hdst, hgd, hty⟩ : ∃ oi, (opsOf Tryz.f25 14)[10]? = some oi ∧ oi.op = Op.pick (Operand.tmp 155) (Operand.tmp 158) (Operand.const (Value.bool false)) ∧ oi.dst = some 159 ∧ oi.guard = none ∧ oi.type = 4 := ⟨_, rfl, by kernel_rfl, by kernel_rfl, by kernel_rfl, by kernel_rfl⟩
 refine step_val (t := 159) hoi hdst (Or.inl hgd) caw14nd rfl (by rw [H.size]; decide) rfl ?_
 intro b a w h hon
 have e155 := h.gis (i := 6) (t := 155) (hon 6 (by kernel_rfl)) rfl rfl
 have e158 := h.gis (i := 9) (t := 158) (hon 9 (by kernel_rfl)) rfl rfl
 refine ⟨.bool true, w, ?_, Below.refl _ _, rfl⟩
 simp only [execOp, hop, hty]
 go_simp
 try rfl
theorem caw1411 (H : caw14H W a0 g16 v16 v17) : caw14Step W a0 Q 11 := by
 obtain ⟨oi, hoi, hop, hdst, hgd, hty⟩ : ∃ oi, (opsOf Tryz.f25 14)[11]? = some oi ∧ oi.op = Op.move (Operand.tmp 159) ∧ oi.dst = some 160 ∧ oi.guard = none ∧ oi.type = 4 := ⟨_, rfl, by kernel_rfl, by kernel_rfl, by kernel_rfl, by kernel_rfl⟩
 refine step_val (t := 160) hoi hdst (Or.inl hgd) caw14nd rfl (by rw [H.size]; decide) rfl ?_
 intro b a w h hon
 have e159 := h.gis (i := 10) (t := 159) (hon 10 (by kernel_rfl)) rfl rfl
 refine ⟨.bool true, w, ?_, Below.refl _ _, rfl⟩
 simp only [execOp, hop, hty]
 go_simp
 try rfl
theorem caw1412 (H : caw14H W a0 g16 v16 v17) : caw14Step W a0 Q 12 := by
 obtain ⟨oi, hoi, hop, hdst, hgd, hty⟩ : ∃ oi, (opsOf Tryz.f25 14)[12]? = some oi ∧ oi.op = Op.load 24 (Operand.tmp 16) ∧ oi.dst = some 161 ∧ oi.guard = some (11, true) ∧ oi.type = 24 := ⟨_, rfl, by kernel_rfl, by kernel_rfl, by kernel_rfl, by kernel_rfl⟩
 refine step_val (t := 161) hoi hdst (Or.inr ⟨11, true, _, 160, hgd, rfl, by kernel_rfl, rfl, rfl, by kernel_rfl⟩) caw14nd rfl (by rw [H.size]; decide) rfl ?_
 intro b a w h hon
 have e16 := h.elder (t := 16) (by rfl) H.t16
 obtain ⟨A16, c16, hv16, l16, q16⟩ := (SpG.cnf 3 [[-3, 1], [-3, -2], [3, -1, 2], [-3]]).st H.s16 h.reads
 have hb := blk_below H.b16 h.reads
 have hx0 : w.cell? ⟨g16, 0, none⟩ = some (.int .i64 3) := (bkc hb 0).trans rfl
 have hx1 : w.cell? ⟨g16, 1, none⟩ = some v16 := (bkc hb 1).trans rfl
 refine ⟨.agg #[.int .i64 3, v16], w, ?_, Below.refl _ _, ⟨A16, c16, hv16, l16, q16⟩⟩
 simp only [execOp, hop, hty]
 go_simp
 try rfl
theorem caw1413 (H : caw14H W a0 g16 v16 v17) : caw14Step W a0 Q 13 := by
 obtain ⟨oi, hoi, hop, hdst, hgd, hty⟩ : ∃ oi, (opsOf Tryz.f25 14)[13]? = some oi ∧ oi.op = Op.buildSlice 26 2 #[(0, Operand.const (Value.int IntKind.i64 (-3))), (1, Operand.const (Value.int IntKind.i64 1))] ∧ oi.dst = some 162 ∧ oi.guard = some (11, true) ∧ oi.type = 26 := ⟨_, rfl, by kernel_rfl, by kernel_rfl, by kernel_rfl, by kernel_rfl⟩
 refine step_val (t := 162) hoi hdst (Or.inr ⟨11, true, _, 160, hgd, rfl, by kernel_rfl, rfl, rfl, by kernel_rfl⟩) caw14nd rfl (by rw [H.size]; decide) rfl ?_
 intro b a w h hon
 refine ⟨.slice (some ⟨w.heap.size, 0, none⟩) 2 2, w.alloc (.cells #[.int .i64 (-3), .int .i64 1] 3), ?_, below_new _ _, ints_lit w [-3, 1] _ rfl (by decide)⟩
 simp only [execOp, hop, hty]
 go_simp
 try rfl
theorem caw1414 (H : caw14H W a0 g16 v16 v17) : caw14Step W a0 Q 14 := by
 obtain ⟨oi, hoi, hop, hdst, hgd, hty⟩ : ∃ oi, (opsOf Tryz.f25 14)[14]? = some oi ∧ oi.op = Op.buildSlice 26 2 #[(0, Operand.const (Value.int IntKind.i64 (-3))), (1, Operand.const (Value.int IntKind.i64 (-2)))] ∧ oi.dst = some 163 ∧ oi.guard = some (11, true) ∧ oi.type = 26 := ⟨_, rfl, by kernel_rfl, by kernel_rfl, by kernel_rfl, by kernel_rfl⟩
 refine step_val (t := 163) hoi hdst (Or.inr ⟨11, true, _, 160, hgd, rfl, by kernel_rfl, rfl, rfl, by kernel_rfl⟩) caw14nd rfl (by rw [H.size]; decide) rfl ?_
 intro b a w h hon
 refine ⟨.slice (some ⟨w.heap.size, 0, none⟩) 2 2, w.alloc (.cells #[.int .i64 (-3), .int .i64 (-2)] 3), ?_, below_new _ _, ints_lit w [-3, -2] _ rfl (by decide)⟩
 simp only [execOp, hop, hty]
 go_simp
 try rfl
theorem caw1415 (H : caw14H W a0 g16 v16 v17) : caw14Step W a0 Q 15 := by
 obtain ⟨oi, hoi, hop, hdst, hgd, hty⟩ : ∃ oi, (opsOf Tryz.f25 14)[15]? = some oi ∧ oi.op = Op.buildSlice 26 3 #[(0, Operand.const (Value.int IntKind.i64 3)), (1, Operand.const (Value.int IntKind.i64 (-1))), (2, Operand.const (Value.int IntKind.i64 2))] ∧ oi.dst = some 164 ∧ oi.guard = some (11, true) ∧ oi.type = 26 := ⟨_, rfl, by kernel_rfl, by kernel_rfl, by kernel_rfl, by kernel_rfl⟩
 refine step_val (t := 164) hoi hdst (Or.inr ⟨11, true, _, 160, hgd, rfl, by kernel_rfl, rfl, rfl, by kernel_rfl⟩) caw14nd rfl (by rw [H.size]; decide) rfl ?_
 intro b a w h hon
 refine ⟨.slice (some ⟨w.heap.size, 0, none⟩) 3 3, w.alloc (.cells #[.int .i64 3, .int .i64 (-1), .int .i64 2] 3), ?_, below_new _ _, ints_lit w [3, -1, 2] _ rfl (by decide)⟩
 simp only [execOp, hop, hty]
 go_simp
 try rfl
theorem caw1416 (H : caw14H W a0 g16 v16 v17) : caw14Step W a0 Q 16 := by
 obtain ⟨oi, hoi, hop, hdst, hgd, hty⟩ : ∃ oi, (opsOf Tryz.f25 14)[16]? = some oi ∧ oi.op = Op.buildSlice 26 1 #[(0, Operand.const (Value.int IntKind.i64 (-3)))] ∧ oi.dst = some 165 ∧ oi.guard = some (11, true) ∧ oi.type = 26 := ⟨_, rfl, by kernel_rfl, by kernel_rfl, by kernel_rfl, by kernel_rfl⟩
 refine step_val (t := 165) hoi hdst (Or.inr ⟨11, true, _, 160, hgd, rfl, by kernel_rfl, rfl, rfl, by kernel_rfl⟩) caw14nd rfl (by rw [H.size]; decide) rfl ?_
 intro b a w h hon
 refine ⟨.slice (some ⟨w.heap.size, 0, none⟩) 1 1, w.alloc (.cells #[.int .i64 (-3)] 3), ?_, below_new _ _, ints_lit w [-3] _ rfl (by decide)⟩
 simp only [execOp, hop, hty]
 go_simp
 try rfl
theorem caw1417 (H : caw14H W a0 g16 v16 v17) : caw14Step W a0 Q 17 := by
 obtain ⟨oi, hoi, hop, hdst, hgd, hty⟩ : ∃ oi, (opsOf Tryz.f25 14)[17]? = some oi ∧ oi.op = Op.buildSlice 22 4 #[(0, Operand.tmp 162), (1, Operand.tmp 163), (2, Operand.tmp 164), (3, Operand.tmp 165)] ∧ oi.dst = some 166 ∧ oi.guard = some (11, true) ∧ oi.type = 22 := ⟨_, rfl, by kernel_rfl, by kernel_rfl, by kernel_rfl, by kernel_rfl⟩
 refine step_val (t := 166) hoi hdst (Or.inr ⟨11, true, _, 160, hgd, rfl, by kernel_rfl, rfl, rfl, by kernel_rfl⟩) caw14nd rfl (by rw [H.size]; decide) rfl ?_
 intro b a w h hon
 obtain ⟨u162, e162, p162⟩ := h.get (i := 13) (t := 162) (hon 13 (by kernel_rfl)) rfl rfl
 obtain ⟨A162, c162, rfl, l162, q162⟩ := p162
 obtain ⟨u163, e163, p163⟩ := h.get (i := 14) (t := 163) (hon 14 (by kernel_rfl)) rfl rfl
 obtain ⟨A163, c163, rfl, l163, q163⟩ := p163
 obtain ⟨u164, e164, p164⟩ := h.get (i := 15) (t := 164) (hon 15 (by kernel_rfl)) rfl rfl
 obtain ⟨A164, c164, rfl, l164, q164⟩ := p164
 obtain ⟨u165, e165, p165⟩ := h.get (i := 16) (t := 165) (hon 16 (by kernel_rfl)) rfl rfl
 obtain ⟨A165, c165, rfl, l165, q165⟩ := p165
 refine ⟨.slice (some ⟨w.heap.size, 0, none⟩) 4 4, w.alloc (.cells #[.slice A162 ([-3, 1] : List Int).length c162, .slice A163 ([-3, -2] : List Int).length c163, .slice A164 ([3, -1, 2] : List Int).length c164, .slice A165 ([-3] : List Int).length c165] 26), ?_, below_new _ _, ⟨_, _, rfl, Nat.le_refl _, C_lit (Kd.slice 3 (Kd.int .i64)) w 26 [[-3, 1], [-3, -2], [3, -1, 2], [-3]] _ (Reps.snoc (p := ([-3] : List Int)) (c := [.slice A165 ([-3] : List Int).length c165]) (Reps.snoc (p := ([3, -1, 2] : List Int)) (c := [.slice A164 ([3, -1, 2] : List Int).length c164]) (Reps.snoc (p := ([-3, -2] : List Int)) (c := [.slice A163 ([-3, -2] : List Int).length c163]) (Reps.snoc (p := ([-3, 1] : List Int)) (c := [.slice A162 ([-3, 1] : List Int).length c162]) (Reps.none ((Kd.slice 3 (Kd.int .i64)).K w) 1) ⟨A162, c162, rfl, l162, q162⟩ rfl) ⟨A163, c163, rfl, l163, q163⟩ rfl) ⟨A164, c164, rfl, l164, q164⟩ rfl) ⟨A165, c165, rfl, l165, q165⟩ rfl) (by decide)⟩⟩
 simp only [execOp, hop, hty]
 go_simp
 try rfl
theorem caw1418 (H : caw14H W a0 g16 v16 v17) : caw14Step W a0 Q 18 := by
 obtain ⟨oi, hoi, hop, hdst, hgd, hty⟩ : ∃ oi, (opsOf Tryz.f25 14)[18]? = some oi ∧ oi.op = Op.call { callee := Callee.value (Operand.func 37), args := #[Operand.const (Value.int IntKind.i64 3), Operand.tmp 166], argTypes := #[3, 22] } ∧ oi.dst = some 167 ∧ oi.guard = some (11, true) ∧ oi.type = 24 := ⟨_, rfl, by kernel_rfl, by kernel_rfl, by kernel_rfl, by kernel_rfl⟩
 refine step_call (t := 167) hoi hdst (Or.inr ⟨11, true, _, 160, hgd, rfl, by kernel_rfl, rfl, rfl, by kernel_rfl⟩) caw14nd rfl (by rw [H.size]; decide) rfl ?_
 intro b a w h hon
 obtain ⟨u166, e166, p166⟩ := h.get (i := 17) (t := 166) (hon 17 (by kernel_rfl)) rfl rfl
 obtain ⟨A166, c166, rfl, l166, q166⟩ := p166
 refine ⟨37, #[.int .i64 3, .slice A166 4 c166], ?_, (formula_calls 3 A166 4 c166 w).mono ?_⟩
 ·simp only [execOp, hop, hty]
  go_simp
  try rfl
 rintro e w' ⟨rfl, hb⟩
 exact ⟨_, rfl, hb, ⟨A166, c166, rfl, l166, Kd.C_below q166 hb⟩⟩
theorem caw1419 (H : caw14H W a0 g16 v16 v17) : caw14Step W a0 Q 19 := by
 obtain ⟨oi, hoi, hop, hdst, hgd, hty⟩ : ∃ oi, (opsOf Tryz.f25 14)[19]? = some oi ∧ oi.op = Op.call { callee := Callee.value (Operand.func 23), args := #[Operand.tmp 161, Operand.tmp 167], argTypes := #[24, 24] } ∧ oi.dst = some 168 ∧ oi.guard = some (11, true) ∧ oi.type = 4 := ⟨_, rfl, by kernel_rfl, by kernel_rfl, by kernel_rfl, by kernel_rfl⟩
 refine step_call (t := 168) hoi hdst (Or.inr ⟨11, true, _, 160, hgd, rfl, by kernel_rfl, rfl, rfl, by kernel_rfl⟩) caw14nd rfl (by rw [H.size]; decide) rfl ?_
 intro b a w h hon
 obtain ⟨u161, e161, p161⟩ := h.get (i := 12) (t := 161) (hon 12 (by kernel_rfl)) rfl rfl
 obtain ⟨A161, c161, rfl, l161, q161⟩ := p161
 obtain ⟨u167, e167, p167⟩ := h.get (i := 18) (t := 167) (hon 18 (by kernel_rfl)) rfl rfl
 obtain ⟨A167, c167, rfl, l167, q167⟩ := p167
 refine ⟨23, #[.agg #[.int .i64 3, .slice A161 4 c161], .agg #[.int .i64 3, .slice A167 4 c167]], ?_, (netlabref32_Same.calls 20 3 A161 c161 [[-3, 1], [-3, -2], [3, -1, 2], [-3]] 3 A167 c167 [[-3, 1], [-3, -2], [3, -1, 2], [-3]] true w q161 l161 q167 l167 (by kernel_rfl)).mono ?_⟩
 ·simp only [execOp, hop, hty]
  go_simp
  try rfl
 rintro e w' ⟨rfl, hb⟩
 exact ⟨_, rfl, hb, rfl⟩
theorem caw1420 (H : caw14H W a0 g16 v16 v17) : caw14Step W a0 Q 20 := by
 obtain ⟨oi, hoi, hop, hdst, hgd, hty⟩ : ∃ oi, (opsOf Tryz.f25 14)[20]? = some oi ∧ oi.op = Op.pick (Operand.tmp 160) (Operand.tmp 168) (Operand.const (Value.bool false)) ∧ oi.dst = some 169 ∧ oi.guard = none ∧ oi.type = 4 := ⟨_, rfl, by kernel_rfl, by kernel_rfl, by kernel_rfl, by kernel_rfl⟩
 refine step_val (t := 169) hoi hdst (Or.inl hgd) caw14nd rfl (by rw [H.size]; decide) rfl ?_
 intro b a w h hon
 have e160 := h.gis (i := 11) (t := 160) (hon 11 (by kernel_rfl)) rfl rfl
 have e168 := h.gis (i := 19) (t := 168) (hon 19 (by kernel_rfl)) rfl rfl
 refine ⟨.bool true, w, ?_, Below.refl _ _, rfl⟩
 simp only [execOp, hop, hty]
 go_simp
 try rfl
theorem caw1421 (H : caw14H W a0 g16 v16 v17) : caw14Step W a0 Q 21 := by
 obtain ⟨oi, hoi, hop, hdst, hgd, hty⟩ : ∃ oi, (opsOf Tryz.f25 14)[21]? = some oi ∧ oi.op = Op.move (Operand.tmp 169) ∧ oi.dst = some 170 ∧ oi.guard = none ∧ oi.type = 4 := ⟨_, rfl, by kernel_rfl, by kernel_rfl, by kernel_rfl, by kernel_rfl⟩
 refine step_val (t := 170) hoi hdst (Or.inl hgd) caw14nd rfl (by rw [H.size]; decide) rfl ?_
 intro b a w h hon
 have e169 := h.gis (i := 20) (t := 169) (hon 20 (by kernel_rfl)) rfl rfl
 refine ⟨.bool true, w, ?_, Below.refl _ _, rfl⟩
 simp only [execOp, hop, hty]
 go_simp
 try rfl
theorem caw1422 (H : caw14H W a0 g16 v16 v17) : caw14Step W a0 Q 22 := by
 obtain ⟨oi, hoi, hop, hdst, hgd, hty⟩ : ∃ oi, (opsOf Tryz.f25 14)[22]? = some oi ∧ oi.op = Op.move (Operand.tmp 19) ∧ oi.dst = some 171 ∧ oi.guard = some (21, true) ∧ oi.type = 9 := ⟨_, rfl, by kernel_rfl, by kernel_rfl, by kernel_rfl, by kernel_rfl⟩
 refine step_val (t := 171) hoi hdst (Or.inr ⟨21, true, _, 170, hgd, rfl, by kernel_rfl, rfl, rfl, by kernel_rfl⟩) caw14nd rfl (by rw [H.size]; decide) rfl ?_
 intro b a w h hon
 have e19 := h.elder (t := 19) (by rfl) H.t19
 refine ⟨.string ⟨#[112, 32, 99, 110, 102, 32, 50, 32, 49, 10, 49, 32, 45, 50, 32, 48, 10]⟩, w, ?_, Below.refl _ _, rfl⟩
 simp only [execOp, hop, hty]
 go_simp
 try rfl
theorem caw1423 (H : caw14H W a0 g16 v16 v17) : caw14Step W a0 Q 23 := by
 obtain ⟨oi, hoi, hop, hdst, hgd, hty⟩ : ∃ oi, (opsOf Tryz.f25 14)[23]? = some oi ∧ oi.op = Op.binOp BinOp.eql 9 (Operand.tmp 171) (Operand.const (Value.string { data := #[112, 32, 99, 110, 102, 32, 50, 32, 49, 10, 49, 32, 45, 50, 32, 48, 10] })) 9 ∧ oi.dst = some 172 ∧ oi.guard = some (21, true) ∧ oi.type = 4 := ⟨_, rfl, by kernel_rfl, by kernel_rfl, by kernel_rfl, by kernel_rfl⟩
 refine step_val (t := 172) hoi hdst (Or.inr ⟨21, true, _, 170, hgd, rfl, by kernel_rfl, rfl, rfl, by kernel_rfl⟩) caw14nd rfl (by rw [H.size]; decide) rfl ?_
 intro b a w h hon
 have e171 := h.gis (i := 22) (t := 171) (hon 22 (by kernel_rfl)) rfl rfl
 refine ⟨.bool true, w, ?_, Below.refl _ _, rfl⟩
 simp only [execOp, hop, hty]
 go_simp
 try rfl
theorem caw1424 (H : caw14H W a0 g16 v16 v17) : caw14Step W a0 Q 24 := by
 obtain ⟨oi, hoi, hop, hdst, hgd, hty⟩ : ∃ oi, (opsOf Tryz.f25 14)[24]? = some oi ∧ oi.op = Op.pick (Operand.tmp 170) (Operand.tmp 172) (Operand.const (Value.bool false)) ∧ oi.dst = some 173 ∧ oi.guard = none ∧ oi.type = 4 := ⟨_, rfl, by kernel_rfl, by kernel_rfl, by kernel_rfl, by kernel_rfl⟩
 refine step_val (t := 173) hoi hdst (Or.inl hgd) caw14nd rfl (by rw [H.size]; decide) rfl ?_
 intro b a w h hon
 have e170 := h.gis (i := 21) (t := 170) (hon 21 (by kernel_rfl)) rfl rfl
 have e172 := h.gis (i := 23) (t := 172) (hon 23 (by kernel_rfl)) rfl rfl
 refine ⟨.bool true, w, ?_, Below.refl _ _, rfl⟩
 simp only [execOp, hop, hty]
 go_simp
 try rfl
theorem caw1425 (H : caw14H W a0 g16 v16 v17) : caw14Step W a0 Q 25 := by
 obtain ⟨oi, hoi, hop, hdst, hgd, hty⟩ : ∃ oi, (opsOf Tryz.f25 14)[25]? = some oi ∧ oi.op = Op.move (Operand.tmp 173) ∧ oi.dst = some 174 ∧ oi.guard = none ∧ oi.type = 4 := ⟨_, rfl, by kernel_rfl, by kernel_rfl, by kernel_rfl, by kernel_rfl⟩
 refine step_val (t := 174) hoi hdst (Or.inl hgd) caw14nd rfl (by rw [H.size]; decide) rfl ?_
 intro b a w h hon
 have e173 := h.gis (i := 24) (t := 173) (hon 24 (by kernel_rfl)) rfl rfl
 refine ⟨.bool true, w, ?_, Below.refl _ _, rfl⟩
 simp only [execOp, hop, hty]
 go_simp
 try rfl
theorem caw1426 (H : caw14H W a0 g16 v16 v17) : caw14Step W a0 Q 26 := by
 obtain ⟨oi, hoi, hop, hdst, hgd, hty⟩ : ∃ oi, (opsOf Tryz.f25 14)[26]? = some oi ∧ oi.op = Op.call { callee := Callee.value (Operand.func 39), args := #[Operand.const (Value.string { data := #[99, 32, 120, 10, 112, 32, 99, 110, 102, 32, 49, 32, 49, 32, 45, 49] }), Operand.const (Value.int IntKind.i64 16), Operand.const (Value.int IntKind.i64 4)], argTypes := #[9, 3, 28] } ∧ oi.dst = some 175 ∧ oi.guard = some (25, true) ∧ oi.type = 4 := ⟨_, rfl, by kernel_rfl, by kernel_rfl, by kernel_rfl, by kernel_rfl⟩
 refine step_call (t := 175) hoi hdst (Or.inr ⟨25, true, _, 174, hgd, rfl, by kernel_rfl, rfl, rfl, by kernel_rfl⟩) caw14nd rfl (by rw [H.size]; decide) rfl ?_
 intro b a w h hon
 refine ⟨39, #[.string ⟨#[99, 32, 120, 10, 112, 32, 99, 110, 102, 32, 49, 32, 49, 32, 45, 49]⟩, .int .i64 16, .int .i64 4], ?_, (NText.parsed_calls ⟨#[99, 32, 120, 10, 112, 32, 99, 110, 102, 32, 49, 32, 49, 32, 45, 49]⟩ 16 4 w (H.gok.below h.reads) (H.mok.below h.reads) 0 [] 4 (by kernel_rfl) (by kernel_rfl) (.inr ⟨rfl, rfl⟩)).mono ?_⟩
 ·simp only [execOp, hop, hty]
  go_simp
  try rfl
 rintro e w' ⟨rfl, hb⟩
 exact ⟨_, rfl, hb, rfl⟩
theorem caw1427 (H : caw14H W a0 g16 v16 v17) : caw14Step W a0 Q 27 := by
 obtain ⟨oi, hoi, hop, hdst, hgd, hty⟩ : ∃ oi, (opsOf Tryz.f25 14)[27]? = some oi ∧ oi.op = Op.pick (Operand.tmp 174) (Operand.tmp 175) (Operand.const (Value.bool false)) ∧ oi.dst = some 176 ∧ oi.guard = none ∧ oi.type = 4 := ⟨_, rfl, by kernel_rfl, by kernel_rfl, by kernel_rfl, by kernel_rfl⟩
 refine step_val (t := 176) hoi hdst (Or.inl hgd) caw14nd rfl (by rw [H.size]; decide) rfl ?_
 intro b a w h hon
 have e174 := h.gis (i := 25) (t := 174) (hon 25 (by kernel_rfl)) rfl rfl
 have e175 := h.gis (i := 26) (t := 175) (hon 26 (by kernel_rfl)) rfl rfl
 refine ⟨.bool true, w, ?_, Below.refl _ _, rfl⟩
 simp only [execOp, hop, hty]
 go_simp
 try rfl
theorem caw1428 (H : caw14H W a0 g16 v16 v17) : caw14Step W a0 Q 28 := by
 obtain ⟨oi, hoi, hop, hdst, hgd, hty⟩ : ∃ oi, (opsOf Tryz.f25 14)[28]? = some oi ∧ oi.op = Op.move (Operand.tmp 176) ∧ oi.dst = some 177 ∧ oi.guard = none ∧ oi.type = 4 := ⟨_, rfl, by kernel_rfl, by kernel_rfl, by kernel_rfl, by kernel_rfl⟩
 refine step_val (t := 177) hoi hdst (Or.inl hgd) caw14nd rfl (by rw [H.size]; decide) rfl ?_
 intro b a w h hon
 have e176 := h.gis (i := 27) (t := 176) (hon 27 (by kernel_rfl)) rfl rfl
 refine ⟨.bool true, w, ?_, Below.refl _ _, rfl⟩
 simp only [execOp, hop, hty]
 go_simp
 try rfl
theorem caw1429 (H : caw14H W a0 g16 v16 v17) : caw14Step W a0 Q 29 := by
 obtain ⟨oi, hoi, hop, hdst, hgd, hty⟩ : ∃ oi, (opsOf Tryz.f25 14)[29]? = some oi ∧ oi.op = Op.call { callee := Callee.value (Operand.func 39), args := #[Operand.const (Value.string { data := #[112, 32, 99, 110, 102, 32, 49, 32, 48, 32, 48] }), Operand.const (Value.int IntKind.i64 10), Operand.const (Value.int IntKind.i64 6)], argTypes := #[9, 3, 28] } ∧ oi.dst = some 178 ∧ oi.guard = some (28, true) ∧ oi.type = 4 := ⟨_, rfl, by kernel_rfl, by kernel_rfl, by kernel_rfl, by kernel_rfl⟩
 refine step_call (t := 178) hoi hdst (Or.inr ⟨28, true, _, 177, hgd, rfl, by kernel_rfl, rfl, rfl, by kernel_rfl⟩) caw14nd rfl (by rw [H.size]; decide) rfl ?_
 intro b a w h hon
 refine ⟨39, #[.string ⟨#[112, 32, 99, 110, 102, 32, 49, 32, 48, 32, 48]⟩, .int .i64 10, .int .i64 6], ?_, (NText.parsed_calls ⟨#[112, 32, 99, 110, 102, 32, 49, 32, 48, 32, 48]⟩ 10 6 w (H.gok.below h.reads) (H.mok.below h.reads) 0 [] 0 (by kernel_rfl) (by kernel_rfl) (.inr ⟨rfl, rfl⟩)).mono ?_⟩
 ·simp only [execOp, hop, hty]
  go_simp
  try rfl
 rintro e w' ⟨rfl, hb⟩
 exact ⟨_, rfl, hb, rfl⟩
theorem caw1430 (H : caw14H W a0 g16 v16 v17) : caw14Step W a0 Q 30 := by
 obtain ⟨oi, hoi, hop, hdst, hgd, hty⟩ : ∃ oi, (opsOf Tryz.f25 14)[30]? = some oi ∧ oi.op = Op.pick (Operand.tmp 177) (Operand.tmp 178) (Operand.const (Value.bool false)) ∧ oi.dst = some 179 ∧ oi.guard = none ∧ oi.type = 4 := ⟨_, rfl, by kernel_rfl, by kernel_rfl, by kernel_rfl, by kernel_rfl⟩
 refine step_val (t := 179) hoi hdst (Or.inl hgd) caw14nd rfl (by rw [H.size]; decide) rfl ?_
 intro b a w h hon
 have e177 := h.gis (i := 28) (t := 177) (hon 28 (by kernel_rfl)) rfl rfl
 have e178 := h.gis (i := 29) (t := 178) (hon 29 (by kernel_rfl)) rfl rfl
 refine ⟨.bool true, w, ?_, Below.refl _ _, rfl⟩
 simp only [execOp, hop, hty]
 go_simp
 try rfl
theorem caw1431 (H : caw14H W a0 g16 v16 v17) : caw14Step W a0 Q 31 := by
 obtain ⟨oi, hoi, hop, hdst, hgd, hty⟩ : ∃ oi, (opsOf Tryz.f25 14)[31]? = some oi ∧ oi.op = Op.assign (Operand.tmp 179) ∧ oi.dst = some 0 ∧ oi.guard = none ∧ oi.type = 4 := ⟨_, rfl, by kernel_rfl, by kernel_rfl, by kernel_rfl, by kernel_rfl⟩
 refine step_val (t := 0) hoi hdst (Or.inl hgd) caw14nd rfl (by rw [H.size]; decide) rfl ?_
 intro b a w h hon
 have e179 := h.gis (i := 30) (t := 179) (hon 30 (by kernel_rfl)) rfl rfl
 refine ⟨.bool true, w, ?_, Below.refl _ _, rfl⟩
 simp only [execOp, hop, hty]
 go_simp
 try rfl
theorem caw14_steps (H : caw14H W a0 g16 v16 v17) : ∀ i ∈ caw14O, caw14Step W a0 Q i := (stc (caw140 H) (stc (caw141 H) (stc (caw142 H) (stc (caw143 H) (stc (caw144 H) (stc (caw145 H) (stc (caw146 H) (stc (caw147 H) (stc (caw148 H) (stc (caw149 H) (stc (caw1410 H) (stc (caw1411 H) (stc (caw1412 H) (stc (caw1413 H) (stc (caw1414 H) (stc (caw1415 H) (stc (caw1416 H) (stc (caw1417 H) (stc (caw1418 H) (stc (caw1419 H) (stc (caw1420 H) (stc (caw1421 H) (stc (caw1422 H) (stc (caw1423 H) (stc (caw1424 H) (stc (caw1425 H) (stc (caw1426 H) (stc (caw1427 H) (stc (caw1428 H) (stc (caw1429 H) (stc (caw1430 H) (stc (caw1431 H) steps_nil))))))))))))))))))))))))))))))))
end
theorem caw14_region {W : World} {a0 : Act} {g16 : Nat} {v16 v17 : Value} {Q : Exit → Act → World → Prop} (H : caw14H W.drew a0 g16 v16 v17)
  (hQ : ∀ (v : Nat → Value) (w : World), v 31 = .bool true → Below W.heap.size W w → Q .normal (fillAll a0 caw14L v) w) : (Code.region 14 (opsOf Tryz.f25 14) true).wp Tryz.prog Q a0 W := by
 refine start_ (n := 32) (S := fun _ => True) (ds := []) (Array.replicate 32 false) (by kernel_rfl) (by kernel_rfl) rfl trivial (fun _ => ?_)
 refine inv_ caw14O (RelG W.drew a0 caw14L caw14tb) caw14tab caw14bits (by kernel_rfl) (by kernel_rfl) (RelG.start _ _ _ _) (caw14_steps H) ?_
 intro b a w hall hr
 obtain ⟨v, h1, h2, h3⟩ := hr
 have hb : ∀ i, i < caw14L.length → b i = true := by
  intro i hi
  have : i < 32 := by simpa [caw14L] using hi
  exact hall i (by rw [List.contains_iff_mem]; unfold caw14O; simp; omega)
 rw [h1.all hb]
 exact hQ v w (h3 31 _ rfl (hb 31 (by simp [caw14L]))) ⟨h2.os, h2.tape, h2.output, h2.size, h2.block⟩
end Go.Proofs.YtkcfdddhnboieaaGreatDoor.NState
end
section
set_option maxRecDepth 100000
namespace Go.Proofs.YtkcfdddhnboieaaGreatDoor.NState
open Go Go.RowKit Go.Shelf Go.Lib QW.PrintWords QW.PrintLast QW.PrintMore NMap
open PCheck (cnf_Check.f cnf_Check.calls)
open PTriv (cnf_clause_trivial.f)
open PCInts (cnf_clause_ints.f)
open NPlain
set_option maxRecDepth 100000
theorem av_ck1 : cnf_Check.f 50 2 [[1, -2], [2]] = some 0 := by kernel_rfl
theorem av_ck2 : cnf_Check.f 50 3 [[2, -1, 2], [1], [3, -3], [1]] = some 0 := by kernel_rfl
theorem av_ck3 : cnf_Check.f 50 4 [[-1, 2], [-2, 3], [-3, -4]] = some 0 := by kernel_rfl
theorem av_ck4 : cnf_Check.f 50 3 [[1, 2]] = some 0 := by kernel_rfl
theorem av_ck5 : cnf_Check.f 50 2 [[1, -2]] = some 0 := by kernel_rfl
theorem av_e1 : evalF 0 2 [[1, -2], [2]] [true, true] = (true, 0) := by kernel_rfl
theorem av_e2 : evalF 0 2 [[1, -2], [2]] [false, true] = (false, 0) := by kernel_rfl
theorem lit_of {n : Nat} {cls : List (List Int)} (h : (cls.all fun l => l.all fun x => decide (x ≠ 0) && decide (-(n : Int) ≤ x) && decide (x ≤ n)) = true) : ∀ l ∈ cls, ∀ x ∈ l, LitOk n x := by
 intro l hl x hx
 have h1 := List.all_eq_true.1 (List.all_eq_true.1 h l hl) x hx
 simp only [Bool.and_eq_true, decide_eq_true_eq] at h1
 exact ⟨h1.1.1, h1.1.2, h1.2⟩
def trivB (l : List Int) : Bool := (cnf_clause_trivial.f 50 l).getD false
theorem ms1 : ([2, -1, 2] : List Int).mergeSort leI = [-1, 2, 2] := by
 simp [List.mergeSort, List.MergeSort.Internal.splitInTwo, show leI 2 (-1) = false by kernel_rfl, show leI 2 2 = true by kernel_rfl, show leI (-1) 2 = true by kernel_rfl]
theorem ms2 : ([1] : List Int).mergeSort leI = [1] := by simp [List.mergeSort]
theorem ms3 : ([3, -3] : List Int).mergeSort leI = [3, -3] := by
 simp [List.mergeSort, List.MergeSort.Internal.splitInTwo, show leI 3 (-3) = true by kernel_rfl]
theorem av_cl : ([[2, -1, 2], [1], [3, -3], [1]] : List (List Int)).map clauseS = [[-1, 2], [1], [3, -3], [1]] := by
 simp only [List.map_cons, List.map_nil, clauseS, ms1, ms2, ms3]
 kernel_rfl
theorem ms4 : ([[-1, 2], [1], [3, -3], [1]] : List (List Int)).mergeSort leC = [[1], [1], [-1, 2], [3, -3]] := by
 simp [List.mergeSort, List.MergeSort.Internal.splitInTwo, show leC [-1, 2] [1] = false by kernel_rfl, show leC [3, -3] [1] = false by kernel_rfl, show leC [1] [1] = true by kernel_rfl, show leC [-1, 2] [3, -3] = true by kernel_rfl]
theorem av_sort : sortedC [[2, -1, 2], [1], [3, -3], [1]] = [[1], [-1, 2], [3, -3]] := by
 unfold sortedC
 rw [av_cl, ms4]
 kernel_rfl
theorem av_n : normL trivB [[2, -1, 2], [1], [3, -3], [1]] = [[1], [-1, 2]] := by unfold normL; rw [av_sort]; kernel_rfl
theorem av_nok : ∀ l ∈ sortedC [[2, -1, 2], [1], [3, -3], [1]], ClsOk 50 trivB l := by
 rw [av_sort]
 intro l hl
 simp only [List.mem_cons, List.not_mem_nil, or_false] at hl
 rcases hl with rfl | rfl | rfl <;> exact ⟨by kernel_rfl, by kernel_rfl⟩
theorem av_p1 : PropIs 50 4 [[-1, 2], [-2, 3], [-3, -4]] [1] [1, 2, 3, -4] false := .inr ⟨[0, 1, 0, 0, 0], true, [0, 1, 1, 1, -1], by kernel_rfl, by kernel_rfl, rfl, rfl, by kernel_rfl⟩
theorem av_p2 : PropIs 50 4 [[-1, 2], [-2, 3], [-3, -4]] [1, 4] [] true := .inr ⟨[0, 1, 0, 0, 1], false, [0, 1, 1, 1, 1], by kernel_rfl, by kernel_rfl, rfl, rfl, rfl⟩
theorem av_cnt {c : Nat} (h : CountIs 3 [[1, 2]] [] c) : c = 6 := h.exact.trans (by kernel_rfl)
theorem av_f : formatC 2 [[1, -2]] 0 = ([112, 32, 99, 110, 102, 32, 50, 32, 49, 10, 49, 32, 45, 50, 32, 48, 10], 0) := by kernel_rfl
theorem av_flen : (fmtT 2 [[1, -2]]).length = 17 := by kernel_rfl
theorem av_fok : FmtOk 2 [[1, -2]] := ⟨by decide, by decide, by rw [av_flen]; decide⟩
end Go.Proofs.YtkcfdddhnboieaaGreatDoor.NState
end
