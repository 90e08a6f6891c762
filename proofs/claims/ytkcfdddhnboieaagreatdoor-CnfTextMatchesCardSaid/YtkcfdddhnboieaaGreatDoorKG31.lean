/-
  Part 31 of the proof of cnfTextMatches_card: walks and lemmas.
-/
import Derived.Test.YtkcfdddhnboieaaGreatDoorKG29
import Derived.Test.YtkcfdddhnboieaaGreatDoorKG30
import Derived.Test.YtkcfdddhnboieaaGreatDoorKG18
import Derived.Deep.LoopGhost
import Derived.Deep.CutRange
import Derived.Deep.CutBlock
set_option linter.unusedVariables false
set_option linter.unusedSimpArgs false
section
set_option maxHeartbeats 4000000
set_option maxRecDepth 100000
namespace Go.Proofs.YtkcfdddhnboieaaGreatDoor.NText
open Go Go.RowKit Go.Shelf Go.Lib QW.PrintWords QW.PrintLast QW.PrintMore
open NState (infoInt infoInts)
open NPlain (Ev tot chkL rT more_ev key_ev number_ev lit_ev fail_f numV numV_bound litR litR_lt litsR_eq headR parseR_eq cut_10 cut_other commL_eq bt_of)
open PRPar
open PRPropg (netlabref32_Check.calls)
def rdR (s : ByteArray) (r : RS) : Array Value := #[.string s, .int .i64 r.at_, .int .i64 r.e, .int .i64 r.wrong]
def QC (w W : World) (gr : Nat) (s : ByteArray) (r : RS) (W' : World) : Prop := W'.heap[gr]? = some (.cells (rdR s r) 123 (0, 0)) ∧ Below w.heap.size w W' ∧ KeepBut W W' gr none
structure P0 (w W : World) (gr : Nat) (s : ByteArray) (r : RS) : Prop where
 hb : Below w.heap.size w W
 gl : w.heap.size < gr
 box : W.heap[gr]? = some (.cells (rdR s r) 123 (0, 0))
 rb : W.heap[w.heap.size]? = some (.cells #[.int .i64 0, .slice none 0 0] 24 (0, 0))
structure PR (w W : World) (gr bx : Nat) (s : ByteArray) (r : RS) (vars : Int) (q : Nat → Prop) (v : Value) (out : List (List Int)) : Prop where
 p : P0 w W gr s r
 bl : w.heap.size < bx
 ne : gr ≠ bx
 xb : W.heap[bx]? = some (.cells #[.int .i64 vars, v] 24 (0, 0))
 row : Kd.R (Kd.slice 3 (Kd.int .i64)) 26 W w.heap.size (fun k => (k ≠ gr ∧ k ≠ bx ∧ k ≠ w.heap.size) ∧ q k) v out
section
variable {w W W' : World} {gr bx : Nat} {s : ByteArray} {r r' : RS} {vars : Int} {q : Nat → Prop} {v : Value} {out : List (List Int)}
theorem P0.is_ (h : P0 w W gr s r) : IsS123 w W gr s (r.at_ : Int) r.e r.wrong := ⟨h.box, Nat.le_of_lt h.gl⟩
theorem P0.rd (h : P0 w W gr s r) (h' : QC w W gr s r' W') : P0 w W' gr s r' := ⟨h'.2.1, h.gl, h'.1, h'.2.2.blk h.rb (Nat.ne_of_lt h.gl) (by simp)⟩
theorem P0.below (h : P0 w W gr s r) (h' : Below W.heap.size W W') : P0 w W' gr s r := ⟨bwt h.hb h', h.gl, blk_below h.box h', blk_below h.rb h'⟩
theorem P0.cells (h : P0 w W gr s r) : W.cell? ⟨gr, 0, none⟩ = some (.string s) ∧ W.cell? ⟨gr, 1, none⟩ = some (.int .i64 r.at_) ∧ W.cell? ⟨gr, 2, none⟩ = some (.int .i64 r.e) ∧ W.cell? ⟨gr, 3, none⟩ = some (.int .i64 r.wrong) :=
 ⟨(bkc h.box 0).trans rfl, (bkc h.box 1).trans rfl, (bkc h.box 2).trans rfl, (bkc h.box 3).trans rfl⟩
theorem P0.setAt (h : P0 w W gr s r) (b : Nat) : P0 w (W.setCell ⟨gr, 1, none⟩ (.int .i64 b)) gr s { r with at_ := b } :=
 ⟨bws h.hb (Nat.le_of_lt h.gl), h.gl, blk_put h.box 1 _ rfl, blk_far h.rb (Nat.ne_of_lt h.gl) _⟩
theorem P0.start (h : P0 w W gr s r) : PR w (W.alloc (.cells #[.int .i64 0, .slice none 0 0] 24)) gr W.heap.size s r 0 q (.slice none 0 0) [] :=
 ⟨h.below (below_nw _ _), blk_lt h.rb, Nat.ne_of_lt (blk_lt h.box), blk_new W _, Kd.R_nil _ _ _ _ _⟩
theorem P0.key (h : P0 w W gr s r) (hs : s.size ≤ 65536) {ts : List (Nat × List UInt8)} (ht : Tk s.data.toList r.at_ ts) (k : List UInt8) (hk0 : k ≠ []) :
  Calls Tryz.prog 85 #[.pointer (some ⟨gr, 0, none⟩), .string (sb k)] W fun e W' => e = .returned (.tuple #[]) ∧ QC w W gr s (wordT s.size (isK k) r ts).1 W' := by
 obtain ⟨K, hk⟩ := key_ev hs ht k hk0
 refine (netlabref32_Reader_Key.calls K gr s r.at_ r.e r.wrong (sb k) _ _ _ _ w W h.is_ h.hb (hk K (Nat.le_refl _))).mono ?_
 rintro e W' ⟨rfl, h1, h2, h3⟩
 exact ⟨rfl, h1.1, h2, h3⟩
theorem P0.number (h : P0 w W gr s r) (hs : s.size ≤ 65536) {ts : List (Nat × List UInt8)} (ht : Tk s.data.toList r.at_ ts) (most : Int) :
  Calls Tryz.prog 86 #[.pointer (some ⟨gr, 0, none⟩), .int .i64 most] W fun e W' => e = .returned (.int .i64 (numV most s.size r ts)) ∧ QC w W gr s (wordT s.size (numF most) r ts).1 W' := by
 obtain ⟨K, hk⟩ := number_ev hs ht most
 refine (netlabref32_Reader_Number.calls K gr s r.at_ r.e r.wrong most _ _ _ _ _ w W h.is_ h.hb (hk K (Nat.le_refl _))).mono ?_
 rintro e W' ⟨rfl, h1, h2, h3⟩
 exact ⟨rfl, h1.1, h2, h3⟩
theorem P0.literal (h : P0 w W gr s r) (hs : s.size ≤ 65536) {ts : List (Nat × List UInt8)} (ht : Tk s.data.toList r.at_ ts) :
  Calls Tryz.prog 87 #[.pointer (some ⟨gr, 0, none⟩)] W fun e W' => e = .returned (.int .i64 (litR s.size r ts)) ∧ QC w W gr s (wordT s.size (fun x => (litT x).2) r ts).1 W' := by
 obtain ⟨K, hk⟩ := lit_ev hs ht
 refine (netlabref32_Reader_Literal.calls K gr s r.at_ r.e r.wrong _ _ _ _ _ w W h.is_ h.hb (hk K (Nat.le_refl _))).mono ?_
 rintro e W' ⟨rfl, h1, h2, h3⟩
 exact ⟨rfl, h1.1, h2, h3⟩
theorem P0.more (h : P0 w W gr s r) (hs : s.size ≤ 65536) {ts : List (Nat × List UInt8)} (ht : Tk s.data.toList r.at_ ts) :
  Calls Tryz.prog 88 #[.pointer (some ⟨gr, 0, none⟩)] W fun e W' => e = .returned (.bool (decide (ts ≠ []))) ∧ QC w W gr s (skipS s.size r ts) W' := by
 obtain ⟨K, hk⟩ := more_ev hs ht r.e r.wrong
 refine (netlabref32_Reader_More.calls K gr s r.at_ r.e r.wrong _ _ _ _ _ w W h.is_ h.hb (hk K (Nat.le_refl _))).mono ?_
 rintro e W' ⟨rfl, h1, h2, h3⟩
 exact ⟨rfl, h1.1, h2, h3⟩
theorem P0.fail (h : P0 w W gr s r) (a e0 : Int) :
  Calls Tryz.prog 89 #[.pointer (some ⟨gr, 0, none⟩), .int .i64 a, .int .i64 e0] W fun e W' => e = .returned (.tuple #[]) ∧ QC w W gr s (failS r a e0) W' := by
 refine (netlabref32_Reader_Fail.calls gr s r.at_ r.e r.wrong a e0 _ _ _ _ w W h.is_ h.hb (fail_f s r a e0)).mono ?_
 rintro e W' ⟨rfl, h1, h2, h3⟩
 exact ⟨rfl, h1.1, h2, h3⟩
theorem PR.rd (h : PR w W gr bx s r vars q v out) (h' : QC w W gr s r' W') : PR w W' gr bx s r' vars q v out :=
 ⟨h.p.rd h', h.bl, h.ne, h'.2.2.blk h.xb (fun e => h.ne e.symm) (by simp), Kd.R_keep h.row h'.2.2 (fun _ hk => hk.1.1)⟩
theorem PR.below (h : PR w W gr bx s r vars q v out) (hb : Below W.heap.size W W') : PR w W' gr bx s r vars q v out :=
 ⟨h.p.below hb, h.bl, h.ne, blk_below h.xb hb, Kd.R_below h.row hb⟩
theorem PR.xcells (h : PR w W gr bx s r vars q v out) : W.cell? ⟨bx, 0, none⟩ = some (.int .i64 vars) ∧ W.cell? ⟨bx, 1, none⟩ = some v := ⟨(bkc h.xb 0).trans rfl, (bkc h.xb 1).trans rfl⟩
theorem PR.frozen (h : PR w W gr bx s r vars q v out) (j : Nat) : W.frozen? ⟨bx, j, none⟩ = false := bkf h.xb j
theorem PR.rcells (h : PR w W gr bx s r vars q v out) : W.cell? ⟨w.heap.size, 0, none⟩ = some (.int .i64 0) ∧ W.cell? ⟨w.heap.size, 1, none⟩ = some (.slice none 0 0) ∧ W.frozen? ⟨w.heap.size, 0, none⟩ = false ∧ W.frozen? ⟨w.heap.size, 1, none⟩ = false := ⟨(bkc h.p.rb 0).trans rfl, (bkc h.p.rb 1).trans rfl, bkf h.p.rb 0, bkf h.p.rb 1⟩
theorem PR.vset (h : PR w W gr bx s r vars q v out) (x : Int) : PR w (W.setCell ⟨bx, 0, none⟩ (.int .i64 x)) gr bx s r x q v out :=
 ⟨⟨bws h.p.hb (Nat.le_of_lt h.bl), h.p.gl, blk_far h.p.box h.ne _, blk_far h.p.rb (Nat.ne_of_lt h.bl) _⟩, h.bl, h.ne, blk_put h.xb 0 _ rfl, Kd.R_far (p := ⟨bx, 0, none⟩) h.row (fun _ hk => hk.1.2.1) _⟩
theorem PR.mono {q' : Nat → Prop} (h : PR w W gr bx s r vars q v out) (hq : ∀ k, k < W.heap.size → q k → q' k) : PR w W gr bx s r vars q' v out :=
 ⟨h.p, h.bl, h.ne, h.xb, Kd.R_mono (Kd.R_bound h.row) (fun k hk => ⟨hk.1.1, hq k hk.2.2.1 hk.1.2⟩)⟩
theorem PR.ret (h : PR w W gr bx s r vars q v out) : ((W.setCell ⟨w.heap.size, 0, none⟩ (.int .i64 vars)).setCell ⟨w.heap.size, 1, none⟩ v).heap[w.heap.size]? = some (.cells #[.int .i64 vars, v] 24 (0, 0)) ∧ Kd.R (Kd.slice 3 (Kd.int .i64)) 26 ((W.setCell ⟨w.heap.size, 0, none⟩ (.int .i64 vars)).setCell ⟨w.heap.size, 1, none⟩ v) w.heap.size (fun _ => True) v out ∧ Below w.heap.size w ((W.setCell ⟨w.heap.size, 0, none⟩ (.int .i64 vars)).setCell ⟨w.heap.size, 1, none⟩ v) :=
 ⟨blk_put (blk_put h.p.rb 0 _ rfl) 1 _ rfl, Kd.R_mono (Kd.R_far (p := ⟨w.heap.size, 1, none⟩) (Kd.R_far (p := ⟨w.heap.size, 0, none⟩) h.row (fun _ hk => hk.1.2.2) _) (fun _ hk => hk.1.2.2) _) (fun _ _ => trivial), bws (bws h.p.hb (Nat.le_refl _)) (Nat.le_refl _)⟩
theorem PR.retz (h : PR w W gr bx s r vars q v out) : PR w ((W.setCell ⟨w.heap.size, 0, none⟩ (.int .i64 0)).setCell ⟨w.heap.size, 1, none⟩ (.slice none 0 0)) gr bx s r vars q v out :=
 ⟨⟨bws (bws h.p.hb (Nat.le_refl _)) (Nat.le_refl _), h.p.gl, blk_far (blk_far h.p.box (Nat.ne_of_gt h.p.gl) _) (Nat.ne_of_gt h.p.gl) _, blk_put (blk_put h.p.rb 0 _ rfl) 1 _ rfl⟩, h.bl, h.ne, blk_far (blk_far h.xb (Nat.ne_of_gt h.bl) _) (Nat.ne_of_gt h.bl) _, Kd.R_far (p := ⟨w.heap.size, 1, none⟩) (Kd.R_far (p := ⟨w.heap.size, 0, none⟩) h.row (fun _ hk => hk.1.2.2) _) (fun _ hk => hk.1.2.2) _⟩
theorem PR.over {B base : Nat} {cv : Value} {cl : List Int} (h : PR w W gr bx s r vars (fun k => k < B) v out) (hr : Kd.R (Kd.int .i64) 3 W base (fun k => B ≤ k) cv cl) (hg : W.grownBy W' cv.ownBlock) (hb : Below w.heap.size w W') : PR w W' gr bx s r vars (fun k => k < B) v out :=
 ⟨⟨hb, h.p.gl, bkg h.p.box hg (Kd.R_ne hr h.p.box (by decide)), bkg h.p.rb hg (Kd.R_ne hr h.p.rb (by decide))⟩, h.bl, h.ne, bkg h.xb hg (Kd.R_ne hr h.xb (by decide)), Kd.R_grown h.row hg (fun k hk e => by have := hr.1 k e.symm; omega)⟩
theorem PR.put {v1 : Value} {out1 : List (List Int)} {q' : Nat → Prop} (h : PR w W gr bx s r vars q v out) (hr : Kd.R (Kd.slice 3 (Kd.int .i64)) 26 W' w.heap.size (fun k => (k ≠ gr ∧ k ≠ bx ∧ k ≠ w.heap.size) ∧ q' k) v1 out1) (hg : W.grownBy W' v.ownBlock) (hb : Below w.heap.size w W') : PR w (W'.setCell ⟨bx, 1, none⟩ v1) gr bx s r vars q' v1 out1 := by
 have h1 : W'.heap[gr]? = _ := bkg h.p.box hg (Kd.R_ne h.row h.p.box (by decide))
 have h2 : W'.heap[bx]? = _ := bkg h.xb hg (Kd.R_ne h.row h.xb (by decide))
 have h3 : W'.heap[w.heap.size]? = _ := bkg h.p.rb hg (Kd.R_ne h.row h.p.rb (by decide))
 exact ⟨⟨bws hb (Nat.le_of_lt h.bl), h.p.gl, blk_far h1 h.ne _, blk_far h3 (Nat.ne_of_lt h.bl) _⟩, h.bl, h.ne, blk_put h2 1 _ rfl, Kd.R_far (p := ⟨bx, 1, none⟩) hr (fun _ hk => hk.1.2.1) _⟩
end
def litN (x : Int) (ts : List (Nat × List UInt8)) : Nat := 2 * ts.length + (if x ≠ 0 then 1 else 0)
theorem tk_less {l : List UInt8} {i : Nat} {ts : List (Nat × List UInt8)} (h : Tk l i ts) : decide (ts ≠ []) = decide ((peekT l.length ts).2 < l.length) := by
 cases ts with
 | nil => simp [peekT]
 | cons p ts =>
  obtain ⟨a, x⟩ := p
  have := tk_word h
  rw [decide_eq_true (by simp), decide_eq_true]
  simp only [peekT]; omega
def rparR25.T : Bool × List (List Nat × List Nat) := (true, [([], []), ([], []), ([1], [1]), ([2], [2]), ([3], [3]), ([], []), ([5], [5]), ([6], [6]), ([7], [7]), ([0, 0], [0]), ([4, 9, 0, 1, 2, 3, 4, 9], [4]), ([8, 10, 0, 1, 2, 3, 4, 5, 6, 7, 8, 9, 10], [8])])
def rparR25.B : List Nat := [0, 0, 2, 6, 14, 0, 32, 96, 224, 1, 543, 2047]
theorem rparR25.tab : rtab .any (opsOf Tryz.f32 25) = rparR25.T := by kernel_rfl
theorem rparR25.bits : waitsOk rparR25.T.2 rparR25.B = true := by kernel_rfl
theorem rparse_calls (s : ByteArray) (w : World) (ts : List (Nat × List UInt8)) (ht : Tk s.data.toList (s.size - (commL s.size s.data.toList).length) ts) :
  Calls Tryz.prog 32 #[.string s] w (ParseCPost w (parseC s.size (s.size - (commL s.size s.data.toList).length) ts)) := by
 have hu24 := Tryz.underlying24
 obtain ⟨p0, hp0⟩ : ∃ p0, s.size - (commL s.size s.data.toList).length = p0 := ⟨_, rfl⟩
 rw [hp0] at ht ⊢
 go_enter Tryz.func32, Tryz.ntmps32
 by_cases hl : 65536 < s.size
 ·have hl' : decide ((s.size : Int) > 65536) = true := decide_eq_true (by omega)
  have HQ : Az (parseC s.size p0 ts = (0, [], 0, 5)) := ⟨by unfold parseC; rw [if_pos hl]⟩
  clear hl
  have BX := Az.mk (blk_new w (.cells #[.int .i64 0, .slice none 0 0] 24))
  go_wp2_with fail
  refine bodyPost_ret (results_ctt rfl _ _ w.heap.size 24 #[.int .i64 0, .slice none 0 0] (0, 0) _ rfl BX.out hu24 rfl (by kernel_rfl)) rfl ?_
  unfold ParseCPost; rw [HQ.out]
  exact ⟨_, rfl, Kd.R_nil _ _ _ _ _, below_nw _ _⟩
 ·have hl' : decide ((s.size : Int) > 65536) = false := decide_eq_false (by omega)
  have hs : s.size ≤ 65536 := by omega
  have HP := Az.mk (parseR_eq s.size p0 ts hl)
  have HS := Az.mk hs
  have HP0 := Az.mk hp0
  have HSL : Az (s.data.toList.length = s.size) := ⟨(size_eq s).symm⟩
  have HT0 := Az.mk ht
  clear hl hs ht hp0
  have HX0 : Az (P0 w ((w.alloc (.cells #[.int .i64 0, .slice none 0 0] 24)).alloc (.cells #[.string s, .int .i64 0, .int .i64 0, .int .i64 0] 123)) (w.heap.size + 1) s ⟨0, 0, 0⟩) := ⟨by
   have h1 := blk_new (w.alloc (.cells #[.int .i64 0, .slice none 0 0] 24)) (.cells (rdR s ⟨0, 0, 0⟩) 123)
   rw [World.size_alloc] at h1
   exact ⟨(below_nw _ _).alloc (by rw [World.size_alloc]; omega) _, Nat.lt_succ_self _, h1, blk_below (blk_new w _) (below_nw _ _)⟩⟩
  go_upto_block 0 with fail
  generalize (w.alloc (.cells #[.int .i64 0, .slice none 0 0] 24)).alloc (.cells #[.string s, .int .i64 0, .int .i64 0, .int .i64 0] 123) = w1 at HX0 ⊢
  generalize w.heap.size + 1 = gr at HX0 ⊢
  go_cut [] from 19 to 69 (fun wc => Az (P0 w wc gr s ⟨p0, 0, 0⟩))
  case first =>
   clear hl'
   go_wp2_with fail
   go_loopg [] s.size (fun f wr => ∃ i : Nat, Az (i ≤ s.size ∧ s.size ≤ f + i) ∧ Az (commL s.size s.data.toList = commL f (s.data.toList.drop i)) ∧ Az (P0 w wr gr s ⟨i, 0, 0⟩))
   case atStart => exact ⟨0, ⟨⟨Nat.zero_le _, Nat.le_refl _⟩⟩, ⟨by simp⟩, HX0⟩
   case round =>
    clear HX0
    obtain ⟨i, HI, HC, HX⟩ := hrel
    obtain ⟨h0, h1, h2, h3⟩ := HX.out.cells
    have q0 : (0 : Int) ≤ (i : Int) := Int.natCast_nonneg i
    by_cases hlt : i < s.size
    ·obtain ⟨b, hb⟩ : ∃ b, s.data.toList[i]? = some b := ⟨_, List.getElem?_eq_getElem (by rw [HSL.out]; exact hlt)⟩
     have hd : s.data.toList.drop i = b :: s.data.toList.drop (i + 1) := by
      obtain ⟨h1, h2⟩ := List.getElem?_eq_some_iff.1 hb
      rw [List.drop_eq_getElem_cons h1, h2]
     have hcl : commL gk (b :: s.data.toList.drop (i + 1)) = if b = 99 then commL (gk - 1) (Lib.cut (s.data.toList.drop (i + 1)) [10]).2.1 else b :: s.data.toList.drop (i + 1) := commL_eq (by rw [← hd, List.length_drop, HSL.out]; have := HI.out; omega)
     have hbt := bt_of hb
     have q1 : (i : Int) < (s.size : Int) := by omega
     have hlt' : decide ((i : Int) < (s.size : Int)) = true := decide_eq_true q1
     have hlt2 : decide (i < s.size) = true := decide_eq_true hlt
     have hx : ∀ h : i < s.size, ((s[i]'h).toNat : Int) = bt s (i : Int) := bt_at s (i : Int)
     by_cases hc : b = 99
     ·have hb9 : (bt s (i : Int) == 99) = true := by rw [hbt, hc]; rfl
      rw [if_pos hc] at hcl
      obtain ⟨f, rfl⟩ : ∃ f, gk = f + 1 := ⟨gk - 1, by have := HI.out; omega⟩
      have HCL : Az (commL s.size s.data.toList = commL f (Lib.cut (s.data.toList.drop i) [10]).2.1) := ⟨by rw [HC.out, hd, hcl, hc, cut_other (by decide)]; rfl⟩
      clear hcl hbt hc hd hb HC
      replace q0 := eq_true q0
      replace q1 := eq_true q1
      have HLT := Az.mk hlt
      clear hlt
      go_upto_block 2 with fail
      clear hb9 hx hlt' hlt2 h0 h1 h2 h3 q0 q1
      go_wp2_with fail
      go_loopg [] s.size (fun f2 wr => ∃ j : Nat, Az (i ≤ j ∧ j ≤ s.size ∧ f2 + j = s.size + i) ∧ Az ((Lib.cut (s.data.toList.drop i) [10]).2.1 = (Lib.cut (s.data.toList.drop j) [10]).2.1) ∧ Az (P0 w wr gr s ⟨j, 0, 0⟩))
      case atStart => exact ⟨i, ⟨⟨Nat.le_refl _, HI.out.1, rfl⟩⟩, ⟨rfl⟩, HX⟩
      case round =>
       clear HX
       obtain ⟨j, HJ, HCJ, HX⟩ := hrel
       obtain ⟨h0, h1, h2, h3⟩ := HX.out.cells
       have f1 := bkf HX.out.box 1
       obtain ⟨j1, hj1⟩ : ∃ j1 : Nat, j1 = j + 1 := ⟨_, rfl⟩
       have hwj : IntKind.i64.wrap ((j : Int) + 1) = (j1 : Int) := by rw [IntKind.wrap_i64]; have := HJ.out; have := HS.out; omega
       obtain ⟨i2, hi2⟩ : ∃ i2 : Nat, i2 = min j1 s.size := ⟨_, rfl⟩
       have hmn : min (j1 : Int) (s.size : Int) = (i2 : Int) := by omega
       have q0 : (0 : Int) ≤ (j : Int) := Int.natCast_nonneg j
       by_cases hlt : j < s.size
       ·obtain ⟨b, hb⟩ : ∃ b, s.data.toList[j]? = some b := ⟨_, List.getElem?_eq_getElem (by rw [HSL.out]; exact hlt)⟩
        have hd : s.data.toList.drop j = b :: s.data.toList.drop (j + 1) := by
         obtain ⟨h1, h2⟩ := List.getElem?_eq_some_iff.1 hb
         rw [List.drop_eq_getElem_cons h1, h2]
        have hbt := bt_of hb
        have q1 : (j : Int) < (s.size : Int) := by omega
        have hlt' : decide ((j : Int) < (s.size : Int)) = true := decide_eq_true q1
        have hlt2 : decide (j < s.size) = true := decide_eq_true hlt
        have hx : ∀ h : j < s.size, ((s[j]'h).toNat : Int) = bt s (j : Int) := bt_at s (j : Int)
        have HJ1 := Az.mk hj1
        have HI2 := Az.mk hi2
        have HLTJ := Az.mk hlt
        replace q0 := eq_true q0
        replace q1 := eq_true q1
        by_cases hc : b = 10
        ·have hb9 : (bt s (j : Int) != 10) = false := by rw [hbt, hc]; rfl
         have HN : Az ((Lib.cut (s.data.toList.drop i) [10]).2.1 = s.data.toList.drop i2) := ⟨by
          have e : i2 = j + 1 := by omega
          rw [HCJ.out, hd, hc, cut_10, e]⟩
         clear hbt hc hd hb hj1 hi2 hlt
         go_wp2_with fail
         go_roundg f
         case measure => omega
         case rel => exact ⟨i2, ⟨by have := HI2.out; have := HJ1.out; have := HJ.out; have := HLTJ.out; have := HI.out; omega⟩, ⟨by rw [HCL.out, HN.out]⟩, ⟨HX.out.setAt i2⟩⟩
        ·have hb9 : (bt s (j : Int) != 10) = true := by
          rw [hbt]; exact bne_iff_ne.2 (fun h => hc (UInt8.toNat_inj.1 (by have : (10 : UInt8).toNat = 10 := rfl; omega)))
         have HN : Az ((Lib.cut (s.data.toList.drop i) [10]).2.1 = (Lib.cut (s.data.toList.drop j1) [10]).2.1) := ⟨by
          rw [HCJ.out, hd, cut_other hc, hj1]⟩
         clear hbt hc hd hb hj1 hi2 hlt hmn
         obtain ⟨g, rfl⟩ : ∃ g, gk = g + 1 := ⟨gk - 1, by have := HJ.out; have := HLTJ.out; omega⟩
         go_wp2_with fail
         go_roundg g
         case measure => omega
         case rel => exact ⟨j1, ⟨by have := HJ1.out; have := HJ.out; have := HLTJ.out; omega⟩, HN, ⟨HX.out.setAt j1⟩⟩
       ·have hlt' : decide ((j : Int) < (s.size : Int)) = false := decide_eq_false (by omega)
        have hlt2 : decide (j < s.size) = false := decide_eq_false hlt
        have HN : Az ((Lib.cut (s.data.toList.drop i) [10]).2.1 = s.data.toList.drop i2) := ⟨by
         rw [HCJ.out, List.drop_of_length_le (by rw [HSL.out]; omega), List.drop_of_length_le (by rw [HSL.out]; have := HJ.out; omega)]; rfl⟩
        have HI2 : Az (i2 = s.size) := ⟨by have := HJ.out; omega⟩
        clear hj1 hi2 hlt q0
        go_wp2_with fail
        go_roundg f
        case measure => omega
        case rel => exact ⟨i2, ⟨by have := HI2.out; omega⟩, ⟨by rw [HCL.out, HN.out]⟩, ⟨HX.out.setAt i2⟩⟩
     ·have hb9 : (bt s (i : Int) == 99) = false := by
       rw [hbt]; exact beq_eq_false_iff_ne.2 (fun h => hc (UInt8.toNat_inj.1 (by have : (99 : UInt8).toNat = 99 := rfl; omega)))
      have HE : Az (i = p0) := ⟨by
       rw [if_neg hc] at hcl
       have h1 := HC.out
       rw [hd, hcl] at h1
       have h2 := HP0.out
       rw [h1, ← hd, List.length_drop, HSL.out] at h2
       omega⟩
      clear hcl hbt hc hd hb
      replace q0 := eq_true q0
      replace q1 := eq_true q1
      go_wp2_with fail
      go_meet
      case rel => exact ⟨by rw [← HE.out]; exact HX.out⟩
    ·have hlt' : decide ((i : Int) < (s.size : Int)) = false := decide_eq_false (by omega)
     have hlt2 : decide (i < s.size) = false := decide_eq_false hlt
     have HE : Az (i = p0) := ⟨by
      have h1 := HC.out
      have hn : s.data.toList.drop i = [] := List.drop_of_length_le (by rw [HSL.out]; omega)
      rw [hn] at h1
      have hcl : commL gk [] = [] := commL_eq (by simp)
      have h2 := HP0.out
      rw [h1, hcl] at h2
      have h3 := HI.out
      simp at h2
      omega⟩
     clear hlt q0
     go_wp2_with fail
     go_meet
     case rel => exact ⟨by rw [← HE.out]; exact HX.out⟩
  case rest =>
   clear HX0
   have HX1 := hcut
   clear hcut
   obtain ⟨k1, hk1⟩ : ∃ k1, wordT s.size (isK [112]) ⟨p0, 0, 0⟩ ts = k1 := ⟨_, rfl⟩
   have HT1 : Az (Tk s.data.toList k1.1.at_ k1.2) := ⟨by rw [← hk1, ← HSL.out]; exact wordT_tk HT0.out⟩
   have HK1 := Az.mk hk1
   have HC1 := Az.mk (HX1.out.key HS.out HT0.out [112] (by decide))
   rw [hk1] at HC1
   clear hk1
   go_upto_region 9 with (go_at_call 85; refine HC1.out.mono ?_; rintro e w3 ⟨rfl, hb3⟩; have HX2 := Az.mk (HX1.out.rd hb3); clear hb3)
   clear HX1 HC1
   obtain ⟨k2, hk2⟩ : ∃ k2, wordT s.size (isK [99, 110, 102]) k1.1 k1.2 = k2 := ⟨_, rfl⟩
   have HT2 : Az (Tk s.data.toList k2.1.at_ k2.2) := ⟨by rw [← hk2, ← HSL.out]; exact wordT_tk HT1.out⟩
   have HK2 := Az.mk hk2
   have HC2 := Az.mk (HX2.out.key HS.out HT1.out [99, 110, 102] (by decide))
   rw [hk2] at HC2
   clear hk2
   go_upto_region 10 with (go_at_call 85; refine HC2.out.mono ?_; rintro e w4 ⟨rfl, hb4⟩; have HX3 := Az.mk (HX2.out.rd hb4); clear hb4)
   clear HX2 HC2
   have HX4 := Az.mk (HX3.out.start (q := fun _ => True))
   go_upto_region 11 with fail
   generalize w4.alloc (.cells #[.int .i64 0, .slice none 0 0] 24) = w5 at HX4 ⊢
   generalize w4.heap.size = gc at HX4 ⊢
   clear HX3
   obtain ⟨k3, hk3⟩ : ∃ k3, wordT s.size (numF 4096) k2.1 k2.2 = k3 := ⟨_, rfl⟩
   obtain ⟨vars, hvars⟩ : ∃ v, numV 4096 s.size k2.1 k2.2 = v := ⟨_, rfl⟩
   have HT3 : Az (Tk s.data.toList k3.1.at_ k3.2) := ⟨by rw [← hk3, ← HSL.out]; exact wordT_tk HT2.out⟩
   have HN3 := Az.mk (HX4.out.p.number HS.out HT2.out 4096)
   rw [hk3, hvars] at HN3
   have HK3 := Az.mk hk3
   have HVARS := Az.mk hvars
   clear hk3 hvars
   go_upto_region 12 with (go_at_call 86; refine HN3.out.mono ?_; rintro e w6 ⟨rfl, hb6⟩; have HX5 := Az.mk (HX4.out.rd hb6); have c0 := HX5.out.xcells.1; have f0 := HX5.out.frozen 0; clear hb6)
   have HX6 := Az.mk (HX5.out.vset vars)
   clear HX4 HX5 HN3 c0 f0
   generalize w6.setCell ⟨gc, 0, none⟩ (.int .i64 vars) = w7 at HX6 ⊢
   obtain ⟨k4, hk4⟩ : ∃ k4, wordT s.size (numF 16384) k3.1 k3.2 = k4 := ⟨_, rfl⟩
   obtain ⟨many, hmany⟩ : ∃ v, numV 16384 s.size k3.1 k3.2 = v := ⟨_, rfl⟩
   have HT4 : Az (Tk s.data.toList k4.1.at_ k4.2) := ⟨by rw [← hk4, ← HSL.out]; exact wordT_tk HT3.out⟩
   have HN4 := Az.mk (HX6.out.p.number HS.out HT3.out 16384)
   have HMB : Az (0 ≤ many ∧ many ≤ 4294967295) := ⟨by rw [← hmany]; exact numV_bound _ _ _ _⟩
   rw [hk4, hmany] at HN4
   have HK4 := Az.mk hk4
   have HMANY := Az.mk hmany
   clear hk4 hmany
   go_upto_region 13 with (go_at_call 86; refine HN4.out.mono ?_; rintro e w8 ⟨rfl, hb8⟩; have HX7 := Az.mk (HX6.out.rd hb8); clear hb8)
   clear HX6 HN4
   have HHEAD : Az (headR s.size p0 ts = (k4, vars, many)) := ⟨by unfold headR; simp only [HK1.out, HK2.out, HK3.out, HK4.out, HVARS.out, HMANY.out]⟩
   rw [HHEAD.out] at HP
   clear HHEAD HK1 HK2 HK3 HK4 HVARS HMANY HT0 HT1 HT2 HT3
   obtain ⟨c, hc⟩ : ∃ c, bodyS s.size (k4, vars, many) = c := ⟨_, rfl⟩
   have HC : Az (clsS s.size many.toNat k4.1 k4.2 = c) := ⟨hc⟩
   rw [hc] at HP
   have HCS : Az (c.2.1.length ≤ 65537 ∧ tot c.2.1 ≤ 65536 ∧ Tk s.data.toList c.1.at_ c.2.2) := ⟨by
    have h1 := clsS_sizes s.size many.toNat k4.1 k4.2
    have h2 := tk_count HT4.out
    have h3 := clsS_tk (m := many.toNat) HT4.out
    rw [HSL.out] at h2 h3
    have h4 := HS.out
    rw [HC.out] at h1 h3
    exact ⟨by omega, by omega, h3⟩⟩
   have HN : Az (k4.2.length ≤ s.size) := ⟨by have h2 := tk_count HT4.out; rw [HSL.out] at h2; omega⟩
   clear hc hl'
   go_upto_block 4 with fail
   go_cut [8] from 79 to 106 (fun _ wc => ∃ v, Az (PR w wc gr gc s c.1 vars (fun _ => True) v c.2.1))
   case first =>
    clear HP hu24
    go_wp2_with fail
    go_loopg [8] many.toNat (fun g v8 wr => ∃ (i : Nat) (r : RS) (ts' : List (Nat × List UInt8)) (v : Value) (out : List (List Int)), v8 = .int .i64 i ∧ Az (i + g = many.toNat ∧ out.length ≤ i) ∧ Az (PR w wr gr gc s r vars (fun _ => True) v out) ∧ Az (Tk s.data.toList r.at_ ts') ∧ Az (clsS s.size many.toNat k4.1 k4.2 = ((clsS s.size g r ts').1, out ++ (clsS s.size g r ts').2.1, (clsS s.size g r ts').2.2)))
    case atStart => exact ⟨0, k4.1, k4.2, _, [], rfl, ⟨⟨by omega, Nat.le_refl _⟩⟩, HX7, HT4, ⟨by simp⟩⟩
    case round =>
     clear HX7 HT4 HN
     obtain ⟨i, r, ts', v, out, rfl, HI, HX, HT, HE⟩ := hrel
     obtain ⟨h0, h1, h2, h3⟩ := HX.out.p.cells
     by_cases hlt : i < many.toNat
     ·have hlt' : decide ((i : Int) < many) = true := decide_eq_true (by omega)
      by_cases he : r.e = 0
      ·have he' : (r.e == 0) = true := by rw [he]; rfl
       have HE0 := Az.mk he
       have HLT := Az.mk hlt
       clear he hlt
       go_upto_region 16 with fail
       have HTN : Az (ts'.length ≤ s.size) := ⟨by have h2 := tk_count HT.out; rw [HSL.out] at h2; omega⟩
       have HL0 := Az.mk (HX.out.p.literal HS.out HT.out)
       have HBW : Az (gr < wr.heap.size ∧ gc < wr.heap.size ∧ w.heap.size < wr.heap.size) := ⟨blk_lt HX.out.p.box, blk_lt HX.out.xb, blk_lt HX.out.p.rb⟩
       have HXB : Az (PR w wr gr gc s r vars (fun k => k < wr.heap.size) v out) := ⟨HX.out.mono (fun k hk _ => hk)⟩
       clear HX
       obtain ⟨B, hB⟩ : ∃ B, wr.heap.size = B := ⟨_, rfl⟩
       have HBS0 : Az (B ≤ wr.heap.size) := ⟨by omega⟩
       rw [hB] at HBW HXB
       clear hB
       obtain ⟨q1, hq1⟩ : ∃ q1, wordT s.size (fun x => (litT x).2) r ts' = q1 := ⟨_, rfl⟩
       obtain ⟨x1, hx1⟩ : ∃ x1, litR s.size r ts' = x1 := ⟨_, rfl⟩
       have HQ1 := Az.mk hq1
       have HQX := Az.mk hx1
       rw [hq1, hx1] at HL0
       clear hq1 hx1
       clear h0 h1 h2 h3
       go_upto_block 6 with (go_at_call 87; refine HL0.out.mono ?_; rintro e w8 ⟨rfl, hb8⟩; have HX8 := Az.mk (HXB.out.rd hb8); have HBS8 := Az.mk (Nat.le_trans HBS0.out hb8.2.2.1); clear hb8)
       clear HL0 HXB
       obtain ⟨lo, hlo⟩ : ∃ lo, litsS s.size ts' r = lo := ⟨_, rfl⟩
       have HLO := Az.mk hlo
       clear hlo
       go_cut [9, 10] from 93 to 100 (fun s9 _ wc => Az (PR w wc gr gc s lo.1 vars (fun k => k < B) v out) ∧ Az (Kd.R (Kd.int .i64) 3 wc w.heap.size (fun k => B ≤ k) s9 lo.2.1))
       case first =>
        go_wp2_with fail
        go_loopg [9, 10] (litN x1 q1.2) (fun g v9 v10 wx => ∃ (x : Int) (rr : RS) (tt : List (Nat × List UInt8)) (cl : List Int), g = litN x tt ∧ v10 = .int .i64 x ∧ Az (PR w wx gr gc s rr vars (fun k => k < B) v out) ∧ Az (Kd.R (Kd.int .i64) 3 wx w.heap.size (fun k => B ≤ k) v9 cl) ∧ Az (Tk s.data.toList rr.at_ tt) ∧ Az (cl.length + tt.length + (if x = 0 then 0 else 1) ≤ s.size) ∧ Az (B ≤ wx.heap.size) ∧ Az (lo = if x ≠ 0 then ((litsS s.size tt rr).1, cl ++ x :: (litsS s.size tt rr).2.1, (litsS s.size tt rr).2.2) else (rr, cl, tt)))
        case atStart => exact ⟨x1, q1.1, q1.2, [], rfl, rfl, HX8, ⟨Kd.R_nil _ _ _ _ _⟩, ⟨by rw [← HQ1.out, ← HSL.out]; exact wordT_tk HT.out⟩, ⟨by
         have h1 := HTN.out
         rw [← HQ1.out]
         by_cases hx : x1 = 0
         ·have := wordT_le s.size (fun x => (litT x).2) r ts'
          rw [if_pos hx]; simp; omega
         ·have h2 := litR_lt (len := s.size) (r := r) (ts := ts') (by rw [HQX.out]; exact hx)
          rw [if_neg hx]; simp; omega⟩, ⟨HBS8.out⟩, ⟨by rw [← HLO.out, litsR_eq, HQ1.out, HQX.out]; rfl⟩⟩
        case round =>
         clear HX8 HBS8 HE HI HT
         obtain ⟨x, rr, tt, cl, rfl, rfl, HX, HR, HTT, HSZ, HBS, HLE⟩ := hrel
         obtain ⟨Ac, cc, ec⟩ := Kd.R_slice HR.out
         subst ec
         by_cases hx0 : x = 0
         ·have hx' : (x != 0) = false := by rw [hx0]; rfl
          have HQ : Az (lo = (rr, cl, tt)) := ⟨by rw [HLE.out, if_neg (by simp [hx0])]⟩
          clear hx0
          go_wp2_with fail
          go_meet
          case rel => exact ⟨by rw [HQ.out]; exact HX, by rw [HQ.out]; exact HR⟩
         ·have hx' : (x != 0) = true := bne_iff_ne.2 hx0
          have HQ : Az (lo = ((litsS s.size tt rr).1, cl ++ x :: (litsS s.size tt rr).2.1, (litsS s.size tt rr).2.2)) := ⟨by rw [HLE.out, if_pos hx0]⟩
          have HSZ2 : Az (cl.length + 1 + tt.length ≤ s.size) := ⟨by have := HSZ.out; rw [if_neg hx0] at this; omega⟩
          have HGE : Az (litN x tt = 2 * tt.length + 1) := ⟨by unfold litN; rw [if_pos hx0]⟩
          have HL1 : Az (∀ W1, PR w W1 gr gc s rr vars (fun k => k < B) v out → Calls Tryz.prog 87 #[.pointer (some ⟨gr, 0, none⟩)] W1 fun e W' => e = .returned (.int .i64 (litR s.size rr tt)) ∧ QC w W1 gr s (wordT s.size (fun x => (litT x).2) rr tt).1 W') := ⟨fun W1 h1 => h1.p.literal HS.out HTT.out⟩
          obtain ⟨q2, hq2⟩ : ∃ q2, wordT s.size (fun x => (litT x).2) rr tt = q2 := ⟨_, rfl⟩
          obtain ⟨x2, hx2⟩ : ∃ x2, litR s.size rr tt = x2 := ⟨_, rfl⟩
          have HQ2 := Az.mk hq2
          have HQX2 := Az.mk hx2
          rw [hq2, hx2] at HL1
          clear hq2 hx2 hx0 HSZ HLE
          go_wp2_with (first | (go_at_call 87; refine (HL1.out w9 HX9.out).mono ?_; rintro e w10 ⟨rfl, hb10⟩; have HX10 := Az.mk (HX9.out.rd hb10); have HR10 := Az.mk (Kd.R_keep HR9.out hb10.2.2 (fun k hk => by have := HBW.out.1; omega)); have HB10 := Az.mk (Nat.le_trans HB9.out hb10.2.2.1); clear hb10) | ((with_reducible refine gate_builtin (b := .append) (xs := #[.tmp 97, .tmp 99]) rfl ?_); at_builtin; refine Kd.R_append (Kd.int .i64) (w0 := w) w.heap.size rfl (.tmp 97) (.tmp 99) 26 3 (.int .i64 0) 8 rfl Tryz.underlying26 infoInt rfl (by decide) (by omega) (.slice Ac cl.length cc) cl x [.int .i64 x] (fun k => B ≤ k) (fun _ => False) rfl rfl ?aP (fun _ hk => hk.elim) ?aF ?aO ?aB ?aS ?aL ?_; (case aP => exact rfl); (case aF => exact fun k hk => Nat.le_trans HBS.out hk); (case aO => exact HR.out); (case aB => exact HX.out.p.hb); (case aS => exact HX.out.p.hb.size); (case aL => have h1 := HSZ2.out; have h2 := HS.out; omega); intro v9 w9 ho hb hg hat; have HX9 := Az.mk (HX.out.over HR.out hg hb); have HR9 := Az.mk ho; have HB9 := Az.mk (Nat.le_trans HBS.out hg.size); clear ho hb hg hat))
          go_roundg (litN x2 q2.2)
          case measure =>
           rw [HGE.out]
           unfold litN
           by_cases hx : x2 = 0
           ·have := wordT_le s.size (fun x => (litT x).2) rr tt
            rw [HQ2.out] at this
            rw [if_neg (by simp [hx])]; omega
           ·have h2 := litR_lt (len := s.size) (r := rr) (ts := tt) (by rw [HQX2.out]; exact hx)
            rw [HQ2.out] at h2
            split <;> omega
          case rel =>
           refine ⟨x2, q2.1, q2.2, cl ++ [x], rfl, rfl, HX10, HR10, ⟨by rw [← HQ2.out, ← HSL.out]; exact wordT_tk HTT.out⟩, ⟨?_⟩, HB10, ⟨?_⟩⟩
           ·have h1 := HSZ2.out
            rw [List.length_append, List.length_singleton]
            by_cases hx : x2 = 0
            ·have := wordT_le s.size (fun x => (litT x).2) rr tt
             rw [HQ2.out] at this
             rw [if_pos hx]; omega
            ·have h2 := litR_lt (len := s.size) (r := rr) (ts := tt) (by rw [HQX2.out]; exact hx)
             rw [HQ2.out] at h2
             rw [if_neg hx]; omega
           ·rw [HQ.out, litsR_eq, HQ2.out, HQX2.out]
            split <;> simp
       case rest =>
        clear HX8 HBS8
        obtain ⟨HX11, HR11⟩ := hcut
        obtain ⟨A8, c8, e8⟩ := Kd.R_slice HR11.out
        subst e8
        obtain ⟨Av, cv, ev⟩ := Kd.R_slice HX11.out.row
        subst ev
        have x1 := HX11.out.xcells.2
        have f1 := HX11.out.frozen 1
        obtain ⟨g, rfl⟩ : ∃ g, gk = g + 1 := ⟨gk - 1, by have h1 := HI.out.1; have h2 := HLT.out; omega⟩
        have HWB : Az (i < 4294967296) := ⟨by have h1 := HLT.out; have h2 := HMB.out.2; omega⟩
        have hwi : IntKind.i64.wrap ((i : Int) + 1) = ((i + 1 : Nat) : Int) := by rw [IntKind.wrap_i64]; have := HWB.out; omega
        go_wp2_with ((with_reducible refine gate_builtin (b := .append) (xs := #[.tmp 102, .tmp 104]) rfl ?_); at_builtin; refine Kd.R_append (Kd.slice 3 (Kd.int .i64)) (w0 := w) w.heap.size rfl (.tmp 102) (.tmp 104) 22 26 (.slice none 0 0) 24 rfl Tryz.underlying22 infoInts rfl (by decide) (by decide) (.slice Av out.length cv) out lo.2.1 [.slice A8 lo.2.1.length c8] (fun k => (k ≠ gr ∧ k ≠ gc ∧ k ≠ w.heap.size) ∧ True) (fun k => B ≤ k) rfl rfl ?aP ?aK ?aF ?aO ?aB ?aS ?aL ?_; (case aP => exact Kd.M_row HR11.out); (case aK => exact fun k hk => ⟨⟨⟨by have := HBW.out.1; omega, by have := HBW.out.2.1; omega, by have := HBW.out.2.2; omega⟩, trivial⟩, fun e => by have := HX11.out.row.1 k e.symm; omega⟩); (case aF => exact fun k hk => ⟨⟨by have := blk_lt HX11.out.p.box; omega, by have := blk_lt HX11.out.xb; omega, by have := blk_lt HX11.out.p.rb; omega⟩, trivial⟩); (case aO => exact Kd.R_mono HX11.out.row (fun k hk => ⟨hk.1, trivial⟩)); (case aB => exact HX11.out.p.hb); (case aS => exact HX11.out.p.hb.size); (case aL => have h1 := HI.out.2; have h2 := HWB.out; omega); intro v9 w9 ho hb hg hat; obtain ⟨A9, c9, e9⟩ := Kd.R_slice ho; subst e9; have HX12 := Az.mk (HX11.out.put ho hg hb); have x2 := (bkc (bkg HX11.out.xb hg (Kd.R_ne HX11.out.row HX11.out.xb (by decide))) 1).trans rfl; have f2 := bkf (bkg HX11.out.xb hg (Kd.R_ne HX11.out.row HX11.out.xb (by decide))) 1; clear ho hb hg hat)
        go_roundg g
        case measure => omega
        case rel =>
         have HXN := HX12
         simp only [List.length_append, List.length_singleton] at HXN
         refine ⟨i + 1, lo.1, lo.2.2, _, out ++ [lo.2.1], rfl, ⟨⟨by have := HI.out.1; omega, by have := HI.out.2; simp; omega⟩⟩, HXN, ⟨by rw [← HLO.out, ← HSL.out]; exact litsS_tk HT.out⟩, ⟨?_⟩⟩
         rw [HE.out, clsS, if_pos HE0.out, HLO.out]
         simp
      ·have he' : (r.e == 0) = false := beq_eq_false_iff_ne.2 he
       have HQ : Az (c = (r, out, ts')) := ⟨by rw [← HC.out, HE.out, clsS_stop he]; simp⟩
       clear he hlt
       go_wp2_with fail
       go_meet
       case rel => exact ⟨v, by rw [HQ.out]; exact HX⟩
     ·have hlt' : decide ((i : Int) < many) = false := decide_eq_false (by have := HMB.out; omega)
      obtain rfl : gk = 0 := by have := HI.out.1; omega
      have HQ : Az (c = (r, out, ts')) := ⟨by rw [← HC.out, HE.out]; simp [clsS]⟩
      clear hlt
      go_wp2_with fail
      go_meet
      case rel => exact ⟨v, by rw [HQ.out]; exact HX⟩
   case rest =>
    clear HX7 HT4 HN HC HMB
    obtain ⟨v, HX⟩ := hcut
    obtain ⟨h0, h1, h2, h3⟩ := HX.out.p.cells
    obtain ⟨er, her⟩ : ∃ er, endS s.size c.1 c.2.2 = er := ⟨_, rfl⟩
    rw [her] at HP
    have HER := Az.mk her
    clear her
    go_upto_region 22 with fail
    obtain ⟨pz, hpz⟩ : ∃ pz : Nat, (peekT s.size c.2.2).2 = pz := ⟨_, rfl⟩
    have HPZ := Az.mk hpz
    clear hpz
    obtain ⟨rs, hrs⟩ : ∃ rs, (if c.1.e = 0 then skipS s.size c.1 c.2.2 else c.1) = rs := ⟨_, rfl⟩
    have HRS := Az.mk hrs
    clear hrs
    obtain ⟨A0, c0, e0⟩ := Kd.R_slice HX.out.row
    subst e0
    go_cut [115] from 107 to 114 (fun s115 wc => s115 = .bool (decide (c.1.e = 0 ∧ pz < s.size)) ∧ Az (PR w wc gr gc s rs vars (fun _ => True) (.slice A0 c.2.1.length c0) c.2.1))
    case first =>
     by_cases he : c.1.e = 0
     ·have he' : (c.1.e == 0) = true := by rw [he]; rfl
      have HSK := Az.mk (HX.out.p.more HS.out HCS.out.2.2)
      have hless := tk_less HCS.out.2.2
      rw [HSL.out] at hless
      rw [hless, HPZ.out] at HSK
      clear hless
      have HB : Az (decide (c.1.e = 0 ∧ pz < s.size) = decide (pz < s.size)) := ⟨by simp [he]⟩
      rw [if_pos he] at HRS
      rw [HRS.out] at HSK
      generalize decide (pz < s.size) = bb at HSK HB
      clear he
      go_wp2_with (go_at_call 88; refine HSK.out.mono ?_; rintro e w8 ⟨rfl, hb8⟩; have HX8 := Az.mk (HX.out.rd hb8); clear hb8 h0 h1 h2 h3)
      go_meet
      case rel => exact ⟨by rw [HB.out], HX8⟩
     ·have he' : (c.1.e == 0) = false := beq_eq_false_iff_ne.2 he
      have HB : Az (decide (c.1.e = 0 ∧ pz < s.size) = false) := ⟨by simp [he]⟩
      rw [if_neg he] at HRS
      clear he
      go_wp2_with fail
      go_meet
      case rel => exact ⟨by rw [HB.out], ⟨by rw [← HRS.out]; exact HX.out⟩⟩
    case rest =>
    clear HX h0 h1 h2 h3
    obtain ⟨rfl, HX⟩ := hcut
    obtain ⟨h0, h1, h2, h3⟩ := HX.out.p.cells
    go_upto_if 115 with fail
    go_cut [] from 115 to 121 (fun wc => Az (PR w wc gr gc s er vars (fun _ => True) (.slice A0 c.2.1.length c0) c.2.1))
    case first =>
     by_cases hq : c.1.e = 0 ∧ pz < s.size
     ·have hq' : decide (c.1.e = 0 ∧ pz < s.size) = true := decide_eq_true hq
      have HSA : Az (rs.at_ = pz) := ⟨by rw [← HRS.out, if_pos hq.1, ← HPZ.out]; rfl⟩
      have HE0 : Az (er = failS rs pz 6) := ⟨by
       have h1 := HER.out
       have h2 := HRS.out
       rw [if_pos hq.1] at h2
       unfold endS at h1
       rw [if_pos hq.1, HPZ.out, if_pos hq.2, h2] at h1
       exact h1.symm⟩
      rw [hq']
      rw [HSA.out] at h1
      clear hq hq'
      go_wp2_with (go_at_call 89; refine (HX.out.p.fail _ _).mono ?_; rintro e w9 ⟨rfl, hb9⟩; have HX9 := Az.mk (HX.out.rd hb9); clear hb9)
      go_meet
      case rel => exact ⟨by rw [HE0.out]; exact HX9.out⟩
     ·have hq' : decide (c.1.e = 0 ∧ pz < s.size) = false := decide_eq_false hq
      have HE0 : Az (er = rs) := ⟨by
       have h1 := HER.out
       have h2 := HRS.out
       unfold endS at h1
       by_cases he : c.1.e = 0
       ·rw [if_pos he] at h2
        rw [if_pos he, HPZ.out, if_neg (fun h => hq ⟨he, h⟩), h2] at h1
        exact h1.symm
       ·rw [if_neg he] at h1 h2
        rw [← h1, h2]⟩
      rw [hq']
      clear hq hq'
      go_wp2_with fail
      go_meet
      case rel => exact ⟨by rw [HE0.out]; exact HX.out⟩
    case rest =>
     clear HX h0 h1 h2 h3
     have HXe := hcut
     clear hcut
     obtain ⟨h0, h1, h2, h3⟩ := HXe.out.p.cells
     by_cases he : er.e = 0
     ·have he' : (er.e != 0) = false := by rw [he]; rfl
      have HT2 : Az (tailS vars c.2.1 er = if chkL vars c.2.1 = 0 then (vars, c.2.1, 0, 0) else (0, [], 0, chkL vars c.2.1)) := ⟨by unfold tailS; rw [if_pos he]⟩
      obtain ⟨x0, x1⟩ := HXe.out.xcells
      have HCK : Az (PRPropg.netlabref32_Check.f 0 vars c.2.1 = some (chkL vars c.2.1)) := ⟨by unfold PRPropg.netlabref32_Check.f; rw [if_pos ⟨by have := HCS.out.1; omega, by have := HCS.out.2.1; omega⟩]⟩
      have HRC := Az.mk (Kd.R_reads' HXe.out.row)
      clear he
      by_cases hc0 : chkL vars c.2.1 = 0
      ·rw [if_pos hc0] at HT2
       rw [hc0] at HCK
       clear hc0
       go_wp2_with (go_at_call 22; refine (netlabref32_Check.calls 0 vars A0 c0 c.2.1 _ wc HRC.out.2.2 HRC.out.2.1 HCK.out).mono ?_; rintro e w9 ⟨rfl, hb9⟩; have HX9 := Az.mk (HXe.out.below hb9); obtain ⟨y0, y1⟩ := HX9.out.xcells; obtain ⟨z0, z1, z2, z3⟩ := HX9.out.rcells; clear hb9 x0 x1)
       have HXf := Az.mk HX9.out.ret
       refine bodyPost_ret (results_ctt rfl _ _ w.heap.size 24 #[.int .i64 vars, .slice A0 c.2.1.length c0] (0, 0) _ rfl HXf.out.1 hu24 rfl (by kernel_rfl)) rfl ?_
       unfold ParseCPost; rw [HP.out, HT2.out]
       exact ⟨_, rfl, HXf.out.2.1, HXf.out.2.2⟩
      ·rw [if_neg hc0] at HT2
       have hcb : (chkL vars c.2.1 != 0) = true := bne_iff_ne.2 hc0
       clear hc0
       go_wp2_with (go_at_call 22; refine (netlabref32_Check.calls 0 vars A0 c0 c.2.1 _ wc HRC.out.2.2 HRC.out.2.1 HCK.out).mono ?_; rintro e w9 ⟨rfl, hb9⟩; have HX9 := Az.mk (HXe.out.below hb9); obtain ⟨y0, y1⟩ := HX9.out.xcells; obtain ⟨z0, z1, z2, z3⟩ := HX9.out.rcells; clear hb9 x0 x1)
       have HXf := Az.mk HX9.out.retz
       refine bodyPost_ret (results_ctt rfl _ _ w.heap.size 24 #[.int .i64 0, .slice none 0 0] (0, 0) _ rfl HXf.out.p.rb hu24 rfl (by kernel_rfl)) rfl ?_
       unfold ParseCPost; rw [HP.out, HT2.out]
       exact ⟨_, rfl, Kd.R_nil _ _ _ _ _, HXf.out.p.hb⟩
     ·have he' : (er.e != 0) = true := bne_iff_ne.2 he
      have HQ : Az (tailS vars c.2.1 er = (0, [], er.wrong, er.e)) := ⟨by unfold tailS; rw [if_neg he]⟩
      clear he
      go_wp2_with fail
      have HXe : Az (PR w wc.drew gr gc s er vars (fun _ => True) (.slice A0 c.2.1.length c0) c.2.1) := ⟨HXe.out.below (below_drew (Below.refl _ _))⟩
      refine start_ (n := 12) (S := fun w' => w'.cell? ⟨gr, 2, none⟩ = some (.int .i64 er.e) ∧ w'.cell? ⟨gr, 3, none⟩ = some (.int .i64 er.wrong)) (ds := []) (Array.replicate 12 false) (by kernel_rfl) rfl rfl ⟨HXe.out.p.cells.2.2.1, HXe.out.p.cells.2.2.2⟩ (fun hHeld => ?_); refine with_tabW rparR25.tab rparR25.bits (fun HT_ HW_ => ?_)
      generalize wc.drew = wd at HXe hHeld ⊢
      refine pA 0 (some 127) (bA 12 1) rfl rfl HT_.out (by intro w'; go_simp; with_reducible rfl) (by simp only [Act.put, zq1, zq2, zq3, iw, jw]; rfl) ?_
      refine pA 1 (some 128) (bA 12 3) rfl rfl HT_.out (by intro w'; go_simp; with_reducible rfl) (by simp only [Act.put, zq1, zq2, zq3, iw, jw]; rfl) ?_
      refine pA 2 (some 129) (bA 12 7) rfl rfl HT_.out (by intro w'; go_simp; with_reducible rfl) (by simp only [Act.put, zq1, zq2, zq3, iw, jw]; rfl) ?_
      refine pA 3 (some 130) (bA 12 15) rfl rfl HT_.out (by intro w'; go_simp; with_reducible rfl) (by simp only [Act.put, zq1, zq2, zq3, iw, jw]; rfl) ?_
      refine pT 4 (some 131) (bA 12 31) rfl rfl HT_.out HW_.out hHeld (by rintro w' ⟨s0, s1⟩; go_simp; with_reducible rfl) (by simp only [Act.put, zq1, zq2, zq3, iw, jw]; rfl) ?_
      refine pA 5 (some 132) (bA 12 63) rfl rfl HT_.out (by intro w'; go_simp; with_reducible rfl) (by simp only [Act.put, zq1, zq2, zq3, iw, jw]; rfl) ?_
      refine pA 6 (some 133) (bA 12 127) rfl rfl HT_.out (by intro w'; go_simp; with_reducible rfl) (by simp only [Act.put, zq1, zq2, zq3, iw, jw]; rfl) ?_
      refine pA 7 (some 134) (bA 12 255) rfl rfl HT_.out (by intro w'; go_simp; with_reducible rfl) (by simp only [Act.put, zq1, zq2, zq3, iw, jw]; rfl) ?_
      refine pT 8 (some 135) (bA 12 511) rfl rfl HT_.out HW_.out hHeld (by rintro w' ⟨s0, s1⟩; go_simp; with_reducible rfl) (by simp only [Act.put, zq1, zq2, zq3, iw, jw]; rfl) ?_
      refine QW.PrintLast.one_ (i := 9) (N := none) (bA 12 1023) rfl rfl (one_of HT_.out (by kernel_rfl)) (by decide) (fun K hK => ?_)
      obtain ⟨hs1, hs2, hf1, hf2⟩ := HXe.out.rcells
      refine skip_ (w1 := ?_) (by rfl) rfl ?_ ?_
      rotate_left
      ·go_simp
       rfl
      have HXf : Az (PR w ((wd.setCell ⟨w.heap.size, 0, none⟩ (.int .i64 0)).setCell ⟨w.heap.size, 1, none⟩ (.slice none 0 0)) gr gc s er vars (fun _ => True) (.slice A0 c.2.1.length c0) c.2.1) := ⟨HXe.out.retz⟩
      refine hK.out _ _ ⟨HXf.out.p.cells.2.2.1, HXf.out.p.cells.2.2.2⟩ (fun hHeld => ?_)
      clear hK K
      refine pA 10 (some 3) (bA 12 2047) rfl rfl HT_.out (by intro w'; go_simp; with_reducible rfl) (by simp only [Act.put, zq1, zq2, zq3, iw, jw]; rfl) ?_
      refine pA 11 (some 4) (bA 12 4095) rfl rfl HT_.out (by intro w'; go_simp; with_reducible rfl) (by simp only [Act.put, zq1, zq2, zq3, iw, jw]; rfl) ?_
      refine done_ (done_of HT_.out (by kernel_rfl)) ?_
      clear hHeld HT_ HW_
      go_wp2_with fail
      refine bodyPost_ret (results_ctt rfl _ _ w.heap.size 24 #[.int .i64 0, .slice none 0 0] (0, 0) _ rfl HXf.out.p.rb hu24 rfl (by kernel_rfl)) rfl ?_
      unfold ParseCPost; rw [HP.out, HQ.out]
      exact ⟨_, rfl, Kd.R_nil _ _ _ _ _, HXf.out.p.hb⟩
end Go.Proofs.YtkcfdddhnboieaaGreatDoor.NText
end
