/-
  Part 14 of the proof of proofText_card: walks and lemmas, packed by the session's own wip/pack.py out of its texts and of what the kit's print.sh printed.
-/
import Derived.Test.YtogicccdngpafaaGreatDoorPT13
import Derived.Lib.PathFns
import Derived.Deep.RegionWith
import Derived.Test.YtogicccdngpafaaGreatDoorPT10
import Derived.Deep.LoopGhost
import Derived.Test.YtogicccdngpafaaGreatDoorPT8
set_option linter.unusedVariables false
set_option linter.unusedSimpArgs false
section
set_option maxHeartbeats 1000000
set_option maxRecDepth 100000
namespace Go.Proofs.YtogicccdngpafaaGreatDoor.NText
open Go Go.RowKit Go.Shelf Go.Lib QW.PrintWords QW.PrintLast QW.PrintMore
open NState (Stp kStp infoInt)
def rdC (s : ByteArray) (r : RS) : Array Value := #[.string s, .int .i64 r.at_, .int .i64 r.wrong, .int .i64 r.e]
structure RdPost (W0 : World) (gr : Nat) (s : ByteArray) (r : RS) (W : World) : Prop where
 box : W.heap[gr]? = some (.cells (rdC s r) 119 (0, 0))
 grown : W0.grownBy W (some gr)
theorem grown_refl (W : World) (row : Option Nat) : W.grownBy W row := ⟨rfl, rfl, rfl, Nat.le_refl _, fun _ _ _ => rfl⟩
theorem grown_set' {W : World} {g j : Nat} {u : Value} {W0 : World} (h : W0.grownBy W (some g)) : W0.grownBy (W.setCell ⟨g, j, none⟩ u) (some g) := by
 have hB : Below 0 W (W.setCell ⟨g, j, none⟩ u) := (Below.refl 0 W).setCell (p := ⟨g, j, none⟩) (Nat.zero_le _) u
 exact ⟨hB.os.trans h.os, hB.tape.trans h.tape, hB.output.trans h.output, Nat.le_trans h.size hB.size, fun k hk hne => (Below.heap_setCell W ⟨g, j, none⟩ u k (fun he => hne (by rw [he]))).trans (h.block k hk hne)⟩
theorem grown_below' {W0 A B : World} {row : Option Nat} (h : W0.grownBy A row) (hb : Below A.heap.size A B) : W0.grownBy B row :=
 ⟨hb.os.trans h.os, hb.tape.trans h.tape, hb.output.trans h.output, Nat.le_trans h.size hb.size, fun k hk hne => (hb.block k (Nat.lt_of_lt_of_le hk h.size)).trans (h.block k hk hne)⟩
theorem grown_trans' {W0 A B : World} {row : Option Nat} (h : W0.grownBy A row) (hb : A.grownBy B row) : W0.grownBy B row :=
 ⟨hb.os.trans h.os, hb.tape.trans h.tape, hb.output.trans h.output, Nat.le_trans h.size hb.size, fun k hk hne => (hb.block k (Nat.lt_of_lt_of_le hk h.size) hne).trans (h.block k hk hne)⟩
section
variable {W0 W W' : World} {gr : Nat} {s : ByteArray} {r : RS}
theorem RdPost.below (h : RdPost W0 gr s r W) (hb : Below W.heap.size W W') : RdPost W0 gr s r W' := ⟨blk_below h.box hb, grown_below' h.grown hb⟩
theorem RdPost.cells (h : RdPost W0 gr s r W) : W.cell? ⟨gr, 0, none⟩ = some (.string s) ∧ W.cell? ⟨gr, 1, none⟩ = some (.int .i64 r.at_) ∧ W.cell? ⟨gr, 2, none⟩ = some (.int .i64 r.wrong) ∧ W.cell? ⟨gr, 3, none⟩ = some (.int .i64 r.e) :=
 ⟨(bkc h.box 0).trans rfl, (bkc h.box 1).trans rfl, (bkc h.box 2).trans rfl, (bkc h.box 3).trans rfl⟩
theorem RdPost.frozen (h : RdPost W0 gr s r W) (j : Nat) : W.frozen? ⟨gr, j, none⟩ = false := bkf h.box j
theorem RdPost.trans {r' : RS} (h : RdPost W0 gr s r W) (h' : RdPost W gr s r' W') : RdPost W0 gr s r' W' := ⟨h'.box, grown_trans' h.grown h'.grown⟩
theorem RdPost.at1 (h : RdPost W0 gr s r W) (a : Nat) : RdPost W0 gr s { r with at_ := a } (W.setCell ⟨gr, 1, none⟩ (.int .i64 a)) := ⟨blk_put h.box 1 _ rfl, grown_set' h.grown⟩
theorem RdPost.fails (h : RdPost W0 gr s r W) (a e : Int) : RdPost W0 gr s { r with wrong := a, e := e } ((W.setCell ⟨gr, 2, none⟩ (.int .i64 a)).setCell ⟨gr, 3, none⟩ (.int .i64 e)) := ⟨blk_put (blk_put h.box 2 _ rfl) 3 _ rfl, grown_set' (grown_set' h.grown)⟩
end
theorem rd_start {W : World} {gr : Nat} {s : ByteArray} {r : RS} (h : W.heap[gr]? = some (.cells (rdC s r) 119 (0, 0))) : RdPost W gr s r W := ⟨h, grown_refl _ _⟩
theorem fail_calls (W : World) (gr : Nat) (s : ByteArray) (r : RS) (a e0 : Int) (h : RdPost W gr s r W) : Calls Tryz.prog 71 #[.pointer (some ⟨gr, 0, none⟩), .int .i64 a, .int .i64 e0] W fun e W' => e = .returned (.tuple #[]) ∧ RdPost W gr s (failS r a e0) W' := by
 have HB := Az.mk h
 obtain ⟨h0, h1, h2, h3⟩ := h.cells
 have f2 := h.frozen 2
 have f3 := h.frozen 3
 clear h
 go_enter Tryz.func71, Tryz.ntmps71
 by_cases he : r.e = 0
 ·have he' : (r.e == 0) = true := by rw [he]; rfl
  have HE := Az.mk he
  clear he
  go_wp2
  go_end0
  have hf : failS r a e0 = { r with wrong := a, e := e0 } := by unfold failS; rw [if_pos HE.out]
  rw [hf]
  exact ⟨rfl, HB.out.fails a e0⟩
 ·have he' : (r.e == 0) = false := beq_eq_false_iff_ne.2 he
  have HE := Az.mk he
  clear he
  go_wp2
  go_end0
  have hf : failS r a e0 = r := by unfold failS; rw [if_neg HE.out]
  rw [hf]
  exact ⟨rfl, HB.out⟩
theorem tk_peek {l : List UInt8} {i : Nat} {ts : List (Nat × List UInt8)} (h : Tk l i ts) : i ≤ l.length ∧ ((l.drop i).dropWhile wh).takeWhile nw = (peekT l.length ts).1 ∧ (peekT l.length ts).2 + ((l.drop i).dropWhile wh).length = l.length := by
 cases h with
 | nil hi h => exact ⟨hi, by rw [h]; rfl, by rw [h]; rfl⟩
 | cons hi h hr ha ht => exact ⟨hi, by rw [h]; rfl, by rw [h]; exact ha⟩
def sb (l : List UInt8) : ByteArray := ⟨l.toArray⟩
theorem sb_list (l : List UInt8) : (sb l).data.toList = l := by simp [sb]
theorem peek_calls (W0 W : World) (gr : Nat) (s : ByteArray) (hs : s.size ≤ 65536) (r : RS) (ts : List (Nat × List UInt8)) (ht : Tk s.data.toList r.at_ ts) (h : RdPost W0 gr s r W) :
  Calls Tryz.prog 68 #[.pointer (some ⟨gr, 0, none⟩)] W fun e W' => e = .returned (.tuple #[.string (sb (peekT s.size ts).1), .int .i64 (peekT s.size ts).2]) ∧ RdPost W0 gr s r W' := by
 have HB := Az.mk h
 obtain ⟨h0, h1, h2, h3⟩ := h.cells
 obtain ⟨hi, hw, ha⟩ := tk_peek ht
 rw [← size_eq] at hi hw ha
 have hX : (s.extract r.at_ s.size).data.toList = s.data.toList.drop r.at_ := extract_to_end s r.at_
 have hi1 : (0 : Int) ≤ (r.at_ : Int) ∧ (r.at_ : Int) ≤ (s.size : Int) := by omega
 obtain ⟨rest, hrest⟩ : ∃ x, (s.data.toList.drop r.at_).dropWhile wh = x := ⟨_, rfl⟩
 rw [hrest] at hw ha
 have hR := Az.mk hrest
 have HW := Az.mk hw
 have HA := Az.mk ha
 have hs5 : (⟨rest.toArray⟩ : ByteArray).size < 4294967281 := by rw [size_eq]; simp only [List.toList_toArray]; omega
 have hlr : (⟨rest.toArray⟩ : ByteArray).size = rest.length := by rw [size_eq]
 have hsub : IntKind.i64.wrap ((s.size : Int) - (rest.length : Int)) = ((peekT s.size ts).2 : Int) := by rw [IntKind.wrap_i64]; omega
 clear h ht hrest hw ha
 go_enter Tryz.func68, Tryz.ntmps68
 go_wp2_with fail
 go_region_with (go_at_call 102; refine (trimLeft_calls _ _).mono ?_; rintro e w1 ⟨rfl, hb1⟩; rw [hX, hR.out]; have HB1 := Az.mk ((HB.out.below (below_drew (Below.refl _ _))).below hb1); clear hb1)
 all_goals
  clear h0 h1 h2 h3
  obtain ⟨h0, h1, h2, h3⟩ := HB1.out.cells
  rcases indexAny_word rest with ⟨hI, hT⟩ | ⟨i, hI, hi2, hT⟩
  ·go_wp2_with (go_at_call 103; refine (indexAny_calls _ hs5 _).mono ?_; rintro e w2 ⟨rfl, hb2⟩; simp only [List.toList_toArray, hI]; have HB2 := Az.mk (HB1.out.below hb2); clear hb2)
   go_ret2
   refine ⟨?_, HB2.out⟩
   rw [← HW.out, hT]; rfl
  ·have hi3 : (0 : Int) ≤ (i : Int) ∧ (i : Int) ≤ (rest.length : Int) := by omega
   have hx : ({ data := rest.toArray } : ByteArray).extract 0 i = sb (rest.take i) := by rw [extract_upto]; simp only [List.toList_toArray]; rfl
   go_wp2_with (go_at_call 103; refine (indexAny_calls _ hs5 _).mono ?_; rintro e w2 ⟨rfl, hb2⟩; simp only [List.toList_toArray, hI]; have HB2 := Az.mk (HB1.out.below hb2); clear hb2)
   go_ret2
   refine ⟨?_, HB2.out⟩
   rw [← HW.out, hT, ← hx]; rfl
theorem tk_word {l : List UInt8} {i a : Nat} {x : List UInt8} {ts : List (Nat × List UInt8)} (h : Tk l i ((a, x) :: ts)) : 0 < x.length ∧ a + x.length ≤ l.length := by
 cases h with
 | cons hi h hr ha ht => exact ⟨word_pos h hr, by have := takeWhile_le (p := nw) ‹List UInt8›; omega⟩
theorem sb_ne {x : List UInt8} (h : 0 < x.length) : (sb x).toList.isEmpty = false := by
 rw [toList_data, sb_list]
 cases x with
 | nil => simp at h
 | cons b x => rfl
theorem sb_nil : (sb []).toList.isEmpty = true := by rw [toList_data, sb_list]; rfl
theorem sb_size (x : List UInt8) : (sb x).size = x.length := by rw [size_eq, sb_list]
theorem next_calls (W0 W : World) (gr : Nat) (s : ByteArray) (hs : s.size ≤ 65536) (r : RS) (ts : List (Nat × List UInt8)) (ht : Tk s.data.toList r.at_ ts) (h : RdPost W0 gr s r W) :
  Calls Tryz.prog 69 #[.pointer (some ⟨gr, 0, none⟩)] W fun e W' => e = .returned (.tuple #[.string (sb (peekT s.size ts).1), .int .i64 (peekT s.size ts).2]) ∧ RdPost W0 gr s (nextS s.size r ts).1 W' := by
 have hp := peek_calls W0 W gr s hs r ts ht h
 cases ts with
 | nil =>
  clear ht h
  simp only [peekT, nextS] at hp ⊢
  have hq := sb_nil
  have hz : (sb []).size = 0 := sb_size []
  generalize sb [] = sv at hp hq hz ⊢
  have hw : IntKind.i64.wrap ((s.size : Int) + (sv.size : Int)) = (s.size : Int) := by rw [hz, IntKind.wrap_i64]; omega
  have HZ := Az.mk hz
  clear hz
  go_enter Tryz.func69, Tryz.ntmps69
  go_wp2_with (first | (go_at_call 68; refine hp.mono ?_; rintro e w1 ⟨rfl, hb1⟩; have HB1 := Az.mk hb1; obtain ⟨h0, h1, h2, h3⟩ := hb1.cells; clear hb1) | (go_at_call 71; refine (fail_calls w1 gr s r _ _ (rd_start HB1.out.box)).mono ?_; rintro e w2 ⟨rfl, hb2⟩; have HB2 := Az.mk (HB1.out.trans hb2); obtain ⟨g0, g1, g2, g3⟩ := hb2.cells; have f1 := hb2.frozen 1; clear hb2 h0 h1 h2 h3))
  go_ret2
  exact ⟨rfl, HB2.out.at1 _⟩
 | cons p ts =>
  obtain ⟨a, x⟩ := p
  obtain ⟨hx, hax⟩ := tk_word ht
  rw [← size_eq] at hax
  have hq := sb_ne hx
  have hz := sb_size x
  simp only [peekT, nextS] at hp ⊢
  generalize sb x = sv at hp hq hz ⊢
  clear ht h
  have hw : IntKind.i64.wrap ((a : Int) + (sv.size : Int)) = ((a + x.length : Nat) : Int) := by rw [hz, IntKind.wrap_i64]; omega
  go_enter Tryz.func69, Tryz.ntmps69
  go_wp2_with (go_at_call 68; refine hp.mono ?_; rintro e w1 ⟨rfl, hb1⟩; have HB1 := Az.mk hb1; obtain ⟨h0, h1, h2, h3⟩ := hb1.cells; have f1 := hb1.frozen 1; clear hb1)
  go_ret2
  exact ⟨rfl, HB1.out.at1 _⟩
end Go.Proofs.YtogicccdngpafaaGreatDoor.NText
end
section
set_option maxHeartbeats 2000000
set_option maxRecDepth 100000
namespace Go.Proofs.YtogicccdngpafaaGreatDoor.NText
open Go Go.RowKit Go.Shelf Go.Lib QW.PrintWords QW.PrintLast QW.PrintMore
open NState (Stp kStp infoInt)
theorem litT_nil : litT [] = (0, false) := rfl
theorem valueL_bound (l : List UInt8) : 0 ≤ (valueL l).1 ∧ (valueL l).1 ≤ 4294967295 := by
 unfold valueL
 cases h : parseUintB 32 l with
 | ok u =>
  have hu : u ≤ 2 ^ 32 - 1 := by
   unfold parseUintB at h
   split at h
   ·cases h
   ·exact parseUintM_le (Nat.zero_le _) h
  simp only; omega
 | range => simp only; omega
 | _ => simp only; omega
theorem listS_stop {len : Nat} {r : RS} {ts : List (Nat × List UInt8)} (he : r.e ≠ 0) : listS len r ts = (r, [], ts) := by
 cases ts with
 | nil => unfold listS; rw [if_neg he]
 | cons p ts => obtain ⟨a, x⟩ := p; unfold listS; rw [if_neg he]
theorem failS_e (r : RS) (a e : Int) (h : e ≠ 0) : (failS r a e).e ≠ 0 := by
 unfold failS
 split
 ·exact h
 ·assumption
theorem listS_eq {len : Nat} {r : RS} {ts : List (Nat × List UInt8)} (he : r.e = 0) : listS len r ts =
  if (litT (peekT len ts).1).2 = true then
   (if (litT (peekT len ts).1).1 = 0 then ((nextS len r ts).1, [], (nextS len r ts).2)
   else ((listS len (nextS len r ts).1 (nextS len r ts).2).1, (litT (peekT len ts).1).1 :: (listS len (nextS len r ts).1 (nextS len r ts).2).2.1, (listS len (nextS len r ts).1 (nextS len r ts).2).2.2))
  else (failS (nextS len r ts).1 (peekT len ts).2 3, [], (nextS len r ts).2) := by
 cases ts with
 | nil =>
  have h1 : listS len r [] = ({ failS r len 4 with at_ := len }, [], []) := by unfold listS; rw [if_pos he]
  have h2 : failS (nextS len r []).1 (peekT len []).2 3 = { failS r len 4 with at_ := len } := by
   have : (nextS len r []).1.e ≠ 0 := failS_e r len 4 (by decide)
   unfold failS
   rw [if_neg this]; rfl
  rw [h1, h2]; rfl
 | cons p ts =>
  obtain ⟨a, x⟩ := p
  rw [listS, if_pos he]
  rfl
theorem nextS_len {len : Nat} {r : RS} {ts : List (Nat × List UInt8)} (h : (litT (peekT len ts).1).2 = true) : (nextS len r ts).2.length < ts.length := by
 cases ts with
 | nil => simp [peekT, litT_nil] at h
 | cons p ts => simp [nextS]
theorem nextS_le (len : Nat) (r : RS) (ts : List (Nat × List UInt8)) : (nextS len r ts).2.length ≤ ts.length := by
 cases ts with
 | nil => simp [nextS]
 | cons p ts => simp [nextS]
theorem nextS_e {len : Nat} {r : RS} {ts : List (Nat × List UInt8)} (h : (litT (peekT len ts).1).2 = true) : (nextS len r ts).1.e = r.e := by
 cases ts with
 | nil => simp [peekT, litT_nil] at h
 | cons p ts => rfl
theorem trimPrefix_len (x : List UInt8) : (trimPrefix x [45]).length ≤ x.length := by
 unfold trimPrefix
 split
 ·simp
 ·exact Nat.le_refl _
theorem peekT_len {l : List UInt8} {i : Nat} {ts : List (Nat × List UInt8)} (h : Tk l i ts) : (peekT l.length ts).1.length ≤ l.length := by
 cases ts with
 | nil => simp [peekT]
 | cons p ts => have := (tk_word h).2; simp only [peekT]; omega
theorem tk_count {l : List UInt8} {i : Nat} {ts : List (Nat × List UInt8)} (h : Tk l i ts) : i + ts.length ≤ l.length := by
 induction h with
 | nil hi h => simpa using hi
 | @cons i a r ts hi h hr ha ht ih =>
  have h1 := dropWhile_le (p := wh) (l.drop i)
  rw [h, List.length_drop] at h1
  have h2 := word_pos h hr
  simp only [List.length_cons]; omega
theorem GOK.below' {w0 W W' : World} {gr : Nat} (h : GOK w0) (hb : Below w0.heap.size w0 W) (hg : W.grownBy W' (some gr)) (hgr : w0.heap.size ≤ gr) : GOK W' :=
 h.below (hb.grown hg hb.size (fun k hk => by injection hk with hk; rw [← hk]; exact hgr))
def tkM (r : RS) (ts : List (Nat × List UInt8)) : Nat := 2 * ts.length + (if r.e = 0 then 1 else 0)
theorem RdPost.overR {W w1 w0 wr : World} {gr b : Nat} {s : ByteArray} {r' : RS} {v v1 : Value} {xs ys : List Int} (h : RdPost w0 gr s r' W) (_ : Kd.R (Kd.int .i64) 3 w1 b (fun k => w0.heap.size ≤ k) v1 ys) (hg : W.grownBy w1 v.ownBlock) (hr : Kd.R (Kd.int .i64) 3 wr b (fun k => w0.heap.size ≤ k) v xs) (hl : gr < w0.heap.size) : RdPost w0 gr s r' w1 := by
 have hne : some gr ≠ v.ownBlock := fun e => by have := hr.1 gr e.symm; omega
 exact ⟨(hg.block gr (blk_lt h.box) hne).trans h.box, hg.os.trans h.grown.os, hg.tape.trans h.grown.tape, hg.output.trans h.grown.output, Nat.le_trans h.grown.size hg.size, fun k hk hk' =>
  (hg.block k (Nat.lt_of_lt_of_le hk h.grown.size) (fun e => by have := hr.1 k e.symm; omega)).trans (h.grown.block k hk hk')⟩
def ListPost (w0 W0 : World) (gr : Nat) (s : ByteArray) (o : RS × List Int × List (Nat × List UInt8)) (e : Ending) (W' : World) : Prop :=
 ∃ v, e = .returned v ∧ Kd.R (Kd.int .i64) 3 W' w0.heap.size (fun k => W0.heap.size ≤ k) v o.2.1 ∧ RdPost W0 gr s o.1 W'
theorem list_calls (w0 W0 : World) (gr : Nat) (s : ByteArray) (hs : s.size ≤ 65536) (hgr : w0.heap.size ≤ gr) (hb : Below w0.heap.size w0 W0) (hg : GOK w0) (r : RS) (ts : List (Nat × List UInt8)) (ht : Tk s.data.toList r.at_ ts) (h : RdPost W0 gr s r W0) :
  Calls Tryz.prog 72 #[.pointer (some ⟨gr, 0, none⟩)] W0 (ListPost w0 W0 gr s (listS s.size r ts)) := by
 have HB0 := Az.mk hb
 have HG0 := Az.mk hg
 have HGR := Az.mk hgr
 have HLT : Az (gr < W0.heap.size) := ⟨blk_lt h.box⟩
 have HS : Az (s.size ≤ 65536) := ⟨hs⟩
 have HSL : Az (s.data.toList.length = s.size) := ⟨(size_eq s).symm⟩
 go_enter Tryz.func72, Tryz.ntmps72
 go_wp2
 go_loopg [2] (tkM r ts) (fun g v2 wr => ∃ (out : List Int) (r' : RS) (ts' : List (Nat × List UInt8)), g = tkM r' ts' ∧ Az (Tk s.data.toList r'.at_ ts') ∧ Az (RdPost W0 gr s r' wr) ∧ Az (Kd.R (Kd.int .i64) 3 wr w0.heap.size (fun k => W0.heap.size ≤ k) v2 out) ∧ Az (out.length + ts'.length ≤ s.size) ∧ Az (listS s.size r ts = ((listS s.size r' ts').1, out ++ (listS s.size r' ts').2.1, (listS s.size r' ts').2.2)))
 case atStart => exact ⟨[], r, ts, rfl, ⟨ht⟩, ⟨h⟩, ⟨Kd.R_nil _ _ _ _ _⟩, ⟨by have := tk_count ht; rw [← size_eq] at this; simp; omega⟩, ⟨by simp⟩⟩
 case round =>
  clear h ht hs hb hg hgr
  obtain ⟨out, r', ts', rfl, HT, HB, HR, HN, HE⟩ := hrel
  obtain ⟨Ao, co, e2⟩ := Kd.R_slice HR.out
  subst e2
  obtain ⟨h0, h1, h2, h3⟩ := HB.out.cells
  by_cases he : r'.e = 0
  ·have he' : (r'.e == 0) = true := by rw [he]; rfl
   have HN1 := Az.mk (next_calls wr wr gr s HS.out r' ts' HT.out (rd_start HB.out.box))
   have HEQ := Az.mk (listS_eq (len := s.size) (ts := ts') he)
   have HT1 := Az.mk (nextS_tk (l := s.data.toList) HT.out)
   rw [HSL.out] at HT1
   have hle := nextS_le s.size r' ts'
   have hlt := nextS_len (len := s.size) (r := r') (ts := ts')
   have hee := nextS_e (len := s.size) (r := r') (ts := ts')
   have hpl := peekT_len HT.out
   rw [HSL.out] at hpl
   obtain ⟨x, hx⟩ : ∃ x, (peekT s.size ts').1 = x := ⟨_, rfl⟩
   obtain ⟨a, ha⟩ : ∃ a, (peekT s.size ts').2 = a := ⟨_, rfl⟩
   obtain ⟨p, hp⟩ : ∃ p, nextS s.size r' ts' = p := ⟨_, rfl⟩
   obtain ⟨vb, hvb⟩ : ∃ vb, valueL (trimPrefix x [45]) = vb := ⟨_, rfl⟩
   obtain ⟨m, hm⟩ : ∃ m, hasPrefix x [45] = m := ⟨_, rfl⟩
   have hlit : litT x = (if m = true then -vb.1 else vb.1, vb.2) := by unfold litT; rw [hm, hvb]
   have hvn := valueL_bound (trimPrefix x [45])
   rw [hvb] at hvn
   rw [hx, ha, hp] at HN1
   rw [hx, ha, hp, hlit] at HEQ
   rw [hp] at HT1 hle
   rw [hx, hp, hlit] at hlt hee
   rw [hx] at hpl
   have hty := trimPrefix_len x
   have hsy : (sb (trimPrefix x [45])).size ≤ 281474976710656 := by rw [sb_size]; have := HS.out; omega
   have HCUT : Az (∀ w, Calls Tryz.prog 105 #[.string (sb x), .string ⟨#[45]⟩] w fun e w' => e = .returned (.tuple #[.string (sb (trimPrefix x [45])), .bool m]) ∧ w' = w) := ⟨fun w => by have h := cutPrefix_calls (sb x) w; rw [sb_list, hm] at h; exact h⟩
   have HVAL : Az (∀ w, GOK w → Calls Tryz.prog 70 #[.string (sb (trimPrefix x [45]))] w fun e w' => e = .returned (.tuple #[.int .i64 vb.1, .bool vb.2]) ∧ Below w.heap.size w w') := ⟨fun w hg => by have h := value_calls (sb (trimPrefix x [45])) hsy w hg; rw [sb_list, hvb] at h; exact h⟩
   obtain ⟨vn, b⟩ := vb
   simp only at hlt hee HEQ HVAL hvn
   have HM : Az (p.2.length ≤ ts'.length ∧ (b = true → p.2.length < ts'.length ∧ p.1.e = 0)) := ⟨⟨hle, fun h => ⟨hlt h, (hee h).trans he⟩⟩⟩
   have HV := Az.mk hvn
   generalize sb (trimPrefix x [45]) = sy at HCUT HVAL
   have HE0 := Az.mk he
   clear hx ha hp hvb hm hlit hle hlt hee hpl hty hsy he hvn
   have hWB : Az (Below w0.heap.size w0 wr) := ⟨HB0.out.grown HB.out.grown HB0.out.size (fun k hk => by injection hk with hk; rw [← hk]; exact HGR.out)⟩
   cases b with
   | false =>
    go_wp2_with (first | (go_at_call 69; refine HN1.out.mono ?_; rintro e w1 ⟨rfl, hb1⟩; have HB1 := Az.mk hb1; obtain ⟨g0, g1, g2, g3⟩ := hb1.cells; clear hb1 h0 h1 h2 h3) | (go_at_call 105; refine (HCUT.out _).mono ?_; rintro e w' ⟨rfl, hw⟩; rw [hw]) | (go_at_call 70; refine (HVAL.out _ (HG0.out.below' hWB.out HB1.out.grown HGR.out)).mono ?_; rintro e w2 ⟨rfl, hb2⟩; have HB2 := Az.mk (HB1.out.below hb2); clear hb2) | (go_at_call 71; refine (fail_calls w2 gr s p.1 _ _ (rd_start HB2.out.box)).mono ?_; rintro e w3 ⟨rfl, hb3⟩; have HB3 := Az.mk (HB2.out.trans hb3); clear hb3))
    go_roundg (tkM (failS p.1 a 3) p.2)
    case measure =>
     have := HM.out.1
     simp only [tkM, if_neg (failS_e p.1 a 3 (by decide)), if_pos HE0.out]; omega
    case rel =>
     refine ⟨out, failS p.1 a 3, p.2, rfl, ⟨by rw [failS_at]; exact HT1.out⟩, ⟨HB.out.trans HB3.out⟩, ⟨Kd.R_grown HR.out HB3.out.grown (fun k hk e => by injection e with e; have := HLT.out; omega)⟩, ⟨by have h1 := HN.out; have h2 := HM.out.1; omega⟩, ⟨?_⟩⟩
     have h1 := HEQ.out
     rw [if_neg (by decide)] at h1
     rw [HE.out, h1, listS_stop (failS_e p.1 a 3 (by decide))]
   | true =>
    by_cases hv : vn = 0
    ·have hv' : (vn == 0) = true := by rw [hv]; rfl
     have HQ : Az (listS s.size r' ts' = (p.1, [], p.2)) := ⟨by have h1 := HEQ.out; rw [if_pos rfl, if_pos (by split <;> omega)] at h1; exact h1⟩
     clear hv
     go_wp2_with (first | (go_at_call 69; refine HN1.out.mono ?_; rintro e w1 ⟨rfl, hb1⟩; have HB1 := Az.mk hb1; obtain ⟨g0, g1, g2, g3⟩ := hb1.cells; clear hb1 h0 h1 h2 h3) | (go_at_call 105; refine (HCUT.out _).mono ?_; rintro e w' ⟨rfl, hw⟩; rw [hw]) | (go_at_call 70; refine (HVAL.out _ (HG0.out.below' hWB.out HB1.out.grown HGR.out)).mono ?_; rintro e w2 ⟨rfl, hb2⟩; have HB2 := Az.mk (HB1.out.below hb2); clear hb2))
     go_ret
     refine ⟨_, rfl, ?_, ?_⟩
     ·rw [HE.out, HQ.out, List.append_nil]; exact Kd.R_grown HR.out HB2.out.grown (fun k hk e => by injection e with e; have := HLT.out; omega)
     ·rw [HE.out, HQ.out]; exact HB.out.trans HB2.out
    ·have hv' : (vn == 0) = false := beq_eq_false_iff_ne.2 hv
     have HBS : Az (∀ W, wr.grownBy W (some gr) → W0.heap.size ≤ W.heap.size) := ⟨fun W hg => Nat.le_trans HB.out.grown.size hg.size⟩
     have HBW : Az (∀ W, wr.grownBy W (some gr) → Below w0.heap.size w0 W) := ⟨fun W hg => hWB.out.grown hg hWB.out.size (fun k hk => by injection hk with hk; rw [← hk]; exact HGR.out)⟩
     cases m with
     | false =>
      have HQ : Az (listS s.size r' ts' = ((listS s.size p.1 p.2).1, vn :: (listS s.size p.1 p.2).2.1, (listS s.size p.1 p.2).2.2)) := ⟨by have h1 := HEQ.out; rw [if_pos rfl, if_neg (by simpa using hv)] at h1; exact h1⟩
      clear hv
      go_wp2_with (first | (go_at_call 69; refine HN1.out.mono ?_; rintro e w1 ⟨rfl, hb1⟩; have HB1 := Az.mk hb1; obtain ⟨g0, g1, g2, g3⟩ := hb1.cells; clear hb1 h0 h1 h2 h3) | (go_at_call 105; refine (HCUT.out _).mono ?_; rintro e w' ⟨rfl, hw⟩; rw [hw]) | (go_at_call 70; refine (HVAL.out _ (HG0.out.below' hWB.out HB1.out.grown HGR.out)).mono ?_; rintro e w2 ⟨rfl, hb2⟩; have HB2 := Az.mk (HB1.out.below hb2); clear hb2) | ((with_reducible refine gate_builtin (b := .append) (xs := #[.tmp 29, .tmp 31]) rfl ?_); at_builtin; refine Kd.R_append (Kd.int .i64) (w0 := w0) w0.heap.size rfl (.tmp 29) (.tmp 31) 31 3 (.int .i64 0) 8 rfl Tryz.underlying31 infoInt rfl (by decide) (by omega) (.slice Ao out.length co) out (vn) [.int .i64 (vn)] (fun k => W0.heap.size ≤ k) (fun _ => False) rfl rfl ?aP (fun _ hk => hk.elim) ?aF ?aO ?aB ?aS ?aL ?_; (case aP => exact rfl); (case aF => exact fun k hk => Nat.le_trans (HBS.out w2 HB2.out.grown) hk); (case aO => exact Kd.R_grown HR.out HB2.out.grown (fun k hk e => by injection e with e; have := HLT.out; omega)); (case aB => exact HBW.out w2 HB2.out.grown); (case aS => exact (HBW.out w2 HB2.out.grown).size); (case aL => have h1 := HN.out; have h2 := HS.out; omega); intro v9 w3 ho hb hg hat; have HO3 := Az.mk ho; have HB3 := Az.mk ((HB.out.trans HB2.out).overR ho hg HR.out HLT.out); clear ho hb hg hat))
      go_roundg (tkM p.1 p.2)
      case measure =>
       have := HM.out.2 trivial
       simp only [tkM, if_pos HE0.out, if_pos this.2]; omega
      case rel =>
       refine ⟨out ++ [vn], p.1, p.2, rfl, HT1, HB3, HO3, ⟨by have h1 := HN.out; have h2 := (HM.out.2 trivial).1; simp; omega⟩, ⟨?_⟩⟩
       rw [HE.out, HQ.out]; simp
     | true =>
      have HQ : Az (listS s.size r' ts' = ((listS s.size p.1 p.2).1, -vn :: (listS s.size p.1 p.2).2.1, (listS s.size p.1 p.2).2.2)) := ⟨by have h1 := HEQ.out; rw [if_pos rfl, if_neg (by simp only [if_true]; omega)] at h1; exact h1⟩
      have hneg : IntKind.i64.wrap (-vn) = -vn := by have := HV.out; rw [IntKind.wrap_i64]; omega
      clear hv
      go_wp2_with (first | (go_at_call 69; refine HN1.out.mono ?_; rintro e w1 ⟨rfl, hb1⟩; have HB1 := Az.mk hb1; obtain ⟨g0, g1, g2, g3⟩ := hb1.cells; clear hb1 h0 h1 h2 h3) | (go_at_call 105; refine (HCUT.out _).mono ?_; rintro e w' ⟨rfl, hw⟩; rw [hw]) | (go_at_call 70; refine (HVAL.out _ (HG0.out.below' hWB.out HB1.out.grown HGR.out)).mono ?_; rintro e w2 ⟨rfl, hb2⟩; have HB2 := Az.mk (HB1.out.below hb2); clear hb2) | ((with_reducible refine gate_builtin (b := .append) (xs := #[.tmp 45, .tmp 48]) rfl ?_); at_builtin; refine Kd.R_append (Kd.int .i64) (w0 := w0) w0.heap.size rfl (.tmp 45) (.tmp 48) 31 3 (.int .i64 0) 8 rfl Tryz.underlying31 infoInt rfl (by decide) (by omega) (.slice Ao out.length co) out (-vn) [.int .i64 (-vn)] (fun k => W0.heap.size ≤ k) (fun _ => False) rfl rfl ?aP (fun _ hk => hk.elim) ?aF ?aO ?aB ?aS ?aL ?_; (case aP => exact rfl); (case aF => exact fun k hk => Nat.le_trans (HBS.out w2 HB2.out.grown) hk); (case aO => exact Kd.R_grown HR.out HB2.out.grown (fun k hk e => by injection e with e; have := HLT.out; omega)); (case aB => exact HBW.out w2 HB2.out.grown); (case aS => exact (HBW.out w2 HB2.out.grown).size); (case aL => have h1 := HN.out; have h2 := HS.out; omega); intro v9 w3 ho hb hg hat; have HO3 := Az.mk ho; have HB3 := Az.mk ((HB.out.trans HB2.out).overR ho hg HR.out HLT.out); clear ho hb hg hat))
      go_roundg (tkM p.1 p.2)
      case measure =>
       have := HM.out.2 trivial
       simp only [tkM, if_pos HE0.out, if_pos this.2]; omega
      case rel =>
       refine ⟨out ++ [-vn], p.1, p.2, rfl, HT1, HB3, HO3, ⟨by have h1 := HN.out; have h2 := (HM.out.2 trivial).1; simp; omega⟩, ⟨?_⟩⟩
       rw [HE.out, HQ.out]; simp
  ·have he' : (r'.e == 0) = false := beq_eq_false_iff_ne.2 he
   have HST := Az.mk (listS_stop (len := s.size) (ts := ts') he)
   clear he
   go_wp2
   go_ret
   refine ⟨_, rfl, ?_, ?_⟩
   ·rw [HE.out, HST.out, List.append_nil]; exact HR.out
   ·rw [HE.out, HST.out]; exact HB.out
end Go.Proofs.YtogicccdngpafaaGreatDoor.NText
end
section
set_option maxRecDepth 100000
namespace Go.Proofs.YtogicccdngpafaaGreatDoor.NPlain
open Go Go.RowKit Go.Lib QW.PrintWords QW.PrintLast QW.PrintMore NState
open NText
open PRPar
abbrev rT (s : ByteArray) (r : RS) : ByteArray × Int × Int × Int := (s, (r.at_ : Int), r.e, r.wrong)
end Go.Proofs.YtogicccdngpafaaGreatDoor.NPlain
end
