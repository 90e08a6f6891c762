/-
  Part 13 of the proof of cnfTextMatches_card: walks and lemmas.
-/
import Derived.Test.YtkcfdddhnboieaaGreatDoorKG9
import Derived.Test.YtkcfdddhnboieaaGreatDoorKG12
import Derived.Lib.PathFns
import Derived.Deep.RegionWith
import Derived.Test.YtkcfdddhnboieaaGreatDoorKG11
import Derived.Deep.LoopGhost
import Derived.Test.YtkcfdddhnboieaaGreatDoorKG6
set_option linter.unusedVariables false
set_option linter.unusedSimpArgs false
section
set_option maxHeartbeats 1000000
set_option maxRecDepth 100000
namespace Go.Proofs.YtkcfdddhnboieaaGreatDoor.NText
open Go Go.RowKit Go.Shelf Go.Lib QW.PrintWords QW.PrintLast QW.PrintMore
open NState (infoInt)
def rdC (s : ByteArray) (r : RS) : Array Value := #[.string s, .int .i64 r.at_, .int .i64 r.wrong, .int .i64 r.e]
structure RdPost (W0 : World) (gr : Nat) (s : ByteArray) (r : RS) (W : World) : Prop where
 box : W.heap[gr]? = some (.cells (rdC s r) 118 (0, 0))
 grown : W0.grownBy W (some gr)
theorem grown_refl (W : World) (row : Option Nat) : W.grownBy W row := ⟨rfl, rfl, rfl, Nat.le_refl _, fun _ _ _ => rfl⟩
theorem grown_set' {W : World} {g j : Nat} {u : Value} {W0 : World} (h : W0.grownBy W (some g)) : W0.grownBy (W.setCell ⟨g, j, none⟩ u) (some g) := by
 have hB : Below 0 W (W.setCell ⟨g, j, none⟩ u) := (Below.refl 0 W).setCell (p := ⟨g, j, none⟩) (Nat.zero_le _) u
 exact ⟨hB.os.trans h.os, hB.tape.trans h.tape, hB.output.trans h.output, Nat.le_trans h.size hB.size, fun k hk hne => (Below.heap_setCell W ⟨g, j, none⟩ u k (fun he => hne (by rw [he]))).trans (h.block k hk hne)⟩
theorem grown_below' {W0 A B : World} {row : Option Nat} (h : W0.grownBy A row) (hb : Below A.heap.size A B) : W0.grownBy B row :=
 ⟨hb.os.trans h.os, hb.tape.trans h.tape, hb.output.trans h.output, Nat.le_trans h.size hb.size, fun k hk hne => (hb.block k (Nat.lt_of_lt_of_le hk h.size)).trans (h.block k hk hne)⟩
theorem grown_trans' {W0 A B : World} {row : Option Nat} (h : W0.grownBy A row) (hb : A.grownBy B row) : W0.grownBy B row :=
 ⟨hb.os.trans h.os, hb.tape.trans h.tape, hb.output.trans h.output, Nat.le_trans h.size hb.size, fun k hk hne => (hb.block k (Nat.lt_of_lt_of_le hk h.size) hne).trans (h.block k hk hne)⟩
section
variable {W0 W W' : World} {gr : Nat} {s : ByteArray} {r : RS}
theorem RdPost.below (h : RdPost W0 gr s r W) (hb : Below W.heap.size W W') : RdPost W0 gr s r W' := ⟨blk_below h.box hb, grown_below' h.grown hb⟩
theorem RdPost.cells (h : RdPost W0 gr s r W) : W.cell? ⟨gr, 0, none⟩ = some (.string s) ∧ W.cell? ⟨gr, 1, none⟩ = some (.int .i64 r.at_) ∧ W.cell? ⟨gr, 2, none⟩ = some (.int .i64 r.wrong) ∧ W.cell? ⟨gr, 3, none⟩ = some (.int .i64 r.e) :=
 ⟨(bkc h.box 0).trans rfl, (bkc h.box 1).trans rfl, (bkc h.box 2).trans rfl, (bkc h.box 3).trans rfl⟩
theorem RdPost.frozen (h : RdPost W0 gr s r W) (j : Nat) : W.frozen? ⟨gr, j, none⟩ = false := bkf h.box j
theorem RdPost.trans {r' : RS} (h : RdPost W0 gr s r W) (h' : RdPost W gr s r' W') : RdPost W0 gr s r' W' := ⟨h'.box, grown_trans' h.grown h'.grown⟩
theorem RdPost.at1 (h : RdPost W0 gr s r W) (a : Nat) : RdPost W0 gr s { r with at_ := a } (W.setCell ⟨gr, 1, none⟩ (.int .i64 a)) := ⟨blk_put h.box 1 _ rfl, grown_set' h.grown⟩
theorem RdPost.fails (h : RdPost W0 gr s r W) (a e : Int) : RdPost W0 gr s { r with wrong := a, e := e } ((W.setCell ⟨gr, 2, none⟩ (.int .i64 a)).setCell ⟨gr, 3, none⟩ (.int .i64 e)) := ⟨blk_put (blk_put h.box 2 _ rfl) 3 _ rfl, grown_set' (grown_set' h.grown)⟩
end
theorem rd_start {W : World} {gr : Nat} {s : ByteArray} {r : RS} (h : W.heap[gr]? = some (.cells (rdC s r) 118 (0, 0))) : RdPost W gr s r W := ⟨h, grown_refl _ _⟩
theorem fail_calls (W : World) (gr : Nat) (s : ByteArray) (r : RS) (a e0 : Int) (h : RdPost W gr s r W) : Calls Tryz.prog 84 #[.pointer (some ⟨gr, 0, none⟩), .int .i64 a, .int .i64 e0] W fun e W' => e = .returned (.tuple #[]) ∧ RdPost W gr s (failS r a e0) W' := by
 have HB := Az.mk h
 obtain ⟨h0, h1, h2, h3⟩ := h.cells
 have f2 := h.frozen 2
 have f3 := h.frozen 3
 clear h
 go_enter Tryz.func84, Tryz.ntmps84
 by_cases he : r.e = 0
 ·have he' : (r.e == 0) = true := by rw [he]; rfl
  have HE := Az.mk he
  clear he
  go_wp2
  go_end0
  have hf : failS r a e0 = { r with wrong := a, e := e0 } := by unfold failS; rw [if_pos HE.out]
  rw [hf]
  exact ⟨rfl, HB.out.fails a e0⟩
 ·have he' : (r.e == 0) = false := beq_eq_false_iff_ne.2 he
  have HE := Az.mk he
  clear he
  go_wp2
  go_end0
  have hf : failS r a e0 = r := by unfold failS; rw [if_neg HE.out]
  rw [hf]
  exact ⟨rfl, HB.out⟩
theorem tk_peek {l : List UInt8} {i : Nat} {ts : List (Nat × List UInt8)} (h : Tk l i ts) : i ≤ l.length ∧ ((l.drop i).dropWhile wh).takeWhile nw = (peekT l.length ts).1 ∧ (peekT l.length ts).2 + ((l.drop i).dropWhile wh).length = l.length := by
 cases h with
 | nil hi h => exact ⟨hi, by rw [h]; rfl, by rw [h]; rfl⟩
 | cons hi h hr ha ht => exact ⟨hi, by rw [h]; rfl, by rw [h]; exact ha⟩
def sb (l : List UInt8) : ByteArray := ⟨l.toArray⟩
theorem sb_list (l : List UInt8) : (sb l).data.toList = l := by simp [sb]
theorem tk_word {l : List UInt8} {i a : Nat} {x : List UInt8} {ts : List (Nat × List UInt8)} (h : Tk l i ((a, x) :: ts)) : 0 < x.length ∧ a + x.length ≤ l.length := by
 cases h with
 | cons hi h hr ha ht => exact ⟨word_pos h hr, by have := takeWhile_le (p := nw) ‹List UInt8›; omega⟩
theorem sb_size (x : List UInt8) : (sb x).size = x.length := by rw [size_eq, sb_list]
def skipR0.T : Bool × List (List Nat × List Nat) := (true, [([], []), ([], []), ([1], [1]), ([2], [2]), ([3], [3]), ([4], [4]), ([], []), ([6], [6]), ([7], [7]), ([8], [8]), ([], []), ([10], [10]), ([11], [11]), ([12], [12]), ([9, 13], [9, 13]), ([14], [14]), ([15], [15]), ([5, 16], [5, 16]), ([0, 0, 1, 2, 3, 4, 5, 6, 7, 8, 9, 10, 11, 12, 13, 14, 15, 16, 17], [0]), ([18, 0, 1, 2, 3, 4, 5, 6, 7, 8, 9, 10, 11, 12, 13, 14, 15, 16, 17], [18]), ([19, 17, 15, 0, 1, 2, 3, 4, 5, 6, 7, 8, 9, 10, 11, 12, 13, 14, 15, 16, 17], [17, 19])])
def skipR0.B : List Nat := [0, 0, 2, 6, 14, 30, 0, 64, 192, 448, 0, 1024, 3072, 7168, 16320, 32704, 65472, 131070, 262143, 524287, 1048575]
theorem skipR0.tab : rtab .any (opsOf Tryz.f83 0) = skipR0.T := by kernel_rfl
theorem skipR0.bits : waitsOk skipR0.T.2 skipR0.B = true := by kernel_rfl
def skipS (len : Nat) (r : RS) (ts : List (Nat × List UInt8)) : RS := { r with at_ := (peekT len ts).2 }
theorem skip_calls (W0 W : World) (gr : Nat) (s : ByteArray) (hs : s.size ≤ 65536) (r : RS) (ts : List (Nat × List UInt8)) (ht : Tk s.data.toList r.at_ ts) (h : RdPost W0 gr s r W) :
  Calls Tryz.prog 83 #[.pointer (some ⟨gr, 0, none⟩)] W fun e W' => e = .returned (.tuple #[]) ∧ RdPost W0 gr s (skipS s.size r ts) W' := by
 have HB := Az.mk h
 obtain ⟨h0, h1, h2, h3⟩ := h.cells
 obtain ⟨hi, hw, ha⟩ := tk_peek ht
 rw [← size_eq] at hi hw ha
 have hX : (s.extract r.at_ s.size).data.toList = s.data.toList.drop r.at_ := extract_to_end s r.at_
 have hi1 : (0 : Int) ≤ (r.at_ : Int) ∧ (r.at_ : Int) ≤ (s.size : Int) := by omega
 obtain ⟨rest, hrest⟩ : ∃ x, (s.data.toList.drop r.at_).dropWhile wh = x := ⟨_, rfl⟩
 rw [hrest] at hw ha
 have hR := Az.mk hrest
 have hlr : (⟨rest.toArray⟩ : ByteArray).size = rest.length := by rw [size_eq]
 have hsub : IntKind.i64.wrap ((s.size : Int) - (rest.length : Int)) = ((peekT s.size ts).2 : Int) := by rw [IntKind.wrap_i64]; omega
 have HSK : Az (skipS s.size r ts = { r with at_ := (peekT s.size ts).2 }) := ⟨rfl⟩
 generalize skipS s.size r ts = r2 at HSK ⊢
 generalize (peekT s.size ts).2 = p2 at hsub HSK
 clear h ht hrest hw ha
 go_enter Tryz.func83, Tryz.ntmps83
 go_wp2_with fail
 have HBd := Az.mk (HB.out.below (below_drew (Below.refl _ _)))
 refine start_ (n := 21) (S := fun w' => w'.cell? ⟨gr, 0, none⟩ = some (.string s) ∧ w'.cell? ⟨gr, 1, none⟩ = some (.int .i64 r.at_)) (ds := [20]) (Array.replicate 21 false) (by kernel_rfl) rfl rfl ⟨h0, h1⟩ (fun hHeld => ?_); refine with_tabW skipR0.tab skipR0.bits (fun HT_ HW_ => ?_)
 refine pA 0 (some 2) (bA 21 1) rfl rfl HT_.out (by intro w'; go_simp; with_reducible rfl) (by simp only [Act.put, zq1, zq2, zq3, iw, jw]; rfl) ?_
 refine pA 1 (some 3) (bA 21 3) rfl rfl HT_.out (by intro w'; go_simp; with_reducible rfl) (by simp only [Act.put, zq1, zq2, zq3, iw, jw]; rfl) ?_
 refine pA 2 (some 4) (bA 21 7) rfl rfl HT_.out (by intro w'; go_simp; with_reducible rfl) (by simp only [Act.put, zq1, zq2, zq3, iw, jw]; rfl) ?_
 refine pA 3 (some 5) (bA 21 15) rfl rfl HT_.out (by intro w'; go_simp; with_reducible rfl) (by simp only [Act.put, zq1, zq2, zq3, iw, jw]; rfl) ?_
 refine pT 4 (some 6) (bA 21 31) rfl rfl HT_.out HW_.out hHeld (by rintro w' ⟨s0, s1⟩; go_simp; with_reducible rfl) (by simp only [Act.put, zq1, zq2, zq3, iw, jw]; rfl) ?_
 refine pA 5 (some 7) (bA 21 63) rfl rfl HT_.out (by intro w'; go_simp; with_reducible rfl) (by simp only [Act.put, zq1, zq2, zq3, iw, jw]; rfl) ?_
 refine pA 6 (some 8) (bA 21 127) rfl rfl HT_.out (by intro w'; go_simp; with_reducible rfl) (by simp only [Act.put, zq1, zq2, zq3, iw, jw]; rfl) ?_
 refine pA 7 (some 9) (bA 21 255) rfl rfl HT_.out (by intro w'; go_simp; with_reducible rfl) (by simp only [Act.put, zq1, zq2, zq3, iw, jw]; rfl) ?_
 refine pA 8 (some 10) (bA 21 511) rfl rfl HT_.out (by intro w'; go_simp; with_reducible rfl) (by simp only [Act.put, zq1, zq2, zq3, iw, jw]; rfl) ?_
 refine pT 9 (some 11) (bA 21 1023) rfl rfl HT_.out HW_.out hHeld (by rintro w' ⟨s0, s1⟩; go_simp; with_reducible rfl) (by simp only [Act.put, zq1, zq2, zq3, iw, jw]; rfl) ?_
 refine pA 10 (some 12) (bA 21 2047) rfl rfl HT_.out (by intro w'; go_simp; with_reducible rfl) (by simp only [Act.put, zq1, zq2, zq3, iw, jw]; rfl) ?_
 refine pA 11 (some 13) (bA 21 4095) rfl rfl HT_.out (by intro w'; go_simp; with_reducible rfl) (by simp only [Act.put, zq1, zq2, zq3, iw, jw]; rfl) ?_
 refine pA 12 (some 14) (bA 21 8191) rfl rfl HT_.out (by intro w'; go_simp; with_reducible rfl) (by simp only [Act.put, zq1, zq2, zq3, iw, jw]; rfl) ?_
 refine pT 13 (some 15) (bA 21 16383) rfl rfl HT_.out HW_.out hHeld (by rintro w' ⟨s0, s1⟩; go_simp; with_reducible rfl) (by simp only [Act.put, zq1, zq2, zq3, iw, jw]; rfl) ?_
 refine pA 14 (some 16) (bA 21 32767) rfl rfl HT_.out (by intro w'; go_simp; with_reducible rfl) (by simp only [Act.put, zq1, zq2, zq3, iw, jw]; rfl) ?_
 refine QW.PrintLast.one_ (i := 15) (N := some 17) (bA 21 65535) rfl rfl (one_of HT_.out (by kernel_rfl)) (by decide) (fun K hK => ?_)
 refine goes_ Tryz.func124 (by kernel_rfl) rfl #[.string (s.extract r.at_ s.size), .string ⟨#[32, 9, 10, 13]⟩] (by rfl) rfl rfl (by (try simp only [List.map_toArray, List.map_cons, List.map_nil]); first | done | rfl) ?_
 refine (trimLeft_calls _ _).mono ?_
 rintro e w1 ⟨rfl, hb1⟩
 rw [hX, hR.out]
 refine ⟨_, rfl, ?_⟩
 have HB1 := Az.mk (HBd.out.below hb1)
 refine hK.out _ _ ⟨HB1.out.cells.1, HB1.out.cells.2.1⟩ (fun hHeld => ?_)
 clear hK K hb1
 refine norm_ (by show Act.put _ (some 17) _ = _; simp only [Act.put, zq1, zq2, zq3, iw, jw]; rfl) ?_
 refine pA 16 (some 18) (bA 21 131071) rfl rfl HT_.out (by intro w'; go_simp; with_reducible rfl) (by simp only [Act.put, zq1, zq2, zq3, iw, jw]; rfl) ?_
 refine pA 17 (some 19) (bA 21 262143) rfl rfl HT_.out (by intro w'; go_simp; with_reducible rfl) (by simp only [Act.put, zq1, zq2, zq3, iw, jw]; rfl) ?_
 refine pA 18 (some 20) (bA 21 524287) rfl rfl HT_.out (by intro w'; go_simp; with_reducible rfl) (by simp only [Act.put, zq1, zq2, zq3, iw, jw]; rfl) ?_
 refine pA 19 (some 21) (bA 21 1048575) rfl rfl HT_.out (by intro w'; go_simp; with_reducible rfl) (by simp only [Act.put, zq1, zq2, zq3, iw, jw]; rfl) ?_
 refine last_ (i := 20) (N := none) (bA 21 2097151) rfl rfl (one_of HT_.out (by kernel_rfl)) (by decide) (fun K hK => ?_)
 have hs28 := HB1.out.cells.2.1
 have hfs28 := HB1.out.frozen 1
 refine skip_ (w1 := ?_) (by rfl) rfl ?_ ?_
 rotate_left
 ·go_simp
  rfl
 refine hK.out _ _ ?_
 clear hK K
 refine done_ (done_of HT_.out (by kernel_rfl)) ?_
 clear hHeld HT_ HW_
 go_end0
 rw [HSK.out]
 exact ⟨rfl, HB1.out.at1 _⟩
end Go.Proofs.YtkcfdddhnboieaaGreatDoor.NText
end
section
set_option maxRecDepth 100000
namespace Go.Proofs.YtkcfdddhnboieaaGreatDoor.NText
open Go Go.RowKit Go.Shelf Go.Lib QW.PrintWords QW.PrintLast QW.PrintMore
open NState (infoInt)
open NState (goesV_)
theorem tk_at {l : List UInt8} {i a : Nat} {x : List UInt8} {ts : List (Nat × List UInt8)} (h : Tk l i ((a, x) :: ts)) : (l.drop a).takeWhile nw = x := by
 cases h with
 | cons hi h hr ha ht =>
  rename_i r
  have h1 : r <:+ l := by rw [← h]; exact (List.dropWhile_suffix _).trans (List.drop_suffix _ _)
  have h2 : r = l.drop (l.length - r.length) := List.suffix_iff_eq_drop.1 h1
  have h3 : l.length - r.length = a := by omega
  rw [h3] at h2
  rw [← h2]
def wordS (b : Bool) (r : RS) (a n : Nat) : RS := { (if b = true then { r with at_ := a } else failS { r with at_ := a } a 3) with at_ := a + n }
def wordR2.T : Bool × List (List Nat × List Nat) := (true, [([], []), ([0], [0]), ([1], [1]), ([2], [2]), ([], []), ([4], [4]), ([5], [5]), ([6], [6]), ([7], [7]), ([3, 8], [3, 8])])
def wordR2.B : List Nat := [0, 1, 3, 7, 0, 16, 48, 112, 240, 511]
theorem wordR2.tab : rtab .any (opsOf Tryz.f118 2) = wordR2.T := by kernel_rfl
theorem wordR2.bits : waitsOk wordR2.T.2 wordR2.B = true := by kernel_rfl
def wordR4.T : Bool × List (List Nat × List Nat) := (true, [([], []), ([0], [0]), ([1], [1]), ([2], [2]), ([], []), ([4], [4]), ([5], [5]), ([6], [6]), ([3, 7], [3, 7]), ([8], [8]), ([9, 9, 0, 1, 2, 3, 4, 5, 6, 7, 8, 9], [9])])
def wordR4.B : List Nat := [0, 1, 3, 7, 0, 16, 48, 112, 255, 511, 1023]
theorem wordR4.tab : rtab .any (opsOf Tryz.f118 4) = wordR4.T := by kernel_rfl
theorem wordR4.bits : waitsOk wordR4.T.2 wordR4.B = true := by kernel_rfl
def wordR6.T : Bool × List (List Nat × List Nat) := (true, [([], []), ([0], [0]), ([1], [1]), ([2], [2]), ([3], [3]), ([], []), ([5], [5]), ([6], [6]), ([7], [7]), ([4, 8], [4, 8]), ([9, 0, 1, 2, 3, 4, 5, 6, 7, 8, 9], [9])])
def wordR6.B : List Nat := [0, 1, 3, 7, 15, 0, 32, 96, 224, 511, 1023]
theorem wordR6.tab : rtab .any (opsOf Tryz.f118 6) = wordR6.T := by kernel_rfl
theorem wordR6.bits : waitsOk wordR6.T.2 wordR6.B = true := by kernel_rfl
def wordR7.T : Bool × List (List Nat × List Nat) := (true, [([], []), ([], []), ([1], [1]), ([2], [2]), ([3], [3]), ([], []), ([5], [5]), ([6], [6]), ([7], [7]), ([], []), ([9], [9]), ([10], [10]), ([11], [11]), ([], []), ([12, 13], [12, 13]), ([4, 8, 14], [4, 8, 14]), ([0, 15], [0, 15]), ([16], [16])])
def wordR7.B : List Nat := [0, 0, 2, 6, 14, 0, 32, 96, 224, 0, 512, 1536, 3584, 0, 15872, 32766, 65535, 131071]
theorem wordR7.tab : rtab .any (opsOf Tryz.f118 7) = wordR7.T := by kernel_rfl
theorem wordR7.bits : waitsOk wordR7.T.2 wordR7.B = true := by kernel_rfl
section
set_option maxHeartbeats 1000000
set_option maxRecDepth 100000
variable (W : World) (gr : Nat) (s : ByteArray) (hs : s.size ≤ 65536) (r : RS) (fv : Value)
include hs
theorem word_stop (he : r.e ≠ 0) (h : RdPost W gr s r W) :
  Calls Tryz.prog 118 #[.pointer (some ⟨gr, 0, none⟩), fv] W fun e W' => e = .returned (.tuple #[]) ∧ W' = W := by
 obtain ⟨h0, h1, h2, h3⟩ := h.cells
 have he' : (r.e != 0) = true := bne_iff_ne.2 he
 have HS := Az.mk hs
 clear h he hs
 go_enter Tryz.func118, Tryz.ntmps118
 go_wp2_with fail
 (try simp only [Exit.inBlock, Exit.then]); refine bodyPost_ret (results_none rfl _ _ _) rfl ?_
 exact ⟨rfl, rfl⟩
theorem word_short (ht : Tk s.data.toList r.at_ []) (he : r.e = 0) (h : RdPost W gr s r W) :
  Calls Tryz.prog 118 #[.pointer (some ⟨gr, 0, none⟩), fv] W fun e W' => e = .returned (.tuple #[]) ∧ RdPost W gr s { failS r s.size 4 with at_ := s.size } W' := by
 have HSK := Az.mk (skip_calls W W gr s hs r [] ht h)
 obtain ⟨h0, h1, h2, h3⟩ := h.cells
 have he' : (r.e != 0) = false := by rw [he]; rfl
 have HE := Az.mk he
 clear h ht he
 go_enter Tryz.func118, Tryz.ntmps118
 go_wp2_with (go_at_call 83; refine HSK.out.mono ?_; rintro e w1 ⟨rfl, hb1⟩; have HB1 := Az.mk hb1; clear hb1)
 have HBd := Az.mk (HB1.out.below (below_drew (Below.refl _ _)))
 clear h0 h1 h2 h3
 refine start_ (n := 10) (S := fun w' => w'.cell? ⟨gr, 0, none⟩ = some (.string s) ∧ w'.cell? ⟨gr, 1, none⟩ = some (.int .i64 s.size)) (ds := []) (Array.replicate 10 false) (by kernel_rfl) rfl rfl ⟨HBd.out.cells.1, HBd.out.cells.2.1⟩ (fun hHeld => ?_); refine with_tabW wordR2.tab wordR2.bits (fun HT_ HW_ => ?_)
 refine pA 0 (some 12) (bA 10 1) rfl rfl HT_.out (by intro w'; go_simp; with_reducible rfl) (by simp only [Act.put, zq1, zq2, zq3, iw, jw]; rfl) ?_
 refine pA 1 (some 13) (bA 10 3) rfl rfl HT_.out (by intro w'; go_simp; with_reducible rfl) (by simp only [Act.put, zq1, zq2, zq3, iw, jw]; rfl) ?_
 refine pA 2 (some 14) (bA 10 7) rfl rfl HT_.out (by intro w'; go_simp; with_reducible rfl) (by simp only [Act.put, zq1, zq2, zq3, iw, jw]; rfl) ?_
 refine pT 3 (some 15) (bA 10 15) rfl rfl HT_.out HW_.out hHeld (by rintro w' ⟨s0, s1⟩; go_simp; with_reducible rfl) (by simp only [Act.put, zq1, zq2, zq3, iw, jw]; rfl) ?_
 refine pA 4 (some 16) (bA 10 31) rfl rfl HT_.out (by intro w'; go_simp; with_reducible rfl) (by simp only [Act.put, zq1, zq2, zq3, iw, jw]; rfl) ?_
 refine pA 5 (some 17) (bA 10 63) rfl rfl HT_.out (by intro w'; go_simp; with_reducible rfl) (by simp only [Act.put, zq1, zq2, zq3, iw, jw]; rfl) ?_
 refine pA 6 (some 18) (bA 10 127) rfl rfl HT_.out (by intro w'; go_simp; with_reducible rfl) (by simp only [Act.put, zq1, zq2, zq3, iw, jw]; rfl) ?_
 refine pT 7 (some 19) (bA 10 255) rfl rfl HT_.out HW_.out hHeld (by rintro w' ⟨s0, s1⟩; go_simp; with_reducible rfl) (by simp only [Act.put, zq1, zq2, zq3, iw, jw]; rfl) ?_
 refine pA 8 (some 20) (bA 10 511) rfl rfl HT_.out (by intro w'; go_simp; with_reducible rfl) (by simp only [Act.put, zq1, zq2, zq3, iw, jw]; rfl) ?_
 refine pA 9 (some 21) (bA 10 1023) rfl rfl HT_.out (by intro w'; go_simp; with_reducible rfl) (by simp only [Act.put, zq1, zq2, zq3, iw, jw]; rfl) ?_
 refine done_ (done_of HT_.out (by kernel_rfl)) ?_
 clear hHeld HT_ HW_
 have HBe : Az (RdPost W gr s (skipS s.size r []) w1.drew) := HBd
 obtain ⟨h0, h1, h2, h3⟩ := HBe.out.cells
 simp only [skipS, peekT] at h1
 have hd : ((s.size : Int) == (s.size : Int)) = true := by simp
 go_wp2_with (go_at_call 84; refine (fail_calls w1.drew gr s _ _ _ (rd_start HBe.out.box)).mono ?_; rintro e w2 ⟨rfl, hb2⟩; have HB2 := Az.mk (HBe.out.trans hb2); clear hb2)
 (try simp only [Exit.inBlock, Exit.then]); refine bodyPost_ret (results_none rfl _ _ _) rfl ?_
 refine ⟨rfl, ?_⟩
 have hx : failS (skipS s.size r []) s.size 4 = { failS r s.size 4 with at_ := s.size } := by
  unfold failS skipS
  rw [if_pos HE.out, if_pos HE.out]; rfl
 rw [← hx]
 exact HB2.out
theorem word_goes (a : Nat) (x : List UInt8) (ts : List (Nat × List UInt8)) (ht : Tk s.data.toList r.at_ ((a, x) :: ts)) (he : r.e = 0) (h : RdPost W gr s r W) (f : Nat) (lb : Array Value) (b : Bool) (C : World → Prop)
  (hent : ∀ args w, (callFunc f args).run Tryz.prog w = .ok (.enter f args) w)
  (hf : ∀ W1, RdPost W gr s { r with at_ := a } W1 → Calls Tryz.prog f (#[.string (sb x)] ++ lb) W1 fun e W2 => e = .returned (.bool b) ∧ C W2)
  (hC : ∀ W2, C W2 → W2.heap[gr]? = some (.cells (rdC s { r with at_ := a }) 118 (0, 0))) :
  Calls Tryz.prog 118 #[.pointer (some ⟨gr, 0, none⟩), .func (.func f) #[] lb] W fun e W' => e = .returned (.tuple #[]) ∧ ∃ W2, C W2 ∧ RdPost W2 gr s (wordS b r a x.length) W' := by
 have HSK := Az.mk (skip_calls W W gr s hs r ((a, x) :: ts) ht h)
 obtain ⟨h0, h1, h2, h3⟩ := h.cells
 have he' : (r.e != 0) = false := by rw [he]; rfl
 obtain ⟨hx0, hax⟩ := tk_word ht
 rw [← size_eq] at hax
 have hX : (s.extract a s.size).data.toList = s.data.toList.drop a := extract_to_end s a
 have hTW := tk_at ht
 obtain ⟨dr, hdr⟩ : ∃ z, s.data.toList.drop a = z := ⟨_, rfl⟩
 have hlen : a + dr.length = s.size := by rw [← hdr, List.length_drop, ← size_eq]; omega
 have hsub : s.extract a (a + x.length) = sb x := by
  apply ByteArray.ext; apply Array.ext'
  rw [sb_list, ← hTW, hdr]
  have h5 : x = dr.take x.length := by
   have := List.takeWhile_prefix nw (l := dr)
   rw [hdr] at hTW; rw [hTW] at this
   exact List.prefix_iff_eq_take.1 this
  rw [hdr] at hTW
  rw [hTW]
  have h6 : (s.extract a (a + x.length)).data.toList = (s.data.toList.drop a).take x.length := by
   simp [ByteArray.data_extract, Array.toList_extract, List.extract_eq_take_drop]
  rw [h6, hdr, ← h5]
 rw [hdr] at hX hTW
 have hs5 : (s.extract a s.size).size < 4294967281 := by rw [size_eq, hX]; omega
 have ha1 : (0 : Int) ≤ (a : Int) ∧ (a : Int) ≤ (s.size : Int) := by omega
 have ha2 : (0 : Int) ≤ (a : Int) + (x.length : Int) ∧ (a : Int) + (x.length : Int) ≤ (s.size : Int) ∧ (a : Int) ≤ (a : Int) + (x.length : Int) := by omega
 have hwn : IntKind.i64.wrap ((a : Int) + (x.length : Int)) = ((a + x.length : Nat) : Int) := by rw [IntKind.wrap_i64]; omega
 have hne : ((a : Int) == (s.size : Int)) = false := beq_eq_false_iff_ne.2 (by omega)
 have HIA : Az (∃ z : Int, indexAny dr ws = z ∧ ((z < 0 ∧ x.length + a = s.size) ∨ z = x.length)) := ⟨by
  rcases indexAny_word dr with ⟨hI, hT⟩ | ⟨i, hI, hi, hT⟩
  ·refine ⟨-1, hI, .inl ⟨by decide, ?_⟩⟩
   rw [← hTW, hT]; omega
  ·refine ⟨i, hI, .inr ?_⟩
   rw [← hTW, hT, List.length_take]; omega⟩
 have HC := Az.mk hC
 have HF := Az.mk hf
 have HX := Az.mk hX
 have HS5 := Az.mk hs5
 have HE := Az.mk he
 have HS6 := Az.mk hs
 clear h ht hTW hlen hdr hX hC hf hs5 he hs
 go_enter Tryz.func118, Tryz.ntmps118
 go_wp2_with (go_at_call 83; refine HSK.out.mono ?_; rintro e w1 ⟨rfl, hb1⟩; have HB1 := Az.mk hb1; clear hb1)
 have HBd : Az (RdPost W gr s { r with at_ := a } w1.drew) := Az.mk (HB1.out.below (below_drew (Below.refl _ _)))
 clear h0 h1 h2 h3 HB1 HSK
 refine start_ (n := 10) (S := fun w' => w'.cell? ⟨gr, 0, none⟩ = some (.string s) ∧ w'.cell? ⟨gr, 1, none⟩ = some (.int .i64 a)) (ds := []) (Array.replicate 10 false) (by kernel_rfl) rfl rfl ⟨HBd.out.cells.1, HBd.out.cells.2.1⟩ (fun hHeld => ?_); refine with_tabW wordR2.tab wordR2.bits (fun HT_ HW_ => ?_)
 refine pA 0 (some 12) (bA 10 1) rfl rfl HT_.out (by intro w'; go_simp; with_reducible rfl) (by simp only [Act.put, zq1, zq2, zq3, iw, jw]; rfl) ?_
 refine pA 1 (some 13) (bA 10 3) rfl rfl HT_.out (by intro w'; go_simp; with_reducible rfl) (by simp only [Act.put, zq1, zq2, zq3, iw, jw]; rfl) ?_
 refine pA 2 (some 14) (bA 10 7) rfl rfl HT_.out (by intro w'; go_simp; with_reducible rfl) (by simp only [Act.put, zq1, zq2, zq3, iw, jw]; rfl) ?_
 refine pT 3 (some 15) (bA 10 15) rfl rfl HT_.out HW_.out hHeld (by rintro w' ⟨s0, s1⟩; go_simp; with_reducible rfl) (by simp only [Act.put, zq1, zq2, zq3, iw, jw]; rfl) ?_
 refine pA 4 (some 16) (bA 10 31) rfl rfl HT_.out (by intro w'; go_simp; with_reducible rfl) (by simp only [Act.put, zq1, zq2, zq3, iw, jw]; rfl) ?_
 refine pA 5 (some 17) (bA 10 63) rfl rfl HT_.out (by intro w'; go_simp; with_reducible rfl) (by simp only [Act.put, zq1, zq2, zq3, iw, jw]; rfl) ?_
 refine pA 6 (some 18) (bA 10 127) rfl rfl HT_.out (by intro w'; go_simp; with_reducible rfl) (by simp only [Act.put, zq1, zq2, zq3, iw, jw]; rfl) ?_
 refine pT 7 (some 19) (bA 10 255) rfl rfl HT_.out HW_.out hHeld (by rintro w' ⟨s0, s1⟩; go_simp; with_reducible rfl) (by simp only [Act.put, zq1, zq2, zq3, iw, jw]; rfl) ?_
 refine pA 8 (some 20) (bA 10 511) rfl rfl HT_.out (by intro w'; go_simp; with_reducible rfl) (by simp only [Act.put, zq1, zq2, zq3, iw, jw]; rfl) ?_
 refine pA 9 (some 21) (bA 10 1023) rfl rfl HT_.out (by intro w'; go_simp; with_reducible rfl) (by simp only [Act.put, zq1, zq2, zq3, iw, jw]; rfl) ?_
 refine done_ (done_of HT_.out (by kernel_rfl)) ?_
 clear hHeld HT_ HW_
 go_wp2_with fail
 generalize w1.drew = wa at HBd ⊢
 have HBe : Az (RdPost W gr s { r with at_ := a } wa.drew) := Az.mk (HBd.out.below (below_drew (Below.refl _ _)))
 clear HBd
 obtain ⟨z, hz, hzx⟩ := HIA.out
 refine start_ (n := 11) (S := fun w' => w'.cell? ⟨gr, 0, none⟩ = some (.string s) ∧ w'.cell? ⟨gr, 1, none⟩ = some (.int .i64 a)) (ds := []) (Array.replicate 11 false) (by kernel_rfl) rfl rfl ⟨HBe.out.cells.1, HBe.out.cells.2.1⟩ (fun hHeld => ?_); refine with_tabW wordR4.tab wordR4.bits (fun HT_ HW_ => ?_)
 refine pA 0 (some 28) (bA 11 1) rfl rfl HT_.out (by intro w'; go_simp; with_reducible rfl) (by simp only [Act.put, zq1, zq2, zq3, iw, jw]; rfl) ?_
 refine pA 1 (some 29) (bA 11 3) rfl rfl HT_.out (by intro w'; go_simp; with_reducible rfl) (by simp only [Act.put, zq1, zq2, zq3, iw, jw]; rfl) ?_
 refine pA 2 (some 30) (bA 11 7) rfl rfl HT_.out (by intro w'; go_simp; with_reducible rfl) (by simp only [Act.put, zq1, zq2, zq3, iw, jw]; rfl) ?_
 refine pT 3 (some 31) (bA 11 15) rfl rfl HT_.out HW_.out hHeld (by rintro w' ⟨s0, s1⟩; go_simp; with_reducible rfl) (by simp only [Act.put, zq1, zq2, zq3, iw, jw]; rfl) ?_
 refine pA 4 (some 32) (bA 11 31) rfl rfl HT_.out (by intro w'; go_simp; with_reducible rfl) (by simp only [Act.put, zq1, zq2, zq3, iw, jw]; rfl) ?_
 refine pA 5 (some 33) (bA 11 63) rfl rfl HT_.out (by intro w'; go_simp; with_reducible rfl) (by simp only [Act.put, zq1, zq2, zq3, iw, jw]; rfl) ?_
 refine pA 6 (some 34) (bA 11 127) rfl rfl HT_.out (by intro w'; go_simp; with_reducible rfl) (by simp only [Act.put, zq1, zq2, zq3, iw, jw]; rfl) ?_
 refine pT 7 (some 35) (bA 11 255) rfl rfl HT_.out HW_.out hHeld (by rintro w' ⟨s0, s1⟩; go_simp; with_reducible rfl) (by simp only [Act.put, zq1, zq2, zq3, iw, jw]; rfl) ?_
 refine pA 8 (some 36) (bA 11 511) rfl rfl HT_.out (by intro w'; go_simp; with_reducible rfl) (by simp only [Act.put, zq1, zq2, zq3, iw, jw]; rfl) ?_
 refine QW.PrintLast.one_ (i := 9) (N := some 37) (bA 11 1023) rfl rfl (one_of HT_.out (by kernel_rfl)) (by decide) (fun K hK => ?_)
 refine goes_ Tryz.func146 (by kernel_rfl) rfl #[.string (s.extract a s.size), .string ⟨#[32, 9, 10, 13]⟩] (by rfl) rfl rfl (by (try simp only [List.map_toArray, List.map_cons, List.map_nil]); first | done | rfl) ?_
 refine (indexAny_calls _ HS5.out _).mono ?_
 rintro e w4 ⟨rfl, hb4⟩
 rw [HX.out, hz]
 refine ⟨_, rfl, ?_⟩
 have HB4 := Az.mk (HBe.out.below hb4)
 refine hK.out _ _ ⟨HB4.out.cells.1, HB4.out.cells.2.1⟩ (fun hHeld => ?_)
 clear hK K hb4
 refine norm_ (by show Act.put _ (some 37) _ = _; simp only [Act.put, zq1, zq2, zq3, iw, jw]; rfl) ?_
 refine pA 10 (some 4) (bA 11 2047) rfl rfl HT_.out (by intro w'; go_simp; with_reducible rfl) (by simp only [Act.put, zq1, zq2, zq3, iw, jw]; rfl) ?_
 refine done_ (done_of HT_.out (by kernel_rfl)) ?_
 clear hHeld HT_ HW_ HBe
 clear HIA
 rcases hzx with ⟨hz0, hzl⟩ | hz1
 ·have hz' : decide (z < 0) = true := decide_eq_true hz0
  have HZL := Az.mk hzl
  have hln : IntKind.i64.wrap ((s.size : Int) - (a : Int)) = (x.length : Int) := by rw [IntKind.wrap_i64]; have h6 := HS6.out; omega
  clear hz0 hzl
  go_wp2_with fail
  have HBg : Az (RdPost W gr s { r with at_ := a } w4.drew) := Az.mk (HB4.out.below (below_drew (Below.refl _ _)))
  clear HB4
  refine start_ (n := 11) (S := fun w' => w'.cell? ⟨gr, 0, none⟩ = some (.string s) ∧ w'.cell? ⟨gr, 1, none⟩ = some (.int .i64 a)) (ds := []) (Array.replicate 11 false) (by kernel_rfl) rfl rfl ⟨HBg.out.cells.1, HBg.out.cells.2.1⟩ (fun hHeld => ?_); refine with_tabW wordR6.tab wordR6.bits (fun HT_ HW_ => ?_)
  refine pA 0 (some 40) (bA 11 1) rfl rfl HT_.out (by intro w'; go_simp; with_reducible rfl) (by simp only [Act.put, zq1, zq2, zq3, iw, jw]; rfl) ?_
  refine pA 1 (some 41) (bA 11 3) rfl rfl HT_.out (by intro w'; go_simp; with_reducible rfl) (by simp only [Act.put, zq1, zq2, zq3, iw, jw]; rfl) ?_
  refine pA 2 (some 42) (bA 11 7) rfl rfl HT_.out (by intro w'; go_simp; with_reducible rfl) (by simp only [Act.put, zq1, zq2, zq3, iw, jw]; rfl) ?_
  refine pT 3 (some 43) (bA 11 15) rfl rfl HT_.out HW_.out hHeld (by rintro w' ⟨s0, s1⟩; go_simp; with_reducible rfl) (by simp only [Act.put, zq1, zq2, zq3, iw, jw]; rfl) ?_
  refine pA 4 (some 44) (bA 11 31) rfl rfl HT_.out (by intro w'; go_simp; with_reducible rfl) (by simp only [Act.put, zq1, zq2, zq3, iw, jw]; rfl) ?_
  refine pA 5 (some 45) (bA 11 63) rfl rfl HT_.out (by intro w'; go_simp; with_reducible rfl) (by simp only [Act.put, zq1, zq2, zq3, iw, jw]; rfl) ?_
  refine pA 6 (some 46) (bA 11 127) rfl rfl HT_.out (by intro w'; go_simp; with_reducible rfl) (by simp only [Act.put, zq1, zq2, zq3, iw, jw]; rfl) ?_
  refine pA 7 (some 47) (bA 11 255) rfl rfl HT_.out (by intro w'; go_simp; with_reducible rfl) (by simp only [Act.put, zq1, zq2, zq3, iw, jw]; rfl) ?_
  refine pT 8 (some 48) (bA 11 511) rfl rfl HT_.out HW_.out hHeld (by rintro w' ⟨s0, s1⟩; go_simp; with_reducible rfl) (by simp only [Act.put, zq1, zq2, zq3, iw, jw]; rfl) ?_
  refine pA 9 (some 49) (bA 11 1023) rfl rfl HT_.out (by intro w'; go_simp; with_reducible rfl) (by simp only [Act.put, zq1, zq2, zq3, iw, jw]; rfl) ?_
  refine pA 10 (some 4) (bA 11 2047) rfl rfl HT_.out (by intro w'; go_simp; with_reducible rfl) (by simp only [Act.put, zq1, zq2, zq3, iw, jw]; rfl) ?_
  refine done_ (done_of HT_.out (by kernel_rfl)) ?_
  clear hHeld HT_ HW_
  go_wp2_with fail
  generalize w4.drew = wb at HBg ⊢
  have HBh : Az (RdPost W gr s { r with at_ := a } wb.drew) := Az.mk (HBg.out.below (below_drew (Below.refl _ _)))
  clear HBg
  refine start_ (n := 18) (S := fun w' => w'.cell? ⟨gr, 0, none⟩ = some (.string s) ∧ w'.cell? ⟨gr, 1, none⟩ = some (.int .i64 a)) (ds := [16]) (Array.replicate 18 false) (by kernel_rfl) rfl rfl ⟨HBh.out.cells.1, HBh.out.cells.2.1⟩ (fun hHeld => ?_); refine with_tabW wordR7.tab wordR7.bits (fun HT_ HW_ => ?_)
  refine pA 0 (some 50) (bA 18 1) rfl rfl HT_.out (by intro w'; go_simp; with_reducible rfl) (by simp only [Act.put, zq1, zq2, zq3, iw, jw]; rfl) ?_
  refine pA 1 (some 51) (bA 18 3) rfl rfl HT_.out (by intro w'; go_simp; with_reducible rfl) (by simp only [Act.put, zq1, zq2, zq3, iw, jw]; rfl) ?_
  refine pA 2 (some 52) (bA 18 7) rfl rfl HT_.out (by intro w'; go_simp; with_reducible rfl) (by simp only [Act.put, zq1, zq2, zq3, iw, jw]; rfl) ?_
  refine pA 3 (some 53) (bA 18 15) rfl rfl HT_.out (by intro w'; go_simp; with_reducible rfl) (by simp only [Act.put, zq1, zq2, zq3, iw, jw]; rfl) ?_
  refine pT 4 (some 54) (bA 18 31) rfl rfl HT_.out HW_.out hHeld (by rintro w' ⟨s0, s1⟩; go_simp; with_reducible rfl) (by simp only [Act.put, zq1, zq2, zq3, iw, jw]; rfl) ?_
  refine pA 5 (some 55) (bA 18 63) rfl rfl HT_.out (by intro w'; go_simp; with_reducible rfl) (by simp only [Act.put, zq1, zq2, zq3, iw, jw]; rfl) ?_
  refine pA 6 (some 56) (bA 18 127) rfl rfl HT_.out (by intro w'; go_simp; with_reducible rfl) (by simp only [Act.put, zq1, zq2, zq3, iw, jw]; rfl) ?_
  refine pA 7 (some 57) (bA 18 255) rfl rfl HT_.out (by intro w'; go_simp; with_reducible rfl) (by simp only [Act.put, zq1, zq2, zq3, iw, jw]; rfl) ?_
  refine pT 8 (some 58) (bA 18 511) rfl rfl HT_.out HW_.out hHeld (by rintro w' ⟨s0, s1⟩; go_simp; with_reducible rfl) (by simp only [Act.put, zq1, zq2, zq3, iw, jw]; rfl) ?_
  refine pA 9 (some 59) (bA 18 1023) rfl rfl HT_.out (by intro w'; go_simp; with_reducible rfl) (by simp only [Act.put, zq1, zq2, zq3, iw, jw]; rfl) ?_
  refine pA 10 (some 60) (bA 18 2047) rfl rfl HT_.out (by intro w'; go_simp; with_reducible rfl) (by simp only [Act.put, zq1, zq2, zq3, iw, jw]; rfl) ?_
  refine pA 11 (some 61) (bA 18 4095) rfl rfl HT_.out (by intro w'; go_simp; with_reducible rfl) (by simp only [Act.put, zq1, zq2, zq3, iw, jw]; rfl) ?_
  refine pT 12 (some 62) (bA 18 8191) rfl rfl HT_.out HW_.out hHeld (by rintro w' ⟨s0, s1⟩; go_simp; with_reducible rfl) (by simp only [Act.put, zq1, zq2, zq3, iw, jw]; rfl) ?_
  refine pA 13 (some 63) (bA 18 16383) rfl rfl HT_.out (by intro w'; go_simp; with_reducible rfl) (by simp only [Act.put, zq1, zq2, zq3, iw, jw]; rfl) ?_
  refine pA 14 (some 64) (bA 18 32767) rfl rfl HT_.out (by intro w'; go_simp; with_reducible rfl) (by simp only [Act.put, zq1, zq2, zq3, iw, jw]; rfl) ?_
  refine pA 15 (some 65) (bA 18 65535) rfl rfl HT_.out (by intro w'; go_simp; with_reducible rfl) (by simp only [Act.put, zq1, zq2, zq3, iw, jw]; rfl) ?_
  refine QW.PrintLast.last_ (i := 16) (N := some 66) (bA 18 131071) rfl rfl (one_of HT_.out (by kernel_rfl)) (by decide) (fun K hK => ?_)
  refine goesV_ hent #[.string (sb x)] (#[.string (sb x)] ++ lb) (by rfl) rfl rfl rfl (by (try simp only [List.map_toArray, List.map_cons, List.map_nil]); show #[Value.string _] = #[Value.string (sb x)]; rw [← hsub]; rfl) (by first | rfl | simp) ?_
  refine (HF.out _ HBh.out).mono ?_
  rintro e w5 ⟨rfl, hc5⟩
  refine ⟨_, rfl, ?_⟩
  have HC5 := Az.mk hc5
  refine hK.out _ _ ?_
  clear hK K hc5 HBh
  refine pA 17 (some 67) (bA 18 262143) rfl rfl HT_.out (by intro w'; go_simp; with_reducible rfl) (by simp only [Act.put, zq1, zq2, zq3, iw, jw]; rfl) ?_
  refine done_ (done_of HT_.out (by kernel_rfl)) ?_
  clear hHeld HT_ HW_
  have HB5 : Az (RdPost w5 gr s { r with at_ := a } w5) := ⟨rd_start (HC.out _ HC5.out)⟩
  cases b with
  | true =>
   obtain ⟨h0, h1, h2, h3⟩ := HB5.out.cells
   have f1 := HB5.out.frozen 1
   go_wp2_with fail
   go_end0
   refine ⟨rfl, w5, HC5.out, ?_⟩
   exact HB5.out.at1 _
  | false =>
   obtain ⟨h0, h1, h2, h3⟩ := HB5.out.cells
   go_wp2_with (go_at_call 84; refine (fail_calls w5 gr s _ _ _ HB5.out).mono ?_; rintro e w6 ⟨rfl, hb6⟩; have HB6 := Az.mk hb6; obtain ⟨g0, g1, g2, g3⟩ := hb6.cells; have f1 := hb6.frozen 1; rw [failS_at] at g1; clear hb6 h0 h1 h2 h3)
   go_end0
   refine ⟨rfl, w5, HC5.out, ?_⟩
   exact HB6.out.at1 _
 ·subst hz1
  have hz' : decide ((x.length : Int) < 0) = false := decide_eq_false (by omega)
  go_wp2_with fail
  have HBh : Az (RdPost W gr s { r with at_ := a } w4.drew) := Az.mk (HB4.out.below (below_drew (Below.refl _ _)))
  clear HB4
  refine start_ (n := 18) (S := fun w' => w'.cell? ⟨gr, 0, none⟩ = some (.string s) ∧ w'.cell? ⟨gr, 1, none⟩ = some (.int .i64 a)) (ds := [16]) (Array.replicate 18 false) (by kernel_rfl) rfl rfl ⟨HBh.out.cells.1, HBh.out.cells.2.1⟩ (fun hHeld => ?_); refine with_tabW wordR7.tab wordR7.bits (fun HT_ HW_ => ?_)
  refine pA 0 (some 50) (bA 18 1) rfl rfl HT_.out (by intro w'; go_simp; with_reducible rfl) (by simp only [Act.put, zq1, zq2, zq3, iw, jw]; rfl) ?_
  refine pA 1 (some 51) (bA 18 3) rfl rfl HT_.out (by intro w'; go_simp; with_reducible rfl) (by simp only [Act.put, zq1, zq2, zq3, iw, jw]; rfl) ?_
  refine pA 2 (some 52) (bA 18 7) rfl rfl HT_.out (by intro w'; go_simp; with_reducible rfl) (by simp only [Act.put, zq1, zq2, zq3, iw, jw]; rfl) ?_
  refine pA 3 (some 53) (bA 18 15) rfl rfl HT_.out (by intro w'; go_simp; with_reducible rfl) (by simp only [Act.put, zq1, zq2, zq3, iw, jw]; rfl) ?_
  refine pT 4 (some 54) (bA 18 31) rfl rfl HT_.out HW_.out hHeld (by rintro w' ⟨s0, s1⟩; go_simp; with_reducible rfl) (by simp only [Act.put, zq1, zq2, zq3, iw, jw]; rfl) ?_
  refine pA 5 (some 55) (bA 18 63) rfl rfl HT_.out (by intro w'; go_simp; with_reducible rfl) (by simp only [Act.put, zq1, zq2, zq3, iw, jw]; rfl) ?_
  refine pA 6 (some 56) (bA 18 127) rfl rfl HT_.out (by intro w'; go_simp; with_reducible rfl) (by simp only [Act.put, zq1, zq2, zq3, iw, jw]; rfl) ?_
  refine pA 7 (some 57) (bA 18 255) rfl rfl HT_.out (by intro w'; go_simp; with_reducible rfl) (by simp only [Act.put, zq1, zq2, zq3, iw, jw]; rfl) ?_
  refine pT 8 (some 58) (bA 18 511) rfl rfl HT_.out HW_.out hHeld (by rintro w' ⟨s0, s1⟩; go_simp; with_reducible rfl) (by simp only [Act.put, zq1, zq2, zq3, iw, jw]; rfl) ?_
  refine pA 9 (some 59) (bA 18 1023) rfl rfl HT_.out (by intro w'; go_simp; with_reducible rfl) (by simp only [Act.put, zq1, zq2, zq3, iw, jw]; rfl) ?_
  refine pA 10 (some 60) (bA 18 2047) rfl rfl HT_.out (by intro w'; go_simp; with_reducible rfl) (by simp only [Act.put, zq1, zq2, zq3, iw, jw]; rfl) ?_
  refine pA 11 (some 61) (bA 18 4095) rfl rfl HT_.out (by intro w'; go_simp; with_reducible rfl) (by simp only [Act.put, zq1, zq2, zq3, iw, jw]; rfl) ?_
  refine pT 12 (some 62) (bA 18 8191) rfl rfl HT_.out HW_.out hHeld (by rintro w' ⟨s0, s1⟩; go_simp; with_reducible rfl) (by simp only [Act.put, zq1, zq2, zq3, iw, jw]; rfl) ?_
  refine pA 13 (some 63) (bA 18 16383) rfl rfl HT_.out (by intro w'; go_simp; with_reducible rfl) (by simp only [Act.put, zq1, zq2, zq3, iw, jw]; rfl) ?_
  refine pA 14 (some 64) (bA 18 32767) rfl rfl HT_.out (by intro w'; go_simp; with_reducible rfl) (by simp only [Act.put, zq1, zq2, zq3, iw, jw]; rfl) ?_
  refine pA 15 (some 65) (bA 18 65535) rfl rfl HT_.out (by intro w'; go_simp; with_reducible rfl) (by simp only [Act.put, zq1, zq2, zq3, iw, jw]; rfl) ?_
  refine QW.PrintLast.last_ (i := 16) (N := some 66) (bA 18 131071) rfl rfl (one_of HT_.out (by kernel_rfl)) (by decide) (fun K hK => ?_)
  refine goesV_ hent #[.string (sb x)] (#[.string (sb x)] ++ lb) (by rfl) rfl rfl rfl (by (try simp only [List.map_toArray, List.map_cons, List.map_nil]); show #[Value.string _] = #[Value.string (sb x)]; rw [← hsub]; rfl) (by first | rfl | simp) ?_
  refine (HF.out _ HBh.out).mono ?_
  rintro e w5 ⟨rfl, hc5⟩
  refine ⟨_, rfl, ?_⟩
  have HC5 := Az.mk hc5
  refine hK.out _ _ ?_
  clear hK K hc5 HBh
  refine pA 17 (some 67) (bA 18 262143) rfl rfl HT_.out (by intro w'; go_simp; with_reducible rfl) (by simp only [Act.put, zq1, zq2, zq3, iw, jw]; rfl) ?_
  refine done_ (done_of HT_.out (by kernel_rfl)) ?_
  clear hHeld HT_ HW_
  have HB5 : Az (RdPost w5 gr s { r with at_ := a } w5) := ⟨rd_start (HC.out _ HC5.out)⟩
  cases b with
  | true =>
   obtain ⟨h0, h1, h2, h3⟩ := HB5.out.cells
   have f1 := HB5.out.frozen 1
   go_wp2_with fail
   go_end0
   refine ⟨rfl, w5, HC5.out, ?_⟩
   exact HB5.out.at1 _
  | false =>
   obtain ⟨h0, h1, h2, h3⟩ := HB5.out.cells
   go_wp2_with (go_at_call 84; refine (fail_calls w5 gr s _ _ _ HB5.out).mono ?_; rintro e w6 ⟨rfl, hb6⟩; have HB6 := Az.mk hb6; obtain ⟨g0, g1, g2, g3⟩ := hb6.cells; have f1 := hb6.frozen 1; rw [failS_at] at g1; clear hb6 h0 h1 h2 h3)
   go_end0
   refine ⟨rfl, w5, HC5.out, ?_⟩
   exact HB6.out.at1 _
end
end Go.Proofs.YtkcfdddhnboieaaGreatDoor.NText
end
section
set_option maxRecDepth 100000
namespace Go.Proofs.YtkcfdddhnboieaaGreatDoor.NText
open Go Go.RowKit Go.Shelf Go.Lib QW.PrintWords QW.PrintLast QW.PrintMore
open NState (infoInt)
theorem below_nw (W : World) (o : Obj) : Below W.heap.size W (W.alloc o) := (Below.refl _ _).alloc (Nat.le_refl _) _
theorem valueL_bound (l : List UInt8) : 0 ≤ (valueL l).1 ∧ (valueL l).1 ≤ 4294967295 := by
 unfold valueL
 cases h : parseUintB 32 l with
 | ok u =>
  have hu : u ≤ 2 ^ 32 - 1 := by
   unfold parseUintB at h
   split at h
   ·cases h
   ·exact parseUintM_le (Nat.zero_le _) h
  simp only; omega
 | range => simp only; omega
 | _ => simp only; omega
theorem trimPrefix_len (x : List UInt8) : (trimPrefix x [45]).length ≤ x.length := by
 unfold trimPrefix
 split
 ·simp
 ·exact Nat.le_refl _
structure Agree (p : Nat) (w w' : World) : Prop where
 os : w'.os = w.os
 tape : w'.tape = w.tape
 output : w'.output = w.output
 size : w'.heap.size = w.heap.size
 block : ∀ k, k ≠ p → w'.heap[k]? = w.heap[k]?
theorem Agree.trans {p : Nat} {a b c : World} (h : Agree p a b) (h' : Agree p b c) : Agree p a c :=
 ⟨h'.os.trans h.os, h'.tape.trans h.tape, h'.output.trans h.output, h'.size.trans h.size, fun k hk => (h'.block k hk).trans (h.block k hk)⟩
theorem agree_set (w : World) (p : Nat) (u : Value) : Agree p w (w.setCell ⟨p, 0, none⟩ u) := by
 have hB : Below 0 w (w.setCell ⟨p, 0, none⟩ u) := (Below.refl 0 w).setCell (p := ⟨p, 0, none⟩) (Nat.zero_le _) u
 exact ⟨hB.os, hB.tape, hB.output, World.size_setCell _ _ _, fun k hk => Below.heap_setCell w ⟨p, 0, none⟩ u k hk⟩
theorem rd_agree {W W1 W2 : World} {gr p : Nat} {s : ByteArray} {r : RS} (h : RdPost W gr s r W1) (h' : Agree p W1 W2) (hp : W.heap.size ≤ p) (hne : gr ≠ p) : RdPost W gr s r W2 :=
 ⟨(h'.block gr hne).trans h.box, h'.os.trans h.grown.os, h'.tape.trans h.grown.tape, h'.output.trans h.grown.output, by rw [h'.size]; exact h.grown.size, fun k hk hr => (h'.block k (by omega)).trans (h.grown.block k hk hr)⟩
def wordT (len : Nat) (F : List UInt8 → Bool) (r : RS) (ts : List (Nat × List UInt8)) : RS × List (Nat × List UInt8) :=
 if r.e = 0 then (match ts with | [] => ({ failS r len 4 with at_ := len }, []) | (a, x) :: ts => (wordS (F x) r a x.length, ts)) else (r, ts)
theorem wordT_tk {l : List UInt8} {F : List UInt8 → Bool} {r : RS} {ts : List (Nat × List UInt8)} (h : Tk l r.at_ ts) : Tk l (wordT l.length F r ts).1.at_ (wordT l.length F r ts).2 := by
 unfold wordT
 split
 ·cases h with
  | nil hi h => exact .nil (Nat.le_refl _) (by rw [List.drop_length]; rfl)
  | cons hi h hr ha ht => exact ht
 ·exact h
def isK (k : List UInt8) (x : List UInt8) : Bool := x == k
def wordV (V : List UInt8 → Int) (r : RS) (ts : List (Nat × List UInt8)) : Int :=
 if r.e = 0 then (match ts with | [] => 0 | (_, x) :: _ => V x) else 0
def numF (most : Int) (x : List UInt8) : Bool := (valueL x).2 && decide ((valueL x).1 ≤ most)
theorem rd_low {W0 Wb W : World} {gr : Nat} {s : ByteArray} {r : RS} (hb : Below W0.heap.size W0 Wb) (h : RdPost Wb gr s r W) : RdPost W0 gr s r W :=
 ⟨h.box, grown_trans' (grown_below' (grown_refl _ _) hb) h.grown⟩
theorem rd_cell {W0 W : World} {gr p : Nat} {s : ByteArray} {r : RS} {bl : Obj} (h : RdPost W0 gr s r W) (hp : W0.heap[p]? = some bl) (hne : p ≠ gr) : W.heap[p]? = some bl :=
 (h.grown.block p ((Array.getElem?_eq_some_iff.1 hp).1) (fun e => hne (by injection e))).trans hp
theorem enters_key : ∀ args w, (callFunc 119 args).run Tryz.prog w = .ok (.enter 119 args) w := fun args w => enters_of Tryz.func119 (by kernel_rfl) rfl args w
theorem enters_num : ∀ args w, (callFunc 120 args).run Tryz.prog w = .ok (.enter 120 args) w := fun args w => enters_of Tryz.func120 (by kernel_rfl) rfl args w
theorem enters_lit : ∀ args w, (callFunc 122 args).run Tryz.prog w = .ok (.enter 122 args) w := fun args w => enters_of Tryz.func122 (by kernel_rfl) rfl args w
theorem results_int {fn : Func} {p : Tmp} (h : fn.results = #[.cell p 3]) (tmps : Array Value) (w : World) (a : Addr) (x : Int) (hp : tmps.getD p undef = .pointer (some a)) (hc : w.cell? a = some (.int .i64 x)) : (results fn tmps).run Tryz.prog w = .ok (.int .i64 x) w := by
 have ha : (isAgg 3).run Tryz.prog w = .ok false w := run_isAgg_plain Tryz.underlying3 rfl w
 have hl : (loadVar 3 a).run Tryz.prog w = .ok (.int .i64 x) w := by
  unfold loadVar
  simp only [Sem.run_bind, ha, Result.andThen]
  rw [if_neg (by decide), run_load, hc]
 have hp' : tmps[p]?.getD undef = .pointer (some a) := by rw [← hp]; simp [Array.getD_eq_getD_getElem?]
 simp [results, h, hp', asAddr, hl]
section
set_option maxHeartbeats 1000000
set_option maxRecDepth 100000
theorem grown_over {W0 W : World} {row : Option Nat} {p : Nat} {u : Value} (h : W0.grownBy W row) (hp : W0.heap.size ≤ p) : W0.grownBy (W.setCell ⟨p, 0, none⟩ u) row := by
 have hB : Below W0.heap.size W (W.setCell ⟨p, 0, none⟩ u) := (Below.refl _ W).setCell (p := ⟨p, 0, none⟩) hp u
 exact ⟨hB.os.trans h.os, hB.tape.trans h.tape, hB.output.trans h.output, Nat.le_trans h.size hB.size, fun k hk hne => (hB.block k hk).trans (h.block k hk hne)⟩
theorem keyC_calls (W : World) (p : Nat) (k x : ByteArray) (h : W.heap[p]? = some (.cells #[.string k] 9 (0, 0))) :
  Calls Tryz.prog 119 #[.string x, .pointer (some ⟨p, 0, none⟩)] W fun e W' => e = .returned (.bool (x.toList == k.toList)) ∧ W' = W := by
 have h0 := (bkc h 0).trans rfl
 clear h
 go_enter Tryz.func119, Tryz.ntmps119
 go_wp2
 go_ret
 exact ⟨rfl, rfl⟩
theorem numC_calls (W1 : World) (p q : Nat) (most : Int) (x : List UInt8) (hx : x.length ≤ 65536) (hpq : p ≠ q) (hp : W1.heap[p]? = some (.cells #[.int .i64 0] 3 (0, 0))) (hq : W1.heap[q]? = some (.cells #[.int .i64 most] 3 (0, 0))) (hg : GOK W1) :
  Calls Tryz.prog 120 #[.string (sb x), .pointer (some ⟨p, 0, none⟩), .pointer (some ⟨q, 0, none⟩)] W1 fun e W' => e = .returned (.bool (numF most x)) ∧ ∃ W2, Below W1.heap.size W1 W2 ∧ W' = W2.setCell ⟨p, 0, none⟩ (.int .i64 (valueL x).1) := by
 have hv := digits_calls (sb x) (by rw [sb_size]; omega) W1 hg
 rw [sb_list] at hv
 have HV := Az.mk hv
 have HP := Az.mk hp
 have HQ := Az.mk hq
 have HF : Az (numF most x = ((valueL x).2 && decide ((valueL x).1 ≤ most))) := ⟨rfl⟩
 clear hv hp hq hg
 obtain ⟨vb, hvb⟩ : ∃ vb, valueL x = vb := ⟨_, rfl⟩
 rw [hvb] at HV HF ⊢
 obtain ⟨v, b⟩ := vb
 clear hvb
 generalize sb x = sv at HV ⊢
 go_enter Tryz.func120, Tryz.ntmps120
 cases b with
 | true =>
  go_wp2_with (go_at_call 121; refine HV.out.mono ?_; rintro e w2 ⟨rfl, hb2⟩; have HB2 := Az.mk hb2; have c2 := (bkc (blk_below HP.out hb2) 0).trans rfl; have f2 := bkf (blk_below HP.out hb2) 0; have c3 := (bkc (blk_below HQ.out hb2) 0).trans rfl; clear hb2)
  go_ret
  exact ⟨by rw [HF.out]; rfl, _, HB2.out, rfl⟩
 | false =>
  go_wp2_with (go_at_call 121; refine HV.out.mono ?_; rintro e w2 ⟨rfl, hb2⟩; have HB2 := Az.mk hb2; have c2 := (bkc (blk_below HP.out hb2) 0).trans rfl; have f2 := bkf (blk_below HP.out hb2) 0; have c3 := (bkc (blk_below HQ.out hb2) 0).trans rfl; clear hb2)
  go_ret
  exact ⟨by rw [HF.out]; rfl, _, HB2.out, rfl⟩
theorem litC_calls (W1 : World) (p : Nat) (x : List UInt8) (hx : x.length ≤ 65536) (hp : W1.heap[p]? = some (.cells #[.int .i64 0] 3 (0, 0))) (hg : GOK W1) :
  Calls Tryz.prog 122 #[.string (sb x), .pointer (some ⟨p, 0, none⟩)] W1 fun e W' => e = .returned (.bool (litT x).2) ∧ ∃ W2, Below W1.heap.size W1 W2 ∧ W'.heap[p]? = some (.cells #[.int .i64 (litT x).1] 3 (0, 0)) ∧ Agree p W2 W' := by
 have hcp := cutPrefix_calls (sb x) W1
 rw [sb_list] at hcp
 have hlen : (trimPrefix x [45]).length ≤ 65536 := Nat.le_trans (trimPrefix_len x) hx
 have hv := digits_calls (sb (trimPrefix x [45])) (by rw [sb_size]; omega) W1 hg
 rw [sb_list] at hv
 have HBD := Az.mk (valueL_bound (trimPrefix x [45]))
 have HV := Az.mk hv
 have HP := Az.mk hp
 have HCP := Az.mk hcp
 have HF : Az (litT x = (if hasPrefix x [45] then -(valueL (trimPrefix x [45])).1 else (valueL (trimPrefix x [45])).1, (valueL (trimPrefix x [45])).2)) := ⟨rfl⟩
 clear hv hp hg hcp hlen hx
 obtain ⟨vb, hvb⟩ : ∃ vb, valueL (trimPrefix x [45]) = vb := ⟨_, rfl⟩
 rw [hvb] at HV HF HBD
 obtain ⟨v, b⟩ := vb
 clear hvb
 obtain ⟨lt, hlt⟩ : ∃ lt, litT x = lt := ⟨_, rfl⟩
 rw [hlt] at HF ⊢
 clear hlt
 have hcv : (⟨(trimPrefix x [45]).toArray⟩ : ByteArray) = sb (trimPrefix x [45]) := rfl
 rw [hcv] at HCP
 clear hcv
 generalize sb (trimPrefix x [45]) = sv2 at HV HCP
 generalize sb x = sv at HCP ⊢
 cases hm : hasPrefix x [45] with
 | true =>
  rw [hm] at HCP HF
  have hneg : IntKind.i64.wrap (-v) = -v := by have := HBD.out; simp only at this; rw [IntKind.wrap_i64]; omega
  clear hm
  go_enter Tryz.func122, Tryz.ntmps122
  go_wp2_with (first | (go_at_call 123; refine HCP.out.mono ?_; rintro e w2 ⟨rfl, rfl⟩) | (go_at_call 121; refine HV.out.mono ?_; rintro e w2 ⟨rfl, hb2⟩; have HB2 := Az.mk hb2; have HP2 := Az.mk (blk_below HP.out hb2); have c2 := (bkc (blk_below HP.out hb2) 0).trans rfl; have f2 := bkf (blk_below HP.out hb2) 0; clear hb2))
  go_ret
  refine ⟨by rw [HF.out]; rfl, _, HB2.out, ?_, ?_⟩
  ·rw [HF.out]; exact blk_put (blk_put HP2.out 0 _ rfl) 0 _ rfl
  ·exact (agree_set _ _ _).trans (agree_set _ _ _)
 | false =>
  rw [hm] at HCP HF
  clear hm
  go_enter Tryz.func122, Tryz.ntmps122
  go_wp2_with (first | (go_at_call 123; refine HCP.out.mono ?_; rintro e w2 ⟨rfl, rfl⟩) | (go_at_call 121; refine HV.out.mono ?_; rintro e w2 ⟨rfl, hb2⟩; have HB2 := Az.mk hb2; have HP2 := Az.mk (blk_below HP.out hb2); have c2 := (bkc (blk_below HP.out hb2) 0).trans rfl; have f2 := bkf (blk_below HP.out hb2) 0; clear hb2))
  go_ret
  refine ⟨by rw [HF.out]; rfl, _, HB2.out, ?_, ?_⟩
  ·rw [HF.out]; exact blk_put HP2.out 0 _ rfl
  ·exact agree_set _ _ _
variable (W : World) (gr : Nat) (s : ByteArray) (hs : s.size ≤ 65536) (r : RS) (ts : List (Nat × List UInt8)) (ht : Tk s.data.toList r.at_ ts) (h : RdPost W gr s r W)
include hs ht h
theorem key_calls (k : ByteArray) :
  Calls Tryz.prog 80 #[.pointer (some ⟨gr, 0, none⟩), .string k] W fun e W' => e = .returned (.tuple #[]) ∧ RdPost W gr s (wordT s.size (isK k.data.toList) r ts).1 W' := by
 have hlt := blk_lt h.box
 have HL := Az.mk hlt
 have HX : Az (RdPost W gr s r (W.alloc (.cells #[.string k] 9))) := ⟨h.below (below_nw _ _)⟩
 have HC : Az ((W.alloc (.cells #[.string k] 9)).heap[W.heap.size]? = some (.cells #[.string k] 9 (0, 0))) := ⟨blk_new W _⟩
 have HB : Az (Below W.heap.size W (W.alloc (.cells #[.string k] 9))) := ⟨below_nw _ _⟩
 have HW : Az (∀ Wb, RdPost W gr s r Wb → Wb.heap[W.heap.size]? = some (.cells #[.string k] 9 (0, 0)) → Below W.heap.size W Wb → Calls Tryz.prog 118 #[.pointer (some ⟨gr, 0, none⟩), .func (.func 119) #[] #[.pointer (some ⟨W.heap.size, 0, none⟩)]] Wb fun e W' => e = .returned (.tuple #[]) ∧ RdPost W gr s (wordT s.size (isK k.data.toList) r ts).1 W') := ⟨by
  intro Wb hX hC hB
  have hX' := rd_start hX.box
  by_cases he : r.e = 0
  ·cases ts with
   | nil =>
    refine (word_short Wb gr s hs r _ ht he hX').mono ?_
    rintro e W' ⟨rfl, h2⟩
    refine ⟨rfl, ?_⟩
    unfold wordT; rw [if_pos he]
    exact rd_low hB h2
   | cons p ts =>
    obtain ⟨a, x⟩ := p
    refine (word_goes Wb gr s hs r a x ts ht he hX' _ _ (isK k.data.toList x) (fun W2 => RdPost Wb gr s { r with at_ := a } W2) enters_key ?_ (fun W2 h2 => h2.box)).mono ?_
    ·intro W1 h1
     refine (keyC_calls W1 W.heap.size k (sb x) (rd_cell h1 hC (by omega))).mono ?_
     rintro e W2 ⟨rfl, rfl⟩
     exact ⟨by rw [toList_data, sb_list, toList_data]; rfl, h1⟩
    ·rintro e W' ⟨rfl, W2, h2, h3⟩
     refine ⟨rfl, ?_⟩
     unfold wordT; rw [if_pos he]
     exact rd_low hB (h2.trans h3)
  ·refine (word_stop Wb gr s hs r _ he hX').mono ?_
   rintro e W' ⟨rfl, rfl⟩
   refine ⟨rfl, ?_⟩
   unfold wordT; rw [if_neg he]
   exact hX⟩
 clear h ht hs hlt
 go_enter Tryz.func80, Tryz.ntmps80
 go_wp2_with (go_at_call 118; refine (HW.out _ HX.out HC.out HB.out).mono ?_; rintro e w2 ⟨rfl, hb2⟩)
 go_end0
 exact ⟨rfl, hb2⟩
theorem number_calls (most : Int) (hg : ∀ W1, W.grownBy W1 (some gr) → GOK W1) :
  Calls Tryz.prog 81 #[.pointer (some ⟨gr, 0, none⟩), .int .i64 most] W fun e W' => e = .returned (.int .i64 (wordV (fun x => (valueL x).1) r ts)) ∧ RdPost W gr s (wordT s.size (numF most) r ts).1 W' := by
 have hlt := blk_lt h.box
 have HL := Az.mk hlt
 obtain ⟨Wb, hWb⟩ : ∃ Wb, (W.alloc (.cells #[.int .i64 most] 3)).alloc (.cells #[.int .i64 0] 3) = Wb := ⟨_, rfl⟩
 have hB : Below W.heap.size W Wb := by rw [← hWb]; exact (below_nw _ _).alloc (by rw [World.size_alloc]; omega) _
 have hq : Wb.heap[W.heap.size]? = some (.cells #[.int .i64 most] 3 (0, 0)) := by rw [← hWb]; exact blk_below (blk_new W _) (below_nw _ _)
 have hp : Wb.heap[W.heap.size + 1]? = some (.cells #[.int .i64 0] 3 (0, 0)) := by rw [← hWb]; have := blk_new (W.alloc (.cells #[.int .i64 most] 3)) (.cells #[.int .i64 0] 3); rw [World.size_alloc] at this; exact this
 have hX : RdPost W gr s r Wb := h.below hB
 have HW : Az (Calls Tryz.prog 118 #[.pointer (some ⟨gr, 0, none⟩), .func (.func 120) #[] #[.pointer (some ⟨W.heap.size + 1, 0, none⟩), .pointer (some ⟨W.heap.size, 0, none⟩)]] Wb fun e W' => e = .returned (.tuple #[]) ∧ RdPost W gr s (wordT s.size (numF most) r ts).1 W' ∧ W'.heap[W.heap.size + 1]? = some (.cells #[.int .i64 (wordV (fun x => (valueL x).1) r ts)] 3 (0, 0))) := ⟨by
  have hX' := rd_start hX.box
  by_cases he : r.e = 0
  ·cases ts with
   | nil =>
    refine (word_short Wb gr s hs r _ ht he hX').mono ?_
    rintro e W' ⟨rfl, h2⟩
    refine ⟨rfl, ?_, ?_⟩
    ·unfold wordT; rw [if_pos he]
     exact rd_low hB h2
    ·unfold wordV; rw [if_pos he]
     exact rd_cell h2 hp (by omega)
   | cons p ts =>
    obtain ⟨a, x⟩ := p
    have hxl : x.length ≤ 65536 := by have := (tk_word ht).2; rw [← size_eq] at this; omega
    refine (word_goes Wb gr s hs r a x ts ht he hX' _ _ (numF most x) (fun W2 => RdPost W gr s { r with at_ := a } W2 ∧ W2.heap[W.heap.size + 1]? = some (.cells #[.int .i64 (valueL x).1] 3 (0, 0))) enters_num ?_ (fun W2 h2 => h2.1.box)).mono ?_
    ·intro W1 h1
     refine (numC_calls W1 (W.heap.size + 1) W.heap.size most x hxl (by omega) (rd_cell h1 hp (by omega)) (rd_cell h1 hq (by omega)) (hg W1 (rd_low hB h1).grown)).mono ?_
     rintro e W2 ⟨rfl, W3, h3, rfl⟩
     have h4 : RdPost W gr s { r with at_ := a } W3 := (rd_low hB h1).below h3
     have h5 : W3.heap[W.heap.size + 1]? = some (.cells #[.int .i64 0] 3 (0, 0)) := blk_below (rd_cell h1 hp (by omega)) h3
     refine ⟨rfl, ⟨blk_far h4.box (by show gr ≠ W.heap.size + 1; omega) _, ?_⟩, blk_put h5 0 _ rfl⟩
     exact grown_over h4.grown (Nat.le_succ _)
    ·rintro e W' ⟨rfl, W2, ⟨h2, h2'⟩, h3⟩
     refine ⟨rfl, ?_, ?_⟩
     ·unfold wordT; rw [if_pos he]
      exact h2.trans h3
     ·unfold wordV; rw [if_pos he]
      exact rd_cell h3 h2' (by omega)
  ·refine (word_stop Wb gr s hs r _ he hX').mono ?_
   rintro e W' ⟨rfl, rfl⟩
   refine ⟨rfl, ?_, ?_⟩
   ·unfold wordT; rw [if_neg he]
    exact hX
   ·unfold wordV; rw [if_neg he]
    exact hp⟩
 have hsz := (World.size_alloc W (.cells #[.int .i64 most] 3) : _)
 clear h ht hs hlt hg hB hq hp hX
 go_enter Tryz.func81, Tryz.ntmps81
 go_wp2_with (go_at_call 118; (try rw [hWb]); refine HW.out.mono ?_; rintro e w2 ⟨rfl, hb2, hc2⟩; have HB2 := Az.mk hb2; have HC2 := Az.mk hc2; have c2 := (bkc hc2 0).trans rfl; have f2 := bkf hc2 0; clear hb2 hc2)
 have c3 := HB2.out.cells.1
 refine bodyPost_ret (results_int rfl _ _ ⟨W.heap.size + 1, 0, none⟩ _ rfl ((bkc (blk_put HC2.out 0 _ rfl) 0).trans rfl)) rfl ?_
 exact ⟨rfl, blk_far HB2.out.box (by show gr ≠ W.heap.size + 1; have := HL.out; omega) _, grown_over HB2.out.grown (Nat.le_succ _)⟩
theorem literal_calls (hg : ∀ W1, W.grownBy W1 (some gr) → GOK W1) :
  Calls Tryz.prog 82 #[.pointer (some ⟨gr, 0, none⟩) ] W fun e W' => e = .returned (.int .i64 (wordV (fun x => (litT x).1) r ts)) ∧ RdPost W gr s (wordT s.size ((fun x => (litT x).2)) r ts).1 W' := by
 have hlt := blk_lt h.box
 have HL := Az.mk hlt
 obtain ⟨Wb, hWb⟩ : ∃ Wb, W.alloc (.cells #[.int .i64 0] 3) = Wb := ⟨_, rfl⟩
 have hB : Below W.heap.size W Wb := by rw [← hWb]; exact below_nw _ _
 have hp : Wb.heap[W.heap.size]? = some (.cells #[.int .i64 0] 3 (0, 0)) := by rw [← hWb]; exact blk_new W _
 have hX : RdPost W gr s r Wb := h.below hB
 have HW : Az (Calls Tryz.prog 118 #[.pointer (some ⟨gr, 0, none⟩), .func (.func 122) #[] #[.pointer (some ⟨W.heap.size, 0, none⟩)]] Wb fun e W' => e = .returned (.tuple #[]) ∧ RdPost W gr s (wordT s.size ((fun x => (litT x).2)) r ts).1 W' ∧ W'.heap[W.heap.size]? = some (.cells #[.int .i64 (wordV (fun x => (litT x).1) r ts)] 3 (0, 0))) := ⟨by
  have hX' := rd_start hX.box
  by_cases he : r.e = 0
  ·cases ts with
   | nil =>
    refine (word_short Wb gr s hs r _ ht he hX').mono ?_
    rintro e W' ⟨rfl, h2⟩
    refine ⟨rfl, ?_, ?_⟩
    ·unfold wordT; rw [if_pos he]
     exact rd_low hB h2
    ·unfold wordV; rw [if_pos he]
     exact rd_cell h2 hp (by omega)
   | cons p ts =>
    obtain ⟨a, x⟩ := p
    have hxl : x.length ≤ 65536 := by have := (tk_word ht).2; rw [← size_eq] at this; omega
    refine (word_goes Wb gr s hs r a x ts ht he hX' _ _ (litT x).2 (fun W2 => RdPost W gr s { r with at_ := a } W2 ∧ W2.heap[W.heap.size]? = some (.cells #[.int .i64 (litT x).1] 3 (0, 0))) enters_lit ?_ (fun W2 h2 => h2.1.box)).mono ?_
    ·intro W1 h1
     refine (litC_calls W1 W.heap.size x hxl (rd_cell h1 hp (by omega)) (hg W1 (rd_low hB h1).grown)).mono ?_
     rintro e W2 ⟨rfl, W3, h3, h4, h5⟩
     exact ⟨rfl, rd_agree ((rd_low hB h1).below h3) h5 (Nat.le_refl _) (by omega), h4⟩
    ·rintro e W' ⟨rfl, W2, ⟨h2, h2'⟩, h3⟩
     refine ⟨rfl, ?_, ?_⟩
     ·unfold wordT; rw [if_pos he]
      exact h2.trans h3
     ·unfold wordV; rw [if_pos he]
      exact rd_cell h3 h2' (by omega)
  ·refine (word_stop Wb gr s hs r _ he hX').mono ?_
   rintro e W' ⟨rfl, rfl⟩
   refine ⟨rfl, ?_, ?_⟩
   ·unfold wordT; rw [if_neg he]
    exact hX
   ·unfold wordV; rw [if_neg he]
    exact hp⟩
 clear h ht hs hlt hg hB hp hX
 go_enter Tryz.func82, Tryz.ntmps82
 go_wp2_with (go_at_call 118; (try rw [hWb]); refine HW.out.mono ?_; rintro e w2 ⟨rfl, hb2, hc2⟩; have HB2 := Az.mk hb2; have HC2 := Az.mk hc2; have c2 := (bkc hc2 0).trans rfl; have f2 := bkf hc2 0; clear hb2 hc2)
 have c3 := HB2.out.cells.1
 refine bodyPost_ret (results_int rfl _ _ ⟨W.heap.size, 0, none⟩ _ rfl ((bkc (blk_put HC2.out 0 _ rfl) 0).trans rfl)) rfl ?_
 exact ⟨rfl, blk_far HB2.out.box (by show gr ≠ W.heap.size; have := HL.out; omega) _, grown_over HB2.out.grown (Nat.le_refl _)⟩
end
end Go.Proofs.YtkcfdddhnboieaaGreatDoor.NText
end
section
set_option maxHeartbeats 2000000
set_option maxRecDepth 100000
namespace Go.Proofs.YtkcfdddhnboieaaGreatDoor.NText
open Go Go.RowKit Go.Shelf Go.Lib QW.PrintWords QW.PrintLast QW.PrintMore
open NState (infoInt)
def commL : Nat → List UInt8 → List UInt8
 | 0, l => l
 | f + 1, l => if hasPrefix l [99] = true then commL f (Lib.cut l [10]).2.1 else l
theorem cut_suffix (l : List UInt8) : (Lib.cut l [10]).2.1 <:+ l := by
 unfold Lib.cut
 split
 ·exact (List.drop_suffix _ _)
 ·exact List.nil_suffix
theorem cut_less {l : List UInt8} (h : hasPrefix l [99] = true) : (Lib.cut l [10]).2.1.length < l.length := by
 have hl : 0 < l.length := by
  cases l with
  | nil => simp [hasPrefix] at h
  | cons b l => simp
 unfold Lib.cut
 split
 ·simp only [List.length_drop, List.length_cons, List.length_nil]; omega
 ·simpa using hl
theorem suffix_drop {l r : List UInt8} (h : r <:+ l) : l.drop (l.length - r.length) = r := (List.suffix_iff_eq_drop.1 h).symm
def MOK (w : World) : Prop := ∃ m, w.cell? ⟨Tryz.lays145_ren.g 1, 0, none⟩ = some (.int .i64 m)
theorem hasPrefix_calls (s : ByteArray) (w : World) : Calls Tryz.prog 116 #[.string s, .string ⟨#[99]⟩] w fun e w' => e = .returned (.bool (hasPrefix s.data.toList [99])) ∧ w' = w :=
 Any.strings_HasPrefix (P := Tryz.prog) (ρ := Tryz.lays99_ren) Tryz.lays99 s ⟨#[99]⟩ w
theorem cut_calls (s : ByteArray) (w : World) (hs : s.size < 4294967281) (hm : MOK w) : Calls Tryz.prog 117 #[.string s, .string ⟨#[10]⟩] w fun e w' => e = .returned (.tuple #[.string ⟨(Lib.cut s.data.toList [10]).1.toArray⟩, .string ⟨(Lib.cut s.data.toList [10]).2.1.toArray⟩, .bool (Lib.cut s.data.toList [10]).2.2]) ∧ Below w.heap.size w w' := by
 obtain ⟨m, hm⟩ := hm
 refine (Any.strings_Cut (P := Tryz.prog) (ρ := Tryz.lays145_ren) Tryz.lays145 s ⟨#[10]⟩ m w hs hm).mono ?_
 rintro e w' ⟨rfl, n, rfl⟩
 exact ⟨rfl, rfl, rfl, rfl, Nat.le_refl _, fun _ _ => rfl⟩
def commR0.T : Bool × List (List Nat × List Nat) := (true, [([], []), ([0], [0]), ([1], [1]), ([2], [2]), ([], []), ([4], [4]), ([5], [5]), ([6], [6]), ([3, 7], [3, 7]), ([8], [8])])
def commR0.B : List Nat := [0, 1, 3, 7, 0, 16, 48, 112, 255, 511]
theorem commR0.tab : rtab .any (opsOf Tryz.f79 0) = commR0.T := by kernel_rfl
theorem commR0.bits : waitsOk commR0.T.2 commR0.B = true := by kernel_rfl
def commR1.T : Bool × List (List Nat × List Nat) := (true, [([], []), ([0], [0]), ([1], [1]), ([2], [2]), ([], []), ([4], [4]), ([5], [5]), ([6], [6]), ([3, 7], [3, 7]), ([8], [8]), ([9], [9]), ([10], [10]), ([10], [10]), ([10], [10]), ([11, 9, 0, 1, 2, 3, 4, 5, 6, 7, 8, 9, 10, 11], [11]), ([12, 14, 0, 1, 2, 3, 4, 5, 6, 7, 8, 9, 10, 11, 12, 14], [12]), ([13, 15, 0, 1, 2, 3, 4, 5, 6, 7, 8, 9, 10, 11, 12, 13, 14, 15], [13])])
def commR1.B : List Nat := [0, 1, 3, 7, 0, 16, 48, 112, 255, 511, 1023, 2047, 2047, 2047, 4095, 24575, 65535]
theorem commR1.tab : rtab .any (opsOf Tryz.f79 1) = commR1.T := by kernel_rfl
theorem commR1.bits : waitsOk commR1.T.2 commR1.B = true := by kernel_rfl
theorem comments_calls (W : World) (gr : Nat) (s : ByteArray) (hs : s.size ≤ 65536) (r : RS) (hr0 : r.at_ = 0) (h : RdPost W gr s r W) (hm : ∀ W1, W.grownBy W1 (some gr) → MOK W1) :
  Calls Tryz.prog 79 #[.pointer (some ⟨gr, 0, none⟩)] W fun e W' => e = .returned (.tuple #[]) ∧ RdPost W gr s { r with at_ := s.size - (commL s.size s.data.toList).length } W' := by
 have HB0 := Az.mk h
 have HS := Az.mk hs
 have HM := Az.mk hm
 have HR0 : Az (RdPost W gr s { r with at_ := s.size - s.data.toList.length } W) := ⟨by
  have : s.size - s.data.toList.length = r.at_ := by rw [size_eq, hr0]; omega
  rw [this]; exact h⟩
 have HSZ : Az (s.data.toList.length = s.size) := ⟨(size_eq s).symm⟩
 clear h hs hm hr0
 go_enter Tryz.func79, Tryz.ntmps79
 go_wp2_with fail
 go_loopg [2, 3, 4] s.size (fun g v2 v3 v4 wr => ∃ rest : List UInt8, Az (rest <:+ s.data.toList) ∧ Az (rest.length ≤ g) ∧ Az (commL s.size s.data.toList = commL g rest) ∧ Az (RdPost W gr s { r with at_ := s.size - rest.length } wr))
 case atStart => exact ⟨s.data.toList, ⟨List.suffix_refl _⟩, ⟨by rw [HSZ.out]; exact Nat.le_refl _⟩, ⟨rfl⟩, HR0⟩
 case round =>
  clear HR0 HB0
  obtain ⟨rest, HSU, HLE, HEQ, HB⟩ := hrel
  have hdrop := suffix_drop HSU.out
  rw [HSZ.out] at hdrop
  have hlr : rest.length ≤ s.size := by have := HSU.out.length_le; rw [HSZ.out] at this; exact this
  obtain ⟨p, hp⟩ : ∃ p, s.size - rest.length = p := ⟨_, rfl⟩
  rw [hp] at HB hdrop
  have hX : (s.extract p s.size).data.toList = rest := by rw [extract_to_end s p, hdrop]
  have hi1 : (0 : Int) ≤ (p : Int) ∧ (p : Int) ≤ (s.size : Int) := by omega
  have HX := Az.mk hX
  have HP := Az.mk hp
  have HXS : Az ((s.extract p s.size).size < 4294967281) := ⟨by rw [size_eq, hX]; have := HS.out; omega⟩
  clear hdrop hX hp hlr
  have HBd : Az (RdPost W gr s { r with at_ := p } wr.drew) := Az.mk (HB.out.below (below_drew (Below.refl _ _)))
  go_wp2_with fail
  refine start_ (n := 10) (S := fun w' => w'.cell? ⟨gr, 0, none⟩ = some (.string s) ∧ w'.cell? ⟨gr, 1, none⟩ = some (.int .i64 p)) (ds := [9]) (Array.replicate 10 false) (by kernel_rfl) rfl rfl ⟨HBd.out.cells.1, HBd.out.cells.2.1⟩ (fun hHeld => ?_); refine with_tabW commR0.tab commR0.bits (fun HT_ HW_ => ?_)
  refine pA 0 (some 5) (bA 10 1) rfl rfl HT_.out (by intro w'; go_simp; with_reducible rfl) (by simp only [Act.put, zq1, zq2, zq3, iw, jw]; rfl) ?_
  refine pA 1 (some 6) (bA 10 3) rfl rfl HT_.out (by intro w'; go_simp; with_reducible rfl) (by simp only [Act.put, zq1, zq2, zq3, iw, jw]; rfl) ?_
  refine pA 2 (some 7) (bA 10 7) rfl rfl HT_.out (by intro w'; go_simp; with_reducible rfl) (by simp only [Act.put, zq1, zq2, zq3, iw, jw]; rfl) ?_
  refine pT 3 (some 8) (bA 10 15) rfl rfl HT_.out HW_.out hHeld (by rintro w' ⟨s0, s1⟩; go_simp; with_reducible rfl) (by simp only [Act.put, zq1, zq2, zq3, iw, jw]; rfl) ?_
  refine pA 4 (some 9) (bA 10 31) rfl rfl HT_.out (by intro w'; go_simp; with_reducible rfl) (by simp only [Act.put, zq1, zq2, zq3, iw, jw]; rfl) ?_
  refine pA 5 (some 10) (bA 10 63) rfl rfl HT_.out (by intro w'; go_simp; with_reducible rfl) (by simp only [Act.put, zq1, zq2, zq3, iw, jw]; rfl) ?_
  refine pA 6 (some 11) (bA 10 127) rfl rfl HT_.out (by intro w'; go_simp; with_reducible rfl) (by simp only [Act.put, zq1, zq2, zq3, iw, jw]; rfl) ?_
  refine pT 7 (some 12) (bA 10 255) rfl rfl HT_.out HW_.out hHeld (by rintro w' ⟨s0, s1⟩; go_simp; with_reducible rfl) (by simp only [Act.put, zq1, zq2, zq3, iw, jw]; rfl) ?_
  refine pA 8 (some 13) (bA 10 511) rfl rfl HT_.out (by intro w'; go_simp; with_reducible rfl) (by simp only [Act.put, zq1, zq2, zq3, iw, jw]; rfl) ?_
  refine QW.PrintLast.last_ (i := 9) (N := some 14) (bA 10 1023) rfl rfl (one_of HT_.out (by kernel_rfl)) (by decide) (fun K hK => ?_)
  refine goes_ Tryz.func116 (by kernel_rfl) rfl #[.string (s.extract p s.size), .string ⟨#[99]⟩] (by rfl) rfl rfl (by (try simp only [List.map_toArray, List.map_cons, List.map_nil]); first | done | rfl) ?_
  refine (hasPrefix_calls _ _).mono ?_
  rintro e w1 ⟨rfl, rfl⟩
  rw [HX.out]
  refine ⟨_, rfl, ?_⟩
  have HB1 := HBd
  refine hK.out _ _ ?_
  clear hK K
  refine done_ (done_of HT_.out (by kernel_rfl)) ?_
  clear hHeld HT_ HW_ HB HBd
  generalize wr.drew = w1 at HB1 ⊢
  cases hpre : hasPrefix rest [99] with
  | false =>
   have HPRE := Az.mk hpre
   clear hpre
   go_wp2_with fail
   go_end0
   have hc : commL s.size s.data.toList = rest := by
    rw [HEQ.out]
    cases gk with
    | zero => rfl
    | succ g => unfold commL; rw [if_neg (by rw [HPRE.out]; decide)]
   rw [hc, HP.out]
   exact ⟨rfl, HB1.out⟩
  | true =>
   have HPRE := Az.mk hpre
   clear hpre
   go_wp2_with fail
   have HBe : Az (RdPost W gr s { r with at_ := p } w1.drew) := Az.mk (HB1.out.below (below_drew (Below.refl _ _)))
   clear HB1
   refine start_ (n := 17) (S := fun w' => w'.cell? ⟨gr, 0, none⟩ = some (.string s) ∧ w'.cell? ⟨gr, 1, none⟩ = some (.int .i64 p)) (ds := []) (Array.replicate 17 false) (by kernel_rfl) rfl rfl ⟨HBe.out.cells.1, HBe.out.cells.2.1⟩ (fun hHeld => ?_); refine with_tabW commR1.tab commR1.bits (fun HT_ HW_ => ?_)
   refine pA 0 (some 16) (bA 17 1) rfl rfl HT_.out (by intro w'; go_simp; with_reducible rfl) (by simp only [Act.put, zq1, zq2, zq3, iw, jw]; rfl) ?_
   refine pA 1 (some 17) (bA 17 3) rfl rfl HT_.out (by intro w'; go_simp; with_reducible rfl) (by simp only [Act.put, zq1, zq2, zq3, iw, jw]; rfl) ?_
   refine pA 2 (some 18) (bA 17 7) rfl rfl HT_.out (by intro w'; go_simp; with_reducible rfl) (by simp only [Act.put, zq1, zq2, zq3, iw, jw]; rfl) ?_
   refine pT 3 (some 19) (bA 17 15) rfl rfl HT_.out HW_.out hHeld (by rintro w' ⟨s0, s1⟩; go_simp; with_reducible rfl) (by simp only [Act.put, zq1, zq2, zq3, iw, jw]; rfl) ?_
   refine pA 4 (some 20) (bA 17 31) rfl rfl HT_.out (by intro w'; go_simp; with_reducible rfl) (by simp only [Act.put, zq1, zq2, zq3, iw, jw]; rfl) ?_
   refine pA 5 (some 21) (bA 17 63) rfl rfl HT_.out (by intro w'; go_simp; with_reducible rfl) (by simp only [Act.put, zq1, zq2, zq3, iw, jw]; rfl) ?_
   refine pA 6 (some 22) (bA 17 127) rfl rfl HT_.out (by intro w'; go_simp; with_reducible rfl) (by simp only [Act.put, zq1, zq2, zq3, iw, jw]; rfl) ?_
   refine pT 7 (some 23) (bA 17 255) rfl rfl HT_.out HW_.out hHeld (by rintro w' ⟨s0, s1⟩; go_simp; with_reducible rfl) (by simp only [Act.put, zq1, zq2, zq3, iw, jw]; rfl) ?_
   refine pA 8 (some 24) (bA 17 511) rfl rfl HT_.out (by intro w'; go_simp; with_reducible rfl) (by simp only [Act.put, zq1, zq2, zq3, iw, jw]; rfl) ?_
   refine QW.PrintLast.one_ (i := 9) (N := some 25) (bA 17 1023) rfl rfl (one_of HT_.out (by kernel_rfl)) (by decide) (fun K hK => ?_)
   refine goes_ Tryz.func117 (by kernel_rfl) rfl #[.string (s.extract p s.size), .string ⟨#[10]⟩] (by rfl) rfl rfl (by (try simp only [List.map_toArray, List.map_cons, List.map_nil]); first | done | rfl) ?_
   refine (cut_calls _ _ HXS.out (HM.out _ HBe.out.grown)).mono ?_
   rintro e w2 ⟨rfl, hb2⟩
   rw [HX.out]
   refine ⟨_, rfl, ?_⟩
   have HB2 := Az.mk (HBe.out.below hb2)
   refine hK.out _ _ ⟨HB2.out.cells.1, HB2.out.cells.2.1⟩ (fun hHeld => ?_)
   clear hK K hb2
   refine norm_ (by show Act.put _ (some 25) _ = _; simp only [Act.put, zq1, zq2, zq3, iw, jw]; rfl) ?_
   refine pA 10 (some 15) (bA 17 2047) rfl rfl HT_.out (by intro w'; go_simp; with_reducible rfl) (by simp only [Act.put, zq1, zq2, zq3, iw, jw]; rfl) ?_
   refine pA 11 (some 26) (bA 17 4095) rfl rfl HT_.out (by intro w'; go_simp; with_reducible rfl) (by simp only [Act.put, zq1, zq2, zq3, iw, jw]; rfl) ?_
   refine pA 12 (some 27) (bA 17 8191) rfl rfl HT_.out (by intro w'; go_simp; with_reducible rfl) (by simp only [Act.put, zq1, zq2, zq3, iw, jw]; rfl) ?_
   refine pA 13 (some 28) (bA 17 16383) rfl rfl HT_.out (by intro w'; go_simp; with_reducible rfl) (by simp only [Act.put, zq1, zq2, zq3, iw, jw]; rfl) ?_
   refine pA 14 (some 2) (bA 17 32767) rfl rfl HT_.out (by intro w'; go_simp; with_reducible rfl) (by simp only [Act.put, zq1, zq2, zq3, iw, jw]; rfl) ?_
   refine pA 15 (some 3) (bA 17 65535) rfl rfl HT_.out (by intro w'; go_simp; with_reducible rfl) (by simp only [Act.put, zq1, zq2, zq3, iw, jw]; rfl) ?_
   refine pA 16 (some 4) (bA 17 131071) rfl rfl HT_.out (by intro w'; go_simp; with_reducible rfl) (by simp only [Act.put, zq1, zq2, zq3, iw, jw]; rfl) ?_
   refine done_ (done_of HT_.out (by kernel_rfl)) ?_
   clear hHeld HT_ HW_ HBe
   obtain ⟨h0, h1, h2, h3⟩ := HB2.out.cells
   have f1 := HB2.out.frozen 1
   obtain ⟨rest2, hrest2⟩ : ∃ z, (Lib.cut rest [10]).2.1 = z := ⟨_, rfl⟩
   have hl2 : rest2.length < rest.length := by rw [← hrest2]; exact cut_less HPRE.out
   have HL2 := Az.mk hl2
   have HSU2 : Az (rest2 <:+ s.data.toList) := ⟨by rw [← hrest2]; exact (cut_suffix rest).trans HSU.out⟩
   have HC2 := Az.mk hrest2
   have hsz2 : (⟨rest2.toArray⟩ : ByteArray).size = rest2.length := by rw [size_eq]
   have hsub : IntKind.i64.wrap ((s.size : Int) - (rest2.length : Int)) = ((s.size - rest2.length : Nat) : Int) := by
    have := HS.out; have h8 := HSU2.out.length_le; rw [HSZ.out] at h8
    rw [IntKind.wrap_i64]; omega
   rw [hrest2]
   clear hl2 hrest2
   go_wp2_with fail
   obtain ⟨g, rfl⟩ : ∃ g, gk = g + 1 := ⟨gk - 1, by have h1 := HL2.out; have h2 := HLE.out; omega⟩
   go_roundg g
   case measure => omega
   case rel =>
    refine ⟨rest2, HSU2, ⟨by have h1 := HL2.out; have h2 := HLE.out; omega⟩, ⟨?_⟩, ⟨HB2.out.at1 _⟩⟩
    rw [HEQ.out, commL, if_pos HPRE.out, HC2.out]
end Go.Proofs.YtkcfdddhnboieaaGreatDoor.NText
end
section
set_option maxRecDepth 100000
namespace Go.Proofs.YtkcfdddhnboieaaGreatDoor.NText
open Go Go.RowKit Go.Shelf Go.Lib
open NPlain (tot chkL)
theorem tk_count {l : List UInt8} {i : Nat} {ts : List (Nat × List UInt8)} (h : Tk l i ts) : i + ts.length ≤ l.length := by
 induction h with
 | nil hi h => simpa using hi
 | @cons i a r ts hi h hr ha ht ih =>
  have h1 := dropWhile_le (p := wh) (l.drop i)
  rw [h, List.length_drop] at h1
  have h2 := word_pos h hr
  simp only [List.length_cons]; omega
def litsS (len : Nat) : List (Nat × List UInt8) → RS → RS × List Int × List (Nat × List UInt8)
 | [], r => ((wordT len (fun x => (litT x).2) r []).1, [], [])
 | (a, x) :: ts, r =>
  if r.e = 0 then
   (if (litT x).1 ≠ 0 ∧ (wordS (litT x).2 r a x.length).e = 0 then
    ((litsS len ts (wordS (litT x).2 r a x.length)).1, (litT x).1 :: (litsS len ts (wordS (litT x).2 r a x.length)).2.1, (litsS len ts (wordS (litT x).2 r a x.length)).2.2)
   else (wordS (litT x).2 r a x.length, [], ts))
  else (r, [], (a, x) :: ts)
def clsS (len : Nat) : Nat → RS → List (Nat × List UInt8) → RS × List (List Int) × List (Nat × List UInt8)
 | 0, r, ts => (r, [], ts)
 | m + 1, r, ts =>
  if r.e = 0 then
   ((clsS len m (litsS len ts r).1 (litsS len ts r).2.2).1, (litsS len ts r).2.1 :: (clsS len m (litsS len ts r).1 (litsS len ts r).2.2).2.1, (clsS len m (litsS len ts r).1 (litsS len ts r).2.2).2.2)
  else (r, [], ts)
theorem litsS_eq (len : Nat) (r : RS) (ts : List (Nat × List UInt8)) : litsS len ts r =
  if wordV (fun x => (litT x).1) r ts ≠ 0 ∧ (wordT len (fun x => (litT x).2) r ts).1.e = 0 then
   ((litsS len (wordT len (fun x => (litT x).2) r ts).2 (wordT len (fun x => (litT x).2) r ts).1).1, wordV (fun x => (litT x).1) r ts :: (litsS len (wordT len (fun x => (litT x).2) r ts).2 (wordT len (fun x => (litT x).2) r ts).1).2.1, (litsS len (wordT len (fun x => (litT x).2) r ts).2 (wordT len (fun x => (litT x).2) r ts).1).2.2)
  else ((wordT len (fun x => (litT x).2) r ts).1, [], (wordT len (fun x => (litT x).2) r ts).2) := by
 by_cases he : r.e = 0
 ·cases ts with
  | nil =>
   have h1 : wordV (fun x => (litT x).1) r [] = 0 := by unfold wordV; rw [if_pos he]
   rw [if_neg (by rw [h1]; simp)]
   unfold litsS wordT
   rw [if_pos he]
  | cons p ts =>
   obtain ⟨a, x⟩ := p
   have h1 : wordV (fun x => (litT x).1) r ((a, x) :: ts) = (litT x).1 := by unfold wordV; rw [if_pos he]
   have h2 : wordT len (fun x => (litT x).2) r ((a, x) :: ts) = (wordS (litT x).2 r a x.length, ts) := by unfold wordT; rw [if_pos he]
   rw [h1, h2, litsS, if_pos he]
 ·have h1 : wordV (fun x => (litT x).1) r ts = 0 := by unfold wordV; rw [if_neg he]
  have h2 : wordT len (fun x => (litT x).2) r ts = (r, ts) := by unfold wordT; rw [if_neg he]
  rw [h1, h2, if_neg (by simp)]
  cases ts with
  | nil =>
   unfold litsS
   rw [h2]
  | cons p ts =>
   obtain ⟨a, x⟩ := p
   rw [litsS, if_neg he]
theorem wordT_le (len : Nat) (F : List UInt8 → Bool) (r : RS) (ts : List (Nat × List UInt8)) : (wordT len F r ts).2.length ≤ ts.length := by
 unfold wordT
 split
 ·cases ts <;> simp
 ·exact Nat.le_refl _
theorem wordT_lt {len : Nat} {F : List UInt8 → Bool} {V : List UInt8 → Int} {r : RS} {ts : List (Nat × List UInt8)} (h : wordV V r ts ≠ 0) : (wordT len F r ts).2.length < ts.length := by
 unfold wordV at h
 unfold wordT
 split
 ·rename_i he
  rw [if_pos he] at h
  cases ts with
  | nil => exact absurd rfl h
  | cons p ts => simp
 ·rename_i he
  rw [if_neg he] at h
  exact absurd rfl h
theorem failS_ne (r : RS) (a e : Int) (h : e ≠ 0) : (failS r a e).e ≠ 0 := by
 unfold failS
 split
 ·exact h
 ·assumption
theorem litsS_sizes (len : Nat) : ∀ (ts : List (Nat × List UInt8)) (r : RS), (litsS len ts r).2.1.length + (litsS len ts r).2.2.length ≤ ts.length ∧ ((litsS len ts r).1.e = 0 → (litsS len ts r).2.1.length + (litsS len ts r).2.2.length < ts.length)
 | [], r => by
  unfold litsS
  refine ⟨by simp, fun h => ?_⟩
  exfalso
  simp only [wordT] at h
  split at h
  ·exact failS_ne r len 4 (by decide) h
  ·rename_i he; exact he h
 | (a, x) :: ts, r => by
  have ih := litsS_sizes len ts (wordS (litT x).2 r a x.length)
  unfold litsS
  split
  ·split
   ·simp only [List.length_cons]
    exact ⟨by omega, fun h => by have := ih.2 h; omega⟩
   ·simp
  ·rename_i he
   exact ⟨by simp, fun h => absurd h he⟩
theorem clsS_stop {len m : Nat} {r : RS} {ts : List (Nat × List UInt8)} (he : r.e ≠ 0) : clsS len m r ts = (r, [], ts) := by
 cases m with
 | zero => rfl
 | succ m => unfold clsS; rw [if_neg he]
theorem clsS_sizes (len : Nat) : ∀ (m : Nat) (r : RS) (ts : List (Nat × List UInt8)), (clsS len m r ts).2.1.length ≤ ts.length + 1 ∧ tot (clsS len m r ts).2.1 ≤ ts.length
 | 0, r, ts => by simp [clsS, tot]
 | m + 1, r, ts => by
  unfold clsS
  split
  ·have h1 := litsS_sizes len ts r
   have ih := clsS_sizes len m (litsS len ts r).1 (litsS len ts r).2.2
   have ht : tot ((litsS len ts r).2.1 :: (clsS len m (litsS len ts r).1 (litsS len ts r).2.2).2.1) = (litsS len ts r).2.1.length + tot (clsS len m (litsS len ts r).1 (litsS len ts r).2.2).2.1 := by simp [tot]
   simp only [ht, List.length_cons]
   refine ⟨?_, by omega⟩
   by_cases he : (litsS len ts r).1.e = 0
   ·have := h1.2 he; omega
   ·rw [clsS_stop he]; simp
  ·simp [tot]
theorem litsS_tk {l : List UInt8} : ∀ {ts : List (Nat × List UInt8)} {r : RS}, Tk l r.at_ ts → Tk l (litsS l.length ts r).1.at_ (litsS l.length ts r).2.2
 | [], r, h => by
  unfold litsS
  have h2 := wordT_tk (F := fun x => (litT x).2) h
  have h3 : (wordT l.length (fun x => (litT x).2) r []).2 = [] := by unfold wordT; split <;> rfl
  rw [h3] at h2
  exact h2
 | (a, x) :: ts, r, h => by
  have h1 : Tk l (a + x.length) ts := nextS_tk (s := r) h
  unfold litsS
  split
  ·split
   ·exact litsS_tk (r := wordS (litT x).2 r a x.length) h1
   ·exact h1
  ·exact h
theorem clsS_tk {l : List UInt8} : ∀ {m : Nat} {r : RS} {ts : List (Nat × List UInt8)}, Tk l r.at_ ts → Tk l (clsS l.length m r ts).1.at_ (clsS l.length m r ts).2.2
 | 0, r, ts, h => h
 | m + 1, r, ts, h => by
  unfold clsS
  split
  ·exact clsS_tk (litsS_tk h)
  ·exact h
def endS (len : Nat) (r : RS) (ts : List (Nat × List UInt8)) : RS :=
 if r.e = 0 then (if (peekT len ts).2 < len then failS (skipS len r ts) (peekT len ts).2 6 else skipS len r ts) else r
def headS (len p : Nat) (ts : List (Nat × List UInt8)) : (RS × List (Nat × List UInt8)) × Int × Int :=
 let k1 := wordT len (isK [112]) ⟨p, 0, 0⟩ ts
 let k2 := wordT len (isK [99, 110, 102]) k1.1 k1.2
 let k3 := wordT len (numF 4096) k2.1 k2.2
 let k4 := wordT len (numF 16384) k3.1 k3.2
 (k4, wordV (fun x => (valueL x).1) k2.1 k2.2, wordV (fun x => (valueL x).1) k3.1 k3.2)
def tailS (vars : Int) (cls : List (List Int)) (e : RS) : Int × List (List Int) × Int × Int :=
 if e.e = 0 then (if chkL vars cls = 0 then (vars, cls, 0, 0) else (0, [], 0, chkL vars cls)) else (0, [], e.wrong, e.e)
def bodyS (len : Nat) (h : (RS × List (Nat × List UInt8)) × Int × Int) : RS × List (List Int) × List (Nat × List UInt8) := clsS len h.2.2.toNat h.1.1 h.1.2
def parseC (len p : Nat) (ts : List (Nat × List UInt8)) : Int × List (List Int) × Int × Int :=
 if 65536 < len then (0, [], 0, 5) else
 tailS (headS len p ts).2.1 (bodyS len (headS len p ts)).2.1 (endS len (bodyS len (headS len p ts)).1 (bodyS len (headS len p ts)).2.2)
theorem wordV_bound {r : RS} {ts : List (Nat × List UInt8)} : 0 ≤ wordV (fun x => (valueL x).1) r ts ∧ wordV (fun x => (valueL x).1) r ts ≤ 4294967295 := by
 unfold wordV
 split
 ·cases ts with
  | nil => simp
  | cons p ts => exact valueL_bound p.2
 ·simp
end Go.Proofs.YtkcfdddhnboieaaGreatDoor.NText
end
section
set_option maxRecDepth 100000
namespace Go.Proofs.YtkcfdddhnboieaaGreatDoor.NText
open Go Go.RowKit Go.Shelf Go.Lib
open NPlain (tot chkL)
open NState (litsT clsT headT fmtT)
theorem decDigits_len : ∀ (k u : Nat), u < 10 ^ (k + 1) → (decDigits u).length ≤ k + 1
 | 0, u, h => by rw [decDigits, dif_pos (by omega)]; simp
 | k + 1, u, h => by
  by_cases hu : u < 10
  ·rw [decDigits, dif_pos hu]; simp
  ·rw [decDigits, dif_neg hu, List.length_append]
   have : u / 10 < 10 ^ (k + 1) := by rw [Nat.pow_succ] at h; omega
   have := decDigits_len k (u / 10) this
   simp only [List.length_singleton]; omega
theorem itoa_le {x : Int} (h0 : -999999999 ≤ x) (h1 : x ≤ 999999999) : (itoa x).length ≤ 10 := by
 unfold itoa
 split
 ·have := decDigits_len 8 x.natAbs (Nat.lt_of_le_of_lt (show x.natAbs ≤ 999999999 by omega) (by decide))
  simp only [List.length_cons]; omega
 ·have := decDigits_len 8 x.toNat (Nat.lt_of_le_of_lt (show x.toNat ≤ 999999999 by omega) (by decide))
  omega
theorem lits_len (l : List Int) (h : ∀ x ∈ l, -999999999 ≤ x ∧ x ≤ 999999999) : (litsT l).length ≤ 11 * l.length := by
 induction l with
 | nil => simp [litsT]
 | cons x l ih =>
  have h1 := ih (fun y hy => h y (List.mem_cons_of_mem _ hy))
  have h2 := itoa_le (h x (by simp)).1 (h x (by simp)).2
  have e : litsT (x :: l) = itoa x ++ [32] ++ litsT l := by unfold litsT; rw [List.flatMap_cons]
  rw [e, List.length_append, List.length_append, List.length_singleton, List.length_cons]; omega
theorem fmt_len (n : Nat) (hn : n ≤ 4096) (cls : List (List Int)) (hc : cls.length ≤ 60) (h12 : ∀ l ∈ cls, l.length ≤ 12) (h : ∀ l ∈ cls, ∀ x ∈ l, -999999999 ≤ x ∧ x ≤ 999999999) : (fmtT n cls).length ≤ 60000 := by
 have h1 : ∀ cls : List (List Int), (∀ l ∈ cls, l.length ≤ 12) → (∀ l ∈ cls, ∀ x ∈ l, -999999999 ≤ x ∧ x ≤ 999999999) → (cls.flatMap clsT).length ≤ 134 * cls.length := by
  intro cls
  induction cls with
  | nil => intro _ _; simp
  | cons l cls ih =>
   intro a b
   have h1 := ih (fun m hm => a m (List.mem_cons_of_mem _ hm)) (fun m hm => b m (List.mem_cons_of_mem _ hm))
   have h2 := lits_len l (b l (by simp))
   have h3 := a l (by simp)
   have e : (clsT l).length = (litsT l).length + 2 := by unfold clsT; rw [List.length_append]; rfl
   rw [List.flatMap_cons, List.length_append, List.length_cons, e]
   omega
 have h2 := h1 cls h12 h
 have h3 := itoa_le (x := (n : Int)) (by omega) (by omega)
 have h4 := itoa_le (x := (cls.length : Int)) (by omega) (by omega)
 unfold fmtT headT
 simp only [List.length_append, List.length_cons, List.length_nil]
 omega
end Go.Proofs.YtkcfdddhnboieaaGreatDoor.NText
end
