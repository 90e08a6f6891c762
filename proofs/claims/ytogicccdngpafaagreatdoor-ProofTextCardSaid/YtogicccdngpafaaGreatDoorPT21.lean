/-
  Part 21 of the proof of proofText_card: walks and lemmas, packed by the session's own wip/pack.py out of its texts and of what the kit's print.sh printed.
-/
import Derived.Test.YtogicccdngpafaaGreatDoorPT14
import Derived.Test.YtogicccdngpafaaGreatDoorPT19
import Derived.Test.YtogicccdngpafaaGreatDoorPT20
import Derived.Deep.CutRange
import Derived.Deep.CutBlock
set_option linter.unusedVariables false
set_option linter.unusedSimpArgs false
section
set_option maxHeartbeats 4000000
set_option maxRecDepth 100000
namespace Go.Proofs.YtogicccdngpafaaGreatDoor.NText
open Go Go.RowKit Go.Shelf Go.Lib QW.PrintWords QW.PrintLast QW.PrintMore
open NState (Stp kStp infoInt infoStep R_apart_of wrong_calls below_nw)
open PSame (k42_mkM)
def parseT (len : Nat) (n : Int) (ts : List (Nat × List UInt8)) : List Stp × Int × Int :=
 if n < 0 ∨ 16384 < n then ([], 0, 1) else if 65536 < len then ([], 0, 5) else
 if (parseS len ts.length n ⟨0, 0, 0⟩ ts).1.e = 0 then ((parseS len ts.length n ⟨0, 0, 0⟩ ts).2, 0, 0)
 else ([], (parseS len ts.length n ⟨0, 0, 0⟩ ts).1.wrong, (parseS len ts.length n ⟨0, 0, 0⟩ ts).1.e)
theorem listS_le (len : Nat) : ∀ (ts : List (Nat × List UInt8)) (r : RS), (listS len r ts).2.2.length ≤ ts.length
 | [], r => by unfold listS; split <;> simp
 | (a, x) :: ts, r => by
  unfold listS
  split
  ·split
   ·split
    ·simp
    ·have := listS_le len ts { r with at_ := a + x.length }
     simp only [List.length_cons]; omega
   ·simp
  ·simp
theorem listS_tk {l : List UInt8} : ∀ {ts : List (Nat × List UInt8)} {r : RS}, Tk l r.at_ ts → Tk l (listS l.length r ts).1.at_ (listS l.length r ts).2.2
 | [], r, h => by
  unfold listS
  split
  ·exact nextS_tk h
  ·exact h
 | (a, x) :: ts, r, h => by
  have h1 : Tk l (a + x.length) ts := nextS_tk (s := r) h
  unfold listS
  split
  ·split
   ·split
    ·exact h1
    ·exact listS_tk (r := { r with at_ := a + x.length }) h1
   ·rw [failS_at]; exact h1
  ·exact h
theorem parseS_stop {len f : Nat} {n : Int} {r : RS} {ts : List (Nat × List UInt8)} (he : r.e ≠ 0) : parseS len f n r ts = (r, []) := by
 cases f with
 | zero => rfl
 | succ f =>
  cases ts with
  | nil => rfl
  | cons p ts => obtain ⟨a, x⟩ := p; unfold parseS; rw [if_neg he]
theorem parseS_nil {len f : Nat} {n : Int} {r : RS} : parseS len f n r [] = (r, []) := by cases f <;> rfl
theorem oneS_eq {len : Nat} {n n1 : Int} {r S2 S3 S4 : RS} {a : Nat} {x sec : List UInt8} {ts1 ts3 : List (Nat × List UInt8)} {own : Int} {is gone : Bool} {c h : RS × List Int × List (Nat × List UInt8)}
  (hvb : valueL x = (own, is)) (hS2 : (if is = true then ({ r with at_ := a + x.length } : RS) else failS { r with at_ := a + x.length } a 3) = S2) (hsec : (peekT len ts1).1 = sec)
  (hS3 : (if sec = [] then failS S2 len 4 else if sec = [100] then (nextS len S2 ts1).1 else S2) = S3) (hts3 : (if sec = [100] then (nextS len S2 ts1).2 else ts1) = ts3) (hn1 : (if sec = [] ∨ sec = [100] then n else n + 1) = n1)
  (hS4 : (if own = n1 then S3 else failS S3 a 3) = S4) (hg : decide (sec = [100]) = gone) (hc : (if gone = true then (S4, [], ts3) else listS len S4 ts3) = c) (hh : listS len c.1 c.2.2 = h) : oneS len n r a x ts1 = (h.1, n1, ⟨c.2.1, gone, h.2.1⟩, h.2.2) := by
 subst hS2 hS3 hts3 hn1 hS4 hg hh
 simp only [decide_eq_true_eq] at hc
 subst hc
 unfold oneS
 simp only [hvb, hsec]
structure PI (w W : World) (gr : Nat) (s : ByteArray) (r : RS) (v : Value) (out : List Stp) : Prop where
 hb : Below w.heap.size w W
 gl : w.heap.size ≤ gr
 box : W.heap[gr]? = some (.cells (rdC s r) 119 (0, 0))
 row : Kd.R kStp 42 W w.heap.size (fun k => k ≠ gr) v out
section
variable {w W W' : World} {gr : Nat} {s : ByteArray} {r r' : RS} {v : Value} {out : List Stp}
theorem PI.rd (h : PI w W gr s r v out) (h' : RdPost W gr s r' W') : PI w W' gr s r' v out :=
 ⟨h.hb.grown h'.grown h.hb.size (fun k hk => by injection hk with hk; rw [← hk]; exact h.gl), h.gl, h'.box, Kd.R_grown h.row h'.grown (fun k hk e => hk (by injection e))⟩
theorem PI.below (h : PI w W gr s r v out) (hb : Below W.heap.size W W') : PI w W' gr s r v out :=
 ⟨bwt h.hb hb, h.gl, blk_below h.box hb, Kd.R_below h.row hb⟩
theorem PI.cells (h : PI w W gr s r v out) : W.cell? ⟨gr, 0, none⟩ = some (.string s) ∧ W.cell? ⟨gr, 1, none⟩ = some (.int .i64 r.at_) ∧ W.cell? ⟨gr, 2, none⟩ = some (.int .i64 r.wrong) ∧ W.cell? ⟨gr, 3, none⟩ = some (.int .i64 r.e) := (rd_start h.box).cells
end
structure PX (w W : World) (gr bx : Nat) (s : ByteArray) (r : RS) (v : Value) (out : List Stp) (cv : Value) (cl : List Int) (gone : Bool) (hv : Value) : Prop where
 hb : Below w.heap.size w W
 gl : w.heap.size ≤ gr
 bl : w.heap.size ≤ bx
 ne : gr ≠ bx
 box : W.heap[gr]? = some (.cells (rdC s r) 119 (0, 0))
 xb : W.heap[bx]? = some (.cells #[cv, .bool gone, hv] 42 (0, 0))
 row : Kd.R kStp 42 W w.heap.size (fun k => k ≠ gr ∧ k ≠ bx) v out
 cr : Kd.R (Kd.int .i64) 3 W w.heap.size (fun k => k ≠ gr ∧ k ≠ bx) cv cl
section
variable {w W W' : World} {gr bx : Nat} {s : ByteArray} {r r' : RS} {v cv hv : Value} {out : List Stp} {cl : List Int} {gone : Bool}
theorem PX.rd (h : PX w W gr bx s r v out cv cl gone hv) (h' : RdPost W gr s r' W') : PX w W' gr bx s r' v out cv cl gone hv :=
 ⟨h.hb.grown h'.grown h.hb.size (fun k hk => by injection hk with hk; rw [← hk]; exact h.gl), h.gl, h.bl, h.ne, h'.box, (h'.grown.block bx (blk_lt h.xb) (fun e => h.ne (by injection e with e; exact e.symm))).trans h.xb,
  Kd.R_grown h.row h'.grown (fun k hk e => hk.1 (by injection e)), Kd.R_grown h.cr h'.grown (fun k hk e => hk.1 (by injection e))⟩
theorem PX.below (h : PX w W gr bx s r v out cv cl gone hv) (hb : Below W.heap.size W W') : PX w W' gr bx s r v out cv cl gone hv :=
 ⟨bwt h.hb hb, h.gl, h.bl, h.ne, blk_below h.box hb, blk_below h.xb hb, Kd.R_below h.row hb, Kd.R_below h.cr hb⟩
theorem PX.xcells (h : PX w W gr bx s r v out cv cl gone hv) : W.cell? ⟨bx, 0, none⟩ = some cv ∧ W.cell? ⟨bx, 1, none⟩ = some (.bool gone) ∧ W.cell? ⟨bx, 2, none⟩ = some hv := ⟨(bkc h.xb 0).trans rfl, (bkc h.xb 1).trans rfl, (bkc h.xb 2).trans rfl⟩
theorem PX.frozen (h : PX w W gr bx s r v out cv cl gone hv) (j : Nat) : W.frozen? ⟨bx, j, none⟩ = false := bkf h.xb j
theorem PX.goes (h : PX w W gr bx s r v out cv cl gone hv) : PX w (W.setCell ⟨bx, 1, none⟩ (.bool true)) gr bx s r v out cv cl true hv :=
 ⟨bws h.hb h.bl, h.gl, h.bl, h.ne, blk_far h.box h.ne _, blk_put h.xb 1 _ rfl, Kd.R_far (p := ⟨bx, 1, none⟩) h.row (fun _ hk => hk.2) _, Kd.R_far (p := ⟨bx, 1, none⟩) h.cr (fun _ hk => hk.2) _⟩
theorem PX.make (h : PI w W gr s r v out) : PX w (W.alloc (.cells #[.slice none 0 0, .bool false, .slice none 0 0] 42)) gr W.heap.size s r v out (.slice none 0 0) [] false (.slice none 0 0) := by
 have h1 := h.below (below_nw W (.cells #[.slice none 0 0, .bool false, .slice none 0 0] 42))
 have hl := blk_lt h.box
 exact ⟨h1.hb, h.gl, h.hb.size, by omega, h1.box, blk_new W _, Kd.R_below (Kd.R_mono (Kd.R_bound h.row) (fun k hk => ⟨hk.1, by have := hk.2.2.1; omega⟩)) (below_nw _ _), Kd.R_nil _ _ _ _ _⟩
theorem PX.clause {cv' : Value} {cl' : List Int} (h : PX w W gr bx s r v out cv cl gone hv) (h' : RdPost W gr s r' W') (hr : Kd.R (Kd.int .i64) 3 W' w.heap.size (fun k => W.heap.size ≤ k) cv' cl') : PX w (W'.setCell ⟨bx, 0, none⟩ cv') gr bx s r' v out cv' cl' gone hv := by
 have h1 := h.rd h'
 have hne : ∀ k, W.heap.size ≤ k → k ≠ gr ∧ k ≠ bx := fun k hk => ⟨by have := blk_lt h.box; omega, by have := blk_lt h.xb; omega⟩
 exact ⟨bws h1.hb h1.bl, h1.gl, h1.bl, h1.ne, blk_far h1.box h1.ne _, blk_put h1.xb 0 _ rfl, Kd.R_far (p := ⟨bx, 0, none⟩) h1.row (fun _ hk => hk.2) _, Kd.R_far (p := ⟨bx, 0, none⟩) (Kd.R_mono hr hne) (fun _ hk => hk.2) _⟩
theorem PX.hints {hv' : Value} {hl : List Int} (h : PX w W gr bx s r v out cv cl gone hv) (h' : RdPost W gr s r' W') (_ : Kd.R (Kd.int .i64) 3 W' w.heap.size (fun k => W.heap.size ≤ k) hv' hl) : PX w (W'.setCell ⟨bx, 2, none⟩ hv') gr bx s r' v out cv cl gone hv' := by
 have h1 := h.rd h'
 exact ⟨bws h1.hb h1.bl, h1.gl, h1.bl, h1.ne, blk_far h1.box h1.ne _, blk_put h1.xb 2 _ rfl, Kd.R_far (p := ⟨bx, 2, none⟩) h1.row (fun _ hk => hk.2) _, Kd.R_far (p := ⟨bx, 2, none⟩) h1.cr (fun _ hk => hk.2) _⟩
theorem PX.hintsR {hv' : Value} {hl : List Int} (h : PX w W gr bx s r v out cv cl gone hv) (h' : RdPost W gr s r' W') (hr : Kd.R (Kd.int .i64) 3 W' w.heap.size (fun k => W.heap.size ≤ k) hv' hl) : Kd.R (Kd.int .i64) 3 (W'.setCell ⟨bx, 2, none⟩ hv') w.heap.size (fun k => k ≠ gr ∧ k ≠ bx) hv' hl :=
 Kd.R_far (p := ⟨bx, 2, none⟩) (Kd.R_mono hr (fun k hk => ⟨by have := blk_lt h.box; omega, by have := blk_lt h.xb; omega⟩)) (fun _ hk => hk.2) _
end
def ParsePost (w : World) (o : List Stp × Int × Int) (e : Ending) (W' : World) : Prop :=
 ∃ v, e = .returned (.tuple #[v, .int .i64 o.2.1, .int .i64 o.2.2]) ∧ Kd.R kStp 42 W' w.heap.size (fun _ => True) v o.1 ∧ Below w.heap.size w W'
theorem parse_calls (n : Int) (s : ByteArray) (w : World) (hg : GOK w) (ts : List (Nat × List UInt8)) (ht : Tk s.data.toList 0 ts) :
  Calls Tryz.prog 27 #[.int .i64 n, .string s] w (ParsePost w (parseT s.size n ts)) := by
 have HG0 := Az.mk hg
 go_enter Tryz.func27, Tryz.ntmps27
 go_wp2_with fail
 refine (wrong_calls n w).mono ?_
 rintro e w1 ⟨rfl, rfl⟩
 by_cases hw : n < 0 ∨ 16384 < n
 ·have hw' : (decide (n < 0) || decide (16384 < n)) = true := by simpa using hw
  have hP : parseT s.size n ts = ([], 0, 1) := by unfold parseT; rw [if_pos hw]
  rw [hw']
  have HQ := Az.mk hP
  clear hw hw' hP
  go_wp2_with fail
  go_ret3
  unfold ParsePost; rw [HQ.out]
  exact ⟨_, rfl, Kd.R_nil _ _ _ _ _, Below.refl _ _⟩
 ·have hw' : (decide (n < 0) || decide (16384 < n)) = false := by simpa using hw
  rw [hw']
  clear hw'
  by_cases hl : 65536 < s.size
  ·have hl' : decide ((s.size : Int) > 65536) = true := decide_eq_true (by omega)
   have hP : parseT s.size n ts = ([], 0, 5) := by unfold parseT; rw [if_neg hw, if_pos hl]
   have HQ := Az.mk hP
   clear hl hw hP
   go_wp2_with fail
   go_ret3
   unfold ParsePost; rw [HQ.out]
   exact ⟨_, rfl, Kd.R_nil _ _ _ _ _, Below.refl _ _⟩
  ·have hl' : decide ((s.size : Int) > 65536) = false := decide_eq_false (by omega)
   have HP : Az (parseT s.size n ts = if (parseS s.size ts.length n ⟨0, 0, 0⟩ ts).1.e = 0 then ((parseS s.size ts.length n ⟨0, 0, 0⟩ ts).2, 0, 0) else ([], (parseS s.size ts.length n ⟨0, 0, 0⟩ ts).1.wrong, (parseS s.size ts.length n ⟨0, 0, 0⟩ ts).1.e)) := ⟨by unfold parseT; rw [if_neg hw, if_neg hl]⟩
   have hs : s.size ≤ 65536 := by omega
   have HS := Az.mk hs
   have HSL : Az (s.data.toList.length = s.size) := ⟨(size_eq s).symm⟩
   have HNN : Az (0 ≤ n ∧ n ≤ 16384) := ⟨by omega⟩
   have HT0 : Az (Tk s.data.toList 0 ts ∧ ts.length ≤ s.size) := ⟨ht, by have := tk_count ht; rw [← size_eq] at this; omega⟩
   clear hl hw hs ht
   go_wp2_with fail
   have HI0 : Az (PI w (w.alloc (.cells (rdC s ⟨0, 0, 0⟩) 119)) w.heap.size s ⟨0, 0, 0⟩ (.slice none 0 0) []) := ⟨⟨below_nw _ _, Nat.le_refl _, blk_new w _, Kd.R_nil _ _ _ _ _⟩⟩
   go_loopg [0, 4] ts.length (fun f v0 v4 wr => ∃ (n' : Int) (r' : RS) (ts' : List (Nat × List UInt8)) (out : List Stp), v0 = .int .i64 n' ∧ n ≤ n' ∧ Az (PI w wr w.heap.size s r' v4 out) ∧ Az (Tk s.data.toList r'.at_ ts') ∧ Az (ts'.length ≤ f ∧ f + out.length ≤ ts.length ∧ n' + f ≤ n + ts.length) ∧ Az (parseS s.size ts.length n ⟨0, 0, 0⟩ ts = ((parseS s.size f n' r' ts').1, out ++ (parseS s.size f n' r' ts').2)))
   case atStart => exact ⟨n, _, ts, [], rfl, Int.le_refl _, HI0, ⟨HT0.out.1⟩, ⟨⟨Nat.le_refl _, by simp, Int.le_refl _⟩⟩, ⟨by simp⟩⟩
   case round =>
    clear HI0
    obtain ⟨n', r', ts', out, rfl, hnn, HI, HT, HF, HE⟩ := hrel
    obtain ⟨h0, h1, h2, h3⟩ := HI.out.cells
    by_cases he : r'.e = 0
    ·have he' : (r'.e == 0) = true := by rw [he]; rfl
     have HPK := Az.mk (peek_calls wr wr w.heap.size s HS.out r' ts' HT.out (rd_start HI.out.box))
     cases ts' with
     | nil =>
      have hne : (r'.e != 0) = false := by rw [he]; rfl
      have hQ : parseT s.size n ts = (out, 0, 0) := by rw [HP.out, HE.out, parseS_nil]; simp only [List.append_nil]; rw [if_pos he]
      have HQ := Az.mk hQ
      have hq := sb_nil
      obtain ⟨Ap, cp, e4⟩ := Kd.R_slice HI.out.row
      subst e4
      simp only [peekT] at HPK
      generalize sb [] = sv at HPK hq
      clear he hQ
      go_wp2_with (go_at_call 68; refine HPK.out.mono ?_; rintro e w1 ⟨rfl, hb1⟩; have HI1 := Az.mk (HI.out.rd hb1); obtain ⟨g0, g1, g2, g3⟩ := hb1.cells; clear hb1 h0 h1 h2 h3)
      go_ret3
      unfold ParsePost; rw [HQ.out]
      exact ⟨_, rfl, Kd.R_mono HI1.out.row (fun _ _ => trivial), HI1.out.hb⟩
     | cons p ts1 =>
      obtain ⟨a, x⟩ := p
      obtain ⟨f, rfl⟩ : ∃ f, gk = f + 1 := ⟨gk - 1, by have := HF.out.1; simp at this; omega⟩
      obtain ⟨hx, hax⟩ := tk_word HT.out
      have hq := sb_ne hx
      have hsx : (sb x).size ≤ 281474976710656 := by rw [sb_size]; have := HS.out; have := HSL.out; omega
      have HNX := Az.mk (next_calls · · w.heap.size s HS.out r' ((a, x) :: ts1) HT.out ·)
      have HVAL : Az (∀ w, GOK w → Calls Tryz.prog 70 #[.string (sb x)] w fun e w' => e = .returned (.tuple #[.int .i64 (valueL x).1, .bool (valueL x).2]) ∧ Below w.heap.size w w') := ⟨fun w hg => by have h := value_calls (sb x) hsx w hg; rw [sb_list] at h; exact h⟩
      have HT1 := Az.mk (nextS_tk (s := r') HT.out)
      simp only [peekT, nextS] at HPK HNX HT1
      generalize hsv : sb x = sv at HPK HNX hq HVAL
      obtain ⟨vb, hvb⟩ : ∃ vb, valueL x = vb := ⟨_, rfl⟩
      rw [hvb] at HVAL
      obtain ⟨own, is⟩ := vb
      obtain ⟨S2, hS2⟩ : ∃ S2 : RS, (if is = true then ({ r' with at_ := a + x.length } : RS) else failS { r' with at_ := a + x.length } a 3) = S2 := ⟨_, rfl⟩
      have HS2 := Az.mk hS2
      have HVB := Az.mk hvb
      have HE0 := Az.mk he
      have HT2 : Az (Tk s.data.toList S2.at_ ts1) := ⟨by rw [← hS2]; split; exact HT1.out; rw [failS_at]; exact HT1.out⟩
      clear hsv he hx hax hsx hvb hS2
      go_upto_if 48 with (first | (go_at_call 68; refine HPK.out.mono ?_; rintro e w1 ⟨rfl, hb1⟩; have HB1 := Az.mk hb1; clear hb1 h0 h1 h2 h3) | (go_at_call 69; refine (HNX.out wr w1 HB1.out).mono ?_; rintro e w2 ⟨rfl, hb2⟩; have HB2 := Az.mk hb2; clear hb2) | (go_at_call 70; refine (HVAL.out _ (HG0.out.below' HI.out.hb HB2.out.grown HI.out.gl)).mono ?_; rintro e w3 ⟨rfl, hb3⟩; have HI3 := Az.mk ((HI.out.rd HB2.out).below hb3); clear hb3))
      clear HB1 HB2 HI HPK HNX HVAL
      go_cut [12] from 25 to 90 (fun s12 wc => s12 = .int .i64 own ∧ Az (PI w wc w.heap.size s S2 u4 out))
      case first =>
       cases is with
       | true =>
        go_wp2
        go_meet
        case rel => exact ⟨rfl, ⟨by rw [← HS2.out]; simpa using HI3.out⟩⟩
       | false =>
        go_wp2_with (go_at_call 71; refine (fail_calls w3 w.heap.size s _ _ _ (rd_start HI3.out.box)).mono ?_; rintro e w4 ⟨rfl, hb4⟩; have HI4 := Az.mk (HI3.out.rd hb4); clear hb4)
        go_meet
        case rel => exact ⟨rfl, ⟨by rw [← HS2.out]; simpa using HI4.out⟩⟩
      case rest =>
       clear HI3
       obtain ⟨rfl, HI5⟩ := hcut
       go_upto_region 14 with fail
       have HX : Az (PX w (wc.alloc (.cells #[.slice none 0 0, .bool false, .slice none 0 0] 42)) w.heap.size wc.heap.size s S2 u4 out (.slice none 0 0) [] false (.slice none 0 0)) := ⟨PX.make HI5.out⟩
       clear HI5
       generalize wc.heap.size = bx at HX ⊢
       generalize wc.alloc (.cells #[.slice none 0 0, .bool false, .slice none 0 0] 42) = w5 at HX ⊢
       have HPK := Az.mk (peek_calls w5 w5 w.heap.size s HS.out S2 ts1 HT2.out (rd_start HX.out.box))
       have HNX : Az (∀ W : World, W.heap[w.heap.size]? = some (.cells (rdC s S2) 119 (0, 0)) → Calls Tryz.prog 69 #[.pointer (some ⟨w.heap.size, 0, none⟩)] W fun e W' => e = .returned (.tuple #[.string (sb (peekT s.size ts1).1), .int .i64 (peekT s.size ts1).2]) ∧ RdPost W w.heap.size s (nextS s.size S2 ts1).1 W') := ⟨fun W hb => next_calls W W w.heap.size s HS.out S2 ts1 HT2.out (rd_start hb)⟩
       obtain ⟨sec, hsec⟩ : ∃ z, (peekT s.size ts1).1 = z := ⟨_, rfl⟩
       obtain ⟨S3, hS3⟩ : ∃ z, (if sec = [] then failS S2 s.size 4 else if sec = [100] then (nextS s.size S2 ts1).1 else S2) = z := ⟨_, rfl⟩
       obtain ⟨ts3, hts3⟩ : ∃ z, (if sec = [100] then (nextS s.size S2 ts1).2 else ts1) = z := ⟨_, rfl⟩
       obtain ⟨n1, hn1⟩ : ∃ z, (if sec = [] ∨ sec = [100] then n' else n' + 1) = z := ⟨_, rfl⟩
       rw [hsec] at HPK HNX
       have HS3 := Az.mk hS3
       have HN1 := Az.mk hn1
       have HSEC := Az.mk hsec
       have HTS3 := Az.mk hts3
       have hsl := sb_list sec
       have hwn : IntKind.i64.wrap (n' + 1) = n' + 1 := by have h1 := HF.out.2.2; have h2 := HNN.out; have h3 := HT0.out.2; have h4 := HS.out; rw [IntKind.wrap_i64]; omega
       have hse : (sb sec).toList.isEmpty = decide (sec = []) := by rw [toList_data, sb_list]; cases sec <;> rfl
       have hsd : ((sb sec).toList == [100]) = decide (sec = [100]) := by rw [toList_data, sb_list, Bool.eq_iff_iff]; simp
       have HSE := Az.mk hse
       have HSD := Az.mk hsd
       clear hsec hS3 hts3 hn1 hse hsd hsl
       generalize sb sec = sv2 at HPK HNX HSE HSD
       go_upto_block 2 with (go_at_call 68; refine HPK.out.mono ?_; rintro e w6 ⟨rfl, hb6⟩; have HX6 := Az.mk (HX.out.rd hb6); have HB6 := Az.mk hb6; clear hb6)
       go_cut [0] from 25 to 90 (fun s0 wc => s0 = .int .i64 n1 ∧ Az (PX w wc w.heap.size bx s S3 u4 out (.slice none 0 0) [] (decide (sec = [100])) (.slice none 0 0)))
       case first =>
        by_cases h1 : sec = []
        ·have h2 : sv2.toList.isEmpty = true := by rw [HSE.out]; exact decide_eq_true h1
         go_wp2_with (go_at_call 71; refine (fail_calls w6 w.heap.size s _ _ _ (rd_start HX6.out.box)).mono ?_; rintro e w7 ⟨rfl, hb7⟩; have HX7 := Az.mk (HX6.out.rd hb7); clear hb7)
         go_meet
         case rel => exact ⟨by rw [← HN1.out, if_pos (Or.inl h1)], ⟨by rw [← HS3.out, if_pos h1, h1]; exact HX7.out⟩⟩
        ·have h2 : sv2.toList.isEmpty = false := by rw [HSE.out]; exact decide_eq_false h1
         by_cases h3 : sec = [100]
         ·have h4 : (sv2.toList == [100]) = true := by rw [HSD.out]; exact decide_eq_true h3
          obtain ⟨x0, x1, x2⟩ := HX6.out.xcells
          have xf := HX6.out.frozen 1
          go_wp2_with (go_at_call 69; refine (HNX.out _ HX6.out.goes.box).mono ?_; rintro e w7 ⟨rfl, hb7⟩; have HX7 := Az.mk (HX6.out.goes.rd hb7); clear hb7)
          go_meet
          case rel => exact ⟨by rw [← HN1.out, if_pos (Or.inr h3)], ⟨by rw [← HS3.out, if_neg h1, if_pos h3, decide_eq_true h3]; exact HX7.out⟩⟩
         ·have h4 : (sv2.toList == [100]) = false := by rw [HSD.out]; exact decide_eq_false h3
          go_wp2
          go_meet
          case rel => exact ⟨by rw [← HN1.out, if_neg (by simp [h1, h3])], ⟨by rw [← HS3.out, if_neg h1, if_neg h3, decide_eq_false h3]; exact HX6.out⟩⟩
       case rest =>
        clear HX HPK HNX HX6 HB6 HSE HSD
        obtain ⟨rfl, HX8⟩ := hcut
        obtain ⟨S4, hS4⟩ : ∃ z, (if own = n1 then S3 else failS S3 a 3) = z := ⟨_, rfl⟩
        have HT3 : Az (Tk s.data.toList S4.at_ ts3) := ⟨by
         have h1 : S4.at_ = S3.at_ := by rw [← hS4]; split; rfl; rw [failS_at]
         have h2 := nextS_tk (s := S2) HT2.out
         rw [HSL.out] at h2
         rw [h1, ← HS3.out, ← HTS3.out]
         split
         ·have h4 : ¬ sec = [100] := by intro e; rename_i h; rw [h] at e; cases e
          rw [if_neg h4, failS_at]; exact HT2.out
         ·split
          ·exact h2
          ·exact HT2.out⟩
        have HS4 := Az.mk hS4
        clear hS4
        go_upto_if 74 with fail
        go_cut [0] from 25 to 90 (fun s0 wd => s0 = .int .i64 n1 ∧ Az (PX w wd w.heap.size bx s S4 u4 out (.slice none 0 0) [] (decide (sec = [100])) (.slice none 0 0)))
        case first =>
         by_cases h1 : own = n1
         ·have h2 : (own != n1) = false := by rw [h1]; exact bne_self_eq_false _
          have HH := Az.mk h1
          clear h1
          go_wp2
          go_meet
          case rel => exact ⟨rfl, ⟨by rw [← HS4.out, if_pos HH.out]; exact HX8.out⟩⟩
         ·have h2 : (own != n1) = true := bne_iff_ne.2 h1
          have HH := Az.mk h1
          clear h1
          go_wp2_with (go_at_call 71; refine (fail_calls wc w.heap.size s _ _ _ (rd_start HX8.out.box)).mono ?_; rintro e w7 ⟨rfl, hb7⟩; have HX9 := Az.mk (HX8.out.rd hb7); clear hb7)
          go_meet
          case rel => exact ⟨rfl, ⟨by rw [← HS4.out, if_neg HH.out]; exact HX9.out⟩⟩
        case rest =>
         clear HX8
         obtain ⟨rfl, HX9⟩ := hcut
         obtain ⟨gone, hgone⟩ : ∃ z, decide (sec = [100]) = z := ⟨_, rfl⟩
         obtain ⟨c, hc⟩ : ∃ z, (if gone = true then (S4, [], ts3) else listS s.size S4 ts3) = z := ⟨_, rfl⟩
         have HTC : Az (Tk s.data.toList c.1.at_ c.2.2 ∧ c.2.2.length ≤ ts3.length) := ⟨by
          rw [← hc]
          split
          ·exact ⟨HT3.out, Nat.le_refl _⟩
          ·have h := listS_tk HT3.out
           rw [HSL.out] at h
           exact ⟨h, listS_le _ _ _⟩⟩
         rw [hgone] at HX9
         have HC := Az.mk hc
         have HGN := Az.mk hgone
         obtain ⟨x0, x1, x2⟩ := HX9.out.xcells
         clear hc hgone
         go_upto_if 80 with fail
         go_cut [0] from 25 to 90 (fun s0 we => s0 = .int .i64 n1 ∧ ∃ cv, Az (PX w we w.heap.size bx s c.1 u4 out cv c.2.1 gone (.slice none 0 0)))
         case first =>
          cases gone with
          | true =>
           go_wp2
           go_meet
           case rel => exact ⟨rfl, _, ⟨by rw [← HC.out]; simpa using HX9.out⟩⟩
          | false =>
           have xf := HX9.out.frozen 0
           go_wp2_with (go_at_call 72; refine (list_calls w wc w.heap.size s HS.out (Nat.le_refl _) HX9.out.hb HG0.out S4 ts3 HT3.out (rd_start HX9.out.box)).mono ?_; rintro e w7 ⟨v7, rfl, hr7, hb7⟩; obtain ⟨A7, c7, e7⟩ := Kd.R_slice hr7; subst e7; have HX10 := Az.mk (HX9.out.clause hb7 hr7); have y0 := (HX9.out.rd hb7).xcells.1; have yf := (HX9.out.rd hb7).frozen 0; clear hr7 hb7 xf x0 x1 x2)
           go_meet
           case rel => exact ⟨rfl, _, ⟨by rw [← HC.out]; simpa using HX10.out⟩⟩
         case rest =>
          clear HX9 x0 x1 x2
          obtain ⟨rfl, cv, HX11⟩ := hcut
          have HL2 := Az.mk (list_calls w wc w.heap.size s HS.out (Nat.le_refl _) HX11.out.hb HG0.out c.1 c.2.2 HTC.out.1 (rd_start HX11.out.box))
          obtain ⟨h, hh⟩ : ∃ z, listS s.size c.1 c.2.2 = z := ⟨_, rfl⟩
          have HTH : Az (Tk s.data.toList h.1.at_ h.2.2 ∧ h.2.2.length ≤ c.2.2.length) := ⟨by
           have h1 := listS_tk HTC.out.1
           rw [HSL.out, hh] at h1
           exact ⟨h1, by rw [← hh]; exact listS_le _ _ _⟩⟩
          rw [hh] at HL2
          have HH := Az.mk hh
          clear hh
          obtain ⟨Ac, cc, ec⟩ := Kd.R_slice HX11.out.cr
          subst ec
          obtain ⟨Ap, cp, e4⟩ := Kd.R_slice HX11.out.row
          subst e4
          go_upto_region 27 with (go_at_call 72; refine HL2.out.mono ?_; rintro e w8 ⟨v8, rfl, hr8, hb8⟩; obtain ⟨A8, c8, e8⟩ := Kd.R_slice hr8; subst e8; have HX12 := Az.mk (HX11.out.hints hb8 hr8); have HH12 := Az.mk (HX11.out.hintsR hb8 hr8); have y2 := (HX11.out.rd hb8).xcells.2.2; have yf := (HX11.out.rd hb8).frozen 2; clear hr8 hb8)
          clear y2 yf HL2 HX11
          generalize w8.setCell ⟨bx, 2, none⟩ (.slice A8 h.2.1.length c8) = w9 at HX12 HH12 ⊢
          obtain ⟨x0, x1, x2⟩ := HX12.out.xcells
          have HMM : Az (kStp.M w9 w.heap.size (fun k => (k ≠ w.heap.size ∧ k ≠ bx) ∧ some k ≠ (Value.slice Ap out.length cp).ownBlock) ⟨c.2.1, gone, h.2.1⟩ [.slice Ac c.2.1.length cc, .bool gone, .slice A8 h.2.1.length c8]) := ⟨k42_mkM w9 w.heap.size _ ⟨c.2.1, gone, h.2.1⟩ (Kd.R_apartR HX12.out.cr HX12.out.row (by decide)) (Kd.R_apartR HH12.out HX12.out.row (by decide))⟩
          go_wp2_with ((with_reducible refine gate_builtin (b := .append) (xs := #[.tmp 87, .tmp 89]) rfl ?_); at_builtin; refine Kd.R_append kStp (w0 := w) w.heap.size rfl (.tmp 87) (.tmp 89) 25 42 (.agg #[.slice none 0 0, .bool false, .slice none 0 0]) 56 rfl Tryz.underlying25 infoStep rfl (by decide) (by omega) (.slice Ap out.length cp) out ⟨c.2.1, gone, h.2.1⟩ [.slice Ac c.2.1.length cc, .bool gone, .slice A8 h.2.1.length c8] (fun k => k ≠ w.heap.size) (fun k => (k ≠ w.heap.size ∧ k ≠ bx) ∧ some k ≠ (Value.slice Ap out.length cp).ownBlock) rfl rfl ?aP (fun _ hk => ⟨hk.1.1, hk.2⟩) ?aF ?aO ?aB ?aS ?aL ?_; (case aP => exact HMM.out); (case aF => exact fun k hk => by have := blk_lt HX12.out.box; omega); (case aO => exact Kd.R_mono HX12.out.row (fun _ hk => hk.1)); (case aB => exact HX12.out.hb); (case aS => exact HX12.out.hb.size); (case aL => have h1 := HF.out.2.1; have h2 := HT0.out.2; have h3 := HS.out; omega); intro v10 w10 ho hb hg10 hat; have HIN : Az (PI w w10 w.heap.size s h.1 v10 (out ++ [⟨c.2.1, gone, h.2.1⟩])) := ⟨⟨hb, Nat.le_refl _, bkg HX12.out.box hg10 (Kd.R_ne HX12.out.row HX12.out.box (by decide)), ho⟩⟩; clear ho hb hg10 hat)
          go_roundg f
          case measure => omega
          case rel =>
           refine ⟨n1, h.1, h.2.2, out ++ [⟨c.2.1, gone, h.2.1⟩], rfl, ?_, HIN, ⟨HTH.out.1⟩, ⟨?_⟩, ⟨?_⟩⟩
           ·have h1 := HN1.out; split at h1 <;> omega
           ·have h1 := HF.out
            have h2 := HTH.out.2
            have h3 := HTC.out.2
            have h4 : ts3.length ≤ ts1.length := by rw [← HTS3.out]; split; exact nextS_le _ _ _; exact Nat.le_refl _
            have h5 : n1 ≤ n' + 1 := by have h1 := HN1.out; split at h1 <;> omega
            simp only [List.length_cons] at h1
            simp only [List.length_append, List.length_singleton]
            omega
           ·have ho := oneS_eq HVB.out HS2.out HSEC.out HS3.out HTS3.out HN1.out HS4.out HGN.out HC.out HH.out
            have hp : parseS s.size (f + 1) n' r' ((a, x) :: ts1) = ((parseS s.size f n1 h.1 h.2.2).1, ⟨c.2.1, gone, h.2.1⟩ :: (parseS s.size f n1 h.1 h.2.2).2) := by
             rw [parseS, if_pos HE0.out]
             simp only [ho]
            rw [HE.out, hp]
            simp
    ·have he' : (r'.e == 0) = false := beq_eq_false_iff_ne.2 he
     have he2 : (r'.e != 0) = true := bne_iff_ne.2 he
     have HST : Az (parseS s.size gk n' r' ts' = (r', [])) := ⟨parseS_stop he⟩
     have hQ : parseT s.size n ts = ([], r'.wrong, r'.e) := by rw [HP.out, HE.out, HST.out]; simp only; rw [if_neg he]
     have HQ := Az.mk hQ
     have HBD := Az.mk (HI.out.below (below_drew (Below.refl _ _))).hb
     clear he hQ
     go_wp2_with fail
     go_region
     go_wp2_with fail
     go_ret3
     unfold ParsePost; rw [HQ.out]
     exact ⟨_, rfl, Kd.R_nil _ _ _ _ _, HBD.out⟩
end Go.Proofs.YtogicccdngpafaaGreatDoor.NText
end
section
set_option maxRecDepth 100000
namespace Go.Proofs.YtogicccdngpafaaGreatDoor.NText
open Go Go.RowKit Go.Shelf Go.Lib QW.PrintWords QW.PrintLast QW.PrintMore
open NState (Stp kStp infoInt infoStep below_nw)
open NPlain (Ev rT)
open PRPar
def rdR (s : ByteArray) (r : RS) : Array Value := #[.string s, .int .i64 r.at_, .int .i64 r.e, .int .i64 r.wrong]
structure QI (w W : World) (gr : Nat) (s : ByteArray) (r : RS) (v : Value) (out : List Stp) : Prop where
 hb : Below w.heap.size w W
 gl : w.heap.size ≤ gr
 box : W.heap[gr]? = some (.cells (rdR s r) 127 (0, 0))
 row : Kd.R kStp 42 W w.heap.size (fun k => k ≠ gr) v out
def QC (w W : World) (gr : Nat) (s : ByteArray) (r : RS) (W' : World) : Prop := W'.heap[gr]? = some (.cells (rdR s r) 127 (0, 0)) ∧ Below w.heap.size w W' ∧ KeepBut W W' gr none
section
variable {w W W' : World} {gr : Nat} {s : ByteArray} {r r' : RS} {v : Value} {out : List Stp}
theorem QI.is_ (h : QI w W gr s r v out) : IsS127 w W gr s (r.at_ : Int) r.e r.wrong := ⟨h.box, h.gl⟩
theorem QI.rd (h : QI w W gr s r v out) (h' : QC w W gr s r' W') : QI w W' gr s r' v out := ⟨h'.2.1, h.gl, h'.1, Kd.R_keep h.row h'.2.2 (fun _ hk => hk)⟩
theorem QI.drawn (h : QI w W gr s r v out) (h' : Drawn0 W W') : QI w W' gr s r v out := ⟨bwt h.hb h'.below, h.gl, blk_below h.box h'.below, Kd.R_below h.row h'.below⟩
theorem QI.below (h : QI w W gr s r v out) (h' : Below W.heap.size W W') : QI w W' gr s r v out := ⟨bwt h.hb h', h.gl, blk_below h.box h', Kd.R_below h.row h'⟩
theorem QI.cells (h : QI w W gr s r v out) : W.cell? ⟨gr, 0, none⟩ = some (.string s) ∧ W.cell? ⟨gr, 1, none⟩ = some (.int .i64 r.at_) ∧ W.cell? ⟨gr, 2, none⟩ = some (.int .i64 r.e) ∧ W.cell? ⟨gr, 3, none⟩ = some (.int .i64 r.wrong) :=
 ⟨(bkc h.box 0).trans rfl, (bkc h.box 1).trans rfl, (bkc h.box 2).trans rfl, (bkc h.box 3).trans rfl⟩
theorem QI.fail (h : QI w W gr s r v out) (a e0 : Int) :
  Calls Tryz.prog 76 #[.pointer (some ⟨gr, 0, none⟩), .int .i64 a, .int .i64 e0] W fun e W' => e = .returned (.tuple #[]) ∧ QC w W gr s (failS r a e0) W' := by
 have hk : netlabref32_Reader_Fail.f s (r.at_ : Int) r.e r.wrong a e0 = some (rT s (failS r a e0)) := by
  unfold netlabref32_Reader_Fail.f failS
  by_cases he : r.e = 0
  ·rw [if_pos he, if_pos he]
  ·rw [if_neg he, if_neg he]
 refine (netlabref32_Reader_Fail.calls gr s r.at_ r.e r.wrong a e0 _ _ _ _ w W h.is_ h.hb hk).mono ?_
 rintro e W' ⟨rfl, h1, h2, h3⟩
 exact ⟨rfl, h1.1, h2, h3⟩
theorem QI.frozen (h : QI w W gr s r v out) (j : Nat) : W.frozen? ⟨gr, j, none⟩ = false := bkf h.box j
end
end Go.Proofs.YtogicccdngpafaaGreatDoor.NText
end
