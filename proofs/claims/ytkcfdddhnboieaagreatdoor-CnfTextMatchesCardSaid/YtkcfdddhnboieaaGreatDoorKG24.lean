/-
  Part 24 of the proof of cnfTextMatches_card: walks and lemmas.
-/
import Derived.Test.YtkcfdddhnboieaaGreatDoorKG22
import Derived.Test.YtkcfdddhnboieaaGreatDoorKG23
import Derived.Test.YtkcfdddhnboieaaGreatDoorKG21
set_option linter.unusedVariables false
set_option linter.unusedSimpArgs false
section
set_option maxHeartbeats 4000000
set_option maxRecDepth 100000
namespace Go.Proofs.YtkcfdddhnboieaaGreatDoor.NState
open Go Go.RowKit Go.Shelf QW.PrintWords QW.PrintLast QW.PrintMore NMap NIter
attribute [local go_sem] Oper.semAt_some
structure CNeed (cg cr gA gR : Nat) (W : World) : Prop where
 bg : W.heap[cg]? = some (.cells #[.int .i64 2, .slice none 0 0, .slice (some ⟨gA, 0, none⟩) 1 1, .slice none 0 0] 66 (0, 0))
 br : W.heap[cr]? = some (.cells #[.slice (some ⟨gR, 0, none⟩) 1 1] 64 (0, 0))
 rr : W.heap[gR]? = some (.cells #[.int .i64 7] 67 (0, 0))
 ra : W.heap[gA]? = some (.cells #[.int .i64 2, .int .i64 5] 109 (0, 0))
theorem CNeed.below {cg cr gA gR : Nat} {W W' : World} (h : CNeed cg cr gA gR W) (hb : Below W.heap.size W W') : CNeed cg cr gA gR W' :=
 ⟨blk_below h.bg hb, blk_below h.br hb, blk_below h.rr hb, blk_below h.ra hb⟩
def KeepB (A B : World) : Prop := (∀ (k : Nat) (cs : Array Value) (t : Nat), (t = 4 ∨ t = 25) → A.heap[k]? = some (.cells cs t (0, 0)) → B.heap[k]? = some (.cells cs t (0, 0))) ∧ (∀ (k : Nat) (d : Option (List Deferred)), A.heap[k]? = some (.deferred d) → B.heap[k]? = some (.deferred d))
def EndC (base : Nat) (A B : World) : Prop := ∃ D, base ≤ D ∧ (∃ d, A.heap[D]? = some (.deferred d)) ∧ B = A.putObj D (.deferred none)
theorem make_at {P : Program} {t e : TypeId} {z : Value} {b : Nat} (w : World) (n : Int) (c : Array Value) (ht : P.underlying t = some (.slice e)) (hi : (P.info? e).map (fun i => (i.zero, i.size, i.bytes)) = some (some z, 1, b)) (h0 : 0 ≤ n ∧ n ≤ 1000) (hb : b ≤ 1000) (hm : madeCells z.cells (n.toNat * 1) = c) :
  (Instr.makeSlice t (.int .i64 n) (.int .i64 n)).run P w = .ok (.slice (some ⟨w.heap.size, 0, none⟩) n.toNat n.toNat) (w.alloc (.cells c e)) := by
 obtain ⟨i, hi1, hi2⟩ := Option.map_eq_some_iff.1 hi
 simp only [Prod.mk.injEq] at hi2
 obtain ⟨hz, hs, hbb⟩ := hi2
 have hp : (i.bytes : Int) * n ≤ 281474976710656 := by
  have h1 : (i.bytes : Int) * n ≤ 1000 * 1000 := Int.mul_le_mul (by omega) h0.2 h0.1 (by decide)
  omega
 have h2 := run_make (P := P) w t e i z ht hi1 hz .i64 .i64 n n h0.1 (Int.le_refl _) hp (by omega)
 rw [hs, hm] at h2
 exact h2
theorem make4b (w : World) : (Instr.makeSlice 25 (.int .i64 4) (.int .i64 4)).run Tryz.prog w = .ok (.slice (some ⟨w.heap.size, 0, none⟩) 4 4) (w.alloc (.cells #[.bool false, .bool false, .bool false, .bool false] 4)) :=
 make_at (z := .bool false) (b := 1) w 4 _ Tryz.underlying25 (by kernel_rfl) (by decide) (by decide) (by kernel_rfl)
theorem make4i (w : World) : (Instr.makeSlice 26 (.int .i64 4) (.int .i64 4)).run Tryz.prog w = .ok (.slice (some ⟨w.heap.size, 0, none⟩) 4 4) (w.alloc (.cells #[.int .i64 0, .int .i64 0, .int .i64 0, .int .i64 0] 3)) :=
 make_at (z := .int .i64 0) (b := 8) w 4 _ Tryz.underlying26 (by kernel_rfl) (by decide) (by decide) (by kernel_rfl)
theorem blk_below0 {w w1 : World} {g : Nat} {o : Obj} (h : w.heap[g]? = some o) (hb : Below w.heap.size w w1) : w1.heap[g]? = some o := (hb.block g (blk_lt h)).trans h
theorem blk_loop {W : World} {k l : Nat} {cs : Array Value} {t : Nat} {r o : Loop} (h : W.heap[k]? = some (.cells cs t (0, 0))) (hr : W.heap[l]? = some (.loop r)) : (W.putObj l (.loop o)).heap[k]? = some (.cells cs t (0, 0)) := by
 have hne : k ≠ l := by rintro rfl; rw [hr] at h; cases h
 exact (World.putObj_heap_other hne).trans h
theorem CNeed.loop {cg cr gA gR l : Nat} {W : World} {r o : Loop} (h : CNeed cg cr gA gR W) (hr : W.heap[l]? = some (.loop r)) : CNeed cg cr gA gR (W.putObj l (.loop o)) :=
 ⟨blk_loop h.bg hr, blk_loop h.br hr, blk_loop h.rr hr, blk_loop h.ra hr⟩
def csC : Nat → Array Value
 | 0 => #[.bool false, .bool false, .bool false, .bool true]
 | _ => #[.bool false, .bool true, .bool true, .bool true]
structure CAt (W0 W : World) (cg cr gA gR gI bF bs : Nat) (cs : Array Value) : Prop where
 hb : Below W0.heap.size W0 W
 need : CNeed cg cr gA gR W
 row : W.heap[gI]? = some (.cells cs 4 (0, 0))
 box : W.heap[gI + 1]? = some (.cells #[.slice (some ⟨gI, 0, none⟩) 4 4] 25 (0, 0))
 fst : W.heap[bF]? = some (.cells #[.int .i64 3] 3 (0, 0))
 bsb : W.heap[bs]? = some (.cells #[.slice (some ⟨gA, 0, none⟩) 1 1] 63 (0, 0))
section
variable {W0 W W' : World} {cg cr gA gR gI bF bs : Nat} {cs : Array Value}
theorem CAt.below (h : CAt W0 W cg cr gA gR gI bF bs cs) (hb : Below W.heap.size W W') : CAt W0 W' cg cr gA gR gI bF bs cs :=
 ⟨bwt h.hb hb, h.need.below hb, blk_below h.row hb, blk_below h.box hb, blk_below h.fst hb, blk_below h.bsb hb⟩
theorem below_putLoop {W0 W : World} {l : Nat} {o : Loop} (h : Below W0.heap.size W0 W) (hl : W0.heap.size ≤ l) : Below W0.heap.size W0 (W.putObj l (.loop o)) :=
 ⟨h.os, h.tape, h.output, by simpa [World.putObj] using h.size, fun k hk => (World.putObj_heap_other (by omega)).trans (h.block k hk)⟩
theorem CAt.loop {l : Nat} {r o : Loop} (h : CAt W0 W cg cr gA gR gI bF bs cs) (hr : W.heap[l]? = some (.loop r)) (hl : W0.heap.size ≤ l) : CAt W0 (W.putObj l (.loop o)) cg cr gA gR gI bF bs cs :=
 ⟨below_putLoop h.hb hl, h.need.loop hr, blk_loop h.row hr, blk_loop h.box hr, blk_loop h.fst hr, blk_loop h.bsb hr⟩
end
def coneR11.T : Bool × List (List Nat × List Nat) := (true, [([], []), ([], []), ([1], [1]), ([2], [2]), ([], []), ([], []), ([5], [5]), ([6], [6]), ([0, 3, 0, 1, 2, 3], [0, 3]), ([8, 0, 1, 2, 3], [8]), ([4, 7, 0, 1, 2, 3, 4, 5, 6, 7, 8, 9], [4, 7]), ([10, 9, 0, 1, 2, 3, 4, 5, 6, 7, 8, 9], [10])])
def coneR11.B : List Nat := [0, 0, 2, 6, 0, 0, 32, 96, 15, 271, 1023, 2047]
theorem coneR11.tab : rtab .any (opsOf Tryz.f131 11) = coneR11.T := by kernel_rfl
theorem coneR11.bits : waitsOk coneR11.T.2 coneR11.B = true := by kernel_rfl
theorem blk_ne {W : World} {k g t t' : Nat} {cs cs' : Array Value} (h : W.heap[k]? = some (.cells cs t (0, 0))) (h' : W.heap[g]? = some (.cells cs' t' (0, 0))) (ht : t ≠ t') : k ≠ g := by
 rintro rfl; rw [h] at h'; cases h'; exact ht rfl
theorem CAt.mark {W0 W : World} {cg cr gA gR gI bF bs : Nat} {cs : Array Value} (h : CAt W0 W cg cr gA gR gI bF bs cs) (hg : W0.heap.size ≤ gI) (i : Nat) (v : Value) (cs' : Array Value) (hc : cs.setIfInBounds i v = cs') : CAt W0 (W.setCell ⟨gI, i, none⟩ v) cg cr gA gR gI bF bs cs' :=
 ⟨bws h.hb hg, ⟨blk_far h.need.bg (blk_ne h.need.bg h.row (by decide)) _, blk_far h.need.br (blk_ne h.need.br h.row (by decide)) _, blk_far h.need.rr (blk_ne h.need.rr h.row (by decide)) _, blk_far h.need.ra (blk_ne h.need.ra h.row (by decide)) _⟩,
  by rw [← hc]; exact blk_set h.row i v, blk_far h.box (blk_ne h.box h.row (by decide)) _, blk_far h.fst (blk_ne h.fst h.row (by decide)) _, blk_far h.bsb (blk_ne h.bsb h.row (by decide)) _⟩
structure Hold (p : Prop) : Prop where mk :: out : p
theorem hold_in {F : Fence} {n : Nat} {P : Program} {c : Code} {Q : Exit → Act → World → Prop} {a : Act} {w : World} (h : Hold (c.wpIn F n P Q a w)) : c.wpIn F n P Q a w := h.out
theorem cone_iter (base cg cr gA gR : Nat) :
  IterAll2 Tryz.prog 131 #[.pointer (some ⟨cg, 0, none⟩), .pointer (some ⟨cr, 0, none⟩)] (fun x : Int => #[.int .i64 x]) [1, 2, 3] (fun W => CNeed cg cr gA gR W ∧ base ≤ W.heap.size) BStepA (EndC base) KeepB := by
 intro l J W hN hS hE hY h0
 have HN := Az.mk hN
 have HS := Az.mk hS
 have HY := Az.mk hY
 have H0 := Az.mk h0
 have HC : Az (CNeed cg cr gA gR W) := ⟨(hN _ _ h0).1⟩
 have HBS : Az (base ≤ W.heap.size) := ⟨(hN _ _ h0).2⟩
 have HE := Az.mk hE
 have HNO : Az (∀ W, GOn gA W → Calls Tryz.prog 46 #[gV gA] W fun e W' => e = .returned (.int .i64 4) ∧ Below W.heap.size W W') := ⟨nodesA_at gA⟩
 unfold gV at HNO
 clear hN hS hE hY h0
 have c0 := (bkc HC.out.bg 0).trans rfl
 have c1 := (bkc HC.out.bg 1).trans rfl
 have c2 := (bkc HC.out.bg 2).trans rfl
 have c3 := (bkc HC.out.bg 3).trans rfl
 have d0 := (bkc HC.out.br 0).trans rfl
 have hmk := make4b
 refine callsIn_of_wp_marks Tryz.func131 rfl trivial ?_ rfl
 simp only [Tryz.ntmps131, List.size_toArray, List.length_cons, List.length_nil, Nat.reduceAdd, Nat.reduceSub, Array.replicate_succ, Array.replicate_zero, List.push_toArray, List.append_toArray, List.nil_append, List.cons_append]
 refine wpIn_wide.2 ?_
 go_upto_region 1 with (go_at_call 46; refine (HNO.out _ HC.out.ra).mono ?_; rintro e w1 ⟨rfl, hb1⟩; have HB1 := Az.mk hb1; clear hb1 c0 c1 c2 c3 d0)
 obtain ⟨gI, hgI⟩ : ∃ g, w1.heap.size = g := ⟨_, rfl⟩
 obtain ⟨w2, hw2⟩ : ∃ w2, (w1.alloc (.cells #[.bool false, .bool false, .bool false, .bool false] 4)).alloc (.cells #[.slice (some ⟨gI, 0, none⟩) 4 4] 25) = w2 := ⟨_, rfl⟩
 have HB2 : Az (Below W.heap.size W w2) := ⟨by rw [← hw2]; exact (bwt HB1.out (below_nw0 _ _)).alloc (by have := HB1.out.size; rw [World.size_alloc]; omega) _⟩
 have HC2 : Az (CNeed cg cr gA gR w2) := ⟨HC.out.below HB2.out⟩
 have RI2 : Az (w2.heap[gI]? = some (.cells #[.bool false, .bool false, .bool false, .bool false] 4 (0, 0))) := ⟨by rw [← hw2, ← hgI]; exact blk_below (blk_new _ _) (below_nw0 _ _)⟩
 have BI2 : Az (w2.heap[gI + 1]? = some (.cells #[.slice (some ⟨gI, 0, none⟩) 4 4] 25 (0, 0))) := ⟨by rw [← hw2, ← hgI]; have h := blk_new (w1.alloc (.cells #[.bool false, .bool false, .bool false, .bool false] 4)) (.cells #[.slice (some ⟨w1.heap.size, 0, none⟩) 4 4] 25); rw [World.size_alloc] at h; exact h⟩
 have HLG : Az (W.heap.size ≤ gI) := ⟨by rw [← hgI]; exact HB1.out.size⟩
 rw [hgI, hw2]
 clear hmk HB1 hw2 hgI
 have d0 := (bkc HC2.out.br 0).trans rfl
 go_wp2
 refine wp_rolls 2 ?_
 show Code.wp _ _ (Exit.then (Rolls _ _ _ 1) _) _ _
 have r0 := (bkc HC2.out.rr 0).trans rfl
 have b0 := (bkc BI2.out 0).trans rfl
 have i3 := (bkc RI2.out 3).trans rfl
 have f3 := bkf RI2.out 3
 go_wp2
 show Code.wp _ _ (Exit.then (Rolls _ _ _ 0) _) _ _
 have HB3 : Az (Below W.heap.size W (w2.setCell ⟨gI, 3, none⟩ (.bool true))) := ⟨bws HB2.out HLG.out⟩
 have HC3 : Az (CNeed cg cr gA gR (w2.setCell ⟨gI, 3, none⟩ (.bool true))) := ⟨HC.out.below HB3.out⟩
 have RI3 : Az ((w2.setCell ⟨gI, 3, none⟩ (.bool true)).heap[gI]? = some (.cells #[.bool false, .bool false, .bool false, .bool true] 4 (0, 0))) := ⟨blk_put RI2.out 3 _ rfl⟩
 have BI3 : Az ((w2.setCell ⟨gI, 3, none⟩ (.bool true)).heap[gI + 1]? = some (.cells #[.slice (some ⟨gI, 0, none⟩) 4 4] 25 (0, 0))) := ⟨blk_far BI2.out (p := ⟨gI, 3, none⟩) (by show gI + 1 ≠ gI; omega) _⟩
 clear HB2 HC2 RI2 BI2 d0 r0 b0 i3 f3
 generalize w2.setCell ⟨gI, 3, none⟩ (.bool true) = w3 at HB3 HC3 RI3 BI3 ⊢
 have b0 := (bkc BI3.out 0).trans rfl
 have c2 := (bkc HC3.out.bg 2).trans rfl
 have hcg : cg < w3.heap.size := blk_lt HC3.out.bg
 go_wp2_with (go_at_call 132; refine (backA_calls _ _ _ _).mono ?_; rintro e w4 ⟨rfl, rfl⟩)
 obtain ⟨w5, hw5⟩ : ∃ w5, (w3.alloc (.cells #[.int .i64 3] 3)).alloc (.cells #[.slice (some ⟨gA, 0, none⟩) 1 1] 63) = w5 := ⟨_, rfl⟩
 have HC5 : Az (CAt W w5 cg cr gA gR gI w3.heap.size (w3.heap.size + 1) (csC 0)) := ⟨by
  have hbl : Below w3.heap.size w3 w5 := by rw [← hw5]; exact (below_nw0 _ _).alloc (by rw [World.size_alloc]; omega) _
  refine ⟨bwt HB3.out hbl, HC3.out.below hbl, blk_below RI3.out hbl, blk_below BI3.out hbl, ?_, ?_⟩
  ·rw [← hw5]; exact blk_below (blk_new _ _) (below_nw0 _ _)
  ·rw [← hw5]; have h := blk_new (w3.alloc (.cells #[.int .i64 3] 3)) (.cells #[.slice (some ⟨gA, 0, none⟩) 1 1] 63); rw [World.size_alloc] at h; exact h⟩
 have HW35 : Az (W.heap.size ≤ w5.heap.size) := ⟨HC5.out.hb.size⟩
 rw [hw5]
 clear hw5 b0 c2 hcg HB3 HC3 RI3 BI3
 refine (wpIn_wide (n := 0)).1 ?_
 refine range_all2 (gf := 153) (lb := #[.pointer (some ⟨w3.heap.size + 1, 0, none⟩)]) rfl (enters_of Tryz.func153 (by kernel_rfl) rfl)
  (backA_iter (w3.heap.size + 1) gA) (fun _ => rfl) (fun pre W' => CAt W W' cg cr gA gR gI w3.heap.size (w3.heap.size + 1) (csC pre.length)) ?Sk (fun _ _ _ _ h => h.elim) (fun _ _ _ _ h => h.elim) (fun _ _ => trivial) (fun _ _ _ _ _ => trivial)
  ?Is ?Il ?In ?h0 (fun pre _ a' W' => ∃ p, CAt W W' cg cr gA gR gI w3.heap.size (w3.heap.size + 1) (csC pre.length) ∧ W'.heap[p]? = some (.cells #[.int .i64 2, .int .i64 5] 109 (0, 0)) ∧ a' = { tmps := #[.func (.yield l) #[] #[], .pointer (some ⟨cg, 0, none⟩), .pointer (some ⟨cr, 0, none⟩), undef, .pointer (some ⟨gI + 1, 0, none⟩), undef, .int .i64 7, .pointer (some ⟨w3.heap.size, 0, none⟩), .int .i64 0, .pointer (some ⟨p, 0, none⟩), undef, undef, .agg #[.int .i64 2, .slice none 0 0, .slice (some ⟨gA, 0, none⟩) 1 1, .slice none 0 0], .int .i64 4, .slice (some ⟨gI, 0, none⟩) 4 4, .slice (some ⟨gR, 0, none⟩) 1 1, .int .i64 1, .int .i64 1, .bool false, .pointer (some ⟨gR, 0, none⟩), .int .i64 7, .slice (some ⟨gI, 0, none⟩) 4 4, .int .i64 7, .int .i64 3, .pointer (some ⟨gI, 3, none⟩), .int .i64 1, .slice (some ⟨gI, 0, none⟩) 4 4, .int .i64 4, .pointer (some ⟨cg, 2, none⟩), .slice (some ⟨gA, 0, none⟩) 1 1, .int .i64 1, .int .i64 3, .pointer (some ⟨cg, 2, none⟩), .slice (some ⟨gA, 0, none⟩) 1 1, .func (.func 153) #[] #[.pointer (some ⟨w3.heap.size + 1, 0, none⟩)], .int .i64 0, .agg #[.int .i64 2, .int .i64 5], undef, undef, undef, undef, undef, undef, undef, undef, undef, undef, undef, undef, undef, undef, undef, undef, undef, undef, undef, undef, undef, undef, undef, undef, undef, undef, undef, undef, undef, undef, undef], defers := [] }) ?assign ?A1 ?body ?done
 case Sk =>
  intro A B k' o h hk ho
  exact (h.block k' (Array.getElem?_eq_some_iff.1 hk).1).trans hk
 case Is =>
  rintro pre A B h hs
  exact h.below hs
 case Il =>
  rintro pre A l r' o hl h hr
  exact h.loop hr (by have := HW35.out; omega)
 case In =>
  rintro pre W h
  exact ⟨h.bsb, h.need.ra⟩
 case h0 =>
  intro r'
  exact HC5.out.below ((below_nw0 _ _).alloc (by rw [World.size_alloc]; omega) _)
 case A1 =>
  rintro pre x a' A l r' o hl ⟨p, h, hp, rfl⟩ hr
  exact ⟨p, h.loop hr (by have := HW35.out; omega), blk_loop hp hr, rfl⟩
 case assign =>
  rintro l pre x W' hI hd hr
  have HI := Az.mk hI
  have HD := Az.mk hd
  have HR := Az.mk hr
  clear hI hd hr
  gi_wp2
  refine ⟨⟨W'.heap.size, HI.out.below (below_nw0 _ _), blk_new _ _, rfl⟩, ?_, ?_, trivial⟩
  ·obtain ⟨d, hd⟩ := HD.out; exact (blk_below0 hd (below_nw0 _ _)).trans hd.symm
  ·obtain ⟨d, hd⟩ := HR.out; exact (blk_below0 hd (below_nw0 _ _)).trans hd.symm
 case body =>
  rintro l pre x post a' W' hx ⟨p, hI, hp, rfl⟩ hd hr
  obtain rfl : pre = [] := by
   cases pre with
   | nil => rfl
   | cons y ys => have := congrArg List.length hx; simp at this
  have HI : Az (CAt W W' cg cr gA gR gI w3.heap.size (w3.heap.size + 1) (csC 0)) := ⟨hI⟩
  have HP := Az.mk hp
  have HD := Az.mk hd
  have HR := Az.mk hr
  have b0 := (bkc hI.box 0).trans rfl
  have i3 : W'.cell? ⟨gI, 3, none⟩ = some (.bool true) := (bkc HI.out.row 3).trans rfl
  have n0 := (bkc hI.fst 0).trans rfl
  clear hI hp hd hr hx
  (gi_wp2_with ((with_reducible refine wpListIn_round ?hlo _ _ _ ?hnd ?_); (case hlo => rintro ⟨_, _, h⟩; exact h); (case hnd => rfl)))
  (((go_wp2_with (with_reducible refine hold_in ?_)); refine Hold.mk ?_))
  gi_wp2_with fail
  have HI2 : Az (CAt W W'.drew cg cr gA gR gI w3.heap.size (w3.heap.size + 1) #[.bool false, .bool false, .bool false, .bool true]) := ⟨HI.out.below (below_drew (Below.refl _ _))⟩
  have HP2 : Az (W'.drew.heap[p]? = some (.cells #[.int .i64 2, .int .i64 5] 109 (0, 0))) := ⟨bkd HP.out⟩
  have HNE : Az (w5.heap.size ≠ gI ∧ w5.heap.size + 1 ≠ gI) := ⟨by
   obtain ⟨d, hd⟩ := HD.out; obtain ⟨r, hr⟩ := HR.out
   have hrow := HI.out.row
   exact ⟨(by rintro e; rw [e, hrow] at hd; cases hd), (by rintro e; rw [e, hrow] at hr; cases hr)⟩⟩
  have HD2 : Az (W'.drew.heap[w5.heap.size]? = W'.heap[w5.heap.size]? ∧ W'.drew.heap[w5.heap.size + 1]? = W'.heap[w5.heap.size + 1]?) := ⟨rfl, rfl⟩
  clear HI b0 i3 n0
  refine startR_ (n := 12) (S := fun w' => w'.cell? ⟨gI + 1, 0, none⟩ = some (.slice (some ⟨gI, 0, none⟩) 4 4) ∧ w'.cell? ⟨p, 0, none⟩ = some (.int .i64 2) ∧ w'.cell? ⟨p, 1, none⟩ = some (.int .i64 5)) (ds := []) (Array.replicate 12 false) (by kernel_rfl) (by rintro ⟨_, _, h⟩; exact h) rfl rfl rfl ⟨(bkc HI2.out.box 0).trans rfl, (bkc HP2.out 0).trans rfl, (bkc HP2.out 1).trans rfl⟩ (fun hHeld => ?_); refine with_tabW coneR11.tab coneR11.bits (fun HT_ HW_ => ?_)
  generalize W'.drew = wd at HI2 HP2 HD2 hHeld ⊢
  refine pT 0 (some 43) (bA 12 1) rfl rfl HT_.out HW_.out hHeld (by rintro w' ⟨s0, s1, s2⟩; go_simp; with_reducible rfl) (by simp only [Act.put, zq1, zq2, zq3, iw, jw]; rfl) ?_
  refine pA 1 (some 44) (bA 12 3) rfl rfl HT_.out (by intro w'; go_simp; with_reducible rfl) (by simp only [Act.put, zq1, zq2, zq3, iw, jw]; rfl) ?_
  refine pT 2 (some 45) (bA 12 7) rfl rfl HT_.out HW_.out hHeld (by rintro w' ⟨s0, s1, s2⟩; go_simp; with_reducible rfl) (by simp only [Act.put, zq1, zq2, zq3, iw, jw]; rfl) ?_
  refine pA 3 (some 46) (bA 12 15) rfl rfl HT_.out (by intro w'; go_simp; with_reducible rfl) (by simp only [Act.put, zq1, zq2, zq3, iw, jw]; rfl) ?_
  refine pT 4 (some 47) (bA 12 31) rfl rfl HT_.out HW_.out hHeld (by rintro w' ⟨s0, s1, s2⟩; go_simp; with_reducible rfl) (by simp only [Act.put, zq1, zq2, zq3, iw, jw]; rfl) ?_
  refine pA 5 (some 48) (bA 12 63) rfl rfl HT_.out (by intro w'; go_simp; with_reducible rfl) (by simp only [Act.put, zq1, zq2, zq3, iw, jw]; rfl) ?_
  refine pT 6 (some 49) (bA 12 127) rfl rfl HT_.out HW_.out hHeld (by rintro w' ⟨s0, s1, s2⟩; go_simp; with_reducible rfl) (by simp only [Act.put, zq1, zq2, zq3, iw, jw]; rfl) ?_
  refine pA 7 (some 50) (bA 12 255) rfl rfl HT_.out (by intro w'; go_simp; with_reducible rfl) (by simp only [Act.put, zq1, zq2, zq3, iw, jw]; rfl) ?_
  refine pA 8 (some 51) (bA 12 511) rfl rfl HT_.out (by intro w'; go_simp; with_reducible rfl) (by simp only [Act.put, zq1, zq2, zq3, iw, jw]; rfl) ?_
  refine QW.PrintLast.one_ (i := 9) (N := none) (bA 12 1023) rfl rfl (one_of HT_.out (by kernel_rfl)) (by decide) (fun K hK => ?_)
  have hs1 : wd.cell? ⟨gI, 1, none⟩ = some (.bool false) := (bkc HI2.out.row 1).trans rfl
  have hf1 := bkf HI2.out.row 1
  refine skip_ (w1 := ?_) (by rfl) rfl ?_ ?_
  rotate_left
  ·go_simp
   rfl
  have HI3 := Az.mk (HI2.out.mark HLG.out 1 (.bool true) _ rfl)
  have HP3 := Az.mk (blk_far HP2.out (p := ⟨gI, 1, none⟩) (blk_ne HP2.out HI2.out.row (by decide)) (.bool true))
  refine hK.out _ _ ⟨(bkc HI3.out.box 0).trans rfl, (bkc HP3.out 0).trans rfl, (bkc HP3.out 1).trans rfl⟩ (fun hHeld => ?_)
  have HD3 : Az ((wd.setCell ⟨gI, 1, none⟩ (.bool true)).heap[w5.heap.size]? = W'.heap[w5.heap.size]? ∧ (wd.setCell ⟨gI, 1, none⟩ (.bool true)).heap[w5.heap.size + 1]? = W'.heap[w5.heap.size + 1]?) := ⟨(Below.heap_setCell wd ⟨gI, 1, none⟩ (.bool true) _ HNE.out.1).trans HD2.out.1, (Below.heap_setCell wd ⟨gI, 1, none⟩ (.bool true) _ HNE.out.2).trans HD2.out.2⟩
  clear hK K hs1 hf1 HP2 HI2 HD2
  generalize wd.setCell ⟨gI, 1, none⟩ (.bool true) = we at HI3 HP3 HD3 hHeld ⊢
  refine pA 10 (some 52) (bA 12 2047) rfl rfl HT_.out (by intro w'; go_simp; with_reducible rfl) (by simp only [Act.put, zq1, zq2, zq3, iw, jw]; rfl) ?_
  refine QW.PrintLast.one_ (i := 11) (N := none) (bA 12 4095) rfl rfl (one_of HT_.out (by kernel_rfl)) (by decide) (fun K hK => ?_)
  have hs1 : we.cell? ⟨gI, 2, none⟩ = some (.bool false) := (bkc HI3.out.row 2).trans rfl
  have hf1 := bkf HI3.out.row 2
  refine skip_ (w1 := ?_) (by rfl) rfl ?_ ?_
  rotate_left
  ·go_simp
   rfl
  have HI4 := Az.mk (HI3.out.mark HLG.out 2 (.bool true) _ rfl)
  have HP4 := Az.mk (blk_far HP3.out (p := ⟨gI, 2, none⟩) (blk_ne HP3.out HI3.out.row (by decide)) (.bool true))
  refine hK.out _ _ ⟨(bkc HI4.out.box 0).trans rfl, (bkc HP4.out 0).trans rfl, (bkc HP4.out 1).trans rfl⟩ (fun hHeld => ?_)
  clear hK K hs1 hf1
  refine done_ (done_of HT_.out (by kernel_rfl)) ?_
  clear hHeld HT_ HW_
  exact ⟨(Below.heap_setCell we ⟨gI, 2, none⟩ (.bool true) _ HNE.out.1).trans HD3.out.1, (Below.heap_setCell we ⟨gI, 2, none⟩ (.bool true) _ HNE.out.2).trans HD3.out.2, trivial, HI4.out⟩
 case done =>
  intro W' hI hD
  have HI := Az.mk hI
  have HD := Az.mk hD
  have b0 := (bkc hI.box 0).trans rfl
  clear hI hD
  have HIL : Az (CAt W W' cg cr gA gR gI w3.heap.size (w3.heap.size + 1) #[.bool false, .bool true, .bool true, .bool true]) := HI
  have HJ0 : Az (J [] W') := ⟨HS.out [] W W' H0.out HIL.out.hb⟩
  have HK0 : Az (W'.heap[gI]? = some (.cells #[.bool false, .bool true, .bool true, .bool true] 4 (0, 0)) ∧ W'.heap[w5.heap.size]? = some (.deferred (some []))) := ⟨HIL.out.row, HD.out⟩
  clear HI
  go_wp2
  refine wp_rolls 5 ?_
  show Code.wp _ _ (Exit.then (Rolls _ _ _ 4) _) _ _
  have i0 : W'.cell? ⟨gI, 0, none⟩ = some (.bool false) := (bkc HIL.out.row 0).trans rfl
  go_wp2
  show Code.wp _ _ (Exit.then (Rolls _ _ _ 3) _) _ _
  have i1 : W'.cell? ⟨gI, 1, none⟩ = some (.bool true) := (bkc HK0.out.1 1).trans rfl
  obtain ⟨fn1, tmps1, assign1, body1, hy1, hR1⟩ := HY.out [] 1 [2, 3] W' rfl HJ0.out
  refine wpIn_wide (n := 0) |>.1 ?_
  gi_wp2
  refine ⟨rfl, hR1.mono ?_⟩
  rintro e V1 ⟨rfl, hJ1, hk1⟩
  have HJ1 : Az (J [1] V1) := ⟨hJ1⟩
  have HK1 : Az (V1.heap[gI]? = some (.cells #[.bool false, .bool true, .bool true, .bool true] 4 (0, 0)) ∧ V1.heap[w5.heap.size]? = some (.deferred (some []))) := ⟨hk1.1 _ _ _ (Or.inl rfl) HK0.out.1, hk1.2 _ _ HK0.out.2⟩
  clear hJ1 hk1 hy1 hR1 i1
  gi_wp2
  show Code.wp _ _ (Exit.then (Rolls _ _ _ 2) _) _ _
  have i2 : V1.cell? ⟨gI, 2, none⟩ = some (.bool true) := (bkc HK1.out.1 2).trans rfl
  obtain ⟨fn2, tmps2, assign2, body2, hy2, hR2⟩ := HY.out [1] 2 [3] V1 rfl HJ1.out
  refine wpIn_wide (n := 0) |>.1 ?_
  gi_wp2
  refine ⟨rfl, hR2.mono ?_⟩
  rintro e V2 ⟨rfl, hJ2, hk2⟩
  have HJ2 : Az (J [1, 2] V2) := ⟨hJ2⟩
  have HK2 : Az (V2.heap[gI]? = some (.cells #[.bool false, .bool true, .bool true, .bool true] 4 (0, 0)) ∧ V2.heap[w5.heap.size]? = some (.deferred (some []))) := ⟨hk2.1 _ _ _ (Or.inl rfl) HK1.out.1, hk2.2 _ _ HK1.out.2⟩
  clear hJ2 hk2 hy2 hR2 i2
  gi_wp2
  show Code.wp _ _ (Exit.then (Rolls _ _ _ 1) _) _ _
  have i3 : V2.cell? ⟨gI, 3, none⟩ = some (.bool true) := (bkc HK2.out.1 3).trans rfl
  obtain ⟨fn3, tmps3, assign3, body3, hy3, hR3⟩ := HY.out [1, 2] 3 [] V2 rfl HJ2.out
  refine wpIn_wide (n := 0) |>.1 ?_
  gi_wp2
  refine ⟨rfl, hR3.mono ?_⟩
  rintro e V3 ⟨rfl, hJ3, hk3⟩
  have HJ3 : Az (J [1, 2, 3] V3) := ⟨hJ3⟩
  have HK3 : Az (V3.heap[gI]? = some (.cells #[.bool false, .bool true, .bool true, .bool true] 4 (0, 0)) ∧ V3.heap[w5.heap.size]? = some (.deferred (some []))) := ⟨hk3.1 _ _ _ (Or.inl rfl) HK2.out.1, hk3.2 _ _ HK2.out.2⟩
  clear hJ3 hk3 hy3 hR3 i3
  gi_wp2
  show Code.wp _ _ (Exit.then (Rolls _ _ _ 0) _) _ _
  go_wp2
  refine ⟨by simp, .inl ⟨_, _, rfl, run_takeDeferred HK3.out.2, ?_⟩⟩
  refine ⟨_, results_none rfl _ _ _, ⟨_, rfl⟩, HE.out [1, 2, 3] V3 _ HJ3.out ⟨w5.heap.size, by have h1 := HBS.out; have h2 := HW35.out; omega, ⟨_, HK3.out.2⟩, rfl⟩⟩
end Go.Proofs.YtkcfdddhnboieaaGreatDoor.NState
end
section
set_option maxRecDepth 100000
namespace Go.Proofs.YtkcfdddhnboieaaGreatDoor.NState
open Go Go.RowKit Go.Shelf QW.PrintWords QW.PrintLast QW.PrintMore NMap NIter
set_option maxHeartbeats 2000000
set_option maxRecDepth 100000
theorem enc1_at (b8 : Nat) (W : World) (h : W.heap[b8]? = some (.cells #[.int .i64 4] 3 (0, 0))) : Calls Tryz.prog 92 #[.int .i64 7, .pointer (some ⟨b8, 0, none⟩)] W fun e W' => e = .returned (.bool false) ∧ W' = W := by
 have h0 := (bkc h 0).trans rfl
 clear h
 go_enter Tryz.func92, Tryz.ntmps92
 go_wp2
 go_ret
 exact ⟨rfl, rfl⟩
theorem enters_enc1 : ∀ args w, (callFunc 92 args).run Tryz.prog w = .ok (.enter 92 args) w := fun args w => enters_of Tryz.func92 (by kernel_rfl) rfl args w
theorem enters_enc2 : ∀ args w, (callFunc 93 args).run Tryz.prog w = .ok (.enter 93 args) w := fun args w => enters_of Tryz.func93 (by kernel_rfl) rfl args w
theorem indexA_at (b8 gR : Nat) (W : World) (h : W.heap[b8]? = some (.cells #[.int .i64 4] 3 (0, 0))) (hr : W.heap[gR]? = some (.cells #[.int .i64 7] 67 (0, 0))) :
  Calls Tryz.prog 130 #[.slice (some ⟨gR, 0, none⟩) 1 1, .func (.func 92) #[] #[.pointer (some ⟨b8, 0, none⟩)]] W fun e W' => e = .returned (.int .i64 (-1)) ∧ W' = W := by
 have HC := Az.mk (enc1_at b8 W h)
 have r0 := (bkc hr 0).trans rfl
 have eg := enters_enc1
 clear h hr
 go_enter Tryz.func130, Tryz.ntmps130
 go_wp2
 refine wp_rolls 2 ?_
 show Code.wp _ _ (Exit.then (Rolls _ _ _ 1) _) _ _
 go_wp2_with (go_at_call 92; refine HC.out.mono ?_; rintro e w2 ⟨rfl, rfl⟩)
 show Code.wp _ _ (Exit.then (Rolls _ _ _ 0) _) _ _
 go_wp2
 go_ret
 exact ⟨rfl, rfl⟩
theorem containsA_at (b8 gR : Nat) (W : World) (h : W.heap[b8]? = some (.cells #[.int .i64 4] 3 (0, 0))) (hr : W.heap[gR]? = some (.cells #[.int .i64 7] 67 (0, 0))) :
  Calls Tryz.prog 91 #[.slice (some ⟨gR, 0, none⟩) 1 1, .func (.func 92) #[] #[.pointer (some ⟨b8, 0, none⟩)]] W fun e W' => e = .returned (.bool false) ∧ W' = W := by
 have HC := Az.mk (indexA_at b8 gR W h hr)
 clear h hr
 go_enter Tryz.func91, Tryz.ntmps91
 go_wp2_with (go_at_call 130; refine HC.out.mono ?_; rintro e w2 ⟨rfl, rfl⟩)
 go_ret
 exact ⟨rfl, rfl⟩
theorem coneM_calls (gA gR : Nat) (W : World) :
  Calls Tryz.prog 94 #[gV gA, .slice (some ⟨gR, 0, none⟩) 1 1] W fun e W' => e = .returned (.func (.func 131) #[] #[.pointer (some ⟨W.heap.size, 0, none⟩), .pointer (some ⟨W.heap.size + 1, 0, none⟩)]) ∧
   W' = (W.alloc (.cells #[.int .i64 2, .slice none 0 0, .slice (some ⟨gA, 0, none⟩) 1 1, .slice none 0 0] 66)).alloc (.cells #[.slice (some ⟨gR, 0, none⟩) 1 1] 64) := by
 unfold gV
 go_enter Tryz.func94, Tryz.ntmps94
 go_wp2
 go_ret
 exact ⟨rfl, rfl⟩
section
variable (b5 gI : Nat) (W : World) (h5 : W.heap[b5]? = some (.cells #[.slice (some ⟨gI, 0, none⟩) 4 4] 26 (0, 0))) (hr : W.heap[gI]? = some (.cells #[.int .i64 0, .int .i64 1, .int .i64 2, .int .i64 3] 3 (0, 0)))
include h5 hr
theorem of2_at : Calls Tryz.prog 93 #[.int .i64 2, .pointer (some ⟨b5, 0, none⟩)] W fun e W' => e = .returned (.int .i64 1) ∧ W' = W := by
 have h0 := (bkc h5 0).trans rfl
 have r1 := (bkc hr 1).trans rfl
 clear h5 hr
 go_enter Tryz.func93, Tryz.ntmps93
 go_wp2
 go_ret
 exact ⟨by kernel_rfl, rfl⟩
theorem of5_at : Calls Tryz.prog 93 #[.int .i64 5, .pointer (some ⟨b5, 0, none⟩)] W fun e W' => e = .returned (.int .i64 (-2)) ∧ W' = W := by
 have h0 := (bkc h5 0).trans rfl
 have r1 := (bkc hr 2).trans rfl
 clear h5 hr
 go_enter Tryz.func93, Tryz.ntmps93
 go_wp2
 go_ret
 exact ⟨by kernel_rfl, rfl⟩
theorem of7_at : Calls Tryz.prog 93 #[.int .i64 7, .pointer (some ⟨b5, 0, none⟩)] W fun e W' => e = .returned (.int .i64 (-3)) ∧ W' = W := by
 have h0 := (bkc h5 0).trans rfl
 have r1 := (bkc hr 3).trans rfl
 clear h5 hr
 go_enter Tryz.func93, Tryz.ntmps93
 go_wp2
 go_ret
 exact ⟨by kernel_rfl, rfl⟩
end
end Go.Proofs.YtkcfdddhnboieaaGreatDoor.NState
end
section
set_option maxRecDepth 100000
namespace Go.Proofs.YtkcfdddhnboieaaGreatDoor.NState
open Go Go.RowKit Go.Shelf QW.PrintWords QW.PrintLast QW.PrintMore NMap NIter
theorem R_putObj {α : Type} {d : Kd α} {e base : Nat} {ok : Nat → Prop} {W : World} {v : Value} {xs : List α} {D : Nat} {o o' : Obj} (h : Kd.R d e W base ok v xs) (hD : W.heap[D]? = some o) (hb : isBook o = true) : Kd.R d e (W.putObj D o') base ok v xs :=
 Kd.R_mono (Kd.R_move (Kd.R_bound h) (fun k ⟨_, _, _, q, _, cells, hc⟩ => by
  have hne : k ≠ D := by
   rintro rfl
   rw [hc] at hD; cases hD; simp [isBook] at hb
  exact World.putObj_heap_other hne)) (fun _ hk => hk.1)
theorem below_putObj {B D : Nat} {w W : World} {o : Obj} (h : Below B w W) (hD : B ≤ D) : Below B w (W.putObj D o) :=
 ⟨h.os, h.tape, h.output, by simpa [World.putObj] using h.size, fun k hk => (World.putObj_heap_other (by omega)).trans (h.block k hk)⟩
theorem blk_book {W : World} {k D t : Nat} {cs : Array Value} {o o' : Obj} (h : W.heap[k]? = some (.cells cs t (0, 0))) (hD : W.heap[D]? = some o) (hb : isBook o = true) : (W.putObj D o').heap[k]? = some (.cells cs t (0, 0)) := by
 have hne : k ≠ D := by rintro rfl; rw [h] at hD; cases hD; simp [isBook] at hb
 exact (World.putObj_heap_other hne).trans h
def and3 : List (List Int) := [[-3, 1], [-3, -2], [3, -1, 2]]
structure EI (w W : World) (base cg cr b2 b4 b5 b9 b10 gA gR gI : Nat) (n : Int) (row : Array Value) (v4 : Value) (out : List (List Int)) : Prop where
 hb : Below w.heap.size w W
 sz : base ≤ W.heap.size
 lo : w.heap.size ≤ base ∧ w.heap.size ≤ b4 ∧ w.heap.size ≤ gI ∧ b4 < base ∧ gI < base ∧ b10 ≠ gI ∧ b5 < base ∧ w.heap.size ≤ b5
 need : CNeed cg cr gA gR W
 h2 : W.heap[b2]? = some (.cells #[.int .i64 2, .slice none 0 0, .slice (some ⟨gA, 0, none⟩) 1 1, .slice none 0 0] 66 (0, 0))
 h4 : W.heap[b4]? = some (.cells #[.int .i64 n, v4] 24 (0, 0))
 h5 : W.heap[b5]? = some (.cells #[.slice (some ⟨gI, 0, none⟩) 4 4] 26 (0, 0))
 h9 : W.heap[b9]? = some (.cells #[.func (.func 93) #[] #[.pointer (some ⟨b5, 0, none⟩)]] 128 (0, 0))
 h10 : W.heap[b10]? = some (.cells #[.int .i64 3] 3 (0, 0))
 hI : W.heap[gI]? = some (.cells row 3 (0, 0))
 out : Kd.R (Kd.slice 3 (Kd.int .i64)) 26 W base (fun _ => True) v4 out
section
variable {w W W' : World} {base cg cr b2 b4 b5 b9 b10 gA gR gI : Nat} {n : Int} {row : Array Value} {v4 : Value} {out : List (List Int)}
theorem EI.below (h : EI w W base cg cr b2 b4 b5 b9 b10 gA gR gI n row v4 out) (hb : Below W.heap.size W W') : EI w W' base cg cr b2 b4 b5 b9 b10 gA gR gI n row v4 out :=
 ⟨bwt h.hb hb, Nat.le_trans h.sz hb.size, h.lo, h.need.below hb, blk_below h.h2 hb, blk_below h.h4 hb, blk_below h.h5 hb, blk_below h.h9 hb, blk_below h.h10 hb, blk_below h.hI hb, Kd.R_below h.out hb⟩
theorem EI.book {D : Nat} {o o' : Obj} (h : EI w W base cg cr b2 b4 b5 b9 b10 gA gR gI n row v4 out) (hD : W.heap[D]? = some o) (hb : isBook o = true) (hl : w.heap.size ≤ D) : EI w (W.putObj D o') base cg cr b2 b4 b5 b9 b10 gA gR gI n row v4 out :=
 ⟨below_putObj h.hb hl, by have := h.sz; simpa [World.putObj] using this, h.lo, ⟨blk_book h.need.bg hD hb, blk_book h.need.br hD hb, blk_book h.need.rr hD hb, blk_book h.need.ra hD hb⟩,
  blk_book h.h2 hD hb, blk_book h.h4 hD hb, blk_book h.h5 hD hb, blk_book h.h9 hD hb, blk_book h.h10 hD hb, blk_book h.hI hD hb, R_putObj h.out hD hb⟩
theorem R_low {α : Type} {d : Kd α} {e base : Nat} {ok : Nat → Prop} {v : Value} {xs : List α} {g j : Nat} (h : Kd.R d e W base ok v xs) (hg : g < base) (u : Value) : Kd.R d e (W.setCell ⟨g, j, none⟩ u) base ok v xs :=
 Kd.R_mono (Kd.R_far (p := ⟨g, j, none⟩) (Kd.R_bound h) (fun k hk => by have := hk.2.1; show k ≠ g; omega) u) (fun _ hk => hk.1)
theorem EI.setn (h : EI w W base cg cr b2 b4 b5 b9 b10 gA gR gI n row v4 out) (n' : Int) : EI w (W.setCell ⟨b4, 0, none⟩ (.int .i64 n')) base cg cr b2 b4 b5 b9 b10 gA gR gI n' row v4 out :=
 ⟨bws h.hb h.lo.2.1, by rw [World.size_setCell]; exact h.sz, h.lo, ⟨blk_far h.need.bg (blk_ne h.need.bg h.h4 (by decide)) _, blk_far h.need.br (blk_ne h.need.br h.h4 (by decide)) _, blk_far h.need.rr (blk_ne h.need.rr h.h4 (by decide)) _, blk_far h.need.ra (blk_ne h.need.ra h.h4 (by decide)) _⟩,
  blk_far h.h2 (blk_ne h.h2 h.h4 (by decide)) _, blk_put h.h4 0 _ rfl, blk_far h.h5 (blk_ne h.h5 h.h4 (by decide)) _, blk_far h.h9 (blk_ne h.h9 h.h4 (by decide)) _, blk_far h.h10 (blk_ne h.h10 h.h4 (by decide)) _, blk_far h.hI (blk_ne h.hI h.h4 (by decide)) _, R_low h.out h.lo.2.2.2.1 _⟩
theorem EI.setI (h : EI w W base cg cr b2 b4 b5 b9 b10 gA gR gI n row v4 out) (i : Nat) (u : Value) (row' : Array Value) (hr : row.setIfInBounds i u = row') : EI w (W.setCell ⟨gI, i, none⟩ u) base cg cr b2 b4 b5 b9 b10 gA gR gI n row' v4 out :=
 ⟨bws h.hb h.lo.2.2.1, by rw [World.size_setCell]; exact h.sz, h.lo, ⟨blk_far h.need.bg (blk_ne h.need.bg h.hI (by decide)) _, blk_far h.need.br (blk_ne h.need.br h.hI (by decide)) _, blk_far h.need.rr (blk_ne h.need.rr h.hI (by decide)) _, blk_far h.need.ra (blk_ne h.need.ra h.hI (by decide)) _⟩,
  blk_far h.h2 (blk_ne h.h2 h.hI (by decide)) _, blk_far h.h4 (blk_ne h.h4 h.hI (by decide)) _, blk_far h.h5 (blk_ne h.h5 h.hI (by decide)) _, blk_far h.h9 (blk_ne h.h9 h.hI (by decide)) _, blk_far h.h10 (p := ⟨gI, i, none⟩) h.lo.2.2.2.2.2.1 _, by rw [← hr]; exact blk_set h.hI i u, R_low h.out h.lo.2.2.2.2.1 _⟩
theorem EI.grow {v1 : Value} {out1 : List (List Int)} (h : EI w W base cg cr b2 b4 b5 b9 b10 gA gR gI n row v4 out) (hr : Kd.R (Kd.slice 3 (Kd.int .i64)) 26 W' base (fun _ => True) v1 out1) (hg : W.grownBy W' v4.ownBlock) : EI w (W'.setCell ⟨b4, 1, none⟩ v1) base cg cr b2 b4 b5 b9 b10 gA gR gI n row v1 out1 := by
 have hne : ∀ {k t : Nat} {cs : Array Value}, W.heap[k]? = some (.cells cs t (0, 0)) → 26 ≠ t → W'.heap[k]? = some (.cells cs t (0, 0)) := fun hk ht => bkg hk hg (Kd.R_ne h.out hk ht)
 have h5 : W'.heap[b5]? = some (.cells #[.slice (some ⟨gI, 0, none⟩) 4 4] 26 (0, 0)) := by
  refine bkg h.h5 hg (fun e => ?_)
  have h1 := Kd.R_base h.out b5 e.symm
  have h2 := h.lo.2.2.2.2.2.2.1
  omega
 have h4 := hne h.h4 (by decide)
 have hb : Below w.heap.size w W' := h.hb.grown hg h.hb.size (fun k hk => by have := Kd.R_base h.out k hk; have := h.lo.1; omega)
 exact ⟨bws hb h.lo.2.1, by rw [World.size_setCell]; exact Nat.le_trans h.sz hg.size, h.lo, ⟨blk_far (hne h.need.bg (by decide)) (blk_ne h.need.bg h.h4 (by decide)) _, blk_far (hne h.need.br (by decide)) (blk_ne h.need.br h.h4 (by decide)) _, blk_far (hne h.need.rr (by decide)) (blk_ne h.need.rr h.h4 (by decide)) _, blk_far (hne h.need.ra (by decide)) (blk_ne h.need.ra h.h4 (by decide)) _⟩,
  blk_far (hne h.h2 (by decide)) (blk_ne h.h2 h.h4 (by decide)) _, blk_put h4 1 _ rfl, blk_far h5 (blk_ne h.h5 h.h4 (by decide)) _, blk_far (hne h.h9 (by decide)) (blk_ne h.h9 h.h4 (by decide)) _, blk_far (hne h.h10 (by decide)) (blk_ne h.h10 h.h4 (by decide)) _, blk_far (hne h.hI (by decide)) (blk_ne h.hI h.h4 (by decide)) _, R_low hr h.lo.2.2.2.1 _⟩
theorem EI.cells (h : EI w W base cg cr b2 b4 b5 b9 b10 gA gR gI n row v4 out) : W.cell? ⟨b4, 0, none⟩ = some (.int .i64 n) ∧ W.cell? ⟨b4, 1, none⟩ = some v4 ∧ W.cell? ⟨b5, 0, none⟩ = some (.slice (some ⟨gI, 0, none⟩) 4 4) ∧ W.cell? ⟨b2, 2, none⟩ = some (.slice (some ⟨gA, 0, none⟩) 1 1) ∧ W.cell? ⟨b9, 0, none⟩ = some (.func (.func 93) #[] #[.pointer (some ⟨b5, 0, none⟩)]) ∧ W.cell? ⟨b10, 0, none⟩ = some (.int .i64 3) ∧ W.cell? ⟨gA, 0, none⟩ = some (.int .i64 2) ∧ W.cell? ⟨gA, 1, none⟩ = some (.int .i64 5) :=
 ⟨(bkc h.h4 0).trans rfl, (bkc h.h4 1).trans rfl, (bkc h.h5 0).trans rfl, (bkc h.h2 2).trans rfl, (bkc h.h9 0).trans rfl, (bkc h.h10 0).trans rfl, (bkc h.need.ra 0).trans rfl, (bkc h.need.ra 1).trans rfl⟩
theorem EI.set5 (h : EI w W base cg cr b2 b4 b5 b9 b10 gA gR gI n row v4 out) : EI w (W.setCell ⟨b5, 0, none⟩ (.slice (some ⟨gI, 0, none⟩) 4 4)) base cg cr b2 b4 b5 b9 b10 gA gR gI n row v4 out :=
 ⟨bws h.hb h.lo.2.2.2.2.2.2.2, by rw [World.size_setCell]; exact h.sz, h.lo, ⟨blk_far h.need.bg (blk_ne h.need.bg h.h5 (by decide)) _, blk_far h.need.br (blk_ne h.need.br h.h5 (by decide)) _, blk_far h.need.rr (blk_ne h.need.rr h.h5 (by decide)) _, blk_far h.need.ra (blk_ne h.need.ra h.h5 (by decide)) _⟩,
  blk_far h.h2 (blk_ne h.h2 h.h5 (by decide)) _, blk_far h.h4 (blk_ne h.h4 h.h5 (by decide)) _, blk_put h.h5 0 _ rfl, blk_far h.h9 (blk_ne h.h9 h.h5 (by decide)) _, blk_far h.h10 (blk_ne h.h10 h.h5 (by decide)) _, blk_far h.hI (blk_ne h.hI h.h5 (by decide)) _, R_low h.out h.lo.2.2.2.2.2.2.1 _⟩
theorem EI.same (h : EI w W base cg cr b2 b4 b5 b9 b10 gA gR gI n row v4 out) : EI w ((W.setCell ⟨b4, 0, none⟩ (.int .i64 n)).setCell ⟨b4, 1, none⟩ v4) base cg cr b2 b4 b5 b9 b10 gA gR gI n row v4 out := by
 have h' := h.setn n
 refine ⟨bws h'.hb h'.lo.2.1, by rw [World.size_setCell]; exact h'.sz, h'.lo, ⟨blk_far h'.need.bg (blk_ne h'.need.bg h'.h4 (by decide)) _, blk_far h'.need.br (blk_ne h'.need.br h'.h4 (by decide)) _, blk_far h'.need.rr (blk_ne h'.need.rr h'.h4 (by decide)) _, blk_far h'.need.ra (blk_ne h'.need.ra h'.h4 (by decide)) _⟩,
  blk_far h'.h2 (blk_ne h'.h2 h'.h4 (by decide)) _, blk_put h'.h4 1 _ rfl, blk_far h'.h5 (blk_ne h'.h5 h'.h4 (by decide)) _, blk_far h'.h9 (blk_ne h'.h9 h'.h4 (by decide)) _, blk_far h'.h10 (blk_ne h'.h10 h'.h4 (by decide)) _, blk_far h'.hI (blk_ne h'.hI h'.h4 (by decide)) _, R_low h'.out h'.lo.2.2.2.1 _⟩
theorem keepB_set {b t j : Nat} {cs : Array Value} (h : W.heap[b]? = some (.cells cs t (0, 0))) (ht : t ≠ 4 ∧ t ≠ 25) (u : Value) : KeepB W (W.setCell ⟨b, j, none⟩ u) := by
 refine ⟨fun k cs' t' ht' hk => ?_, fun k d hk => ?_⟩
 ·have hne : k ≠ b := by
   rintro rfl; rw [h] at hk; cases hk
   rcases ht' with e | e
   ·exact ht.1 e
   ·exact ht.2 e
  exact (Below.heap_setCell W ⟨b, j, none⟩ u k hne).trans hk
 ·have hne : k ≠ b := by rintro rfl; rw [h] at hk; cases hk
  exact (Below.heap_setCell W ⟨b, j, none⟩ u k hne).trans hk
theorem keepB_below (hb : Below W.heap.size W W') : KeepB W W' := ⟨fun _ _ _ _ hk => blk_below hk hb, fun _ _ hk => blk_below0 hk hb⟩
theorem KeepB.trans {A B C : World} (h : KeepB A B) (h' : KeepB B C) : KeepB A C := ⟨fun k cs t ht hk => h'.1 k cs t ht (h.1 k cs t ht hk), fun k d hk => h'.2 k d (h.2 k d hk)⟩
theorem keepB_grown (h : Kd.R (Kd.slice 3 (Kd.int .i64)) 26 W base (fun _ => True) v4 out) (hg : W.grownBy W' v4.ownBlock) : KeepB W W' := by
 refine ⟨fun k cs t ht hk => bkg hk hg (Kd.R_ne h hk (by rintro rfl; rcases ht with e | e <;> exact absurd e (by decide))), fun k d hk => ?_⟩
 refine bkg hk hg (fun e => ?_)
 obtain ⟨cells, hc⟩ := Kd.R_typed h k e.symm
 rw [hk] at hc; cases hc
theorem keepB_loop {l : Nat} {r o : Loop} (h : W.heap[l]? = some (.loop r)) : KeepB W (W.putObj l (.loop o)) := by
 refine ⟨fun k cs t _ hk => blk_loop hk h, fun k d hk => ?_⟩
 have hne : k ≠ l := by rintro rfl; rw [h] at hk; cases hk
 exact (World.putObj_heap_other hne).trans hk
end
structure RK (D : Nat) (A B : World) : Prop where
 d : B.heap[D]? = A.heap[D]?
 r : B.heap[D + 1]? = A.heap[D + 1]?
 k : KeepB A B
 bd : ∃ o, A.heap[D]? = some o ∧ isBook o = true
 br : ∃ o, A.heap[D + 1]? = some o ∧ isBook o = true
theorem RK.start {D : Nat} {A : World} (hd : ∃ d, A.heap[D]? = some (.deferred d)) (hr : ∃ r, A.heap[D + 1]? = some (.loop r)) : RK D A A :=
 ⟨rfl, rfl, keepB_below (Below.refl _ _), by obtain ⟨d, hd⟩ := hd; exact ⟨_, hd, rfl⟩, by obtain ⟨r, hr⟩ := hr; exact ⟨_, hr, rfl⟩⟩
theorem RK.set {D b t j : Nat} {A B : World} {cs : Array Value} (h : RK D A B) (hb : B.heap[b]? = some (.cells cs t (0, 0))) (ht : t ≠ 4 ∧ t ≠ 25) (u : Value) : RK D A (B.setCell ⟨b, j, none⟩ u) := by
 have hne : ∀ {k : Nat}, B.heap[k]? = A.heap[k]? → (∃ o, A.heap[k]? = some o ∧ isBook o = true) → k ≠ b := by
  rintro k he ⟨o, ho, hk⟩ rfl
  rw [he, ho] at hb; cases hb; simp [isBook] at hk
 exact ⟨(Below.heap_setCell B ⟨b, j, none⟩ u D (hne h.d h.bd)).trans h.d, (Below.heap_setCell B ⟨b, j, none⟩ u (D + 1) (hne h.r h.br)).trans h.r, h.k.trans (keepB_set hb ht u), h.bd, h.br⟩
theorem RK.below {D : Nat} {A B C : World} (h : RK D A B) (hb : Below B.heap.size B C) : RK D A C := by
 have hl : ∀ {k : Nat}, B.heap[k]? = A.heap[k]? → (∃ o, A.heap[k]? = some o ∧ isBook o = true) → k < B.heap.size := by
  rintro k he ⟨o, ho, hk⟩
  exact blk_lt (he.trans ho)
 exact ⟨(hb.block D (hl h.d h.bd)).trans h.d, (hb.block (D + 1) (hl h.r h.br)).trans h.r, h.k.trans (keepB_below hb), h.bd, h.br⟩
theorem RK.grown {D base : Nat} {A B C : World} {v4 : Value} {out : List (List Int)} (h : RK D A B) (hr : Kd.R (Kd.slice 3 (Kd.int .i64)) 26 B base (fun _ => True) v4 out) (hg : B.grownBy C v4.ownBlock) : RK D A C := by
 have hl : ∀ {k : Nat}, B.heap[k]? = A.heap[k]? → (∃ o, A.heap[k]? = some o ∧ isBook o = true) → C.heap[k]? = B.heap[k]? := by
  rintro k he ⟨o, ho, hk⟩
  have hlt := blk_lt (he.trans ho)
  refine hg.block k hlt (fun e => ?_)
  obtain ⟨cells, hc⟩ := Kd.R_typed hr k e.symm
  rw [he, ho] at hc; cases hc; simp [isBook] at hk
 exact ⟨(hl h.d h.bd).trans h.d, (hl h.r h.br).trans h.r, h.k.trans (keepB_grown hr hg), h.bd, h.br⟩
theorem RK.size {D : Nat} {A B : World} (h : RK D A B) : D + 2 ≤ B.heap.size := by
 obtain ⟨o, ho, _⟩ := h.br
 exact blk_lt (h.r.trans ho)
theorem R_lit1 (W : World) (xs : List Int) (cs : Array Value) (h : cs = (encs (Value.int .i64) xs).toArray) (hm : xs.length ≤ 1000000) : Kd.R (Kd.int .i64) 3 (W.alloc (.cells cs 3)) W.heap.size (fun _ => True) (.slice (some ⟨W.heap.size, 0, none⟩) xs.length xs.length) xs := by
 subst h
 exact ⟨fun _ _ => trivial, OwnRow.lit W W.heap.size (Kd.reps_scalar xs) (Nat.le_refl _) (by omega)⟩
theorem infoSV : (Tryz.prog.info? 26).map (fun i => (i.zero, i.size, i.bytes)) = some (some (.slice none 0 0), 1, 24) := by kernel_rfl
theorem rows3 (W : World) (base g : Nat) (hg : base ≤ g) (hb : base ≤ W.heap.size) {v1 v2 v3 : Value} {l1 l2 l3 : List Int}
  (h1 : Kd.R (Kd.int .i64) 3 W g (fun _ => True) v1 l1) (h2 : Kd.R (Kd.int .i64) 3 W g (fun _ => True) v2 l2) (h3 : Kd.R (Kd.int .i64) 3 W g (fun _ => True) v3 l3) :
  ReadsRow ((Kd.slice 3 (Kd.int .i64)).M (W.alloc (.cells #[v1, v2, v3] 26)) base (fun k => g ≤ k)) 1 (W.alloc (.cells #[v1, v2, v3] 26)) (some ⟨W.heap.size, 0, none⟩) 3 [l1, l2, l3] := by
 have hm : ∀ {v : Value} {l : List Int}, Kd.R (Kd.int .i64) 3 W g (fun _ => True) v l → (Kd.slice 3 (Kd.int .i64)).M (W.alloc (.cells #[v1, v2, v3] 26)) base (fun k => g ≤ k) l [v] := fun h =>
  Kd.M_row (Kd.R_lower (Kd.R_mono (Kd.R_bound (Kd.R_alloc h _)) (fun k hk => hk.2.1)) hg)
 have hr : Reps ((Kd.slice 3 (Kd.int .i64)).M (W.alloc (.cells #[v1, v2, v3] 26)) base (fun k => g ≤ k)) 1 [l1, l2, l3] [v1, v2, v3] :=
  (((Reps.none _ 1).snoc (p := l1) (c := [v1]) (hm h1) rfl).snoc (p := l2) (c := [v2]) (hm h2) rfl).snoc (p := l3) (c := [v3]) (hm h3) rfl
 obtain ⟨A, c, he, _, hread⟩ := (OwnRow.lit (e := 26) W W.heap.size hr (Nat.le_refl _) (by simp)).reads
 cases he
 exact hread
theorem app3_ {ops : Array Oper} {rest : List Oper} {o : Oper} {a : Act} {Q : Exit → Act → World → Prop} {W : World} {base g : Nat} {A4 : Option Addr} {c4 : Nat} {ad : Addr} {s x : Tmp} (hgd : o.guard = none) (ho : o.op = .call { callee := .builtin .append, args := #[.tmp s, .tmp x], argTypes := #[22, 22] })
  (hs : a.eval (.tmp s) = .slice A4 0 c4) (hx : a.eval (.tmp x) = .slice (some ad) 3 3) (HO : Kd.R (Kd.slice 3 (Kd.int .i64)) 26 W base (fun _ => True) (.slice A4 0 c4) []) (HR : ReadsRow ((Kd.slice 3 (Kd.int .i64)).M W base (fun k => g ≤ k)) 1 W (some ad) 3 and3)
  (hg : ∀ k, (Value.slice A4 0 c4).ownBlock = some k → k < g) (hbase : base ≤ W.heap.size)
  (h : ∀ A1 c1 w1, Kd.R (Kd.slice 3 (Kd.int .i64)) 26 w1 base (fun _ => True) (.slice A1 3 c1) and3 → W.grownBy w1 (Value.slice A4 0 c4).ownBlock → wpList Tryz.prog ops Q rest (a.put o.dst (.slice A1 3 c1)) w1) : wpList Tryz.prog ops Q (o :: rest) a W := by
 refine Kd.R_append_rows (Kd.slice 3 (Kd.int .i64)) (w0 := W) base hgd (.tmp s) (.tmp x) 22 26 (.slice none 0 0) 24 ho Tryz.underlying22 infoSV rfl Nat.zero_lt_one (by decide) (.slice A4 0 c4) ([] : List (List Int)) and3 (some ad) 3 3 (fun _ => True) (fun k => g ≤ k) hs hx HO HR (fun _ _ h => h) (fun k hk => ⟨trivial, fun e => by have := hg k e.symm; omega⟩) (fun _ _ => trivial) (Below.refl _ _) hbase (by decide) ?_
 intro v1 w1 hr hb hgr hat
 obtain ⟨A1, c1, rfl⟩ := Kd.R_slice hr
 exact h A1 c1 w1 hr hgr
theorem results_cst {fn : Func} {p q u : Tmp} (h : fn.results = #[.cell p 24, .cell q 26, .tmp u]) (tmps : Array Value) (w : World) (g g' : Nat) (cs : Array Value) (v x : Value) (hp : tmps.getD p undef = .pointer (some ⟨g, 0, none⟩)) (hg : w.heap[g]? = some (.cells cs 24 (0, 0))) (hs : cs.size = 2)
  (hq : tmps.getD q undef = .pointer (some ⟨g', 0, none⟩)) (hg' : w.cell? ⟨g', 0, none⟩ = some v) (hx : tmps.getD u undef = x) : (results fn tmps).run Tryz.prog w = .ok (.tuple #[.agg cs, v, x]) w := by
 have hu24 := Tryz.underlying24
 have h1 : tmps[p]?.getD undef = .pointer (some ⟨g, 0, none⟩) := by simpa using hp
 have h2 : tmps[q]?.getD undef = .pointer (some ⟨g', 0, none⟩) := by simpa using hq
 have ha : (isAgg 26).run Tryz.prog w = .ok false w := run_isAgg_plain Tryz.underlying26 rfl w
 have hl : (loadVar 26 ⟨g', 0, none⟩).run Tryz.prog w = .ok v w := by
  unfold loadVar
  simp only [Sem.run_bind, ha, Result.andThen]
  rw [if_neg (by decide), run_load, hg']
 have hc : (loadVar 24 ⟨g, 0, none⟩).run Tryz.prog w = .ok (.agg cs) w := run_loadVar_row w g 24 24 cs (0, 0) _ hg hu24 rfl (by rw [hs]; kernel_rfl)
 have h3 : tmps[u]?.getD undef = x := by simpa using hx
 simp [results, h, h1, h2, h3, asAddr, hl, hc]
def onlyN (Q : Exit → Act → World → Prop) : Exit → Act → World → Prop
 | .normal, a, w => Q .normal a w
 | _, _, _ => False
theorem wp_onlyN {P : Program} {c : Code} {Q : Exit → Act → World → Prop} {a : Act} {w : World} (h : Code.wp P c (onlyN Q) a w) : Code.wp P c Q a w :=
 Code.wp_mono (fun e a w q => by cases e <;> first | exact q | exact q.elim) h
theorem df_set {W : World} {D b t j : Nat} {cs : Array Value} {d : Option (List Deferred)} (h : W.heap[D]? = some (.deferred d)) (hb : W.heap[b]? = some (.cells cs t (0, 0))) (u : Value) : (W.setCell ⟨b, j, none⟩ u).heap[D]? = some (.deferred d) :=
 (Below.heap_setCell W ⟨b, j, none⟩ u D (by rintro rfl; rw [h] at hb; cases hb)).trans h
theorem df_grown {W W' : World} {D base : Nat} {v4 : Value} {out : List (List Int)} {d : Option (List Deferred)} (h : W.heap[D]? = some (.deferred d)) (hr : Kd.R (Kd.slice 3 (Kd.int .i64)) 26 W base (fun _ => True) v4 out) (hg : W.grownBy W' v4.ownBlock) : W'.heap[D]? = some (.deferred d) := by
 refine bkg h hg (fun e => ?_)
 obtain ⟨cells, hc⟩ := Kd.R_typed hr D e.symm
 rw [h] at hc; cases hc
theorem C_blk {W : World} {g t : Nat} {fr : Nat × Nat} {xs : List Int} {cs : Array Value} (h : W.heap[g]? = some (.cells cs t fr)) (hc : cs = (encs (Value.int .i64) xs).toArray) (hm : xs.length ≤ 1000000) : (Kd.int .i64).C W (some ⟨g, 0, none⟩) xs.length xs := by
 subst hc
 refine ⟨rfl, by omega, fun _ => ⟨_, rfl, fun j p hj => ⟨[.int .i64 p], rfl, rfl, fun i u hu => ?_⟩⟩⟩
 cases i with
 | succ i => simp at hu
 | zero =>
  obtain rfl : Value.int .i64 p = u := by simpa using hu
  have hadd : (⟨g, 0, none⟩ : Addr).add (j * 1 + 0) = ⟨g, j, none⟩ := by unfold Addr.add; split <;> simp_all
  show W.cell? ((⟨g, 0, none⟩ : Addr).add (j * 1 + 0)) = _
  rw [hadd]
  simp only [World.cell?, h]
  simp [encs, hj]
def EncPost (w : World) (e : Ending) (W' : World) : Prop := ∃ A c gI, e = .returned (.tuple #[.agg #[.int .i64 3, .slice A 4 c], .slice (some ⟨gI, 0, none⟩) 4 4, .int .i64 0]) ∧ 4 ≤ c ∧ Kd.C (Kd.slice 3 (Kd.int .i64)) W' A 4 [[-3, 1], [-3, -2], [3, -1, 2], [-3]] ∧ (Kd.int .i64).C W' (some ⟨gI, 0, none⟩) 4 [0, 1, 2, 3] ∧ Below w.heap.size w W'
def rowC : Nat → Array Value
 | 0 => #[.int .i64 0, .int .i64 0, .int .i64 0, .int .i64 0]
 | 1 => #[.int .i64 0, .int .i64 1, .int .i64 0, .int .i64 0]
 | 2 => #[.int .i64 0, .int .i64 1, .int .i64 2, .int .i64 0]
 | _ => #[.int .i64 0, .int .i64 1, .int .i64 2, .int .i64 3]
def outC (n : Nat) : List (List Int) := if n = 3 then and3 else []
end Go.Proofs.YtkcfdddhnboieaaGreatDoor.NState
end
