/-
  Part 19 of the proof of proofText_card: walks and lemmas, packed by the session's own wip/pack.py out of its texts and of what the kit's print.sh printed.
-/
import Derived.Test.YtogicccdngpafaaGreatDoorPT16
import Derived.Test.YtogicccdngpafaaGreatDoorPT18
import Derived.Shelf.Slices.Clone
import Derived.Test.YtogicccdngpafaaGreatDoorPT17
import Derived.Test.YtogicccdngpafaaGreatDoorPT10
import Derived.Test.YtogicccdngpafaaGreatDoorPT8
import Derived.Test.YtogicccdngpafaaGreatDoorPT12
import Derived.Deep.RegionWith
set_option linter.unusedVariables false
set_option linter.unusedSimpArgs false
section
set_option maxHeartbeats 4000000
set_option maxRecDepth 100000
namespace Go.Proofs.YtogicccdngpafaaGreatDoor.NState
open Go Go.RowKit Go.Shelf QW.PrintWords QW.PrintLast QW.PrintMore NMap NIter
open PCheck (cnf_Check.f cnf_Check.calls rL at_L1)
open PSame (S42 k42 rd_T42 at_T42)
attribute [local go_sem] Oper.semAt_some
theorem needL_range (hs : Nat → List Int) (n : Nat) (byL : List Int) : ∀ (i : Nat) (nd : List Bool), ∀ x ∈ needL hs n byL i nd, 0 ≤ x ∧ x < i
 | 0, nd, x, hx => by simp [needL] at hx
 | i + 1, nd, x, hx => by
  rw [needL] at hx
  split at hx
  ·rcases List.mem_cons.1 hx with rfl | hx
   ·omega
   ·have := needL_range hs n byL i _ x hx; omega
  ·have := needL_range hs n byL i _ x hx; omega
theorem needL_length (hs : Nat → List Int) (n : Nat) (byL : List Int) : ∀ (i : Nat) (nd : List Bool), (needL hs n byL i nd).length ≤ i
 | 0, nd => by simp [needL]
 | i + 1, nd => by
  rw [needL]
  split
  ·have := needL_length hs n byL i (markL n byL nd (hs i))
   simp only [List.length_cons]; omega
  ·have := needL_length hs n byL i nd
   omega
def coreAdd (p : List Stp) (used : List Int) (n : Nat) (i : Int) : List Int := (hintsAt p used i.toNat).filter (fun h => decide (h ≤ (n : Int)))
def coreOut (p : List Stp) (used : List Int) (n : Nat) (xs : List Int) : List Int := xs.flatMap (coreAdd p used n)
theorem coreAdd_length {p : List Stp} {used : List Int} {n : Nat} {i : Int} (hU : ∀ u ∈ used, u ≤ 268435455) : (coreAdd p used n i).length ≤ 268435455 := by
 refine Nat.le_trans (List.length_filter_le _ _) ?_
 unfold hintsAt
 refine Nat.le_trans (List.length_take_le _ _) ?_
 generalize i.toNat = m
 have : rd used (m : Int) ≤ 268435455 := by
  by_cases hlt : m < used.length
  ·have e : rd used (m : Int) = used[m] := by simp [rd, rdOf, List.getD, hlt]
   rw [e]
   exact hU _ (List.getElem_mem _)
  ·have e : rd used (m : Int) = 0 := by simp [rd, rdOf, List.getD, List.getElem?_eq_none (Nat.le_of_not_lt hlt)]
   rw [e]; decide
 omega
theorem coreOut_length {p : List Stp} {used : List Int} {n : Nat} (hU : ∀ u ∈ used, u ≤ 268435455) : ∀ xs : List Int, (coreOut p used n xs).length ≤ xs.length * 268435455
 | [] => by simp [coreOut]
 | x :: xs => by
  have h1 := coreAdd_length (p := p) (n := n) (i := x) hU
  have h2 := coreOut_length (p := p) (n := n) hU xs
  unfold coreOut at h2 ⊢
  rw [List.flatMap_cons, List.length_append, List.length_cons, Nat.add_mul]
  omega
theorem coreOut_snoc (p : List Stp) (used : List Int) (n : Nat) (pre : List Int) (x : Int) : coreOut p used n (pre ++ [x]) = coreOut p used n pre ++ coreAdd p used n x := by
 unfold coreOut; rw [List.flatMap_append]; simp
theorem hold_in {F : Fence} {n : Nat} {P : Program} {c : Code} {Q : Exit → Act → World → Prop} {a : Act} {w : World} (h : Hold (c.wpIn F n P Q a w)) : c.wpIn F n P Q a w := h.out
structure CoreAt (w W : World) (base bc bk bo bx bm : Nat) (cc ck : Array Value) (vu v : Value) (used : List Int) (n : Nat) (byL : List Int) (out : List Int) : Prop where
 base_le : base ≤ W.heap.size
 reads : Below w.heap.size w W
 hbc : W.heap[bc]? = some (.cells cc 24 (0, 0))
 hbk : W.heap[bk]? = some (.cells ck 66 (0, 0))
 hbo : W.heap[bo]? = some (.cells #[v] 31 (0, 0))
 hbx : W.heap[bx]? = some (.cells ck 66 (0, 0))
 used : Kd.R (Kd.int .i64) 3 W w.heap.size (fun k => True ∧ some k ≠ v.ownBlock) vu used
 row : Kd.R (Kd.int .i64) 3 W w.heap.size (fun _ => True) v out
 map : HasMap (Value.int .i64) W bm (byF n byL)
theorem CoreAt.soft {w A B : World} {base bc bk bo bx bm : Nat} {cc ck : Array Value} {vu v : Value} {used : List Int} {n : Nat} {byL out : List Int} (h : CoreAt w A base bc bk bo bx bm cc ck vu v used n byL out) (hs : NSoft base A B) (hb : w.heap.size ≤ base) :
  CoreAt w B base bc bk bo bx bm cc ck vu v used n byL out :=
 ⟨Nat.le_trans h.base_le hs.size, hs.reads hb h.reads, hs.cells h.hbc (by decide), hs.cells h.hbk (by decide), hs.cells h.hbo (by decide), hs.cells h.hbx (by decide), hs.row h.used (by decide), hs.row h.row (by decide), hs.hasMap h.map⟩
theorem CoreAt.need {w A : World} {base bc bk bo bx bm : Nat} {cc ck : Array Value} {vu v : Value} {used : List Int} {n : Nat} {byL out : List Int} (h : CoreAt w A base bc bk bo bx bm cc ck vu v used n byL out) :
  NNeed w base bx bm w.heap.size ck vu used n byL A :=
 ⟨h.base_le, h.reads, h.hbx, Kd.R_mono h.used (fun _ _ => trivial), h.map⟩
theorem CoreAt.added {w W w6 : World} {base bc bk bo bx bm : Nat} {cc ck : Array Value} {vu v v9 : Value} {used : List Int} {n : Nat} {byL out : List Int} {x : Int} (h : CoreAt w W base bc bk bo bx bm cc ck vu v used n byL out) (hb : Below w.heap.size w w6) (hg : W.grownBy w6 v.ownBlock) (hat : v9.ownBlock = v.ownBlock ∨ ∃ b, v9.ownBlock = some b ∧ W.heap.size ≤ b)
  (ho : Kd.R (Kd.int .i64) 3 w6 w.heap.size (fun _ => True) v9 (out ++ [x])) (h1 : w.heap.size ≤ bo) (h2 : bc ≠ bo) (h3 : bk ≠ bo) (h4 : bx ≠ bo) :
  CoreAt w (w6.setCell ⟨bo, 0, none⟩ v9) base bc bk bo bx bm cc ck vu v9 used n byL (out ++ [x]) ∧ NRound W (w6.setCell ⟨bo, 0, none⟩ v9) := by
 have hbo := bkg h.hbo hg (Kd.R_ne h.row h.hbo (by decide))
 have hm := map_grown h.map hg (map_ne_own h.map h.row)
 have hmb : bm ≠ bo := by
  rintro rfl
  obtain ⟨es, c, hm, _⟩ := hm
  rw [hm] at hbo; cases hbo
 refine ⟨⟨?_, bws hb h1, blk_far (bkg h.hbc hg (Kd.R_ne h.row h.hbc (by decide))) h2 _, blk_far (bkg h.hbk hg (Kd.R_ne h.row h.hbk (by decide))) h3 _, blk_put hbo 0 _ rfl, blk_far (bkg h.hbx hg (Kd.R_ne h.row h.hbx (by decide))) h4 _,
  Kd.R_set (Kd.R_after h.used hg hat) hbo (by decide) 0 _, Kd.R_set ho hbo (by decide) 0 _, hm.setCell hmb _⟩, (NRound.grown h.row (by decide) hg).trans (NRound.set hbo (by decide) 0 _)⟩
 have := h.base_le
 have := hg.size
 simp; omega
theorem R_putObj {α : Type} {d : Kd α} {e base : Nat} {ok : Nat → Prop} {W : World} {v : Value} {xs : List α} {D : Nat} {o o' : Obj} (h : Kd.R d e W base ok v xs) (hD : W.heap[D]? = some o) (hb : isBook o = true) : Kd.R d e (W.putObj D o') base ok v xs :=
 Kd.R_mono (Kd.R_move (Kd.R_bound h) (fun k ⟨_, _, _, q, _, cells, hc⟩ => by
  have hne : k ≠ D := by
   rintro rfl
   rw [hc] at hD; cases hD; simp [isBook] at hb
  exact World.putObj_heap_other hne)) (fun _ hk => hk.1)
theorem below_putObj {B D : Nat} {w W : World} {o : Obj} (h : Below B w W) (hD : B ≤ D) : Below B w (W.putObj D o) :=
 ⟨h.os, h.tape, h.output, by simpa [World.putObj] using h.size, fun k hk => (World.putObj_heap_other (by omega)).trans (h.block k hk)⟩
theorem book_ne_own {α : Type} {d : Kd α} {e base : Nat} {ok : Nat → Prop} {W : World} {v : Value} {xs : List α} {D : Nat} {o : Obj} (h : Kd.R d e W base ok v xs) (hD : W.heap[D]? = some o) (hb : isBook o = true) : some D ≠ v.ownBlock := fun he => by
 obtain ⟨cells, hc⟩ := Kd.R_typed h D he.symm
 rw [hc] at hD; cases hD; simp [isBook] at hb
def CorePost (w : World) (r : List Int × Int) (e : Ending) (w' : World) : Prop := ∃ v, e = .returned (.tuple #[v, .int .i64 r.2]) ∧ Kd.R (Kd.int .i64) 3 w' w.heap.size (fun _ => True) v r.1 ∧ Below w.heap.size w w'
def coreF (n : Nat) (p : List Stp) (r : RunR) : List Int × Int :=
 if r.e = 0 then (Lib.compact ((coreOut p r.used n (neededL p r.used r.byL n r.en)).mergeSort fun x y => decide (x ≤ y)), 0) else ([], r.e)
theorem core_calls (k : Nat) (vars : Int) (A1 : Option Addr) (c1 : Nat) (cls : List (List Int)) (A2 : Option Addr) (c2 : Nat) (p : List Stp) (r : RunR) (w : World)
  (hr1 : Kd.C (Kd.slice 3 (Kd.int .i64)) w A1 cls.length cls) (hc1 : cls.length ≤ c1) (hr2 : Kd.C kStp w A2 p.length p) (hc2 : p.length ≤ c2) (h : runF k vars cls p = some r) (hlen : cls.length ≤ 4611686018427000000) (hU : ∀ u ∈ r.used, u ≤ 268435455) :
  Calls Tryz.prog 13 #[.agg #[.int .i64 vars, .slice A1 cls.length c1], .slice A2 p.length c2] w (CorePost w (coreF cls.length p r)) := by
 have HR2 := Az.mk hr2
 have HOK := Az.mk (runF_ok h)
 have hcall := run_calls k vars A1 c1 cls A2 c2 p r (w.alloc (.cells #[.int .i64 vars, .slice A1 cls.length c1] 24)) (Kd.C_alloc hr1 _) hc1 (Kd.C_alloc hr2 _) hc2 h hlen
 have HUS := Az.mk hU
 clear hr1 hr2 hc1 hc2 h hlen hU
 have hu24 := Tryz.underlying24
 have hu71 := Tryz.underlying66
 refine callsIn_wide.1 (?_ : CallsIn Fence.wide 0 _ _ _ _ _)
 refine callsIn_of_wp_marks Tryz.func13 rfl trivial ?_ rfl
 simp only [Tryz.ntmps13, List.size_toArray, List.length_cons, List.length_nil, Nat.reduceAdd, Nat.reduceSub, Array.replicate_succ, Array.replicate_zero, List.push_toArray, List.append_toArray, List.nil_append, List.cons_append]
 refine wpIn_wide.2 ?_
 go_wp2_with fail
 refine hcall.mono ?_
 rintro e w1 ⟨hb, cs, rfl, hsz, hk⟩
 have HB : Az (Below w.heap.size w w1) := ⟨bwt ((Below.refl _ _).alloc (Nat.le_refl _) _) hb⟩
 have BC : Az (w1.heap[w.heap.size]? = some (.cells #[.int .i64 vars, .slice A1 cls.length c1] 24 (0, 0))) := ⟨blk_below (blk_new w _) hb⟩
 have hsz1 : w.heap.size < w1.heap.size := by have := hb.size; simp at this; omega
 clear hcall hb
 by_cases he : r.e = 0
 ·obtain ⟨vu, bm, hcs, hu, hbm, hm⟩ := hk he
  obtain ⟨Au, cu, hvu⟩ := Kd.R_slice hu
  subst hvu
  have HU : Az (Kd.R (Kd.int .i64) 3 w1 w.heap.size (fun _ => True) (.slice Au r.used.length cu) r.used) := ⟨Kd.R_lower hu (by simp)⟩
  have HM := Az.mk hm
  have OK := Az.mk (HOK.out he)
  unfold checkedCells at hcs
  subst hcs
  have he' : (r.e != 0) = false := by rw [he]; rfl
  have HE := Az.mk he
  clear hu hk hsz hm he HOK
  go_wp2_with (go_at_call 37; refine (needed_calls vars A1 cls.length c1 A2 p.length c2 Au r.used.length cu bm r.en _).mono ?_; rintro e w2 ⟨rfl, rfl⟩)
  have S0 : Az (w.heap.size ≤ w1.heap.size) := ⟨by omega⟩
  obtain ⟨W0, hW0⟩ : ∃ W0, (((w1.alloc (.cells #[.int .i64 vars, .slice A1 cls.length c1, .slice A2 p.length c2, .slice Au r.used.length cu, .map (some bm), .int .i64 r.en] 66)).alloc (.cells #[.slice none 0 0] 31)).alloc (.cells (checkedCells vars A1 cls.length c1 A2 p.length c2 (.slice Au r.used.length cu) bm r.en) 66)) = W0 := ⟨_, rfl⟩
  rw [hW0]
  have HW0 : Az (W0.heap.size = w1.heap.size + 3) := ⟨by rw [← hW0]; simp⟩
  have HI : Az (CoreAt w W0 W0.heap.size w.heap.size w1.heap.size (w1.heap.size + 1) (w1.heap.size + 2) bm #[.int .i64 vars, .slice A1 cls.length c1] (checkedCells vars A1 cls.length c1 A2 p.length c2 (.slice Au r.used.length cu) bm r.en) (.slice Au r.used.length cu) (.slice none 0 0) r.used cls.length r.byL []) := by
   subst hW0
   have b1 := blk_new w1 (.cells #[.int .i64 vars, .slice A1 cls.length c1, .slice A2 p.length c2, .slice Au r.used.length cu, .map (some bm), .int .i64 r.en] 66)
   have b2 := blk_new (w1.alloc (.cells #[.int .i64 vars, .slice A1 cls.length c1, .slice A2 p.length c2, .slice Au r.used.length cu, .map (some bm), .int .i64 r.en] 66)) (.cells #[.slice none 0 0] 31)
   have b3 := blk_new ((w1.alloc (.cells #[.int .i64 vars, .slice A1 cls.length c1, .slice A2 p.length c2, .slice Au r.used.length cu, .map (some bm), .int .i64 r.en] 66)).alloc (.cells #[.slice none 0 0] 31)) (.cells (checkedCells vars A1 cls.length c1 A2 p.length c2 (.slice Au r.used.length cu) bm r.en) 66)
   rw [World.size_alloc] at b2 b3
   rw [World.size_alloc] at b3
   exact ⟨⟨Nat.le_refl _, bwt HB.out ((((Below.refl w1.heap.size _).alloc (Nat.le_refl _) _).alloc (by simp) _).alloc (by simp; omega) _), bka (bka (bka BC.out _) _) _, bka (bka b1 _) _, bka b2 _, b3,
    Kd.R_mono (Kd.R_alloc (Kd.R_alloc (Kd.R_alloc HU.out _) _) _) (fun _ _ => ⟨trivial, fun h => by simp [Value.ownBlock] at h⟩), Kd.R_nil _ _ _ _ _, ((HM.out.alloc _).alloc _).alloc _⟩⟩
  clear hW0 HB BC HU HM
  refine (wpIn_wide (n := 0)).1 ?_
  refine range_all (gf := 89) (lb := #[.pointer (some ⟨w1.heap.size + 2, 0, none⟩)]) rfl (enters_of Tryz.func89 (by kernel_rfl) rfl)
   (need_iter w W0.heap.size (w1.heap.size + 2) bm w.heap.size vars A1 cls.length c1 A2 c2 p (.slice Au r.used.length cu) r.used r.byL r.en HR2.out OK.out.len OK.out.en0 OK.out.en1 OK.out.ul OK.out.u0 OK.out.by_)
   (fun _ => rfl) ?Sk NKeep.trans ?Kl
   (fun pre W => ∃ v, CoreAt w W W0.heap.size w.heap.size w1.heap.size (w1.heap.size + 1) (w1.heap.size + 2) bm #[.int .i64 vars, .slice A1 cls.length c1] (checkedCells vars A1 cls.length c1 A2 p.length c2 (.slice Au r.used.length cu) bm r.en) (.slice Au r.used.length cu) v r.used cls.length r.byL (coreOut p r.used cls.length pre))
   ?Is ?Il ?In ?h0 (fun x => { tmps := #[.agg #[.int .i64 vars, .slice A1 cls.length c1], .slice A2 p.length c2, .pointer (some ⟨w.heap.size, 0, none⟩), undef, .slice none 0 0, .int .i64 0, .pointer (some ⟨w1.heap.size, 0, none⟩), .int .i64 r.at_, .int .i64 r.e, .pointer (some ⟨w1.heap.size + 1, 0, none⟩), .int .i64 x, undef, undef,
    .tuple #[.agg #[.int .i64 vars, .slice A1 cls.length c1, .slice A2 p.length c2, .slice Au r.used.length cu, .map (some bm), .int .i64 r.en], .int .i64 r.at_, .int .i64 r.e], .agg #[.int .i64 vars, .slice A1 cls.length c1], .slice A2 p.length c2,
    .tuple #[.agg #[.int .i64 vars, .slice A1 cls.length c1, .slice A2 p.length c2, .slice Au r.used.length cu, .map (some bm), .int .i64 r.en], .int .i64 r.at_, .int .i64 r.e],
    .agg #[.int .i64 vars, .slice A1 cls.length c1, .slice A2 p.length c2, .slice Au r.used.length cu, .map (some bm), .int .i64 r.en], .int .i64 r.at_, .int .i64 r.e, .int .i64 r.e, .bool false, undef,
    .agg #[.int .i64 vars, .slice A1 cls.length c1, .slice A2 p.length c2, .slice Au r.used.length cu, .map (some bm), .int .i64 r.en], .func (.func 89) #[] #[.pointer (some ⟨w1.heap.size + 2, 0, none⟩)], .int .i64 x, undef, undef, undef, undef, undef, undef, undef, undef, undef, undef, undef, undef, undef, undef, undef, undef, undef, undef, undef, undef, undef, undef], defers := [] }) ?assign ?body ?done
  case Sk =>
   intro A B k' o h hk ho
   refine h.block k' o hk (.inr fun cs fr he => ?_)
   subst he; simp [isBook] at ho
  case Kl =>
   intro A l r' o hl
   refine ⟨by simp [World.putObj], fun k' cs fr hk => ?_⟩
   have hne : k' ≠ l := by
    rintro rfl
    rw [hl] at hk; cases hk
   exact (World.putObj_heap_other hne).trans hk
  case Is =>
   rintro pre A B ⟨v, h⟩ hs
   exact ⟨v, h.soft hs.soft (by have := HW0.out; have := S0.out; omega)⟩
  case Il =>
   rintro pre A l r' o hl ⟨v, h⟩ hr
   exact ⟨v, h.soft (NSoft.loop hr hl) (by have := HW0.out; have := S0.out; omega)⟩
  case In =>
   rintro pre W ⟨v, h⟩
   exact h.need
  case h0 =>
   intro r'
   exact ⟨_, HI.out.soft ((NSoft.alloc _ _ _).trans (NSoft.alloc _ _ _)) (by have := HW0.out; have := S0.out; omega)⟩
  case assign =>
   intro l x W K hK
   gi_wp2
   exact hK
  case body =>
   rintro l pre x post W hx ⟨v, hI⟩ hd hr
   have HI := Az.mk hI
   have HBK : Az ((∃ o, W.heap[W0.heap.size]? = some o ∧ isBook o = true) ∧ (∃ o, W.heap[W0.heap.size + 1]? = some o ∧ isBook o = true)) := ⟨by obtain ⟨d, hd⟩ := hd; exact ⟨_, hd, rfl⟩, by obtain ⟨d, hr⟩ := hr; exact ⟨_, hr, rfl⟩⟩
   have HXR : Az (0 ≤ x ∧ x < (p.length : Int)) := ⟨by
    have := needL_range _ _ _ _ _ x (show x ∈ needL (hintsAt p r.used) cls.length r.byL (r.en.toNat + 1) ((List.replicate p.length false).set r.en.toNat true) by
     have h2 : x ∈ neededL p r.used r.byL cls.length r.en := by rw [hx]; simp
     exact h2)
    have h3 := OK.out.en0
    have h4 := OK.out.en1
    omega⟩
   have HBD : Az ((coreOut p r.used cls.length (pre ++ [x])).length ≤ 17592186044415) := ⟨by
    have h1 := coreOut_length (p := p) (n := cls.length) HUS.out (pre ++ [x])
    have h2 := needL_length (hintsAt p r.used) cls.length r.byL (r.en.toNat + 1) ((List.replicate p.length false).set r.en.toNat true)
    have h3 : (neededL p r.used r.byL cls.length r.en).length = (pre ++ x :: post).length := by rw [hx]
    unfold neededL at h3
    have h4 := OK.out.len
    have h5 := OK.out.en1
    have h6 := OK.out.en0
    simp only [List.length_append, List.length_cons, List.length_nil] at h1 h3
    omega⟩
   clear hI hd hr hx
   have hx0 : W.cell? ⟨w1.heap.size, 0, none⟩ = some (.int .i64 vars) := (bkc HI.out.hbk 0).trans rfl
   have hx1 : W.cell? ⟨w1.heap.size, 1, none⟩ = some (.slice A1 cls.length c1) := (bkc HI.out.hbk 1).trans rfl
   have hx2 : W.cell? ⟨w1.heap.size, 2, none⟩ = some (.slice A2 p.length c2) := (bkc HI.out.hbk 2).trans rfl
   have hx3 : W.cell? ⟨w1.heap.size, 3, none⟩ = some (.slice Au r.used.length cu) := (bkc HI.out.hbk 3).trans rfl
   have hx4 : W.cell? ⟨w1.heap.size, 4, none⟩ = some (.map (some bm)) := (bkc HI.out.hbk 4).trans rfl
   have hx5 : W.cell? ⟨w1.heap.size, 5, none⟩ = some (.int .i64 r.en) := (bkc HI.out.hbk 5).trans rfl
   obtain ⟨i, rfl⟩ := Int.eq_ofNat_of_zero_le HXR.out.1
   have hcall := hints_calls vars (.slice A1 cls.length c1) A2 c2 p (.slice Au r.used.length cu) r.used (.map (some bm)) r.en (i : Int) W w w.heap.size HR2.out HI.out.reads (Kd.R_mono HI.out.used (fun _ _ => trivial)) HXR.out.1 HXR.out.2 (by rw [OK.out.ul]; exact HXR.out.2) (OK.out.u0 i (by have := HXR.out.2; omega)).1 (OK.out.u0 i (by have := HXR.out.2; omega)).2
   have hl : (rd_T42 p (i : Int)).f2.take (rd r.used (i : Int)).toNat = hintsAt p r.used i := rfl
   rw [hl] at hcall
   clear hl
   (gi_wp2_with ((with_reducible refine wpListIn_round ?hlo _ _ _ ?hnd ?_); (case hlo => rintro ⟨_, _, h⟩; exact h); (case hnd => rfl)))
   go_wp2_with (go_at_call 38; refine hcall.mono ?_; rintro e w3 ⟨A3, c3, rfl, hl3, hC3, hB3⟩; have HL3 := Az.mk hl3; have HC3 := Az.mk hC3; have HB3 := Az.mk hB3; clear hl3 hC3 hB3)
   have HI3 := Az.mk (HI.out.soft (NSoft.below HB3.out) (by have := HW0.out; have := S0.out; omega))
   have HR3 := Az.mk (NRound.below HB3.out)
   have HLM := Az.mk (Kd.C_max HC3.out)
   have HG : Az (coreOut p r.used cls.length (pre ++ [(i : Int)]) = coreOut p r.used cls.length pre ++ (hintsAt p r.used i).filter (fun h => decide (h ≤ (cls.length : Int)))) := ⟨by rw [coreOut_snoc]; rfl⟩
   clear HB3 HI hx0 hx1 hx2 hx3 hx4 hx5 hcall
   generalize hintsAt p r.used i = l3 at HL3 HC3 HLM HG ⊢
   have HLL : Az (l3.length ≤ 9223372036854775807) := ⟨by have := HLM.out; omega⟩
   gi_wp2
   gi_loopw [30] (fun v30 wr => ∃ (j : Nat) (v : Value) (out : List Int), v30 = .int .i64 j ∧ j ≤ l3.length ∧ Az (CoreAt w wr W0.heap.size w.heap.size w1.heap.size (w1.heap.size + 1) (w1.heap.size + 2) bm #[.int .i64 vars, .slice A1 cls.length c1] (checkedCells vars A1 cls.length c1 A2 p.length c2 (.slice Au r.used.length cu) bm r.en) (.slice Au r.used.length cu) v r.used cls.length r.byL out) ∧ Az (NRound W wr) ∧ Az (coreOut p r.used cls.length (pre ++ [(i : Int)]) = out ++ (l3.drop j).filter (fun h => decide (h ≤ (cls.length : Int))))) (fun v30 _ => l3.length - (intOf v30).toNat)
   case atStart => exact ⟨0, v, _, rfl, Nat.zero_le _, HI3, HR3, ⟨by simpa using HG.out⟩⟩
   case round =>
    clear HI3 HR3 HG
    obtain ⟨j, v, out, rfl, hj, HI, HR, HG⟩ := hrel
    by_cases hlt : j < l3.length
    ·obtain ⟨Ao, co, hv⟩ := Kd.R_slice HI.out.row
     subst hv
     have hbc : wr.cell? ⟨w.heap.size, 1, none⟩ = some (.slice A1 cls.length c1) := (bkc HI.out.hbc 1).trans rfl
     have hbo : wr.cell? ⟨w1.heap.size + 1, 0, none⟩ = some (.slice Ao out.length co) := (bkc HI.out.hbo 0).trans rfl
     obtain ⟨ad, rfl, hc⟩ := Kd.at_int (Kd.C_below HC3.out HI.out.reads) (j : Int) (by omega) (by omega)
     have hd : l3.drop j = rd l3 (j : Int) :: l3.drop (j + 1) := by
      rw [List.drop_eq_getElem_cons hlt]; simp [rd, rdOf, hlt]
     rw [hd] at HG
     clear hd
     generalize rd l3 (j : Int) = h at HG hc
     simp only [Int.toNat_natCast] at hc
     by_cases hle : h ≤ (cls.length : Int)
     ·have HLE := Az.mk hle
      have hle' : decide (h ≤ (cls.length : Int)) = true := decide_eq_true hle
      clear hle
      have HLN : Az (out.length + 1 ≤ 17592186044415) := ⟨by
       have h1 := HBD.out
       rw [HG.out, List.length_append, List.filter_cons, if_pos (by simpa using HLE.out), List.length_cons] at h1
       omega⟩
      (gi_wp2_with ((with_reducible refine wpListIn_round ?hlo _ _ _ ?hnd ?_); (case hlo => rintro ⟨_, _, h⟩; exact h); (case hnd => rfl)))
      (((go_wp2_with (with_reducible refine hold_in ?_)); refine Hold.mk ?_))
      (gi_wp2_with ((with_reducible refine wpListIn_round ?hlo _ _ _ ?hnd ?_); (case hlo => rintro ⟨_, _, h⟩; exact h); (case hnd => rfl)))
      (((go_wp2_with (with_reducible refine hold_in ?_)); refine Hold.mk ?_))
      (gi_wp2_with ((with_reducible refine wpListIn_round ?hlo _ _ _ ?hnd ?_); (case hlo => rintro ⟨_, _, h⟩; exact h); (case hnd => rfl)))
      (((go_wp2_with (with_reducible refine hold_in ?_)); refine Hold.mk ?_))
      (gi_wp2_with ((with_reducible refine wpListIn_round ?hlo _ _ _ ?hnd ?_); (case hlo => rintro ⟨_, _, h⟩; exact h); (case hnd => rfl)))
      go_wp2_with ((with_reducible refine gate_builtin (b := .append) (xs := #[.tmp 39, .tmp 41]) rfl ?_); at_builtin; refine Kd.R_append (Kd.int .i64) (w0 := w) w.heap.size rfl (.tmp 39) (.tmp 41) 31 3 (.int .i64 0) 8 rfl Tryz.underlying31 infoInt rfl (by decide) (by omega) (.slice Ao out.length co) out h [.int .i64 h] (fun _ => True) (fun _ => False) rfl rfl ?aP (fun _ hk => hk.elim) ?aF ?aO ?aB ?aS ?aL ?_; (case aP => exact rfl); (case aF => exact fun _ _ => trivial); (case aO => exact HI.out.row); (case aB => exact HI.out.reads); (case aS => exact HI.out.reads.size); (case aL => have := HLN.out; omega); intro v9 w6 ho hb hg hat; obtain ⟨Av, cv, hv9⟩ := Kd.R_slice ho; subst hv9; have HO6 := Az.mk ho; have HB6 := Az.mk hb; have HG6 := Az.mk hg; have HAT := Az.mk hat; have hy3 : w6.cell? ⟨w1.heap.size + 1, 0, none⟩ = some (.slice Ao out.length co) := (bkc (bkg HI.out.hbo hg (Kd.R_ne HI.out.row HI.out.hbo (by decide))) 0).trans rfl; have hy3f := bkf (bkg HI.out.hbo hg (Kd.R_ne HI.out.row HI.out.hbo (by decide))) 0; clear ho hb hg hat hbo)
      (gi_wp2_with ((with_reducible refine wpListIn_round ?hlo _ _ _ ?hnd ?_); (case hlo => rintro ⟨_, _, h⟩; exact h); (case hnd => rfl)))
      go_wp2
      go_roundw
      case rel =>
       obtain ⟨ha, hr⟩ := HI.out.added HB6.out HG6.out HAT.out HO6.out (by have := S0.out; omega) (by omega) (by omega) (by omega)
       refine ⟨j + 1, .slice Av (out ++ [h]).length cv, out ++ [h], by rw [wrap_succ hlt HLL.out], by omega, ⟨?_⟩, ⟨?_⟩, ⟨?_⟩⟩
       ·simpa using ha
       ·exact HR.out.trans (by simpa using hr)
       ·rw [HG.out, List.filter_cons, if_pos (by simpa using HLE.out)]; simp
      case measure => exact meas_x hlt (wrap_succ hlt HLL.out)
     ·have HLE := Az.mk hle
      have hle' : decide (h ≤ (cls.length : Int)) = false := decide_eq_false hle
      clear hle
      (gi_wp2_with ((with_reducible refine wpListIn_round ?hlo _ _ _ ?hnd ?_); (case hlo => rintro ⟨_, _, h⟩; exact h); (case hnd => rfl)))
      (((go_wp2_with (with_reducible refine hold_in ?_)); refine Hold.mk ?_))
      (gi_wp2_with ((with_reducible refine wpListIn_round ?hlo _ _ _ ?hnd ?_); (case hlo => rintro ⟨_, _, h⟩; exact h); (case hnd => rfl)))
      (((go_wp2_with (with_reducible refine hold_in ?_)); refine Hold.mk ?_))
      (gi_wp2_with ((with_reducible refine wpListIn_round ?hlo _ _ _ ?hnd ?_); (case hlo => rintro ⟨_, _, h⟩; exact h); (case hnd => rfl)))
      (((go_wp2_with (with_reducible refine hold_in ?_)); refine Hold.mk ?_))
      (gi_wp2_with ((with_reducible refine wpListIn_round ?hlo _ _ _ ?hnd ?_); (case hlo => rintro ⟨_, _, h⟩; exact h); (case hnd => rfl)))
      go_wp2
      go_roundw
      case rel =>
       refine ⟨j + 1, .slice Ao out.length co, out, by rw [wrap_succ hlt HLL.out], by omega, HI, HR, ⟨?_⟩⟩
       rw [HG.out, List.filter_cons, if_neg (by simpa using HLE.out)]
      case measure => exact meas_x hlt (wrap_succ hlt HLL.out)
    ·(gi_wp2_with ((with_reducible refine wpListIn_round ?hlo _ _ _ ?hnd ?_); (case hlo => rintro ⟨_, _, h⟩; exact h); (case hnd => rfl)))
     (((go_wp2_with (with_reducible refine hold_in ?_)); refine Hold.mk ?_))
     (gi_wp2_with ((with_reducible refine wpListIn_round ?hlo _ _ _ ?hnd ?_); (case hlo => rintro ⟨_, _, h⟩; exact h); (case hnd => rfl)))
     refine ⟨HR.out.book HBK.out.1, HR.out.book HBK.out.2, HR.out.keep, v, ?_⟩
     rw [List.drop_of_length_le (by omega), List.filter_nil, List.append_nil] at HG
     rw [HG.out]; exact HI.out
  case done =>
   rintro W ⟨v, hI⟩ hD
   obtain ⟨Ao, co, hv⟩ := Kd.R_slice hI.row
   subst hv
   have HI := Az.mk hI
   have HD := Az.mk hD
   have hbd : (coreOut p r.used cls.length (neededL p r.used r.byL cls.length r.en)).length ≤ 17592186044415 := by
    have h1 := coreOut_length (p := p) (n := cls.length) HUS.out (neededL p r.used r.byL cls.length r.en)
    have h2 := needL_length (hintsAt p r.used) cls.length r.byL (r.en.toNat + 1) ((List.replicate p.length false).set r.en.toNat true)
    have h3 : (neededL p r.used r.byL cls.length r.en).length ≤ r.en.toNat + 1 := h2
    have h4 := OK.out.len
    have h5 := OK.out.en1
    have h6 := OK.out.en0
    omega
   have HF : Az (coreF cls.length p r = (Lib.compact ((coreOut p r.used cls.length (neededL p r.used r.byL cls.length r.en)).mergeSort fun x y => decide (x ≤ y)), 0)) := ⟨by unfold coreF; rw [if_pos HE.out]⟩
   have hs := sort_calls HI.out.row (by omega)
   have HBD := Az.mk hbd
   have hbo : W.cell? ⟨w1.heap.size + 1, 0, none⟩ = some (.slice Ao (coreOut p r.used cls.length (neededL p r.used r.byL cls.length r.en)).length co) := (bkc HI.out.hbo 0).trans rfl
   clear hI hD hbd
   generalize coreOut p r.used cls.length (neededL p r.used r.byL cls.length r.en) = out at HI HBD hs hbo HF ⊢
   go_wp2_with (first | (go_at_call 39; refine hs.mono ?_; rintro e W2 ⟨rfl, hr2, hg2⟩; have HO2 := Az.mk hr2; have HG2 := Az.mk hg2; have hbo2 : W2.cell? ⟨w1.heap.size + 1, 0, none⟩ = some (.slice Ao out.length co) := (bkc (bkg HI.out.hbo hg2 (Kd.R_ne HI.out.row HI.out.hbo (by decide))) 0).trans rfl; clear hr2 hg2 hs hbo) | (go_at_call 40; refine (compact_calls HO2.out (by rw [List.length_mergeSort]; have := HBD.out; omega)).mono ?_; rintro e W3 ⟨v', rfl, hr3, hg3⟩; have HO3 := Az.mk hr3; have HG3 := Az.mk hg3; clear hr3 hg3))
   have HD2 := Az.mk (bkg HD.out HG2.out (book_ne_own HI.out.row HD.out rfl))
   have HD3 := bkg HD2.out HG3.out (book_ne_own HO2.out HD2.out rfl)
   obtain ⟨_, ho1⟩ := Kd.R_own HI.out.row
   obtain ⟨_, ho2⟩ := Kd.R_own HO2.out
   refine ⟨by simp, .inl ⟨_, _, rfl, run_takeDeferred HD3, ?_⟩⟩
   refine ⟨_, results_tmp2 rfl _ _ _, v', by rw [HF.out]; rfl, by rw [HF.out]; exact R_putObj HO3.out HD3 rfl, ?_⟩
   exact below_putObj ((HI.out.reads.grown HG2.out HI.out.reads.size (own_base ho1)).grown HG3.out (HI.out.reads.grown HG2.out HI.out.reads.size (own_base ho1)).size (own_base ho2)) (by have := HW0.out; have := S0.out; omega)
 ·have HE := Az.mk he
  have he' : (r.e != 0) = true := by simpa using he
  obtain ⟨x0, B1, n1, k1, B2, n2, k2, B3, n3, k3, bm, x5, rfl⟩ := hsz
  clear hk he HOK
  go_wp2
  refine ⟨_, results_tmp2 rfl _ _ _, .slice none 0 0, ?_, ?_, ?_⟩
  ·unfold coreF; rw [if_neg HE.out]; rfl
  ·unfold coreF; rw [if_neg HE.out]; exact Kd.R_nil _ _ _ _ _
  ·exact bwt HB.out ((Below.refl _ _).alloc (Nat.le_refl _) _)
end Go.Proofs.YtogicccdngpafaaGreatDoor.NState
end
section
set_option maxHeartbeats 4000000
set_option maxRecDepth 100000
namespace Go.Proofs.YtogicccdngpafaaGreatDoor.NState
open Go Go.RowKit Go.Shelf QW.PrintWords QW.PrintLast QW.PrintMore NMap NIter
attribute [local go_sem] Oper.semAt_some
theorem NNeed.below {w0 A B : World} {base bx bm base0 : Nat} {cs : Array Value} {vu : Value} {used : List Int} {n : Nat} {byL : List Int} (h : NNeed w0 base bx bm base0 cs vu used n byL A) (hb : Below A.heap.size A B) {base' : Nat} (hs : base' ≤ B.heap.size) : NNeed w0 base' bx bm base0 cs vu used n byL B :=
 ⟨hs, ⟨hb.os.trans h.reads.os, hb.tape.trans h.reads.tape, hb.output.trans h.reads.output, Nat.le_trans h.reads.size hb.size, fun k hk => (hb.block k (Nat.lt_of_lt_of_le hk h.reads.size)).trans (h.reads.block k hk)⟩, blk_below h.box hb, Kd.R_below h.row hb, h.map.below hb h.map.lt⟩
structure SeqAt (W A : World) (base : Nat) (v : Value) (out : List Int) : Prop where
 base_le : base ≤ A.heap.size
 reads : Below W.heap.size W A
 hbo : A.heap[W.heap.size]? = some (.cells #[v] 31 (0, 0))
 row : Kd.R (Kd.int .i64) 3 A W.heap.size (fun _ => True) v out
theorem SeqAt.soft {W A B : World} {base : Nat} {v : Value} {out : List Int} (h : SeqAt W A base v out) (hs : NSoft base A B) (hb : W.heap.size ≤ base) : SeqAt W B base v out :=
 ⟨Nat.le_trans h.base_le hs.size, hs.reads hb h.reads, hs.cells h.hbo (by decide), hs.row h.row (by decide)⟩
theorem SeqAt.added {W A w6 : World} {base : Nat} {v v9 : Value} {out : List Int} {x : Int} (h : SeqAt W A base v out) (hb : Below W.heap.size W w6) (hg : A.grownBy w6 v.ownBlock) (ho : Kd.R (Kd.int .i64) 3 w6 W.heap.size (fun _ => True) v9 (out ++ [x])) :
  SeqAt W (w6.setCell ⟨W.heap.size, 0, none⟩ v9) base v9 (out ++ [x]) ∧ NRound A (w6.setCell ⟨W.heap.size, 0, none⟩ v9) := by
 have hbo := bkg h.hbo hg (Kd.R_ne h.row h.hbo (by decide))
 refine ⟨⟨?_, bws hb (Nat.le_refl _), blk_put hbo 0 _ rfl, Kd.R_set ho hbo (by decide) 0 _⟩, (NRound.grown h.row (by decide) hg).trans (NRound.set hbo (by decide) 0 _)⟩
 have := h.base_le
 have := hg.size
 simp; omega
def SeqPost (W : World) (xs : List Int) (e : Ending) (W' : World) : Prop := ∃ v, e = .returned v ∧ Kd.R (Kd.int .i64) 3 W' W.heap.size (fun _ => True) v xs ∧ Below W.heap.size W W'
theorem appendSeq_calls (w0 W : World) (bx bm base0 : Nat) (cs : Array Value) (vu : Value) (used : List Int) (n : Nat) (byL : List Int) (xs : List Int) (hN : NNeed w0 W.heap.size bx bm base0 cs vu used n byL W)
  (hit : ∀ base, IterAll Tryz.prog 89 #[.pointer (some ⟨bx, 0, none⟩)] (fun x : Int => #[.int .i64 x]) xs (NNeed w0 base bx bm base0 cs vu used n byL) (NStep base) NKeep) (hlen : xs.length ≤ 65536) :
  Calls Tryz.prog 92 #[.slice none 0 0, .func (.func 89) #[] #[.pointer (some ⟨bx, 0, none⟩)]] W (SeqPost W xs) := by
 have HN := Az.mk hN
 have HIT := Az.mk hit
 have HLN := Az.mk hlen
 clear hN hit hlen
 refine callsIn_wide.1 (?_ : CallsIn Fence.wide 0 _ _ _ _ _)
 refine callsIn_of_wp_marks Tryz.func92 rfl trivial ?_ rfl
 simp only [Tryz.ntmps92, List.size_toArray, List.length_cons, List.length_nil, Nat.reduceAdd, Nat.reduceSub, Array.replicate_succ, Array.replicate_zero, List.push_toArray, List.append_toArray, List.nil_append, List.cons_append]
 refine wpIn_wide.2 ?_
 go_wp2_with fail
 obtain ⟨W0, hW0⟩ : ∃ W0, W.alloc (.cells #[.slice none 0 0] 31) = W0 := ⟨_, rfl⟩
 rw [hW0]
 have HW0 : Az (W0.heap.size = W.heap.size + 1) := ⟨by rw [← hW0]; simp⟩
 have HI : Az (SeqAt W W0 W0.heap.size (.slice none 0 0) []) := by
  subst hW0
  exact ⟨⟨Nat.le_refl _, (Below.refl _ _).alloc (Nat.le_refl _) _, blk_new _ _, Kd.R_nil _ _ _ _ _⟩⟩
 clear hW0
 refine (wpIn_wide (n := 0)).1 ?_
 refine range_all (gf := 89) (lb := #[.pointer (some ⟨bx, 0, none⟩)]) rfl (enters_of Tryz.func89 (by kernel_rfl) rfl)
   (HIT.out W0.heap.size) (fun _ => rfl) ?Sk NKeep.trans ?Kl
   (fun pre A => ∃ v, SeqAt W A W0.heap.size v pre)
   ?Is ?Il ?In ?h0 ?a₁ ?assign ?body ?done
 case a₁ => exact fun x => { tmps := #[.slice none 0 0, .func (.func 89) #[] #[.pointer (some ⟨bx, 0, none⟩)], .pointer (some ⟨W.heap.size, 0, none⟩), undef, .slice none 0 0, .int .i64 x, .func (.func 89) #[] #[.pointer (some ⟨bx, 0, none⟩)], .int .i64 x, undef, undef, undef, undef, undef], defers := [] }
 case Sk =>
  intro A B k' o h hk ho
  refine h.block k' o hk (.inr fun cs fr he => ?_)
  subst he; simp [isBook] at ho
 case Kl =>
  intro A l r' o hl
  refine ⟨by simp [World.putObj], fun k' cs fr hk => ?_⟩
  have hne : k' ≠ l := by
   rintro rfl
   rw [hl] at hk; cases hk
  exact (World.putObj_heap_other hne).trans hk
 case Is =>
  rintro pre A B ⟨v, h⟩ hs
  exact ⟨v, h.soft hs.soft (by have := HW0.out; omega)⟩
 case Il =>
  rintro pre A l r' o hl ⟨v, h⟩ hr
  exact ⟨v, h.soft (NSoft.loop hr hl) (by have := HW0.out; omega)⟩
 case In =>
  rintro pre A ⟨v, h⟩
  exact HN.out.below h.reads h.base_le
 case h0 =>
  intro r'
  exact ⟨_, HI.out.soft ((NSoft.alloc _ _ _).trans (NSoft.alloc _ _ _)) (by have := HW0.out; omega)⟩
 case assign =>
  intro l x W K hK
  gi_wp2
  exact hK
 case body =>
  rintro l pre x post A hx ⟨v, hI⟩ hd hr
  obtain ⟨Ao, co, hv⟩ := Kd.R_slice hI.row
  subst hv
  have HI := Az.mk hI
  have HBK : Az ((∃ o, A.heap[W0.heap.size]? = some o ∧ isBook o = true) ∧ (∃ o, A.heap[W0.heap.size + 1]? = some o ∧ isBook o = true)) := ⟨by obtain ⟨d, hd⟩ := hd; exact ⟨_, hd, rfl⟩, by obtain ⟨d, hr⟩ := hr; exact ⟨_, hr, rfl⟩⟩
  have HBD : Az (pre.length + 1 ≤ 65536) := ⟨by
   have h1 := HLN.out
   rw [hx, List.length_append, List.length_cons] at h1
   omega⟩
  have hbo : A.cell? ⟨W.heap.size, 0, none⟩ = some (.slice Ao pre.length co) := (bkc HI.out.hbo 0).trans rfl
  clear hI hd hr hx
  (gi_wp2_with ((with_reducible refine wpListIn_round ?hlo _ _ _ ?hnd ?_); (case hlo => rintro ⟨_, _, h⟩; exact h); (case hnd => rfl)))
  go_wp2_with ((with_reducible refine gate_builtin (b := .append) (xs := #[.tmp 8, .tmp 10]) rfl ?_); at_builtin; refine Kd.R_append (Kd.int .i64) (w0 := W) W.heap.size rfl (.tmp 8) (.tmp 10) 31 3 (.int .i64 0) 8 rfl Tryz.underlying31 infoInt rfl (by decide) (by omega) (.slice Ao pre.length co) pre x [.int .i64 x] (fun _ => True) (fun _ => False) rfl rfl ?aP (fun _ hk => hk.elim) ?aF ?aO ?aB ?aS ?aL ?_; (case aP => exact rfl); (case aF => exact fun _ _ => trivial); (case aO => exact HI.out.row); (case aB => exact HI.out.reads); (case aS => exact HI.out.reads.size); (case aL => have := HBD.out; omega); intro v9 w6 ho hb hg hat; obtain ⟨Av, cv, hv9⟩ := Kd.R_slice ho; subst hv9; have HO6 := Az.mk ho; have HB6 := Az.mk hb; have HG6 := Az.mk hg; have hy3 : w6.cell? ⟨W.heap.size, 0, none⟩ = some (.slice Ao pre.length co) := (bkc (bkg HI.out.hbo hg (Kd.R_ne HI.out.row HI.out.hbo (by decide))) 0).trans rfl; have hy3f := bkf (bkg HI.out.hbo hg (Kd.R_ne HI.out.row HI.out.hbo (by decide))) 0; clear ho hb hg hat hbo)
  obtain ⟨ha, hr⟩ := HI.out.added HB6.out HG6.out HO6.out
  have hr' : NRound A (w6.setCell ⟨W.heap.size, 0, none⟩ (.slice Av (pre.length + 1) cv)) := by simpa using hr
  exact ⟨hr'.book HBK.out.1, hr'.book HBK.out.2, hr'.keep, .slice Av (pre ++ [x]).length cv, by simpa using ha⟩
 case done =>
  rintro A ⟨v, hI⟩ hD
  obtain ⟨Ao, co, hv⟩ := Kd.R_slice hI.row
  subst hv
  have HI := Az.mk hI
  have HD := Az.mk hD
  have hbo : A.cell? ⟨W.heap.size, 0, none⟩ = some (.slice Ao xs.length co) := (bkc HI.out.hbo 0).trans rfl
  clear hI hD
  go_wp2
  refine ⟨by simp, .inl ⟨_, _, rfl, run_takeDeferred HD.out, ?_⟩⟩
  refine ⟨_, results_tmp rfl _ _ _, .slice Ao xs.length co, rfl, R_putObj HI.out.row HD.out rfl, ?_⟩
  exact below_putObj HI.out.reads (by have := HW0.out; omega)
theorem collect_calls (w0 W : World) (bx bm base0 : Nat) (cs : Array Value) (vu : Value) (used : List Int) (n : Nat) (byL : List Int) (xs : List Int) (hN : NNeed w0 W.heap.size bx bm base0 cs vu used n byL W)
  (hit : ∀ base, IterAll Tryz.prog 89 #[.pointer (some ⟨bx, 0, none⟩)] (fun x : Int => #[.int .i64 x]) xs (NNeed w0 base bx bm base0 cs vu used n byL) (NStep base) NKeep) (hlen : xs.length ≤ 65536) :
  Calls Tryz.prog 42 #[.func (.func 89) #[] #[.pointer (some ⟨bx, 0, none⟩)]] W (SeqPost W xs) := by
 have hcall := appendSeq_calls w0 W bx bm base0 cs vu used n byL xs hN hit hlen
 clear hN hit
 go_enter Tryz.func42, Tryz.ntmps42
 go_wp2_with (go_at_call 92; refine hcall.mono ?_; rintro e W' ⟨v, rfl, hr, hb⟩; have HR := Az.mk hr; have HB := Az.mk hb; clear hr hb)
 go_ret
 exact ⟨v, rfl, HR.out, HB.out⟩
end Go.Proofs.YtogicccdngpafaaGreatDoor.NState
end
section
set_option maxHeartbeats 4000000
set_option maxRecDepth 100000
namespace Go.Proofs.YtogicccdngpafaaGreatDoor.NState
open Go Go.RowKit Go.Shelf QW.PrintWords QW.PrintLast QW.PrintMore NMap NIter
attribute [local go_sem] Oper.semAt_some
theorem backward_calls (A : Option Addr) (n c : Nat) (w : World) :
  Calls Tryz.prog 43 #[.slice A n c] w fun e w' =>
   e = .returned (.func (.func 93) #[] #[.pointer (some ⟨w.heap.size, 0, none⟩)]) ∧ w' = w.alloc (.cells #[.slice A n c] 31) := by
 go_enter Tryz.func43, Tryz.ntmps43
 go_wp2
 go_ret
 exact ⟨rfl, rfl⟩
structure BNeed (bs : Nat) (A : Option Addr) (c : Nat) (xs : List Int) (W : World) : Prop where
 box : W.heap[bs]? = some (.cells #[.slice A xs.length c] 31 (0, 0))
 row : Kd.C (Kd.int .i64) W A xs.length xs
def BStep (A B : World) : Prop := Below A.heap.size A B
def BKeep (_ _ : World) : Prop := True
def backL (xs : List Int) : Nat → List (Int × Int)
 | 0 => []
 | k + 1 => ((k : Int), rd xs k) :: backL xs k
theorem back_iter (bs : Nat) (A : Option Addr) (c : Nat) (xs : List Int) (hlen : xs.length ≤ 65536) :
  IterAll Tryz.prog 93 #[.pointer (some ⟨bs, 0, none⟩)] (fun x : Int × Int => #[.int .i64 x.1, .int .i64 x.2]) (backL xs xs.length) (BNeed bs A c xs) BStep BKeep := by
 intro l J W hN hS hY h0
 refine callsIn_wide.2 ?_
 have HN := Az.mk hN
 have HS := Az.mk hS
 have HY := Az.mk hY
 have H0 := Az.mk h0
 have HL := Az.mk hlen
 clear hN hS hY h0 hlen
 have hx0 : W.cell? ⟨bs, 0, none⟩ = some (.slice A xs.length c) := (bkc (HN.out _ _ H0.out).box 0).trans rfl
 obtain ⟨y0, hy0⟩ : ∃ y : Int, wrap64 ((xs.length : Int) - 1) = y := ⟨_, rfl⟩
 have HY0 : Az (y0 = (xs.length : Int) - 1) := ⟨by rw [← hy0]; exact wrap_pred HL.out⟩
 go_enter Tryz.func93, Tryz.ntmps93
 go_wp2
 go_loopw [3] (fun v3 wr => ∃ (i : Nat) (pre : List (Int × Int)), v3 = .int .i64 ((i : Int) - 1) ∧ i ≤ xs.length ∧ Az (J pre wr) ∧ Az (backL xs xs.length = pre ++ backL xs i)) (fun v3 _ => (intOf v3 + 1).toNat)
 case atStart => exact ⟨xs.length, [], congrArg (Value.int .i64) HY0.out, Nat.le_refl _, H0, ⟨rfl⟩⟩
 case round =>
  clear H0
  obtain ⟨i, pre, rfl, hi, HJ, HG⟩ := hrel
  cases i with
  | zero =>
   go_wp2
   go_end0
   refine ⟨⟨_, rfl⟩, ?_⟩
   have hg := HG.out
   rw [backL, List.append_nil] at hg
   rw [hg]; exact HJ.out
  | succ i =>
   rw [show ((i + 1 : Nat) : Int) - 1 = (i : Int) by omega]
   have hi0 : (0 : Int) ≤ (i : Int) := Int.natCast_nonneg i
   have hi1 : (i : Int) < (xs.length : Int) := by omega
   obtain ⟨y, hy⟩ : ∃ y : Int, wrap64 ((i : Int) - 1) = y := ⟨_, rfl⟩
   have HY2 : Az (y = (i : Int) - 1) := ⟨by rw [← hy]; exact wrap_pred (by have := HL.out; omega)⟩
   have hgd : (decide ((0 : Int) ≤ (i : Int))) = true := decide_eq_true hi0
   have hb := HN.out _ _ HJ.out
   have hx0 : wr.cell? ⟨bs, 0, none⟩ = some (.slice A xs.length c) := (bkc hb.box 0).trans rfl
   obtain ⟨ad, rfl, hc⟩ := Kd.at_int hb.row (i : Int) hi0 hi1
   simp only [Int.toNat_natCast] at hc
   have HG4 : Az (backL xs xs.length = pre ++ ((i : Int), rd xs (i : Int)) :: backL xs i) := ⟨by rw [HG.out, backL]⟩
   obtain ⟨fn, tmps, assign, body, hy2, hR2⟩ := HY.out pre ((i : Int), rd xs (i : Int)) _ wr HG4.out HJ.out
   dsimp only at hy2
   clear hb
   refine wpIn_wide (n := 0) |>.1 ?_
   gi_wp2
   refine ⟨rfl, hR2.mono ?_⟩
   rintro e W3 ⟨rfl, hJ3, hk3⟩
   have HJ3 := Az.mk hJ3
   clear hJ3 hk3 hx0 hc
   gi_wp2
   go_roundw
   case rel =>
    exact ⟨i, pre ++ [((i : Int), rd xs (i : Int))], congrArg (Value.int .i64) (by first | exact HY2.out | (rw [hy]; exact HY2.out)), by omega, HJ3, ⟨by rw [HG4.out]; simp⟩⟩
   case measure => first | (rw [HY2.out]; simp only [intOf]; omega) | (rw [hy, HY2.out]; simp only [intOf]; omega)
end Go.Proofs.YtogicccdngpafaaGreatDoor.NState
end
section
set_option maxHeartbeats 4000000
set_option maxRecDepth 100000
namespace Go.Proofs.YtogicccdngpafaaGreatDoor.NState
open Go Go.RowKit Go.Shelf QW.PrintWords QW.PrintLast QW.PrintMore NMap NIter
open PCheck (cnf_Check.f cnf_Check.calls rL at_L1)
open PSame (S42 k42 rd_T42 at_T42 k42_mkM)
attribute [local go_sem] Oper.semAt_some
theorem clone_calls (w : World) (A : Option Addr) (c : Nat) (xs : List Int) (hC : Kd.C (Kd.int .i64) w A xs.length xs) (hl : xs.length ≤ 268435455) :
  Calls Tryz.prog 44 #[.slice A xs.length c] w fun e w' => ∃ v', e = .returned v' ∧ Kd.R (Kd.int .i64) 3 w' w.heap.size (fun _ => True) v' xs ∧ Below w.heap.size w w' := by
 cases A with
 | none =>
  have h0 : xs = [] := by
   cases xs with
   | nil => rfl
   | cons x xs => obtain ⟨ad, h, _⟩ := hC.2.2 (by simp); cases h
  subst h0
  refine (Any.slices_Clone_int_nil Tryz.laysNm215 0 c w).mono ?_
  rintro e w' ⟨rfl, rfl⟩
  exact ⟨_, rfl, Kd.R_nil _ _ _ _ _, Below.refl _ _⟩
 | some ad =>
  by_cases hp : 0 < xs.length
  ·have hcell : ∀ j, j < xs.length → w.cell? (ad.add j) = some (.int .i64 (xs.getD j 0)) := by
    intro j hj
    obtain ⟨ad', he, h⟩ := Kd.at_int hC (j : Int) (Int.natCast_nonneg j) (by omega)
    cases he
    simpa [rd, rdOf] using h
   obtain ⟨b, off, sp⟩ := ad
   have h0 := hcell 0 hp
   have hs : sp = none := by
    cases sp with
    | none => rfl
    | some q =>
     simp [Addr.add, World.cell?] at h0
     split at h0 <;> simp at h0
   subst hs
   refine (Any.slices_Clone_int Tryz.laysNm215 b off xs.length c xs w (Nat.le_refl _) (by omega) ?_).mono ?_
   ·intro j hj
    have := hcell j hj
    rwa [Addr.add_lit] at this
   ·rintro e w' ⟨v', rfl, ho, _, hb⟩
    rw [List.take_length] at ho
    exact ⟨_, rfl, Kd.R_of_own (enc := Value.int .i64) ho (fun _ _ => trivial), hb⟩
  ·have h0 : xs = [] := List.eq_nil_of_length_eq_zero (by omega)
   subst h0
   refine (Any.slices_Clone_int_zero Tryz.laysNm215 ad c w).mono ?_
   rintro e w' ⟨v', rfl, ho, _, hb⟩
   exact ⟨_, rfl, Kd.R_of_own (enc := Value.int .i64) ho (fun _ _ => trivial), hb⟩
structure TrimS where
 out : List Stp
 to_ : Int → Option Int
def trimMap (n : Nat) (byL : List Int) (to_ : Int → Option Int) (h : Int) : Int := match stepOf n byL h with | some s => (to_ s).getD 0 | none => h
def trimStep (p : List Stp) (used : List Int) (n : Nat) (byL : List Int) (s : TrimS) (i : Int) : TrimS :=
 ⟨s.out ++ [⟨(rd_T42 p i).f0, false, (hintsAt p used i.toNat).map (trimMap n byL s.to_)⟩], fun j => if j = i then some ((n + s.out.length + 1 : Nat) : Int) else s.to_ j⟩
def trimL (p : List Stp) (used : List Int) (n : Nat) (byL : List Int) (is : List Int) : TrimS := is.foldl (trimStep p used n byL) ⟨[], fun _ => none⟩
theorem trimL_length (p : List Stp) (used : List Int) (n : Nat) (byL : List Int) (is : List Int) : (trimL p used n byL is).out.length = is.length := by
 have : ∀ (is : List Int) (s : TrimS), (is.foldl (trimStep p used n byL) s).out.length = s.out.length + is.length := by
  intro is
  induction is with
  | nil => intro s; rfl
  | cons i is ih => intro s; rw [List.foldl_cons, ih]; simp [trimStep]; omega
 unfold trimL
 rw [this]; simp
def trimF (n : Nat) (p : List Stp) (r : RunR) : List Stp × Int :=
 if r.e = 0 then ((trimL p r.used n r.byL (neededL p r.used r.byL n r.en).reverse).out, 0) else ([], r.e)
def TrimPost (w : World) (r : List Stp × Int) (e : Ending) (w' : World) : Prop := ∃ v, e = .returned (.tuple #[v, .int .i64 r.2]) ∧ Kd.R kStp 42 w' w.heap.size (fun _ => True) v r.1 ∧ Below w.heap.size w w'
theorem backL_snd (xs : List Int) : ∀ k, k ≤ xs.length → (backL xs k).map Prod.snd = (xs.take k).reverse
 | 0, _ => by simp [backL]
 | k + 1, h => by
  rw [backL, List.map_cons, backL_snd xs k (by omega), List.take_add_one, List.reverse_append]
  have : xs[k]? = some (rd xs k) := by simp [rd, rdOf, List.getD, show k < xs.length by omega]
  rw [this]; rfl
def toF (t : Int → Option Int) : Int → Option Value := fun j => (t j).map (Value.int .i64)
structure NBook (A B : World) : Prop where
 size : A.heap.size ≤ B.heap.size
 block : ∀ (k : Nat) (o : Obj), A.heap[k]? = some o → isBook o = true → B.heap[k]? = some o
theorem NBook.refl (A : World) : NBook A A := ⟨Nat.le_refl _, fun _ _ h _ => h⟩
theorem NBook.trans {A B C : World} (h : NBook A B) (h' : NBook B C) : NBook A C := ⟨Nat.le_trans h.size h'.size, fun k o hk ho => h'.block k o (h.block k o hk ho) ho⟩
theorem NBook.below {A B : World} (h : Below A.heap.size A B) : NBook A B := ⟨h.size, fun k o hk _ => (h.block k (Array.getElem?_eq_some_iff.1 hk).1).trans hk⟩
theorem NBook.set {A : World} {g t : Nat} {cs : Array Value} {fr : Nat × Nat} (h : A.heap[g]? = some (.cells cs t fr)) (j : Nat) (u : Value) : NBook A (A.setCell ⟨g, j, none⟩ u) := by
 refine ⟨by simp, fun k o hk ho => ?_⟩
 have hne : k ≠ g := by
  rintro rfl
  rw [h] at hk; cases hk; simp [isBook] at ho
 exact (Below.heap_setCell A ⟨g, j, none⟩ u k hne).trans hk
theorem NBook.grown {α : Type} {d : Kd α} {e b0 : Nat} {ok : Nat → Prop} {A B : World} {v : Value} {xs : List α} (hr : Kd.R d e A b0 ok v xs) (hg : A.grownBy B v.ownBlock) : NBook A B :=
 ⟨hg.size, fun k o hk ho => (hg.block k (Array.getElem?_eq_some_iff.1 hk).1 (book_ne_own hr hk ho)).trans hk⟩
theorem NBook.turned {κ : Type} {kv : κ → Value} {A B : World} {b : Nat} {f : κ → Option Value} (hm : HasMap kv A b f) (ht : Turned A B b) : NBook A B := by
 refine ⟨Nat.le_of_eq ht.2.1.symm, fun k o hk ho => ?_⟩
 refine (ht.1.block k (Array.getElem?_eq_some_iff.1 hk).1 ?_).trans hk
 intro he
 cases he
 obtain ⟨es, c, hb, _⟩ := hm
 rw [hb] at hk; cases hk; simp [isBook] at ho
theorem NBook.book {A B : World} (h : NBook A B) {k : Nat} (hk : ∃ o, A.heap[k]? = some o ∧ isBook o = true) : B.heap[k]? = A.heap[k]? := by
 obtain ⟨o, ho, hb⟩ := hk
 rw [ho]; exact h.block k o ho hb
structure TrimAt (w W : World) (bc bp bk bo bt bs bm mt : Nat) (cc ck cp : Array Value) (vu vord hv vo : Value) (used ord : List Int) (n : Nat) (byL : List Int) (s : TrimS) : Prop where
 reads : Below w.heap.size w W
 hbc : W.heap[bc]? = some (.cells cc 24 (0, 0))
 hbp : W.heap[bp]? = some (.cells cp 25 (0, 0))
 hbk : W.heap[bk]? = some (.cells ck 66 (0, 0))
 hbo : W.heap[bo]? = some (.cells #[vo] 25 (0, 0))
 hbt : W.heap[bt]? = some (.cells #[.map (some mt)] 64 (0, 0))
 hbs : W.heap[bs]? = some (.cells #[vord] 31 (0, 0))
 used : Kd.R (Kd.int .i64) 3 W w.heap.size (fun k => True ∧ some k ≠ hv.ownBlock) vu used
 ord : Kd.R (Kd.int .i64) 3 W w.heap.size (fun k => True ∧ some k ≠ hv.ownBlock) vord ord
 out : Kd.R kStp 42 W w.heap.size (fun k => True ∧ some k ≠ hv.ownBlock) vo s.out
 by_ : HasMap (Value.int .i64) W bm (byF n byL)
 to_ : HasMap (Value.int .i64) W mt (toF s.to_)
theorem TrimAt.below {w A B : World} {bc bp bk bo bt bs bm mt : Nat} {cc ck cp : Array Value} {vu vord hv vo : Value} {used ord : List Int} {n : Nat} {byL : List Int} {s : TrimS} (h : TrimAt w A bc bp bk bo bt bs bm mt cc ck cp vu vord hv vo used ord n byL s) (hb : Below A.heap.size A B) :
  TrimAt w B bc bp bk bo bt bs bm mt cc ck cp vu vord hv vo used ord n byL s :=
 ⟨⟨hb.os.trans h.reads.os, hb.tape.trans h.reads.tape, hb.output.trans h.reads.output, Nat.le_trans h.reads.size hb.size, fun k hk => (hb.block k (Nat.lt_of_lt_of_le hk h.reads.size)).trans (h.reads.block k hk)⟩,
  blk_below h.hbc hb, blk_below h.hbp hb, blk_below h.hbk hb, blk_below h.hbo hb, blk_below h.hbt hb, blk_below h.hbs hb, Kd.R_below h.used hb, Kd.R_below h.ord hb, Kd.R_below h.out hb, h.by_.below hb h.by_.lt, h.to_.below hb h.to_.lt⟩
theorem TrimAt.soft {w A B : World} {base bc bp bk bo bt bs bm mt : Nat} {cc ck cp : Array Value} {vu vord hv vo : Value} {used ord : List Int} {n : Nat} {byL : List Int} {s : TrimS} (h : TrimAt w A bc bp bk bo bt bs bm mt cc ck cp vu vord hv vo used ord n byL s) (hs : NSoft base A B) (hb : w.heap.size ≤ base) :
  TrimAt w B bc bp bk bo bt bs bm mt cc ck cp vu vord hv vo used ord n byL s :=
 ⟨hs.reads hb h.reads, hs.cells h.hbc (by decide), hs.cells h.hbp (by decide), hs.cells h.hbk (by decide), hs.cells h.hbo (by decide), hs.cells h.hbt (by decide), hs.cells h.hbs (by decide), hs.row h.used (by decide), hs.row h.ord (by decide), hs.row h.out (by decide), hs.hasMap h.by_, hs.hasMap h.to_⟩
theorem cells_ne {W : World} {g g' t t' : Nat} {cs cs' : Array Value} {fr fr' : Nat × Nat} (h : W.heap[g]? = some (.cells cs t fr)) (h' : W.heap[g']? = some (.cells cs' t' fr')) (ht : t ≠ t') : g ≠ g' := by
 rintro rfl
 rw [h] at h'; cases h'; exact ht rfl
theorem map_ne_cells {κ : Type} {kv : κ → Value} {W : World} {b g t : Nat} {f : κ → Option Value} {cs : Array Value} {fr : Nat × Nat} (hm : HasMap kv W b f) (h : W.heap[g]? = some (.cells cs t fr)) : b ≠ g := by
 rintro rfl
 obtain ⟨es, c, hb, _⟩ := hm
 rw [hb] at h; cases h
theorem infoStep : (Tryz.prog.info? 42).map (fun i => (i.zero, i.size, i.bytes)) = some (some (.agg #[.slice none 0 0, .bool false, .slice none 0 0]), 3, 56) := by kernel_rfl
theorem R_apart_of {α β : Type} {d : Kd α} {d' : Kd β} {e e' base b' : Nat} {ok ok' : Nat → Prop} {W : World} {v u : Value} {xs : List α} {ys : List β} (h : d.R e W base ok v xs) (ho : d'.R e' W b' ok' u ys) (ht : ∀ q, q ∈ e :: d.E → q ≠ e') : d.R e W base (fun k => True ∧ some k ≠ u.ownBlock) v xs :=
 Kd.R_mono (Kd.R_bound h) (fun k ⟨_, _, _, q, hq, cells, hc⟩ => ⟨trivial, fun he => by
  obtain ⟨cells', hc'⟩ := Kd.R_typed ho k he.symm
  rw [hc] at hc'; have h2 := ht q hq; cases hc'; exact h2 rfl⟩)
theorem TrimAt.hadd {w A w6 : World} {bc bp bk bo bt bs bm mt bxx : Nat} {cc ck cp csx : Array Value} {vu vord hv vo hv9 : Value} {used ord hs : List Int} {n : Nat} {byL : List Int} {s : TrimS} (h : TrimAt w A bc bp bk bo bt bs bm mt cc ck cp vu vord hv vo used ord n byL s)
  (hrow : Kd.R (Kd.int .i64) 3 A w.heap.size (fun _ => True) hv hs) (hb : Below w.heap.size w w6) (hg : A.grownBy w6 hv.ownBlock) (hat : hv9.ownBlock = hv.ownBlock ∨ ∃ b, hv9.ownBlock = some b ∧ A.heap.size ≤ b) (hxx : A.heap[bxx]? = some (.cells csx 42 (0, 0))) (hle : w.heap.size ≤ bxx) (j : Nat) (u : Value)
  (hin : Kd.R kStp 42 A w.heap.size (fun k => (True ∧ some k ≠ hv.ownBlock) ∧ k ≠ bxx) vo s.out) :
  TrimAt w (w6.setCell ⟨bxx, j, none⟩ u) bc bp bk bo bt bs bm mt cc ck cp vu vord hv9 vo used ord n byL s ∧ Kd.R kStp 42 (w6.setCell ⟨bxx, j, none⟩ u) w.heap.size (fun k => (True ∧ some k ≠ hv9.ownBlock) ∧ k ≠ bxx) vo s.out := by
 have hx6 := bkg hxx hg (Kd.R_ne hrow hxx (by decide))
 have gb : ∀ {g t : Nat} {cs : Array Value}, A.heap[g]? = some (.cells cs t (0, 0)) → 3 ≠ t → t ≠ 42 → (w6.setCell ⟨bxx, j, none⟩ u).heap[g]? = some (.cells cs t (0, 0)) := fun hc h1 h2 =>
  blk_far (bkg hc hg (Kd.R_ne hrow hc h1)) (cells_ne hc hxx h2) u
 have m1 := map_grown h.by_ hg (map_ne_own h.by_ hrow)
 have m2 := map_grown h.to_ hg (map_ne_own h.to_ hrow)
 have h1 : Kd.R kStp 42 A w.heap.size (fun k => (True ∧ k ≠ bxx) ∧ some k ≠ hv.ownBlock) vo s.out := Kd.R_mono hin (fun k hk => ⟨⟨trivial, hk.2⟩, hk.1.2⟩)
 have h2 := Kd.R_far (p := ⟨bxx, j, none⟩) (Kd.R_after h1 hg hat) (fun _ hk => hk.1.2) u
 exact ⟨⟨bws hb hle, gb h.hbc (by decide) (by decide), gb h.hbp (by decide) (by decide), gb h.hbk (by decide) (by decide), gb h.hbo (by decide) (by decide), gb h.hbt (by decide) (by decide), gb h.hbs (by decide) (by decide),
  Kd.R_set (Kd.R_after h.used hg hat) hx6 (by decide) j u, Kd.R_set (Kd.R_after h.ord hg hat) hx6 (by decide) j u, Kd.R_mono h2 (fun k hk => ⟨trivial, hk.2⟩), m1.setCell (map_ne_cells m1 hx6) u, m2.setCell (map_ne_cells m2 hx6) u⟩, Kd.R_mono h2 (fun k hk => ⟨⟨trivial, hk.2⟩, hk.1.2⟩)⟩
theorem TrimAt.oadd {w A w6 : World} {bc bp bk bo bt bs bm mt : Nat} {cc ck cp : Array Value} {vu vord hv vo vo9 : Value} {used ord : List Int} {n : Nat} {byL : List Int} {s : TrimS} {y : Stp} (h : TrimAt w A bc bp bk bo bt bs bm mt cc ck cp vu vord hv vo used ord n byL s)
  (hb : Below w.heap.size w w6) (hg : A.grownBy w6 vo.ownBlock) (ho : Kd.R kStp 42 w6 w.heap.size (fun _ => True) vo9 (s.out ++ [y])) (hle : w.heap.size ≤ bo) (hpo : bp ≠ bo) :
  TrimAt w (w6.setCell ⟨bo, 0, none⟩ vo9) bc bp bk bo bt bs bm mt cc ck cp vu vord (.slice none 0 0) vo9 used ord n byL ⟨s.out ++ [y], s.to_⟩ := by
 have hx6 := bkg h.hbo hg (Kd.R_ne h.out h.hbo (by decide))
 have gb : ∀ {g t : Nat} {cs : Array Value}, A.heap[g]? = some (.cells cs t (0, 0)) → 42 ≠ t → t ≠ 25 → (w6.setCell ⟨bo, 0, none⟩ vo9).heap[g]? = some (.cells cs t (0, 0)) := fun hc h1 h2 =>
  blk_far (bkg hc hg (Kd.R_ne h.out hc h1)) (cells_ne hc h.hbo h2) vo9
 have hbp : (w6.setCell ⟨bo, 0, none⟩ vo9).heap[bp]? = some (.cells cp 25 (0, 0)) := blk_far (bkg h.hbp hg (Kd.R_ne h.out h.hbp (by decide))) hpo _
 have m1 := map_grown h.by_ hg (map_ne_own h.by_ h.out)
 have m2 := map_grown h.to_ hg (map_ne_own h.to_ h.out)
 have nn : ∀ k : Nat, True ∧ some k ≠ (Value.slice none 0 0).ownBlock := fun k => ⟨trivial, fun h => by simp [Value.ownBlock] at h⟩
 exact ⟨bws hb hle, gb h.hbc (by decide) (by decide), hbp, gb h.hbk (by decide) (by decide), blk_put hx6 0 _ rfl, gb h.hbt (by decide) (by decide), gb h.hbs (by decide) (by decide),
  Kd.R_mono (Kd.R_set (Kd.R_over' h.used (Kd.R_typed h.out) (by decide) hg) hx6 (by decide) 0 vo9) (fun k _ => nn k), Kd.R_mono (Kd.R_set (Kd.R_over' h.ord (Kd.R_typed h.out) (by decide) hg) hx6 (by decide) 0 vo9) (fun k _ => nn k), Kd.R_mono (Kd.R_set ho hx6 (by decide) 0 vo9) (fun k _ => nn k), m1.setCell (map_ne_cells m1 hx6) _, m2.setCell (map_ne_cells m2 hx6) _⟩
theorem toF_put (t : Int → Option Int) (i m : Int) : put (toF t) i (.int .i64 m) = toF (fun j => if j = i then some m else t j) := by
 funext j
 unfold put toF
 by_cases h : j = i <;> simp [h]
theorem TrimAt.tstore {w A B : World} {bc bp bk bo bt bs bm mt : Nat} {cc ck cp : Array Value} {vu vord hv vo : Value} {used ord : List Int} {n : Nat} {byL : List Int} {s : TrimS} {i m : Int} (h : TrimAt w A bc bp bk bo bt bs bm mt cc ck cp vu vord hv vo used ord n byL s)
  (hm : HasMap (Value.int .i64) B mt (put (toF s.to_) i (.int .i64 m))) (ht : Turned A B mt) (hle : w.heap.size ≤ mt) (hne : bm ≠ mt) :
  TrimAt w B bc bp bk bo bt bs bm mt cc ck cp vu vord hv vo used ord n byL ⟨s.out, fun j => if j = i then some m else s.to_ j⟩ := by
 rw [toF_put] at hm
 have gb : ∀ {g t : Nat} {cs : Array Value}, A.heap[g]? = some (.cells cs t (0, 0)) → B.heap[g]? = some (.cells cs t (0, 0)) := fun hc => bkg hc ht.1 (fun e => map_ne_cells h.to_ hc (Option.some.inj e).symm)
 exact ⟨turned_below h.reads ht hle h.reads.size, gb h.hbc, gb h.hbp, gb h.hbk, gb h.hbo, gb h.hbt, gb h.hbs, R_turned h.used h.to_ ht, R_turned h.ord h.to_ ht, R_turned h.out h.to_ ht, map_grown h.by_ ht.1 (fun e => hne (Option.some.inj e)), hm⟩
theorem trim_calls (k : Nat) (vars : Int) (A1 : Option Addr) (c1 : Nat) (cls : List (List Int)) (A2 : Option Addr) (c2 : Nat) (p : List Stp) (r : RunR) (w : World)
  (hr1 : Kd.C (Kd.slice 3 (Kd.int .i64)) w A1 cls.length cls) (hc1 : cls.length ≤ c1) (hr2 : Kd.C kStp w A2 p.length p) (hc2 : p.length ≤ c2) (h : runF k vars cls p = some r) (hlen : cls.length ≤ 4611686018427000000) (hP : ∀ x ∈ p, x.f0.length ≤ 268435455 ∧ x.f2.length ≤ 268435455) :
  Calls Tryz.prog 15 #[.agg #[.int .i64 vars, .slice A1 cls.length c1], .slice A2 p.length c2] w (TrimPost w (trimF cls.length p r)) := by
 have HR2 := Az.mk hr2
 have HOK := Az.mk (runF_ok h)
 have HP := Az.mk hP
 have HCL := Az.mk hlen
 have hcall := run_calls k vars A1 c1 cls A2 c2 p r ((w.alloc (.cells #[.int .i64 vars, .slice A1 cls.length c1] 24)).alloc (.cells #[.slice A2 p.length c2] 25)) (Kd.C_alloc (Kd.C_alloc hr1 _) _) hc1 (Kd.C_alloc (Kd.C_alloc hr2 _) _) hc2 h hlen
 clear hr1 hr2 hc1 hc2 h hlen hP
 have hu24 := Tryz.underlying24
 have hu71 := Tryz.underlying66
 have hmm := @run_makeMap Tryz.prog
 refine callsIn_wide.1 (?_ : CallsIn Fence.wide 0 _ _ _ _ _)
 refine callsIn_of_wp_marks Tryz.func15 rfl trivial ?_ rfl
 simp only [Tryz.ntmps15, List.size_toArray, List.length_cons, List.length_nil, Nat.reduceAdd, Nat.reduceSub, Array.replicate_succ, Array.replicate_zero, List.push_toArray, List.append_toArray, List.nil_append, List.cons_append]
 refine wpIn_wide.2 ?_
 go_wp2_with fail
 refine hcall.mono ?_
 rintro e w1 ⟨hb, cs, rfl, hsz, hk⟩
 have HB : Az (Below w.heap.size w w1) := ⟨bwt (((Below.refl _ _).alloc (Nat.le_refl _) _).alloc (by simp) _) hb⟩
 have BC : Az (w1.heap[w.heap.size]? = some (.cells #[.int .i64 vars, .slice A1 cls.length c1] 24 (0, 0))) := ⟨blk_below (bka (blk_new w _) _) hb⟩
 have BP : Az (w1.heap[w.heap.size + 1]? = some (.cells #[.slice A2 p.length c2] 25 (0, 0))) := ⟨blk_below (by
  have := blk_new (w.alloc (.cells #[.int .i64 vars, .slice A1 cls.length c1] 24)) (.cells #[.slice A2 p.length c2] 25)
  rwa [World.size_alloc] at this) hb⟩
 have hsz1 : w.heap.size + 1 < w1.heap.size := by have := hb.size; simp at this; omega
 clear hcall hb
 by_cases he : r.e = 0
 ·obtain ⟨vu, bm, hcs, hu, hbm, hm⟩ := hk he
  obtain ⟨Au, cu, hvu⟩ := Kd.R_slice hu
  subst hvu
  have HU : Az (Kd.R (Kd.int .i64) 3 w1 w.heap.size (fun _ => True) (.slice Au r.used.length cu) r.used) := ⟨Kd.R_lower hu (by simp; omega)⟩
  have HM := Az.mk hm
  have HBM : Az (bm < w1.heap.size) := ⟨hm.lt⟩
  have OK := Az.mk (HOK.out he)
  unfold checkedCells at hcs
  subst hcs
  have he' : (r.e != 0) = false := by rw [he]; rfl
  have HE := Az.mk he
  clear hu hk hsz hm he HOK hbm
  obtain ⟨W0, hW0⟩ : ∃ W0, (w1.alloc (.cells #[.int .i64 vars, .slice A1 cls.length c1, .slice A2 p.length c2, .slice Au r.used.length cu, .map (some bm), .int .i64 r.en] 66)).alloc (.cells (checkedCells vars A1 cls.length c1 A2 p.length c2 (.slice Au r.used.length cu) bm r.en) 66) = W0 := ⟨_, rfl⟩
  have HB0 : Az (Below w1.heap.size w1 W0) := ⟨by subst hW0; exact ((Below.refl w1.heap.size _).alloc (Nat.le_refl _) _).alloc (by simp) _⟩
  have HS0 : Az (W0.heap.size = w1.heap.size + 2) := ⟨by rw [← hW0]; simp⟩
  have BK : Az (W0.heap[w1.heap.size]? = some (.cells (checkedCells vars A1 cls.length c1 A2 p.length c2 (.slice Au r.used.length cu) bm r.en) 66 (0, 0))) := ⟨by subst hW0; exact bka (blk_new _ _) _⟩
  have BX : Az (W0.heap[w1.heap.size + 1]? = some (.cells (checkedCells vars A1 cls.length c1 A2 p.length c2 (.slice Au r.used.length cu) bm r.en) 66 (0, 0))) := ⟨by
   subst hW0
   have := blk_new (w1.alloc (.cells #[.int .i64 vars, .slice A1 cls.length c1, .slice A2 p.length c2, .slice Au r.used.length cu, .map (some bm), .int .i64 r.en] 66)) (.cells (checkedCells vars A1 cls.length c1 A2 p.length c2 (.slice Au r.used.length cu) bm r.en) 66)
   rwa [World.size_alloc] at this⟩
  have hN : NNeed w W0.heap.size (w1.heap.size + 1) bm w.heap.size (checkedCells vars A1 cls.length c1 A2 p.length c2 (.slice Au r.used.length cu) bm r.en) (.slice Au r.used.length cu) r.used cls.length r.byL W0 :=
   ⟨Nat.le_refl _, bwt HB.out HB0.out, BX.out, Kd.R_below HU.out HB0.out, HM.out.below HB0.out HM.out.lt⟩
  have hcol := collect_calls w W0 (w1.heap.size + 1) bm w.heap.size _ _ r.used cls.length r.byL (neededL p r.used r.byL cls.length r.en) hN
   (fun base => need_iter w base (w1.heap.size + 1) bm w.heap.size vars A1 cls.length c1 A2 c2 p (.slice Au r.used.length cu) r.used r.byL r.en HR2.out OK.out.len OK.out.en0 OK.out.en1 OK.out.ul OK.out.u0 OK.out.by_)
   (by
     have h2 := needL_length (hintsAt p r.used) cls.length r.byL (r.en.toNat + 1) ((List.replicate p.length false).set r.en.toNat true)
     have h3 : (neededL p r.used r.byL cls.length r.en).length ≤ r.en.toNat + 1 := h2
     have h4 := OK.out.len
     have h5 := OK.out.en1
     have h6 := OK.out.en0
     omega)
  clear hN
  go_wp2_with (first | (go_at_call 37; refine (needed_calls vars A1 cls.length c1 A2 p.length c2 Au r.used.length cu bm r.en _).mono ?_; rintro e w2 ⟨rfl, rfl⟩; rw [hW0]) | (go_at_call 42; refine hcol.mono ?_; rintro e w2 ⟨vo, rfl, hro, hb2⟩; obtain ⟨Ao, co, hvo⟩ := Kd.R_slice hro; subst hvo; have HRO := Az.mk hro; have HB2 := Az.mk hb2; clear hro hb2 hcol) | (go_at_call 43; refine (backward_calls _ _ _ _).mono ?_; rintro e w4 ⟨rfl, rfl⟩))
  have HORD : Az (trimF cls.length p r = ((trimL p r.used cls.length r.byL (neededL p r.used r.byL cls.length r.en).reverse).out, 0)) := ⟨by unfold trimF; rw [if_pos HE.out]⟩
  have HOL : Az ((neededL p r.used r.byL cls.length r.en).length ≤ 65536 ∧ ∀ x ∈ neededL p r.used r.byL cls.length r.en, 0 ≤ x ∧ x < (p.length : Int)) := ⟨by
   have h2 := needL_length (hintsAt p r.used) cls.length r.byL (r.en.toNat + 1) ((List.replicate p.length false).set r.en.toNat true)
   have h3 : (neededL p r.used r.byL cls.length r.en).length ≤ r.en.toNat + 1 := h2
   have h4 := OK.out.len
   have h5 := OK.out.en1
   have h6 := OK.out.en0
   refine ⟨by omega, fun x hx => ?_⟩
   have := needL_range _ _ _ _ _ x (show x ∈ needL (hintsAt p r.used) cls.length r.byL (r.en.toNat + 1) ((List.replicate p.length false).set r.en.toNat true) from hx)
   omega⟩
  generalize neededL p r.used r.byL cls.length r.en = ord at HORD HOL HRO ⊢
  have HSZ2 : Az (w1.heap.size + 2 ≤ w2.heap.size) := ⟨by have := HB2.out.size; have := HS0.out; omega⟩
  obtain ⟨W3, hW3⟩ : ∃ W3, (((w2.alloc (.cells #[.slice none 0 0] 25)).alloc (.map #[] 0)).alloc (.cells #[.map (some (w2.heap.size + 1))] 64)).alloc (.cells #[.slice Ao ord.length co] 31) = W3 := ⟨_, rfl⟩
  rw [hW3]
  have HSZ3 : Az (W3.heap.size = w2.heap.size + 4) := ⟨by rw [← hW3]; simp⟩
  have HI : Az (TrimAt w W3 w.heap.size (w.heap.size + 1) w1.heap.size w2.heap.size (w2.heap.size + 2) (w2.heap.size + 3) bm (w2.heap.size + 1) #[.int .i64 vars, .slice A1 cls.length c1] (checkedCells vars A1 cls.length c1 A2 p.length c2 (.slice Au r.used.length cu) bm r.en) #[.slice A2 p.length c2] (.slice Au r.used.length cu) (.slice Ao ord.length co) (.slice none 0 0) (.slice none 0 0) r.used ord cls.length r.byL ⟨[], fun _ => none⟩) := by
   have hb3 : Below w2.heap.size w2 W3 := by
    subst hW3
    exact (((((Below.refl w2.heap.size _).alloc (Nat.le_refl _) _).alloc (by simp) _).alloc (by simp; omega) _).alloc (by simp; omega) _)
   have hb1 : Below w1.heap.size w1 w2 := bwt HB0.out HB2.out
   have e1 := blk_new w2 (.cells #[.slice none 0 0] 25)
   have e2 : HasMap (Value.int .i64) ((w2.alloc (.cells #[.slice none 0 0] 25)).alloc (.map #[] 0)) (w2.heap.size + 1) (fun _ => none) := by
    have := HasMap.made (kv := Value.int .i64) (w2.alloc (.cells #[.slice none 0 0] 25))
    rwa [World.size_alloc] at this
   have e3 := blk_new ((w2.alloc (.cells #[.slice none 0 0] 25)).alloc (.map #[] 0)) (.cells #[.map (some (w2.heap.size + 1))] 64)
   have e4 := blk_new (((w2.alloc (.cells #[.slice none 0 0] 25)).alloc (.map #[] 0)).alloc (.cells #[.map (some (w2.heap.size + 1))] 64)) (.cells #[.slice Ao ord.length co] 31)
   simp only [World.size_alloc] at e3 e4
   refine ⟨⟨bwt HB.out (bwt hb1 hb3), blk_below (blk_below BC.out hb1) hb3, blk_below (blk_below BP.out hb1) hb3, blk_below (blk_below BK.out HB2.out) hb3, ?_, ?_, ?_, Kd.R_mono (Kd.R_below (Kd.R_below HU.out hb1) hb3) (fun k _ => ⟨trivial, fun h => by simp [Value.ownBlock] at h⟩), Kd.R_mono (Kd.R_lower (Kd.R_below HRO.out hb3) (by have := HS0.out; have := hsz1; omega)) (fun k _ => ⟨trivial, fun h => by simp [Value.ownBlock] at h⟩), Kd.R_nil _ _ _ _ _, ((HM.out.below hb1 HM.out.lt).below hb3 (by have := HM.out.lt; have := hb1.size; omega)), ?_⟩⟩
   ·subst hW3; exact bka (bka (bka e1 _) _) _
   ·subst hW3; exact bka e3 _
   ·subst hW3; exact e4
   ·subst hW3; exact ((e2.alloc _).alloc _)
  clear hW3 HB2 HRO HB0 HS0 BK BX hW0 HB BC BP HU HM
  refine (wpIn_wide (n := 0)).1 ?_
  refine range_all (gf := 93) (lb := #[.pointer (some ⟨w2.heap.size + 3, 0, none⟩)]) rfl (enters_of Tryz.func93 (by kernel_rfl) rfl)
   (back_iter (w2.heap.size + 3) Ao co ord HOL.out.1) (fun _ => rfl) ?Sk (fun _ _ => trivial) (fun _ _ _ _ _ => trivial)
   (fun pre W => ∃ vo, TrimAt w W w.heap.size (w.heap.size + 1) w1.heap.size w2.heap.size (w2.heap.size + 2) (w2.heap.size + 3) bm (w2.heap.size + 1) #[.int .i64 vars, .slice A1 cls.length c1] (checkedCells vars A1 cls.length c1 A2 p.length c2 (.slice Au r.used.length cu) bm r.en) #[.slice A2 p.length c2] (.slice Au r.used.length cu) (.slice Ao ord.length co) (.slice none 0 0) vo r.used ord cls.length r.byL (trimL p r.used cls.length r.byL (pre.map Prod.snd)))
   ?Is ?Il ?In ?h0 (fun x => { tmps := #[.agg #[.int .i64 vars, .slice A1 cls.length c1], .slice A2 p.length c2, .pointer (some ⟨w.heap.size, 0, none⟩), .pointer (some ⟨w.heap.size + 1, 0, none⟩), .slice none 0 0, .int .i64 0, .pointer (some ⟨w1.heap.size, 0, none⟩), .int .i64 r.at_, .int .i64 r.e, .slice Ao ord.length co, .pointer (some ⟨w2.heap.size, 0, none⟩), .pointer (some ⟨w2.heap.size + 2, 0, none⟩), undef, .int .i64 x.2, undef, undef, undef, undef, undef, .tuple #[.agg #[.int .i64 vars, .slice A1 cls.length c1, .slice A2 p.length c2, .slice Au r.used.length cu, .map (some bm), .int .i64 r.en], .int .i64 r.at_, .int .i64 r.e], .agg #[.int .i64 vars, .slice A1 cls.length c1], .slice A2 p.length c2, .tuple #[.agg #[.int .i64 vars, .slice A1 cls.length c1, .slice A2 p.length c2, .slice Au r.used.length cu, .map (some bm), .int .i64 r.en], .int .i64 r.at_, .int .i64 r.e], .agg #[.int .i64 vars, .slice A1 cls.length c1, .slice A2 p.length c2, .slice Au r.used.length cu, .map (some bm), .int .i64 r.en], .int .i64 r.at_, .int .i64 r.e, .int .i64 r.e, .bool false, undef, .agg #[.int .i64 vars, .slice A1 cls.length c1, .slice A2 p.length c2, .slice Au r.used.length cu, .map (some bm), .int .i64 r.en], .func (.func 89) #[] #[.pointer (some ⟨w1.heap.size + 1, 0, none⟩)], .slice Ao ord.length co, .map (some (w2.heap.size + 1)), .slice Ao ord.length co, .func (.func 93) #[] #[.pointer (some ⟨w2.heap.size + 3, 0, none⟩)], .int .i64 x.1, .int .i64 x.2, undef, undef, undef, undef, undef, undef, undef, undef, undef, undef, undef, undef, undef, undef, undef, undef, undef, undef, undef, undef, undef, undef, undef, undef, undef, undef, undef, undef, undef, undef, undef, undef, undef, undef, undef, undef, undef, undef, undef, undef, undef, undef, undef, undef, undef, undef], defers := [] }) ?assign ?body ?done
  case Sk =>
   intro A B k' o h hk ho
   exact (h.block k' (Array.getElem?_eq_some_iff.1 hk).1).trans hk
  case Is =>
   rintro pre A B ⟨v, h⟩ hs
   exact ⟨v, h.below hs⟩
  case Il =>
   rintro pre A l r' o hl ⟨v, h⟩ hr
   exact ⟨v, h.soft (NSoft.loop hr hl) (by have := HSZ3.out; have := HSZ2.out; omega)⟩
  case In =>
   rintro pre W ⟨v, h⟩
   refine ⟨h.hbs, ?_⟩
   obtain ⟨A, c, he, _, hC⟩ := Kd.R_reads h.ord
   cases he; exact hC
  case h0 =>
   intro r'
   exact ⟨_, HI.out.soft ((NSoft.alloc W3.heap.size _ _).trans (NSoft.alloc _ _ _)) (by have := HSZ3.out; have := HSZ2.out; omega)⟩
  case assign =>
   intro l x W K hK
   gi_wp2
   exact hK
  case body =>
   rintro l pre x post W hx ⟨vo, hI⟩ hd hr
   obtain ⟨Av, cv0, hvo⟩ := Kd.R_slice hI.out
   subst hvo
   have HI := Az.mk hI
   have HBK : Az ((∃ o, W.heap[W3.heap.size]? = some o ∧ isBook o = true) ∧ (∃ o, W.heap[W3.heap.size + 1]? = some o ∧ isBook o = true)) := ⟨by obtain ⟨d, hd⟩ := hd; exact ⟨_, hd, rfl⟩, by obtain ⟨d, hr⟩ := hr; exact ⟨_, hr, rfl⟩⟩
   have hxo : x.2 ∈ ord := by
    have h1 : x.2 ∈ (backL ord ord.length).map Prod.snd := by rw [hx]; simp
    rw [backL_snd _ _ (Nat.le_refl _), List.take_length, List.mem_reverse] at h1
    exact h1
   have HXR : Az (0 ≤ x.2 ∧ x.2 < (p.length : Int)) := ⟨HOL.out.2 _ hxo⟩
   have HBD : Az (pre.length + 1 ≤ 65536) := ⟨by
    have h1 : (backL ord ord.length).length = ord.length := by
     have := congrArg List.length (backL_snd ord ord.length (Nat.le_refl _))
     simpa using this
    have h2 := HOL.out.1
    rw [hx, List.length_append, List.length_cons] at h1
    omega⟩
   have HTL : Az ((trimL p r.used cls.length r.byL (pre.map Prod.snd)).out.length = pre.length) := ⟨by rw [trimL_length]; simp⟩
   obtain ⟨x1, x2⟩ := x
   simp only at HXR
   obtain ⟨i, rfl⟩ := Int.eq_ofNat_of_zero_le HXR.out.1
   have HTS : Az (trimL p r.used cls.length r.byL ((pre ++ [(x1, (i : Int))]).map Prod.snd) = trimStep p r.used cls.length r.byL (trimL p r.used cls.length r.byL (pre.map Prod.snd)) i) := ⟨by unfold trimL; rw [List.map_append, List.foldl_append]; rfl⟩
   clear hI hd hr hx hxo
   generalize trimL p r.used cls.length r.byL (pre.map Prod.snd) = s at HI HTL HTS ⊢
   obtain ⟨ad, A3, c3, A4, c4, rfl, hp0, hp1, hp2, hl3, hC3, hl4, hC4⟩ := at_T42 HR2.out (i : Int) HXR.out.1 HXR.out.2
   have hbr := HI.out.reads
   replace hp0 := (hbr.cell (World.block_lt_of_cell? w _ hp0)).trans hp0
   have hpm : rd_T42 p (i : Int) ∈ p := by
    have hlt : i < p.length := by have := HXR.out.2; omega
    have : rd_T42 p (i : Int) = p[i] := by simp [rd_T42, List.getD, hlt]
    rw [this]; exact List.getElem_mem _
   have hclone := clone_calls W A3 c3 (rd_T42 p (i : Int)).f0 (Kd.C_below hC3 hbr) (HP.out _ hpm).1
   have hbp : W.cell? ⟨w.heap.size + 1, 0, none⟩ = some (.slice (some ad) p.length c2) := (bkc HI.out.hbp 0).trans rfl
   have hi1 : (i : Int) < (p.length : Int) := HXR.out.2
   simp only [Int.toNat_natCast] at hp0
   clear hC3 hl3 hp1 hp2 hl4 hC4 hbr hpm
   (gi_wp2_with ((with_reducible refine wpListIn_round ?hlo _ _ _ ?hnd ?_); (case hlo => rintro ⟨_, _, h⟩; exact h); (case hnd => rfl)))
   go_wp2_with (first | (go_at_call 44; refine hclone.mono ?_; rintro e w3 ⟨cv, rfl, hcv, hb3⟩; obtain ⟨Ac, cc3, hcv'⟩ := Kd.R_slice hcv; subst hcv'; have HCV := Az.mk hcv; have HB3 := Az.mk hb3; clear hcv hb3 hclone) | (with_reducible refine hold_in ?_))
   refine Hold.mk ?_
   obtain ⟨W4, hW4⟩ : ∃ W4, w3.alloc (.cells #[.slice Ac (rd_T42 p (i : Int)).f0.length cc3, .bool false, .slice none 0 0] 42) = W4 := ⟨_, rfl⟩
   rw [hW4]
   have HB4 : Az (Below w3.heap.size w3 W4) := ⟨by subst hW4; exact (Below.refl w3.heap.size _).alloc (Nat.le_refl _) _⟩
   have HX4 : Az (W4.heap[w3.heap.size]? = some (.cells #[.slice Ac (rd_T42 p (i : Int)).f0.length cc3, .bool false, .slice none 0 0] 42 (0, 0))) := ⟨by subst hW4; exact blk_new _ _⟩
   have HI4 := Az.mk ((HI.out.below HB3.out).below HB4.out)
   have HCV4 : Az (Kd.R (Kd.int .i64) 3 W4 w.heap.size (fun k => True ∧ some k ≠ (Value.slice none 0 0).ownBlock) (.slice Ac (rd_T42 p (i : Int)).f0.length cc3) (rd_T42 p (i : Int)).f0) := ⟨Kd.R_mono (Kd.R_lower (Kd.R_below HCV.out HB4.out) HI.out.reads.size) (fun k _ => ⟨trivial, fun h => by simp [Value.ownBlock] at h⟩)⟩
   have HOX4 : Az (Kd.R kStp 42 W4 w.heap.size (fun k => (True ∧ some k ≠ (Value.slice none 0 0).ownBlock) ∧ k ≠ w3.heap.size) (.slice Av s.out.length cv0) s.out) := ⟨Kd.R_below (Kd.R_mono (Kd.R_bound (HI.out.below HB3.out).out) (fun k hk => ⟨hk.1, by omega⟩)) HB4.out⟩
   have HNB4 := Az.mk ((NBook.below HB3.out).trans (NBook.below HB4.out))
   have HX3 : Az (w.heap.size ≤ w3.heap.size ∧ w2.heap.size + 3 < w3.heap.size) := ⟨(HI.out.below HB3.out).reads.size, (Array.getElem?_eq_some_iff.1 (HI.out.below HB3.out).hbs).1⟩
   clear hW4 HB4 HCV HB3 HI hp0 hbp
   have hx0 : W4.cell? ⟨w1.heap.size, 0, none⟩ = some (.int .i64 vars) := (bkc HI4.out.hbk 0).trans rfl
   have hx1 : W4.cell? ⟨w1.heap.size, 1, none⟩ = some (.slice A1 cls.length c1) := (bkc HI4.out.hbk 1).trans rfl
   have hx2 : W4.cell? ⟨w1.heap.size, 2, none⟩ = some (.slice (some ad) p.length c2) := (bkc HI4.out.hbk 2).trans rfl
   have hx3 : W4.cell? ⟨w1.heap.size, 3, none⟩ = some (.slice Au r.used.length cu) := (bkc HI4.out.hbk 3).trans rfl
   have hx4 : W4.cell? ⟨w1.heap.size, 4, none⟩ = some (.map (some bm)) := (bkc HI4.out.hbk 4).trans rfl
   have hx5 : W4.cell? ⟨w1.heap.size, 5, none⟩ = some (.int .i64 r.en) := (bkc HI4.out.hbk 5).trans rfl
   have hcall := hints_calls vars (.slice A1 cls.length c1) (some ad) c2 p (.slice Au r.used.length cu) r.used (.map (some bm)) r.en (i : Int) W4 w w.heap.size HR2.out HI4.out.reads (Kd.R_mono HI4.out.used (fun _ _ => trivial)) HXR.out.1 HXR.out.2 (by rw [OK.out.ul]; exact HXR.out.2) (OK.out.u0 i (by have := HXR.out.2; omega)).1 (OK.out.u0 i (by have := HXR.out.2; omega)).2
   have hl : (rd_T42 p (i : Int)).f2.take (rd r.used (i : Int)).toNat = hintsAt p r.used i := rfl
   rw [hl] at hcall
   clear hl
   have HLB : Az ((hintsAt p r.used i).length ≤ 268435455) := ⟨by
    have hlt : i < p.length := by have := HXR.out.2; omega
    have : rd_T42 p (i : Int) = p[i] := by simp [rd_T42, List.getD, hlt]
    have h2 := (HP.out _ (List.getElem_mem hlt)).2
    rw [← this] at h2
    exact Nat.le_trans (List.length_take_le' _ _) h2⟩
   have HTS2 : Az (trimStep p r.used cls.length r.byL s i = ⟨s.out ++ [⟨(rd_T42 p (i : Int)).f0, false, (hintsAt p r.used i).map (trimMap cls.length r.byL s.to_)⟩], fun j => if j = (i : Int) then some ((cls.length + s.out.length + 1 : Nat) : Int) else s.to_ j⟩) := ⟨rfl⟩
   (gi_wp2_with ((with_reducible refine wpListIn_round ?hlo _ _ _ ?hnd ?_); (case hlo => rintro ⟨_, _, h⟩; exact h); (case hnd => rfl)))
   go_wp2_with (first | (go_at_call 38; refine hcall.mono ?_; rintro e w5 ⟨A5, c5, rfl, hl5, hC5, hB5⟩; have HL5 := Az.mk hl5; have HC5 := Az.mk hC5; have HB5 := Az.mk hB5; clear hl5 hC5 hB5 hcall) | (with_reducible refine hold_in ?_))
   refine Hold.mk ?_
   have HI5 := Az.mk (HI4.out.below HB5.out)
   have HX5 := Az.mk (blk_below HX4.out HB5.out)
   have HCV5 := Az.mk (Kd.R_below HCV4.out HB5.out)
   have HOX5 := Az.mk (Kd.R_below HOX4.out HB5.out)
   have HNB5 := Az.mk (HNB4.out.trans (NBook.below HB5.out))
   clear HB5 HI4 HX4 HCV4 HOX4 HNB4 hx0 hx1 hx2 hx3 hx4 hx5
   rw [HTS2.out] at HTS
   clear HTS2
   generalize hintsAt p r.used i = l3 at HL5 HC5 HLB HTS ⊢
   have HLL : Az (l3.length ≤ 9223372036854775807) := ⟨by have := HLB.out; omega⟩
   gi_wp2
   gi_loopw [48] (fun v48 wr => ∃ (j : Nat) (hv : Value), v48 = .int .i64 j ∧ j ≤ l3.length ∧ Az (TrimAt w wr w.heap.size (w.heap.size + 1) w1.heap.size w2.heap.size (w2.heap.size + 2) (w2.heap.size + 3) bm (w2.heap.size + 1) #[.int .i64 vars, .slice A1 cls.length c1] (checkedCells vars A1 cls.length c1 (some ad) p.length c2 (.slice Au r.used.length cu) bm r.en) #[.slice (some ad) p.length c2] (.slice Au r.used.length cu) (.slice Ao ord.length co) hv (.slice Av s.out.length cv0) r.used ord cls.length r.byL s) ∧ Az (wr.heap[w3.heap.size]? = some (.cells #[.slice Ac (rd_T42 p (i : Int)).f0.length cc3, .bool false, hv] 42 (0, 0))) ∧ Az (Kd.R (Kd.int .i64) 3 wr w.heap.size (fun k => True ∧ some k ≠ hv.ownBlock) (.slice Ac (rd_T42 p (i : Int)).f0.length cc3) (rd_T42 p (i : Int)).f0) ∧ Az (Kd.R (Kd.int .i64) 3 wr w.heap.size (fun _ => True) hv ((l3.take j).map (trimMap cls.length r.byL s.to_))) ∧ Az (Kd.R kStp 42 wr w.heap.size (fun k => (True ∧ some k ≠ hv.ownBlock) ∧ k ≠ w3.heap.size) (.slice Av s.out.length cv0) s.out) ∧ Az (NBook W wr)) (fun v48 _ => l3.length - (intOf v48).toNat)
   case atStart => exact ⟨0, .slice none 0 0, rfl, Nat.zero_le _, HI5, HX5, HCV5, ⟨by simpa using Kd.R_nil _ _ _ _ _⟩, HOX5, HNB5⟩
   case round =>
    clear HI5 HX5 HCV5 HOX5 HNB5
    obtain ⟨j, hv, rfl, hj, HI, HX, HCV, HH, HOX, HNB⟩ := hrel
    by_cases hlt : j < l3.length
    ·obtain ⟨Ah, ch, hhv⟩ := Kd.R_slice HH.out
     have HLJ : Az (((l3.take j).map (trimMap cls.length r.byL s.to_)).length = j) := ⟨by rw [List.length_map, List.length_take, Nat.min_eq_left (by omega)]⟩
     have HJ : Az (j + 1 ≤ l3.length) := ⟨hlt⟩
     rw [HLJ.out] at hhv
     subst hhv
     have hk4 : wr.cell? ⟨w1.heap.size, 4, none⟩ = some (.map (some bm)) := (bkc HI.out.hbk 4).trans rfl
     have hbt : wr.cell? ⟨w2.heap.size + 2, 0, none⟩ = some (.map (some (w2.heap.size + 1))) := (bkc HI.out.hbt 0).trans rfl
     have hxx2 : wr.cell? ⟨w3.heap.size, 2, none⟩ = some (.slice Ah j ch) := (bkc HX.out 2).trans rfl
     obtain ⟨ad5, rfl, hc⟩ := Kd.at_int (Kd.C_below HC5.out HI.out.reads) (j : Int) (by omega) (by omega)
     have HGET : Az (l3[j]? = some (rd l3 (j : Int))) := ⟨by simp [rd, rdOf, hlt]⟩
     generalize rd l3 (j : Int) = h at HGET hc
     simp only [Int.toNat_natCast] at hc
     have hlk := HI.out.by_.lookup kint Tryz.underlying64 (zeroInt _) true h
     rw [byF_step] at hlk
     cases hst : stepOf cls.length r.byL h with
     | none =>
      rw [hst] at hlk
      have HST := Az.mk hst
      simp only [Option.map_none, Option.getD_none, Option.isSome_none, if_true] at hlk
      clear hst
      (gi_wp2_with ((with_reducible refine wpListIn_round ?hlo _ _ _ ?hnd ?_); (case hlo => rintro ⟨_, _, h⟩; exact h); (case hnd => rfl)))
      (((go_wp2_with (with_reducible refine hold_in ?_)); refine Hold.mk ?_))
      (gi_wp2_with ((with_reducible refine wpListIn_round ?hlo _ _ _ ?hnd ?_); (case hlo => rintro ⟨_, _, h⟩; exact h); (case hnd => rfl)))
      (((go_wp2_with (with_reducible refine hold_in ?_)); refine Hold.mk ?_))
      (gi_wp2_with ((with_reducible refine wpListIn_round ?hlo _ _ _ ?hnd ?_); (case hlo => rintro ⟨_, _, h⟩; exact h); (case hnd => rfl)))
      (((go_wp2_with (with_reducible refine hold_in ?_)); refine Hold.mk ?_))
      (gi_wp2_with ((with_reducible refine wpListIn_round ?hlo _ _ _ ?hnd ?_); (case hlo => rintro ⟨_, _, h⟩; exact h); (case hnd => rfl)))
      go_wp2_with (first | ((with_reducible refine gate_builtin (b := .append) (xs := #[.tmp 64, .tmp 66]) rfl ?_); at_builtin; refine Kd.R_append (Kd.int .i64) (w0 := w) w.heap.size rfl (.tmp 64) (.tmp 66) 31 3 (.int .i64 0) 8 rfl Tryz.underlying31 infoInt rfl (by decide) (by omega) (.slice Ah j ch) ((l3.take j).map (trimMap cls.length r.byL s.to_)) h [.int .i64 h] (fun _ => True) (fun _ => False) rfl rfl ?aP (fun _ hk => hk.elim) ?aF ?aO ?aB ?aS ?aL ?_; (case aP => exact rfl); (case aF => exact fun _ _ => trivial); (case aO => exact HH.out); (case aB => exact HI.out.reads); (case aS => exact HI.out.reads.size); (case aL => rw [HLJ.out]; have := HLB.out; have := HJ.out; omega); intro v9 w6 ho hb hg hat; obtain ⟨Av9, cv9, hv9⟩ := Kd.R_slice ho; rw [List.length_append, HLJ.out] at hv9; subst hv9; have HO6 := Az.mk ho; have HB6 := Az.mk hb; have HG6 := Az.mk hg; have HAT := Az.mk hat; have HX6 := Az.mk (bkg HX.out hg (Kd.R_ne HH.out HX.out (by decide))); have hy2 : w6.cell? ⟨w3.heap.size, 2, none⟩ = some (.slice Ah j ch) := (bkc HX6.out 2).trans rfl; have hy2f := bkf HX6.out 2; clear ho hb hg hat hxx2) | (with_reducible refine hold_in ?_))
      refine Hold.mk ?_
      (gi_wp2_with ((with_reducible refine wpListIn_round ?hlo _ _ _ ?hnd ?_); (case hlo => rintro ⟨_, _, h⟩; exact h); (case hnd => rfl)))
      go_wp2
      go_roundw
      case rel =>
       obtain ⟨ha, hr⟩ := HI.out.hadd HH.out HB6.out HG6.out HAT.out HX.out HX3.out.1 2 (.slice Av9 (j + 1) cv9) HOX.out
       have htk : (l3.take (j + 1)).map (trimMap cls.length r.byL s.to_) = (l3.take j).map (trimMap cls.length r.byL s.to_) ++ [h] := by
        rw [List.take_add_one, HGET.out, List.map_append]
        simp [trimMap, HST.out]
       refine ⟨j + 1, .slice Av9 (j + 1) cv9, by rw [wrap_succ hlt HLL.out], by omega, ⟨by simpa using ha⟩, ⟨?_⟩, ⟨?_⟩, ⟨?_⟩, ⟨by simpa using hr⟩, ⟨?_⟩⟩
       ·exact blk_put HX6.out 2 _ (by simp)
       ·simpa using Kd.R_set (Kd.R_after HCV.out HG6.out HAT.out) HX6.out (by decide) 2 (.slice Av9 (j + 1) cv9)
       ·rw [htk]; simpa using Kd.R_set HO6.out HX6.out (by decide) 2 (.slice Av9 (j + 1) cv9)
       ·have := (HNB.out.trans (NBook.grown HH.out HG6.out)).trans (NBook.set HX6.out 2 (.slice Av9 (j + 1) cv9))
        simpa using this
      case measure => exact meas_x hlt (wrap_succ hlt HLL.out)
     | some s' =>
      rw [hst] at hlk
      have HST := Az.mk hst
      simp only [Option.map_some, Option.getD_some, Option.isSome_some, if_true] at hlk
      clear hst
      have hlk2 := HI.out.to_.lookup kint Tryz.underlying64 (zeroInt _) false s'
      have HYV : Az (trimMap cls.length r.byL s.to_ h = (s.to_ s').getD 0) := ⟨by unfold trimMap; rw [HST.out]⟩
      rw [show ((toF s.to_) s').getD (.int .i64 0) = .int .i64 ((s.to_ s').getD 0) by unfold toF; cases s.to_ s' <;> rfl] at hlk2
      simp only [Bool.false_eq_true, if_false] at hlk2
      generalize (s.to_ s').getD 0 = y at HYV hlk2
      (gi_wp2_with ((with_reducible refine wpListIn_round ?hlo _ _ _ ?hnd ?_); (case hlo => rintro ⟨_, _, h⟩; exact h); (case hnd => rfl)))
      (((go_wp2_with (with_reducible refine hold_in ?_)); refine Hold.mk ?_))
      (gi_wp2_with ((with_reducible refine wpListIn_round ?hlo _ _ _ ?hnd ?_); (case hlo => rintro ⟨_, _, h⟩; exact h); (case hnd => rfl)))
      (((go_wp2_with (with_reducible refine hold_in ?_)); refine Hold.mk ?_))
      (gi_wp2_with ((with_reducible refine wpListIn_round ?hlo _ _ _ ?hnd ?_); (case hlo => rintro ⟨_, _, h⟩; exact h); (case hnd => rfl)))
      (((go_wp2_with (with_reducible refine hold_in ?_)); refine Hold.mk ?_))
      (gi_wp2_with ((with_reducible refine wpListIn_round ?hlo _ _ _ ?hnd ?_); (case hlo => rintro ⟨_, _, h⟩; exact h); (case hnd => rfl)))
      (((go_wp2_with (with_reducible refine hold_in ?_)); refine Hold.mk ?_))
      (gi_wp2_with ((with_reducible refine wpListIn_round ?hlo _ _ _ ?hnd ?_); (case hlo => rintro ⟨_, _, h⟩; exact h); (case hnd => rfl)))
      go_wp2_with (first | ((with_reducible refine gate_builtin (b := .append) (xs := #[.tmp 64, .tmp 66]) rfl ?_); at_builtin; refine Kd.R_append (Kd.int .i64) (w0 := w) w.heap.size rfl (.tmp 64) (.tmp 66) 31 3 (.int .i64 0) 8 rfl Tryz.underlying31 infoInt rfl (by decide) (by omega) (.slice Ah j ch) ((l3.take j).map (trimMap cls.length r.byL s.to_)) y [.int .i64 y] (fun _ => True) (fun _ => False) rfl rfl ?aP (fun _ hk => hk.elim) ?aF ?aO ?aB ?aS ?aL ?_; (case aP => exact rfl); (case aF => exact fun _ _ => trivial); (case aO => exact HH.out); (case aB => exact HI.out.reads); (case aS => exact HI.out.reads.size); (case aL => rw [HLJ.out]; have := HLB.out; have := HJ.out; omega); intro v9 w6 ho hb hg hat; obtain ⟨Av9, cv9, hv9⟩ := Kd.R_slice ho; rw [List.length_append, HLJ.out] at hv9; subst hv9; have HO6 := Az.mk ho; have HB6 := Az.mk hb; have HG6 := Az.mk hg; have HAT := Az.mk hat; have HX6 := Az.mk (bkg HX.out hg (Kd.R_ne HH.out HX.out (by decide))); have hy2 : w6.cell? ⟨w3.heap.size, 2, none⟩ = some (.slice Ah j ch) := (bkc HX6.out 2).trans rfl; have hy2f := bkf HX6.out 2; clear ho hb hg hat hxx2) | (with_reducible refine hold_in ?_))
      refine Hold.mk ?_
      (gi_wp2_with ((with_reducible refine wpListIn_round ?hlo _ _ _ ?hnd ?_); (case hlo => rintro ⟨_, _, h⟩; exact h); (case hnd => rfl)))
      go_wp2
      go_roundw
      case rel =>
       obtain ⟨ha, hr⟩ := HI.out.hadd HH.out HB6.out HG6.out HAT.out HX.out HX3.out.1 2 (.slice Av9 (j + 1) cv9) HOX.out
       have htk : (l3.take (j + 1)).map (trimMap cls.length r.byL s.to_) = (l3.take j).map (trimMap cls.length r.byL s.to_) ++ [y] := by
        rw [List.take_add_one, HGET.out, List.map_append]
        simp [HYV.out]
       refine ⟨j + 1, .slice Av9 (j + 1) cv9, by rw [wrap_succ hlt HLL.out], by omega, ⟨by simpa using ha⟩, ⟨?_⟩, ⟨?_⟩, ⟨?_⟩, ⟨by simpa using hr⟩, ⟨?_⟩⟩
       ·exact blk_put HX6.out 2 _ (by simp)
       ·simpa using Kd.R_set (Kd.R_after HCV.out HG6.out HAT.out) HX6.out (by decide) 2 (.slice Av9 (j + 1) cv9)
       ·rw [htk]; simpa using Kd.R_set HO6.out HX6.out (by decide) 2 (.slice Av9 (j + 1) cv9)
       ·have := (HNB.out.trans (NBook.grown HH.out HG6.out)).trans (NBook.set HX6.out 2 (.slice Av9 (j + 1) cv9))
        simpa using this
      case measure => exact meas_x hlt (wrap_succ hlt HLL.out)
    ·have hje : j = l3.length := by omega
     subst hje
     rw [List.take_length] at HH
     obtain ⟨Ah, ch, hhv⟩ := Kd.R_slice HH.out
     rw [List.length_map] at hhv
     subst hhv
     have hbo : wr.cell? ⟨w2.heap.size, 0, none⟩ = some (.slice Av s.out.length cv0) := (bkc HI.out.hbo 0).trans rfl
     have hxx0 : wr.cell? ⟨w3.heap.size, 0, none⟩ = some (.slice Ac (rd_T42 p (i : Int)).f0.length cc3) := (bkc HX.out 0).trans rfl
     have hxx1 : wr.cell? ⟨w3.heap.size, 1, none⟩ = some (.bool false) := (bkc HX.out 1).trans rfl
     have hxx2 : wr.cell? ⟨w3.heap.size, 2, none⟩ = some (.slice Ah l3.length ch) := (bkc HX.out 2).trans rfl
     have HOR : Az (Kd.R kStp 42 wr w.heap.size (fun _ => True) (.slice Av s.out.length cv0) s.out) := ⟨Kd.R_mono HI.out.out (fun _ _ => trivial)⟩
     have HMM : Az (kStp.M wr w.heap.size (fun k => True ∧ some k ≠ (Value.slice Av s.out.length cv0).ownBlock) ⟨(rd_T42 p (i : Int)).f0, false, l3.map (trimMap cls.length r.byL s.to_)⟩ [.slice Ac (rd_T42 p (i : Int)).f0.length cc3, .bool false, .slice Ah l3.length ch]) := ⟨k42_mkM wr w.heap.size _ ⟨(rd_T42 p (i : Int)).f0, false, l3.map (trimMap cls.length r.byL s.to_)⟩ (R_apart_of HCV.out HOR.out (by decide)) (R_apart_of HH.out HOR.out (by decide))⟩
     (gi_wp2_with ((with_reducible refine wpListIn_round ?hlo _ _ _ ?hnd ?_); (case hlo => rintro ⟨_, _, h⟩; exact h); (case hnd => rfl)))
     (((go_wp2_with (with_reducible refine hold_in ?_)); refine Hold.mk ?_))
     (gi_wp2_with ((with_reducible refine wpListIn_round ?hlo _ _ _ ?hnd ?_); (case hlo => rintro ⟨_, _, h⟩; exact h); (case hnd => rfl)))
     go_wp2_with (first | ((with_reducible refine gate_builtin (b := .append) (xs := #[.tmp 70, .tmp 72]) rfl ?_); at_builtin; refine Kd.R_append kStp (w0 := w) w.heap.size rfl (.tmp 70) (.tmp 72) 25 42 (.agg #[.slice none 0 0, .bool false, .slice none 0 0]) 56 rfl Tryz.underlying25 infoStep rfl (by decide) (by omega) (.slice Av s.out.length cv0) s.out ⟨(rd_T42 p (i : Int)).f0, false, l3.map (trimMap cls.length r.byL s.to_)⟩ [.slice Ac (rd_T42 p (i : Int)).f0.length cc3, .bool false, .slice Ah l3.length ch] (fun _ => True) (fun k => True ∧ some k ≠ (Value.slice Av s.out.length cv0).ownBlock) rfl rfl ?aP (fun _ hk => hk) ?aF ?aO ?aB ?aS ?aL ?_; (case aP => exact HMM.out); (case aF => exact fun _ _ => trivial); (case aO => exact HOR.out); (case aB => exact HI.out.reads); (case aS => exact HI.out.reads.size); (case aL => have := HTL.out; have := HBD.out; omega); intro v9 w6 ho hb hg hat; obtain ⟨Av9, cv9, hv9⟩ := Kd.R_slice ho; subst hv9; have HO6 := Az.mk ho; have HB6 := Az.mk hb; have HG6 := Az.mk hg; have hy2 : w6.cell? ⟨w2.heap.size, 0, none⟩ = some (.slice Av s.out.length cv0) := (bkc (bkg HI.out.hbo hg (Kd.R_ne HOR.out HI.out.hbo (by decide))) 0).trans rfl; have hy2f := bkf (bkg HI.out.hbo hg (Kd.R_ne HOR.out HI.out.hbo (by decide))) 0; clear ho hb hg hat hbo) | (with_reducible refine hold_in ?_))
     refine Hold.mk ?_
     obtain ⟨W7, hW7⟩ : ∃ W7, w6.setCell ⟨w2.heap.size, 0, none⟩ (.slice Av9 (s.out.length + 1) cv9) = W7 := ⟨_, rfl⟩
     have HI7 : Az (TrimAt w W7 w.heap.size (w.heap.size + 1) w1.heap.size w2.heap.size (w2.heap.size + 2) (w2.heap.size + 3) bm (w2.heap.size + 1) #[.int .i64 vars, .slice A1 cls.length c1] (checkedCells vars A1 cls.length c1 (some ad) p.length c2 (.slice Au r.used.length cu) bm r.en) #[.slice (some ad) p.length c2] (.slice Au r.used.length cu) (.slice Ao ord.length co) (.slice none 0 0) (.slice Av9 (s.out.length + 1) cv9) r.used ord cls.length r.byL ⟨s.out ++ [⟨(rd_T42 p (i : Int)).f0, false, l3.map (trimMap cls.length r.byL s.to_)⟩], s.to_⟩) := ⟨by
      have := HI.out.oadd HB6.out HG6.out HO6.out (by have := HSZ2.out; omega) (by have := HSZ2.out; omega)
      rw [← hW7]; simpa using this⟩
     have HNB7 : Az (NBook W W7) := ⟨by
      have h6 := bkg HI.out.hbo HG6.out (Kd.R_ne HOR.out HI.out.hbo (by decide))
      rw [← hW7]; exact (HNB.out.trans (NBook.grown HOR.out HG6.out)).trans (NBook.set h6 0 _)⟩
     rw [hW7]
     clear hW7 HI HX HCV HH HOX HNB HOR HMM HO6 HB6 HG6 hy2 hy2f hxx0 hxx1 hxx2
     have hbt : W7.cell? ⟨w2.heap.size + 2, 0, none⟩ = some (.map (some (w2.heap.size + 1))) := (bkc HI7.out.hbt 0).trans rfl
     have hbc : W7.cell? ⟨w.heap.size, 1, none⟩ = some (.slice A1 cls.length c1) := (bkc HI7.out.hbc 1).trans rfl
     have hbo : W7.cell? ⟨w2.heap.size, 0, none⟩ = some (.slice Av9 (s.out.length + 1) cv9) := (bkc HI7.out.hbo 0).trans rfl
     have hwr : wrap64 ((cls.length : Int) + ((s.out.length : Int) + 1)) = ((cls.length + s.out.length + 1 : Nat) : Int) := by
      have := HCL.out
      have := HTL.out
      have := HBD.out
      unfold wrap64; omega
     have HWR := Az.mk hwr
     clear hwr
     (gi_wp2_with ((with_reducible refine wpListIn_round ?hlo _ _ _ ?hnd ?_); (case hlo => rintro ⟨_, _, h⟩; exact h); (case hnd => rfl)))
     go_wp2_with (first | (at_mapUpdate; refine wp_store _ rfl _ _ _ 64 rfl 3 3 kint Tryz.underlying64 (w2.heap.size + 1) _ rfl HI7.out.to_ _ _ rfl rfl ?_; intro w8 hm8 ht8; have HM8 := Az.mk hm8; have HT8 := Az.mk ht8; clear hm8 ht8) | (with_reducible refine hold_in ?_))
     have hm9 : HasMap (Value.int .i64) w8 (w2.heap.size + 1) (put (toF s.to_) (i : Int) (.int .i64 (wrap64 ((cls.length : Int) + ((s.out.length : Int) + 1))))) := HM8.out
     rw [HWR.out] at hm9
     have ht9 := HI7.out.tstore hm9 HT8.out (by have := HSZ2.out; omega) (by have := HBM.out; have := HSZ2.out; omega)
     have hnb := HNB7.out.trans (NBook.turned HI7.out.to_ HT8.out)
     exact ⟨hnb.book HBK.out.1, hnb.book HBK.out.2, trivial, _, by rw [HTS.out]; exact ht9⟩
  case done =>
   rintro A ⟨vo, hI⟩ hD
   obtain ⟨Av, cv0, hvo⟩ := Kd.R_slice hI.out
   subst hvo
   have HI := Az.mk hI
   have HD := Az.mk hD
   have HF : Az (trimF cls.length p r = ((trimL p r.used cls.length r.byL ((backL ord ord.length).map Prod.snd)).out, 0)) := ⟨by rw [HORD.out, backL_snd _ _ (Nat.le_refl _), List.take_length]⟩
   clear hI hD
   generalize trimL p r.used cls.length r.byL ((backL ord ord.length).map Prod.snd) = s at HI HF ⊢
   have hbo : A.cell? ⟨w2.heap.size, 0, none⟩ = some (.slice Av s.out.length cv0) := (bkc HI.out.hbo 0).trans rfl
   go_wp2
   refine ⟨by simp, .inl ⟨_, _, rfl, run_takeDeferred HD.out, ?_⟩⟩
   refine ⟨_, results_tmp2 rfl _ _ _, .slice Av s.out.length cv0, by rw [HF.out]; rfl, by rw [HF.out]; exact Kd.R_mono (R_putObj HI.out.out HD.out rfl) (fun _ _ => trivial), ?_⟩
   exact below_putObj HI.out.reads (by have := HSZ3.out; have := HSZ2.out; omega)
 ·have HE := Az.mk he
  have he' : (r.e != 0) = true := by simpa using he
  obtain ⟨x0, B1, n1, k1, B2, n2, k2, B3, n3, k3, bm, x5, rfl⟩ := hsz
  clear hk he HOK
  go_wp2
  refine ⟨_, results_tmp2 rfl _ _ _, .slice none 0 0, ?_, ?_, ?_⟩
  ·unfold trimF; rw [if_neg HE.out]; rfl
  ·unfold trimF; rw [if_neg HE.out]; exact Kd.R_nil _ _ _ _ _
  ·exact bwt HB.out ((Below.refl _ _).alloc (Nat.le_refl _) _)
end Go.Proofs.YtogicccdngpafaaGreatDoor.NState
end
section
set_option maxRecDepth 100000
namespace Go.Proofs.YtogicccdngpafaaGreatDoor.NState
open Go Go.RowKit Go.Shelf QW.PrintWords QW.PrintLast QW.PrintMore NMap
open PSame (S42 k42 rd_T42 at_T42 k42_mkM)
theorem grown_below {W0 A B : World} {row : Option Nat} (h : W0.grownBy A row) (hb : Below A.heap.size A B) : W0.grownBy B row :=
 ⟨hb.os.trans h.os, hb.tape.trans h.tape, hb.output.trans h.output, Nat.le_trans h.size hb.size, fun k hk hne => (hb.block k (Nat.lt_of_lt_of_le hk h.size)).trans (h.block k hk hne)⟩
theorem grown_set {W0 A : World} {row : Option Nat} (h : W0.grownBy A row) {g : Nat} (hg : W0.heap.size ≤ g) (j : Nat) (u : Value) : W0.grownBy (A.setCell ⟨g, j, none⟩ u) row := by
 have hB : Below 0 A (A.setCell ⟨g, j, none⟩ u) := (Below.refl 0 A).setCell (p := ⟨g, j, none⟩) (Nat.zero_le _) u
 exact ⟨hB.os.trans h.os, hB.tape.trans h.tape, hB.output.trans h.output, Nat.le_trans h.size hB.size, fun k hk hne => (Below.heap_setCell A ⟨g, j, none⟩ u k (by show k ≠ g; omega)).trans (h.block k hk hne)⟩
theorem grown_grown {W0 A B : World} {v0 v : Value} (h : W0.grownBy A v0.ownBlock) (hat : v.ownBlock = v0.ownBlock ∨ ∃ b, v.ownBlock = some b ∧ W0.heap.size ≤ b) (hg : A.grownBy B v.ownBlock) : W0.grownBy B v0.ownBlock := by
 refine ⟨hg.os.trans h.os, hg.tape.trans h.tape, hg.output.trans h.output, Nat.le_trans h.size hg.size, fun k hk hne => (hg.block k (Nat.lt_of_lt_of_le hk h.size) ?_).trans (h.block k hk hne)⟩
 rcases hat with e | ⟨b, e, hb⟩
 ·rw [e]; exact hne
 ·rw [e]; intro he; have := Option.some.inj he; omega
theorem at_at {W0 A : World} {v0 v v' : Value} (hs : W0.heap.size ≤ A.heap.size) (hat : v.ownBlock = v0.ownBlock ∨ ∃ b, v.ownBlock = some b ∧ W0.heap.size ≤ b) (hat' : v'.ownBlock = v.ownBlock ∨ ∃ b, v'.ownBlock = some b ∧ A.heap.size ≤ b) : v'.ownBlock = v0.ownBlock ∨ ∃ b, v'.ownBlock = some b ∧ W0.heap.size ≤ b := by
 rcases hat' with e | ⟨b, e, hb⟩
 ·rw [e]; exact hat
 ·exact .inr ⟨b, e, by omega⟩
theorem below_nw (W : World) (o : Obj) : Below W.heap.size W (W.alloc o) := (Below.refl _ _).alloc (Nat.le_refl _) _
structure GrowAt (w0 W0 W : World) (c0 gx : Nat) (cc cx : Array Value) (vn vA vp0 vp : Value) (ok : Nat → Prop) (nA A : List Int) (p : List Stp) : Prop where
 reads : Below w0.heap.size w0 W
 grown : W0.grownBy W vp0.ownBlock
 at_ : vp.ownBlock = vp0.ownBlock ∨ ∃ b, vp.ownBlock = some b ∧ W0.heap.size ≤ b
 gxl : W0.heap.size ≤ gx
 hbc : W.heap[c0]? = some (.cells cc 24 (0, 0))
 hbx : W.heap[gx]? = some (.cells cx 42 (0, 0))
 neg : Kd.R (Kd.int .i64) 3 W w0.heap.size (fun k => W0.heap.size ≤ k) vn nA
 lits : Kd.R (Kd.int .i64) 3 W w0.heap.size (fun _ => True) vA A
 p : Kd.R kStp 42 W w0.heap.size (fun k => ok k ∧ k ≠ gx) vp p
section
variable {w0 W0 W B : World} {c0 gx : Nat} {cc cx : Array Value} {vn vA vp0 vp : Value} {ok : Nat → Prop} {nA A : List Int} {p : List Stp}
theorem GrowAt.below (h : GrowAt w0 W0 W c0 gx cc cx vn vA vp0 vp ok nA A p) (hb : Below W.heap.size W B) : GrowAt w0 W0 B c0 gx cc cx vn vA vp0 vp ok nA A p :=
 ⟨bwt h.reads hb, grown_below h.grown hb, h.at_, h.gxl, blk_below h.hbc hb, blk_below h.hbx hb, Kd.R_below h.neg hb, Kd.R_below h.lits hb, Kd.R_below h.p hb⟩
theorem GrowAt.set (h : GrowAt w0 W0 W c0 gx cc cx vn vA vp0 vp ok nA A p) (h0 : w0.heap.size ≤ W0.heap.size) (j : Nat) (u : Value) : GrowAt w0 W0 (W.setCell ⟨gx, j, none⟩ u) c0 gx cc (cx.setIfInBounds j u) vn vA vp0 vp ok nA A p :=
 ⟨bws h.reads (Nat.le_trans h0 h.gxl), grown_set h.grown h.gxl j u, h.at_, h.gxl, blk_far h.hbc (cells_ne h.hbc h.hbx (by decide)) u, blk_put h.hbx j u rfl, Kd.R_set h.neg h.hbx (by decide) j u, Kd.R_set h.lits h.hbx (by decide) j u, Kd.R_far (p := ⟨gx, j, none⟩) h.p (fun _ hk => hk.2) u⟩
theorem GrowAt.next (h : GrowAt w0 W0 W c0 gx cc cx vn vA vp0 vp ok nA A p) {v' : Value} {p' : List Stp} (hb : Below w0.heap.size w0 B) (hp : Kd.R kStp 42 B w0.heap.size (fun k => ok k ∧ k ≠ gx) v' p') (hg : W.grownBy B vp.ownBlock) (hat : v'.ownBlock = vp.ownBlock ∨ ∃ b, v'.ownBlock = some b ∧ W.heap.size ≤ b) :
  GrowAt w0 W0 B c0 gx cc cx vn vA vp0 v' ok nA A p' :=
 ⟨hb, grown_grown h.grown h.at_ hg, at_at h.grown.size h.at_ hat, h.gxl, bkg h.hbc hg (Kd.R_ne h.p h.hbc (by decide)), bkg h.hbx hg (fun he => (h.p.1 gx he.symm).2 rfl), Kd.R_over' h.neg (Kd.R_typed h.p) (by decide) hg, Kd.R_over' h.lits (Kd.R_typed h.p) (by decide) hg, hp⟩
end
def growR6.T : Bool × List (List Nat × List Nat) := (true, [([], []), ([], []), ([1], [1]), ([2], [2]), ([], []), ([4], [4]), ([3, 5], [3, 5]), ([0, 0], [0]), ([6, 7, 0, 1, 2, 3, 4, 5, 6, 7], [6]), ([8, 0, 1, 2, 3, 4, 5, 6, 7, 8], [])])
def growR6.B : List Nat := [0, 0, 2, 6, 0, 16, 62, 1, 255, 511]
theorem growR6.tab : rtab .any (opsOf Tryz.f47 6) = growR6.T := by kernel_rfl
theorem growR6.bits : waitsOk growR6.T.2 growR6.B = true := by kernel_rfl
def growR21.T : Bool × List (List Nat × List Nat) := (true, [([], []), ([], []), ([1], [1]), ([2], [2]), ([], []), ([4], [4]), ([3, 5], [3, 5]), ([0, 0], [0]), ([6, 7, 0, 1, 2, 3, 4, 5, 6, 7], [6]), ([8, 0, 1, 2, 3, 4, 5, 6, 7, 8], [])])
def growR21.B : List Nat := [0, 0, 2, 6, 0, 16, 62, 1, 255, 511]
theorem growR21.tab : rtab .any (opsOf Tryz.f47 21) = growR21.T := by kernel_rfl
theorem growR21.bits : waitsOk growR21.T.2 growR21.B = true := by kernel_rfl
end Go.Proofs.YtogicccdngpafaaGreatDoor.NState
end
