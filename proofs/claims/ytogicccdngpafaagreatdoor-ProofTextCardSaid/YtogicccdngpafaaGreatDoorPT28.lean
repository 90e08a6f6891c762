/-
  Part 28 of the proof of proofText_card: walks and lemmas, packed by the session's own wip/pack.py out of its texts and of what the kit's print.sh printed.
-/
import Derived.Test.YtogicccdngpafaaGreatDoorPT19
import Derived.Test.YtogicccdngpafaaGreatDoorPT20
import Derived.Test.YtogicccdngpafaaGreatDoorPT7
import Derived.Test.YtogicccdngpafaaGreatDoorPT8
import Derived.Test.YtogicccdngpafaaGreatDoorPT24
set_option linter.unusedVariables false
set_option linter.unusedSimpArgs false
section
set_option maxHeartbeats 2000000
set_option maxRecDepth 100000
namespace Go.Proofs.YtogicccdngpafaaGreatDoor.NState
open Go Go.RowKit Go.Shelf QW.PrintWords QW.PrintLast QW.PrintMore NMap
open PCheck (cnf_Check.f cnf_Check.calls rL at_L1)
open PSame (S42 k42 rd_T42 at_T42 k42_mk)
theorem C_lit {α : Type} (d : Kd α) (W : World) (e : TypeId) (xs : List α) (inner : List Value) (hr : Reps (d.K W) d.sz xs inner) (hm : xs.length ≤ 1000000) : d.C (W.alloc (.cells inner.toArray e)) (some ⟨W.heap.size, 0, none⟩) xs.length xs := by
 have hb : Below W.heap.size W (W.alloc (.cells inner.toArray e)) := (Below.refl _ _).alloc (Nat.le_refl _) _
 have h := OwnRow.lit (e := e) W W.heap.size (hr.imp_ (fun p c hp => d.K_below hb hp)) (Nat.le_refl _) (by omega)
 obtain ⟨A, c, he, _, hread⟩ := h.reads
 cases he
 exact hread
theorem C_ints (W : World) (xs : List Int) (cs : Array Value) (h : cs = (encs (Value.int .i64) xs).toArray) (hm : xs.length ≤ 1000000) : (Kd.int .i64).C (W.alloc (.cells cs 3)) (some ⟨W.heap.size, 0, none⟩) xs.length xs := by
 subst h
 exact C_lit (Kd.int .i64) W 3 xs _ (Kd.reps_scalar xs) hm
def sq : List (List Int) := [[1, 2], [1, -2], [-1, 2], [-1, -2]]
def SquarePost (w : World) (e : Ending) (w' : World) : Prop := ∃ A, e = .returned (.agg #[.int .i64 2, .slice A 4 4]) ∧ Kd.C (Kd.slice 3 (Kd.int .i64)) w' A sq.length sq ∧ Below w.heap.size w w'
theorem blk_alloc_at {W : World} {g : Nat} (h : W.heap.size = g) (o : Obj) : (W.alloc o).heap[g]? = some o := by subst h; exact blk_new W o
theorem square_calls (w : World) : Calls Tryz.prog 32 #[] w (SquarePost w) := by
 have hu24 := Tryz.underlying24
 go_enter Tryz.func32, Tryz.ntmps32
 go_wp2
 obtain ⟨W1, hW1⟩ : ∃ W1, w.alloc (.cells #[.int .i64 2, .slice (some ⟨w.heap.size + 1 + 1 + 1 + 1 + 1, 0, none⟩) 4 4] 24) = W1 := ⟨_, rfl⟩
 rw [hW1]
 have z1 : W1.heap.size = w.heap.size + 1 := by rw [← hW1]; simp
 have b1 : W1.heap[w.heap.size]? = some (.cells #[.int .i64 2, .slice (some ⟨w.heap.size + 1 + 1 + 1 + 1 + 1, 0, none⟩) 4 4] 24 (0, 0)) := by rw [← hW1]; exact blk_new w _
 have l1 : Below w.heap.size w W1 := by rw [← hW1]; exact (Below.refl _ _).alloc (Nat.le_refl _) _
 have k1 := C_ints W1 [1, 2] #[.int .i64 1, .int .i64 2] rfl (by decide)
 have k2 := C_ints (W1.alloc (.cells #[.int .i64 1, .int .i64 2] 3)) [1, -2] #[.int .i64 1, .int .i64 (-2)] rfl (by decide)
 have k3 := C_ints ((W1.alloc (.cells #[.int .i64 1, .int .i64 2] 3)).alloc (.cells #[.int .i64 1, .int .i64 (-2)] 3)) [-1, 2] #[.int .i64 (-1), .int .i64 2] rfl (by decide)
 have k4 := C_ints (((W1.alloc (.cells #[.int .i64 1, .int .i64 2] 3)).alloc (.cells #[.int .i64 1, .int .i64 (-2)] 3)).alloc (.cells #[.int .i64 (-1), .int .i64 2] 3)) [-1, -2] #[.int .i64 (-1), .int .i64 (-2)] rfl (by decide)
 replace k1 := Kd.C_alloc (Kd.C_alloc (Kd.C_alloc k1 (.cells #[.int .i64 1, .int .i64 (-2)] 3)) (.cells #[.int .i64 (-1), .int .i64 2] 3)) (.cells #[.int .i64 (-1), .int .i64 (-2)] 3)
 replace k2 := Kd.C_alloc (Kd.C_alloc k2 (.cells #[.int .i64 (-1), .int .i64 2] 3)) (.cells #[.int .i64 (-1), .int .i64 (-2)] 3)
 replace k3 := Kd.C_alloc k3 (.cells #[.int .i64 (-1), .int .i64 (-2)] 3)
 simp only [World.size_alloc, z1] at k1 k2 k3 k4
 obtain ⟨W5, hW5⟩ : ∃ W5, (((W1.alloc (.cells #[.int .i64 1, .int .i64 2] 3)).alloc (.cells #[.int .i64 1, .int .i64 (-2)] 3)).alloc (.cells #[.int .i64 (-1), .int .i64 2] 3)).alloc (.cells #[.int .i64 (-1), .int .i64 (-2)] 3) = W5 := ⟨_, rfl⟩
 have z5 : W5.heap.size = w.heap.size + 1 + 1 + 1 + 1 + 1 := by rw [← hW5]; simp [z1]
 have l5 : Below W1.heap.size W1 W5 := by
  rw [← hW5]; exact ((((Below.refl W1.heap.size _).alloc (Nat.le_refl _) _).alloc (by simp) _).alloc (by simp; omega) _).alloc (by simp; omega) _
 rw [hW5] at k1 k2 k3 k4 ⊢
 have hreps : Reps ((Kd.slice 3 (Kd.int .i64)).K W5) 1 sq [.slice (some ⟨w.heap.size + 1, 0, none⟩) 2 2, .slice (some ⟨w.heap.size + 1 + 1, 0, none⟩) 2 2, .slice (some ⟨w.heap.size + 1 + 1 + 1, 0, none⟩) 2 2, .slice (some ⟨w.heap.size + 1 + 1 + 1 + 1, 0, none⟩) 2 2] :=
  ((((Reps.none ((Kd.slice 3 (Kd.int .i64)).K W5) 1).snoc (p := [1, 2]) ⟨_, 2, rfl, Nat.le_refl _, k1⟩ rfl).snoc (p := [1, -2]) ⟨_, 2, rfl, Nat.le_refl _, k2⟩ rfl).snoc (p := [-1, 2]) ⟨_, 2, rfl, Nat.le_refl _, k3⟩ rfl).snoc (p := [-1, -2]) ⟨_, 2, rfl, Nat.le_refl _, k4⟩ rfl
 have kk := C_lit (Kd.slice 3 (Kd.int .i64)) W5 31 sq _ hreps (by decide)
 rw [z5] at kk
 refine bodyPost_ret (results_cell_row rfl _ _ w.heap.size 24 #[.int .i64 2, .slice (some ⟨w.heap.size + 1 + 1 + 1 + 1 + 1, 0, none⟩) 4 4] (0, 0) _ rfl (bka (blk_below b1 l5) _) hu24 rfl (by kernel_rfl)) rfl ?_
 exact ⟨_, rfl, kk, (bwt l1 l5).alloc (by omega) _⟩
theorem lawAdd_calls (A0 : Option Addr) (n0 c0 : Nat) (A2 : Option Addr) (n2 c2 : Nat) (w : World) : Calls Tryz.prog 29 #[.slice A0 n0 c0, .slice A2 n2 c2] w fun e w' => e = .returned (.agg #[.slice A0 n0 c0, .bool false, .slice A2 n2 c2]) ∧ Below w.heap.size w w' := by
 have hu45 := Tryz.underlying42
 go_enter Tryz.func29, Tryz.ntmps29
 go_wp2
 have BU := blk_new w (.cells #[.slice A0 n0 c0, .bool false, .slice A2 n2 c2] 42)
 refine bodyPost_ret (results_cell_row rfl _ _ w.heap.size 42 #[.slice A0 n0 c0, .bool false, .slice A2 n2 c2] (0, 0) _ rfl BU hu45 rfl (by kernel_rfl)) rfl ?_
 exact ⟨rfl, (Below.refl _ _).alloc (Nat.le_refl _) _⟩
theorem lawGone_calls (A2 : Option Addr) (n2 c2 : Nat) (w : World) : Calls Tryz.prog 31 #[.slice A2 n2 c2] w fun e w' => e = .returned (.agg #[.slice none 0 0, .bool true, .slice A2 n2 c2]) ∧ Below w.heap.size w w' := by
 have hu45 := Tryz.underlying42
 go_enter Tryz.func31, Tryz.ntmps31
 go_wp2
 have BU := blk_new w (.cells #[.slice none 0 0, .bool true, .slice A2 n2 c2] 42)
 refine bodyPost_ret (results_cell_row rfl _ _ w.heap.size 42 #[.slice none 0 0, .bool true, .slice A2 n2 c2] (0, 0) _ rfl BU hu45 rfl (by kernel_rfl)) rfl ?_
 exact ⟨rfl, (Below.refl _ _).alloc (Nat.le_refl _) _⟩
def CheckedPost (w : World) (b : Bool) (e : Ending) (w' : World) : Prop := e = .returned (.bool b) ∧ Below w.heap.size w w'
theorem checked_calls (k : Nat) (at_ e0 : Int) (A : Option Addr) (c : Nat) (p : List Stp) (r : RunR) (w : World) (hC : Kd.C kStp w A p.length p) (hc : p.length ≤ c) (h : runF k 2 sq p = some r) :
  Calls Tryz.prog 30 #[.int .i64 at_, .int .i64 e0, .slice A p.length c] w (CheckedPost w (decide (r.at_ = at_) && decide (r.e = e0))) := by
 have HC := Az.mk hC
 have HH := Az.mk h
 have HCL := Az.mk hc
 clear hC h hc
 go_enter Tryz.func30, Tryz.ntmps30
 go_wp2_with fail
 refine (square_calls w).mono ?_
 rintro e w1 ⟨As, rfl, hs, hb1⟩
 have HS := Az.mk hs
 have HB1 := Az.mk hb1
 clear hs hb1
 go_wp2_with fail
 refine (check_calls k 2 As 4 sq A c p r w1 HS.out (by decide) (Kd.C_below HC.out HB1.out) HCL.out HH.out (by decide)).mono ?_
 rintro e w2 ⟨rfl, hb2⟩
 have HB2 := Az.mk (bwt HB1.out hb2)
 clear hb2
 by_cases h1 : r.at_ = at_
 ·have h1' : (r.at_ == at_) = true := by simpa using h1
  have HD : Az (decide (r.at_ = at_) = true) := ⟨decide_eq_true h1⟩
  go_wp2
  go_ret
  refine ⟨?_, HB2.out⟩
  rw [HD.out, Bool.true_and]; rfl
 ·have h1' : (r.at_ == at_) = false := by simpa using h1
  have HD : Az (decide (r.at_ = at_) = false) := ⟨decide_eq_false h1⟩
  go_wp2
  go_ret
  refine ⟨?_, HB2.out⟩
  rw [HD.out]; rfl
end Go.Proofs.YtogicccdngpafaaGreatDoor.NState
end
section
set_option maxRecDepth 100000
namespace Go.Proofs.YtogicccdngpafaaGreatDoor.NState
open Go Go.RowKit Go.Shelf QW.PrintWords QW.PrintLast QW.PrintMore NMap
open PSame (S42 k42 rd_T42 at_T42 k42_mk)
structure Filled (a0 : Act) (L : List Nat) (b : Nat → Bool) (v : Nat → Value) (a : Act) : Prop where
 defers : a.defers = a0.defers
 size : a.tmps.size = a0.tmps.size
 other : ∀ t, L.contains t = false → a.tmps[t]? = a0.tmps[t]?
 slot : ∀ i t, L[i]? = some t → a.tmps[t]? = if b i = true then some (v i) else a0.tmps[t]?
theorem Filled.start (a0 : Act) (L : List Nat) (v : Nat → Value) : Filled a0 L (fun _ => false) v a0 := ⟨rfl, rfl, fun _ _ => rfl, fun i t h => by simp⟩
theorem Filled.put {a0 a : Act} {L : List Nat} {b : Nat → Bool} {v : Nat → Value} (h : Filled a0 L b v a) (hn : L.Nodup) {i t : Nat} (hi : L[i]? = some t) (ht : t < a0.tmps.size) (u : Value) : Filled a0 L (up b i) (fun j => if j = i then u else v j) (a.put (some t) u) := by
 refine ⟨h.defers, by simp [Act.put, h.size], fun s hs => ?_, fun j s hj => ?_⟩
 ·have hne : t ≠ s := by
   rintro rfl
   have : t ∈ L := List.mem_of_getElem? hi
   rw [List.contains_iff_mem.2 this] at hs
   cases hs
  simp only [Act.put, Array.getElem?_setIfInBounds_ne hne]
  exact h.other s hs
 ·by_cases hji : j = i
  ·subst hji
   rw [hi] at hj
   cases hj
   have hlt : t < a.tmps.size := by rw [h.size]; exact ht
   rw [up_self]
   simp [Act.put, hlt]
  ·have hne : t ≠ s := by
    rintro rfl
    obtain ⟨h1, h2⟩ := List.getElem?_eq_some_iff.1 hi
    obtain ⟨h3, h4⟩ := List.getElem?_eq_some_iff.1 hj
    exact hji ((List.getElem_inj hn).1 (h4.trans h2.symm))
   rw [up_ne hji]
   simp only [Act.put, Array.getElem?_setIfInBounds_ne hne, if_neg hji]
   exact h.slot j s hj
def fillAll (a0 : Act) (L : List Nat) (v : Nat → Value) : Act := { tmps := ((List.range a0.tmps.size).map fun t => match L.idxOf? t with | some i => v i | none => a0.tmps.getD t undef).toArray, defers := a0.defers }
theorem Filled.all {a0 a : Act} {L : List Nat} {b : Nat → Bool} {v : Nat → Value} (h : Filled a0 L b v a) (hb : ∀ i, i < L.length → b i = true) : a = fillAll a0 L v := by
 obtain ⟨tm, df⟩ := a
 obtain ⟨h1, h2, h3, h4⟩ := h
 simp only at h1 h2 h3 h4
 unfold fillAll
 rw [h1]
 congr 1
 apply Array.ext_getElem?
 intro t
 have e0 : ∀ l : List Value, l.toArray[t]? = l[t]? := fun l => by simp
 refine Eq.trans ?_ (e0 _).symm
 rw [List.getElem?_map]
 by_cases ht : t < a0.tmps.size
 ·rw [List.getElem?_range ht]
  simp only [Option.map_some]
  cases hi : L.idxOf? t with
  | none =>
   have hc : L.contains t = false := by
    rw [List.idxOf?_eq_none_iff] at hi
    cases hq : L.contains t with
    | false => rfl
    | true => exact absurd (List.contains_iff_mem.1 hq) hi
   rw [h3 t hc]
   simp [Array.getD, ht]
  | some i =>
   have hg : L[i]? = some t := by
    rw [List.idxOf?_eq_some_iff] at hi
    obtain ⟨hl, he, _⟩ := hi
    rw [List.getElem?_eq_getElem hl, he]
   have hl := (List.getElem?_eq_some_iff.1 hg).1
   rw [h4 i t hg, if_pos (hb i hl)]
 ·rw [Array.getElem?_eq_none (by omega), List.getElem?_eq_none (by simp; omega)]
  rfl
inductive Sp where
 | ints (l : List Int)
 | step (x : Stp)
 | steps (xs : List Stp)
 | bool (b : Bool)
 | cnf
 | int (n : Int)
 | tupSteps (xs : List Stp) (n : Int)
 | tupInts (l : List Int) (n : Int)
def Sp.holds : Sp → World → Value → Prop
 | .ints l, w, v => ∃ A c, v = .slice A l.length c ∧ l.length ≤ c ∧ (Kd.int .i64).C w A l.length l
 | .step x, w, v => ∃ A0 c0 A2 c2, v = .agg #[.slice A0 x.f0.length c0, .bool x.f1, .slice A2 x.f2.length c2] ∧ kStp.K w x [.slice A0 x.f0.length c0, .bool x.f1, .slice A2 x.f2.length c2]
 | .steps xs, w, v => ∃ A c, v = .slice A xs.length c ∧ xs.length ≤ c ∧ kStp.C w A xs.length xs
 | .bool b, _, v => v = .bool b
 | .cnf, w, v => ∃ A, v = .agg #[.int .i64 2, .slice A 4 4] ∧ Kd.C (Kd.slice 3 (Kd.int .i64)) w A sq.length sq
 | .int n, _, v => v = .int .i64 n
 | .tupSteps xs n, w, v => ∃ A c, v = .tuple #[.slice A xs.length c, .int .i64 n] ∧ xs.length ≤ c ∧ kStp.C w A xs.length xs
 | .tupInts l n, w, v => ∃ A c, v = .tuple #[.slice A l.length c, .int .i64 n] ∧ l.length ≤ c ∧ (Kd.int .i64).C w A l.length l
theorem Sp.holds.below {s : Sp} {w w' : World} {v : Value} (h : s.holds w v) (hb : Below w.heap.size w w') : s.holds w' v := by
 cases s with
 | ints l => obtain ⟨A, c, h1, h2, h3⟩ := h; exact ⟨A, c, h1, h2, Kd.C_below h3 hb⟩
 | step x => obtain ⟨A0, c0, A2, c2, h1, h2⟩ := h; exact ⟨A0, c0, A2, c2, h1, kStp.K_below hb h2⟩
 | steps xs => obtain ⟨A, c, h1, h2, h3⟩ := h; exact ⟨A, c, h1, h2, Kd.C_below h3 hb⟩
 | bool b => exact h
 | cnf => obtain ⟨A, h1, h2⟩ := h; exact ⟨A, h1, Kd.C_below h2 hb⟩
 | int n => exact h
 | tupSteps xs n => obtain ⟨A, c, h1, h2, h3⟩ := h; exact ⟨A, c, h1, h2, Kd.C_below h3 hb⟩
 | tupInts l n => obtain ⟨A, c, h1, h2, h3⟩ := h; exact ⟨A, c, h1, h2, Kd.C_below h3 hb⟩
def Rel (W : World) (a0 : Act) (L : List Nat) (tab : List Sp) (b : Nat → Bool) (a : Act) (w : World) : Prop :=
 ∃ v, Filled a0 L b v a ∧ Below W.heap.size W w ∧ ∀ i s, tab[i]? = some s → b i = true → s.holds w (v i)
theorem Rel.start (W : World) (a0 : Act) (L : List Nat) (tab : List Sp) : Rel W a0 L tab (fun _ => false) a0 W := ⟨fun _ => undef, Filled.start _ _ _, Below.refl _ _, fun _ _ _ h => by cases h⟩
theorem Rel.put {W w w' : World} {a0 a : Act} {L : List Nat} {tab : List Sp} {b : Nat → Bool} (h : Rel W a0 L tab b a w) {i t : Nat} {s : Sp} {u : Value} (hn : L.Nodup) (hi : L[i]? = some t) (ht : t < a0.tmps.size) (hs : tab[i]? = some s) (hb : Below w.heap.size w w') (hu : s.holds w' u) :
  Rel W a0 L tab (up b i) (a.put (some t) u) w' := by
 obtain ⟨v, h1, h2, h3⟩ := h
 refine ⟨_, h1.put hn hi ht u, bwt h2 hb, fun j s' hj hbj => ?_⟩
 by_cases hji : j = i
 ·subst hji
  rw [hs] at hj
  cases hj
  rw [if_pos rfl]; exact hu
 ·rw [up_ne hji] at hbj
  rw [if_neg hji]
  exact (h3 j s' hj hbj).below hb
theorem Rel.get {W w : World} {a0 a : Act} {L : List Nat} {tab : List Sp} {b : Nat → Bool} (h : Rel W a0 L tab b a w) {i t : Nat} {s : Sp} (hb : b i = true) (hi : L[i]? = some t) (hs : tab[i]? = some s) : ∃ u, a.tmps[t]? = some u ∧ s.holds w u := by
 obtain ⟨v, h1, _, h3⟩ := h
 exact ⟨v i, by rw [h1.slot i t hi, if_pos hb], h3 i s hs hb⟩
theorem Rel.elder {W w : World} {a0 a : Act} {L : List Nat} {tab : List Sp} {b : Nat → Bool} (h : Rel W a0 L tab b a w) {t : Nat} {u : Value} (hc : L.contains t = false) (hu : a0.tmps[t]? = some u) : a.tmps[t]? = some u := by
 obtain ⟨v, h1, _⟩ := h
 rw [h1.other t hc]; exact hu
theorem Rel.reads {W w : World} {a0 a : Act} {L : List Nat} {tab : List Sp} {b : Nat → Bool} (h : Rel W a0 L tab b a w) : Below W.heap.size W w := h.choose_spec.2.1
section
variable {P : Program} {ops : Array Oper} {Q : Exit → Act → World → Prop} {oi : Oper} {N : Option Tmp} {a : Act} {w : World} {K : Act → World → Prop}
theorem call_ {f : FuncId} {args : Array Value} {R : Ending → World → Prop} (hw : Region.wanted oi (yielded ops a.tmps) = true) (hN : oi.dst = N) (hrun : (execOp a.eval oi).run P w = .ok (.enter f args) w) (hc : Calls P f args w R) (h : ∀ e w', R e w' → ∃ v, e = .returned v ∧ K (a.put N v) w') :
  if Region.wanted oi (yielded ops a.tmps) = true then Oper.wp P oi a w K Q else K (a.put N undef) w := by
 subst hN
 rw [if_pos hw]
 unfold Oper.wp
 rw [hrun]
 refine hc.mono ?_
 intro e w' hr
 obtain ⟨v, rfl, hk⟩ := h e w' hr
 exact hk
end
theorem K_step (w : World) (x : Stp) {v0 v2 : Value} (h0 : (Sp.ints x.f0).holds w v0) (h2 : (Sp.ints x.f2).holds w v2) : (Sp.step x).holds w (.agg #[v0, .bool x.f1, v2]) := by
 obtain ⟨A0, c0, rfl, l0, g0⟩ := h0
 obtain ⟨A2, c2, rfl, l2, g2⟩ := h2
 exact ⟨A0, c0, A2, c2, rfl, k42_mk w x l0 g0 l2 g2⟩
theorem ints_nil (w : World) : (Sp.ints []).holds w (.slice none 0 0) := ⟨none, 0, rfl, Nat.le_refl _, Kd.C_nil _ _⟩
theorem ints_lit (w : World) (l : List Int) (cs : Array Value) (h : cs = (encs (Value.int .i64) l).toArray) (hm : l.length ≤ 1000000) : (Sp.ints l).holds (w.alloc (.cells cs 3)) (.slice (some ⟨w.heap.size, 0, none⟩) l.length l.length) :=
 ⟨_, _, rfl, Nat.le_refl _, C_ints w l cs h hm⟩
theorem below_new (w : World) (o : Obj) : Below w.heap.size w (w.alloc o) := (Below.refl _ _).alloc (Nat.le_refl _) _
end Go.Proofs.YtogicccdngpafaaGreatDoor.NState
end
section
set_option maxHeartbeats 1000000
set_option maxRecDepth 100000
namespace Go.Proofs.YtogicccdngpafaaGreatDoor.NState
open Go Go.RowKit Go.Shelf QW.PrintWords QW.PrintLast QW.PrintMore NMap
open PCheck (cnf_Check.f)
open PSame (S42 k42 rd_T42 at_T42 k42_mk)
def one_ : Stp := ⟨[1], false, [1, 2]⟩
def end_ : Stp := ⟨[], false, [5, 3, 4]⟩
theorem sq_check : cnf_Check.f 50 2 sq = some 0 := by kernel_rfl
theorem run_sq (p : List Stp) (h : p.length ≤ 65536) : runF 50 2 sq p = some (runL 2 (sq.map some) [] [] (-1) 0 p) := by
 unfold runF
 rw [sq_check]
 simp [h]
def awT2 : Bool × List (List Nat × List Nat) := (true, [([], []), ([], []), ([0, 1], [0, 1]), ([2], [2]), ([3], [3]), ([4, 3], [4]), ([5], [5]), ([5], [5]), ([7, 5, 5], [5, 7]), ([6, 8, 5], [5, 6, 8]), ([9, 8, 5], [5, 9]), ([10, 5], [5, 10]), ([5, 11], [5, 11]), ([12, 10], [12]), ([13], [13]), ([13], [13]), ([14, 15, 13, 13], [13, 14, 15]), ([13], [13]), ([16, 17, 13], [13, 16, 17]), ([18, 16, 13], [13, 18]), ([19, 13], [13, 19]), ([13, 20], [13, 20]), ([21, 19], [21]), ([22], [22]), ([22], [22]), ([24, 22, 22], [22, 24]), ([22], [22]), ([22], [22]), ([22], [22]), ([27, 28, 25, 22], [22, 27, 28]), ([23, 25, 26, 29, 22], [22, 23, 25, 26, 29]), ([30, 29, 22], [22, 30]), ([31, 22], [22, 31]), ([22, 32], [22, 32]), ([33, 31], [33]), ([34], [34]), ([35, 34], [34, 35]), ([36, 34, 34], [34, 36]), ([37, 34], [34, 37]), ([34, 38], [34, 38]), ([39, 37], [39]), ([40], [40]), ([40], [40]), ([41, 42, 40, 40], [40, 41, 42]), ([43, 40], [40, 43]), ([44, 43, 40], [40, 44]), ([45, 40], [40, 45]), ([40, 46], [40, 46])])
def awB2 : List Nat := [0, 0, 3, 7, 15, 31, 63, 63, 191, 511, 1023, 2047, 4095, 8191, 16383, 16383, 65535, 16383, 262143, 524287, 1048575, 2097151, 4194303, 8388607, 8388607, 25165823, 8388607, 8388607, 8388607, 461373439, 1073741823, 2147483647, 4294967295, 8589934591, 17179869183, 34359738367, 68719476735, 137438953471, 274877906943, 549755813887, 1099511627775, 2199023255551, 2199023255551, 8796093022207, 17592186044415, 35184372088831, 70368744177663, 140737488355327]
theorem awtab2 : rtab .any (opsOf Tryz.f20 2) = awT2 := by kernel_rfl
theorem awbits2 : waitsOk awT2.2 awB2 = true := by kernel_rfl
def awL2 : List Nat := List.range' 18 48
def awO2 : List Nat := [0, 1, 2, 3, 4, 5, 6, 7, 8, 9, 10, 11, 12, 13, 14, 15, 16, 17, 18, 19, 20, 21, 22, 23, 24, 25, 26, 27, 28, 29, 30, 31, 32, 33, 34, 35, 36, 37, 38, 39, 40, 41, 42, 43, 44, 45, 46, 47]
def awtb2 : List Sp := [.step one_, .step end_, .steps [one_, end_], .bool true, .bool false, .bool false, .step one_, .ints [5, 4, 3], .step ⟨[], false, [5, 4, 3]⟩, .steps [one_, ⟨[], false, [5, 4, 3]⟩], .bool true, .bool false, .bool false, .bool false, .ints [1], .ints [3, 4], .step ⟨[1], false, [3, 4]⟩, .step end_, .steps [⟨[1], false, [3, 4]⟩, end_], .bool true, .bool false, .bool false, .bool false, .step one_, .ints [1], .step ⟨[], true, [1]⟩, .step end_, .ints [2], .ints [1], .step ⟨[2], false, [1]⟩, .steps [one_, ⟨[], true, [1]⟩, end_, ⟨[2], false, [1]⟩], .bool true, .bool false, .bool false, .bool false, .step one_, .steps [one_], .bool true, .bool false, .bool false, .bool false, .ints [5], .ints [1], .step ⟨[5], false, [1]⟩, .steps [⟨[5], false, [1]⟩], .bool true, .bool false, .bool false]
theorem awnd2 : awL2.Nodup := by decide
structure Aw2 (W : World) (a0 : Act) (g1 g2 : Nat) (v10 v12 v20 v22 : Value) : Prop where
 size : a0.tmps.size = 143
 s1 : a0.tmps[1]? = some (.pointer (some ⟨g1, 0, none⟩))
 s2 : a0.tmps[2]? = some (.pointer (some ⟨g2, 0, none⟩))
 b1 : W.heap[g1]? = some (.cells #[v10, .bool false, v12] 42 (0, 0))
 b2 : W.heap[g2]? = some (.cells #[v20, .bool false, v22] 42 (0, 0))
 k1 : (Sp.step one_).holds W (.agg #[v10, .bool false, v12])
 k2 : (Sp.step end_).holds W (.agg #[v20, .bool false, v22])
section
variable {W : World} {a0 : Act} {g1 g2 : Nat} {v10 v12 v20 v22 : Value} {Q : Exit → Act → World → Prop}
abbrev AwStep (W : World) (a0 : Act) (Q : Exit → Act → World → Prop) (i : Nat) : Prop := StepAt Tryz.prog (opsOf Tryz.f20 2) Q awB2 awO2 (Rel W a0 awL2 awtb2) i
theorem aw2_0 (H : Aw2 W a0 g1 g2 v10 v12 v20 v22) : AwStep W a0 Q 0 := by
 intro b a w h hb_ hon hoff
 obtain ⟨oi, hoi, hop, hdst, hgd, hty⟩ : ∃ oi, (opsOf Tryz.f20 2)[0]? = some oi ∧ oi.op = .load 42 (.tmp 1) ∧ oi.dst = some 18 ∧ oi.guard = none ∧ oi.type = 42 := ⟨_, rfl, by kernel_rfl, by kernel_rfl, by kernel_rfl, by kernel_rfl⟩
 refine ⟨oi, hoi, fun K hK => ?_⟩
 have e1 := h.elder (t := 1) (by rfl) H.s1
 have hb := blk_below H.b1 h.reads
 have hx0 : w.cell? ⟨g1, 0, none⟩ = some v10 := (bkc hb 0).trans rfl
 have hx1 : w.cell? ⟨g1, 1, none⟩ = some (.bool false) := (bkc hb 1).trans rfl
 have hx2 : w.cell? ⟨g1, 2, none⟩ = some v12 := (bkc hb 2).trans rfl
 refine value_ (w1 := w) (v := .agg #[v10, .bool false, v12]) (by simp [Region.wanted, hgd]) rfl ?_ ?_
 ·simp only [execOp, hop, hty]
  go_simp
 ·rw [hdst]; exact hK.out _ _ (h.put awnd2 (i := 0) (t := 18) rfl (by rw [H.size]; decide) rfl (Below.refl _ _) (H.k1.below h.reads))
theorem aw2_1 (H : Aw2 W a0 g1 g2 v10 v12 v20 v22) : AwStep W a0 Q 1 := by
 intro b a w h hb_ hon hoff
 obtain ⟨oi, hoi, hop, hdst, hgd, hty⟩ : ∃ oi, (opsOf Tryz.f20 2)[1]? = some oi ∧ oi.op = .load 42 (.tmp 2) ∧ oi.dst = some 19 ∧ oi.guard = none ∧ oi.type = 42 := ⟨_, rfl, by kernel_rfl, by kernel_rfl, by kernel_rfl, by kernel_rfl⟩
 refine ⟨oi, hoi, fun K hK => ?_⟩
 have e1 := h.elder (t := 2) (by rfl) H.s2
 have hb := blk_below H.b2 h.reads
 have hx0 : w.cell? ⟨g2, 0, none⟩ = some v20 := (bkc hb 0).trans rfl
 have hx1 : w.cell? ⟨g2, 1, none⟩ = some (.bool false) := (bkc hb 1).trans rfl
 have hx2 : w.cell? ⟨g2, 2, none⟩ = some v22 := (bkc hb 2).trans rfl
 refine value_ (w1 := w) (v := .agg #[v20, .bool false, v22]) (by simp [Region.wanted, hgd]) rfl ?_ ?_
 ·simp only [execOp, hop, hty]
  go_simp
 ·rw [hdst]; exact hK.out _ _ (h.put awnd2 (i := 1) (t := 19) rfl (by rw [H.size]; decide) rfl (Below.refl _ _) (H.k2.below h.reads))
theorem aw2_2 (H : Aw2 W a0 g1 g2 v10 v12 v20 v22) : AwStep W a0 Q 2 := by
 intro b a w h hb_ hon hoff
 obtain ⟨oi, hoi, hop, hdst, hgd, hty⟩ : ∃ oi, (opsOf Tryz.f20 2)[2]? = some oi ∧ oi.op = .buildSlice 25 2 #[(0, .tmp 18), (1, .tmp 19)] ∧ oi.dst = some 20 ∧ oi.guard = none ∧ oi.type = 25 := ⟨_, rfl, by kernel_rfl, by kernel_rfl, by kernel_rfl, by kernel_rfl⟩
 refine ⟨oi, hoi, fun K hK => ?_⟩
 obtain ⟨u18, e18, p18⟩ := h.get (i := 0) (t := 18) (hon 0 (by kernel_rfl)) rfl rfl
 obtain ⟨u19, e19, p19⟩ := h.get (i := 1) (t := 19) (hon 1 (by kernel_rfl)) rfl rfl
 obtain ⟨A18, c18, B18, d18, rfl, q18⟩ := p18
 obtain ⟨A19, c19, B19, d19, rfl, q19⟩ := p19
 refine value_ (w1 := w.alloc (.cells #[.slice A18 (one_ : Stp).f0.length c18, .bool (one_ : Stp).f1, .slice B18 (one_ : Stp).f2.length d18, .slice A19 (end_ : Stp).f0.length c19, .bool (end_ : Stp).f1, .slice B19 (end_ : Stp).f2.length d19] 42)) (v := .slice (some ⟨w.heap.size, 0, none⟩) 2 2) (by simp [Region.wanted, hgd]) rfl ?_ ?_
 ·simp only [execOp, hop, hty]
  go_simp
  try rfl
 ·rw [hdst]; exact hK.out _ _ (h.put awnd2 (i := 2) (t := 20) rfl (by rw [H.size]; decide) rfl (below_new _ _) ⟨_, _, rfl, Nat.le_refl _, C_lit kStp w 42 [one_, end_] _ (Reps.snoc (p := (end_ : Stp)) (c := [.slice A19 (end_ : Stp).f0.length c19, .bool (end_ : Stp).f1, .slice B19 (end_ : Stp).f2.length d19]) (Reps.snoc (p := (one_ : Stp)) (c := [.slice A18 (one_ : Stp).f0.length c18, .bool (one_ : Stp).f1, .slice B18 (one_ : Stp).f2.length d18]) (Reps.none (kStp.K w) 3) q18 rfl) q19 rfl) (by decide)⟩)
theorem aw2_3 (H : Aw2 W a0 g1 g2 v10 v12 v20 v22) : AwStep W a0 Q 3 := by
 intro b a w h hb_ hon hoff
 obtain ⟨oi, hoi, hop, hdst, hgd, hty⟩ : ∃ oi, (opsOf Tryz.f20 2)[3]? = some oi ∧ oi.op = .call { callee := .value (.func 30), args := #[.const (.int .i64 0), .const (.int .i64 0), .tmp 20], argTypes := #[3, 28, 25] } ∧ oi.dst = some 21 ∧ oi.guard = none ∧ oi.type = 4 := ⟨_, rfl, by kernel_rfl, by kernel_rfl, by kernel_rfl, by kernel_rfl⟩
 refine ⟨oi, hoi, fun K hK => ?_⟩
 obtain ⟨u20, e20, p20⟩ := h.get (i := 2) (t := 20) (hon 2 (by kernel_rfl)) rfl rfl
 obtain ⟨A20, c20, rfl, l20, q20⟩ := p20
 refine call_ (f := 30) (args := #[.int .i64 0, .int .i64 0, .slice A20 2 c20]) (by simp [Region.wanted, hgd]) rfl ?_ (checked_calls 50 0 0 A20 c20 [one_, end_] _ w q20 l20 (run_sq _ (by decide))) ?_
 ·simp only [execOp, hop, hty]
  go_simp
 ·rintro e w' ⟨rfl, hb⟩
  exact ⟨_, rfl, by rw [hdst]; exact hK.out _ _ (h.put awnd2 (i := 3) (t := 21) rfl (by rw [H.size]; decide) rfl hb (show Value.bool _ = Value.bool true by kernel_rfl))⟩
theorem aw2_4 (H : Aw2 W a0 g1 g2 v10 v12 v20 v22) : AwStep W a0 Q 4 := by
 intro b a w h hb_ hon hoff
 obtain ⟨oi, hoi, hop, hdst, hgd, hty⟩ : ∃ oi, (opsOf Tryz.f20 2)[4]? = some oi ∧ oi.op = .unOp .not 4 (.tmp 21) ∧ oi.dst = some 22 ∧ oi.guard = none ∧ oi.type = 4 := ⟨_, rfl, by kernel_rfl, by kernel_rfl, by kernel_rfl, by kernel_rfl⟩
 refine ⟨oi, hoi, fun K hK => ?_⟩
 obtain ⟨u21, e21, p21⟩ := h.get (i := 3) (t := 21) (hon 3 (by kernel_rfl)) rfl rfl
 obtain rfl : u21 = .bool true := p21
 refine value_ (w1 := w) (v := .bool false) (by simp [Region.wanted, hgd]) rfl ?_ ?_
 ·simp only [execOp, hop, hty]
  go_simp
 ·rw [hdst]; exact hK.out _ _ (h.put awnd2 (i := 4) (t := 22) rfl (by rw [H.size]; decide) rfl (Below.refl _ _) rfl)
theorem aw2_5 (H : Aw2 W a0 g1 g2 v10 v12 v20 v22) : AwStep W a0 Q 5 := by
 intro b a w h hb_ hon hoff
 obtain ⟨oi, hoi, hop, hdst, hgd, hty⟩ : ∃ oi, (opsOf Tryz.f20 2)[5]? = some oi ∧ oi.op = .move (.tmp 22) ∧ oi.dst = some 23 ∧ oi.guard = none ∧ oi.type = 4 := ⟨_, rfl, by kernel_rfl, by kernel_rfl, by kernel_rfl, by kernel_rfl⟩
 refine ⟨oi, hoi, fun K hK => ?_⟩
 obtain ⟨u22, e22, p22⟩ := h.get (i := 4) (t := 22) (hon 4 (by kernel_rfl)) rfl rfl
 obtain rfl : u22 = .bool false := p22
 refine value_ (w1 := w) (v := .bool false) (by simp [Region.wanted, hgd]) rfl ?_ ?_
 ·simp only [execOp, hop, hty]
  go_simp
 ·rw [hdst]; exact hK.out _ _ (h.put awnd2 (i := 5) (t := 23) rfl (by rw [H.size]; decide) rfl (Below.refl _ _) rfl)
theorem aw2_6 (H : Aw2 W a0 g1 g2 v10 v12 v20 v22) : AwStep W a0 Q 6 := by
 intro b a w h hb_ hon hoff
 obtain ⟨oi, hoi, hop, hdst, hgd, hty⟩ : ∃ oi, (opsOf Tryz.f20 2)[6]? = some oi ∧ oi.op = .load 42 (.tmp 1) ∧ oi.dst = some 24 ∧ oi.guard = some (5, false) ∧ oi.type = 42 := ⟨_, rfl, by kernel_rfl, by kernel_rfl, by kernel_rfl, by kernel_rfl⟩
 refine ⟨oi, hoi, fun K hK => ?_⟩
 obtain ⟨u23, e23, p23⟩ := h.get (i := 5) (t := 23) (hon 5 (by kernel_rfl)) rfl rfl
 obtain ⟨og, hog, hogd⟩ : ∃ og, (opsOf Tryz.f20 2)[5]? = some og ∧ og.dst = some 23 := ⟨_, rfl, by kernel_rfl⟩
 have e1 := h.elder (t := 1) (by rfl) H.s1
 have hb := blk_below H.b1 h.reads
 have hx0 : w.cell? ⟨g1, 0, none⟩ = some v10 := (bkc hb 0).trans rfl
 have hx1 : w.cell? ⟨g1, 1, none⟩ = some (.bool false) := (bkc hb 1).trans rfl
 have hx2 : w.cell? ⟨g1, 2, none⟩ = some v12 := (bkc hb 2).trans rfl
 refine value_ (w1 := w) (v := .agg #[v10, .bool false, v12]) (wanted_on hgd hog hogd (e23.trans (congrArg some p23))) rfl ?_ ?_
 ·simp only [execOp, hop, hty]
  go_simp
 ·rw [hdst]; exact hK.out _ _ (h.put awnd2 (i := 6) (t := 24) rfl (by rw [H.size]; decide) rfl (Below.refl _ _) (H.k1.below h.reads))
theorem aw2_7 (H : Aw2 W a0 g1 g2 v10 v12 v20 v22) : AwStep W a0 Q 7 := by
 intro b a w h hb_ hon hoff
 obtain ⟨oi, hoi, hop, hdst, hgd, hty⟩ : ∃ oi, (opsOf Tryz.f20 2)[7]? = some oi ∧ oi.op = .buildSlice 31 3 #[(0, .const (.int .i64 5)), (1, .const (.int .i64 4)), (2, .const (.int .i64 3))] ∧ oi.dst = some 25 ∧ oi.guard = some (5, false) ∧ oi.type = 31 := ⟨_, rfl, by kernel_rfl, by kernel_rfl, by kernel_rfl, by kernel_rfl⟩
 refine ⟨oi, hoi, fun K hK => ?_⟩
 obtain ⟨u23, e23, p23⟩ := h.get (i := 5) (t := 23) (hon 5 (by kernel_rfl)) rfl rfl
 obtain ⟨og, hog, hogd⟩ : ∃ og, (opsOf Tryz.f20 2)[5]? = some og ∧ og.dst = some 23 := ⟨_, rfl, by kernel_rfl⟩
 refine value_ (w1 := w.alloc (.cells #[.int .i64 5, .int .i64 4, .int .i64 3] 3)) (v := .slice (some ⟨w.heap.size, 0, none⟩) 3 3) (wanted_on hgd hog hogd (e23.trans (congrArg some p23))) rfl ?_ ?_
 ·simp only [execOp, hop, hty]
  go_simp
 ·rw [hdst]; exact hK.out _ _ (h.put awnd2 (i := 7) (t := 25) rfl (by rw [H.size]; decide) rfl (below_new _ _) (ints_lit w [5, 4, 3] _ rfl (by decide)))
theorem aw2_8 (H : Aw2 W a0 g1 g2 v10 v12 v20 v22) : AwStep W a0 Q 8 := by
 intro b a w h hb_ hon hoff
 obtain ⟨oi, hoi, hop, hdst, hgd, hty⟩ : ∃ oi, (opsOf Tryz.f20 2)[8]? = some oi ∧ oi.op = .call { callee := .value (.func 29), args := #[.const (.slice none 0 0), .tmp 25], argTypes := #[31, 31] } ∧ oi.dst = some 26 ∧ oi.guard = some (5, false) ∧ oi.type = 42 := ⟨_, rfl, by kernel_rfl, by kernel_rfl, by kernel_rfl, by kernel_rfl⟩
 refine ⟨oi, hoi, fun K hK => ?_⟩
 obtain ⟨u23, e23, p23⟩ := h.get (i := 5) (t := 23) (hon 5 (by kernel_rfl)) rfl rfl
 obtain ⟨og, hog, hogd⟩ : ∃ og, (opsOf Tryz.f20 2)[5]? = some og ∧ og.dst = some 23 := ⟨_, rfl, by kernel_rfl⟩
 obtain ⟨u25, e25, p25⟩ := h.get (i := 7) (t := 25) (hon 7 (by kernel_rfl)) rfl rfl
 obtain ⟨A25, c25, rfl, l25, q25⟩ := p25
 refine call_ (f := 29) (args := #[.slice none 0 0, .slice A25 3 c25]) (wanted_on hgd hog hogd (e23.trans (congrArg some p23))) rfl ?_ (lawAdd_calls _ _ _ _ _ _ w) ?_
 ·simp only [execOp, hop, hty]
  go_simp
 ·rintro e w' ⟨rfl, hb⟩
  exact ⟨_, rfl, by rw [hdst]; exact hK.out _ _ (h.put awnd2 (i := 8) (t := 26) rfl (by rw [H.size]; decide) rfl hb ((K_step w ⟨[], false, [5, 4, 3]⟩ (ints_nil w) ⟨_, _, rfl, l25, q25⟩).below hb))⟩
theorem aw2_9 (H : Aw2 W a0 g1 g2 v10 v12 v20 v22) : AwStep W a0 Q 9 := by
 intro b a w h hb_ hon hoff
 obtain ⟨oi, hoi, hop, hdst, hgd, hty⟩ : ∃ oi, (opsOf Tryz.f20 2)[9]? = some oi ∧ oi.op = .buildSlice 25 2 #[(0, .tmp 24), (1, .tmp 26)] ∧ oi.dst = some 27 ∧ oi.guard = some (5, false) ∧ oi.type = 25 := ⟨_, rfl, by kernel_rfl, by kernel_rfl, by kernel_rfl, by kernel_rfl⟩
 refine ⟨oi, hoi, fun K hK => ?_⟩
 obtain ⟨u23, e23, p23⟩ := h.get (i := 5) (t := 23) (hon 5 (by kernel_rfl)) rfl rfl
 obtain ⟨og, hog, hogd⟩ : ∃ og, (opsOf Tryz.f20 2)[5]? = some og ∧ og.dst = some 23 := ⟨_, rfl, by kernel_rfl⟩
 obtain ⟨u24, e24, p24⟩ := h.get (i := 6) (t := 24) (hon 6 (by kernel_rfl)) rfl rfl
 obtain ⟨u26, e26, p26⟩ := h.get (i := 8) (t := 26) (hon 8 (by kernel_rfl)) rfl rfl
 obtain ⟨A24, c24, B24, d24, rfl, q24⟩ := p24
 obtain ⟨A26, c26, B26, d26, rfl, q26⟩ := p26
 refine value_ (w1 := w.alloc (.cells #[.slice A24 (one_ : Stp).f0.length c24, .bool (one_ : Stp).f1, .slice B24 (one_ : Stp).f2.length d24, .slice A26 (⟨[], false, [5, 4, 3]⟩ : Stp).f0.length c26, .bool (⟨[], false, [5, 4, 3]⟩ : Stp).f1, .slice B26 (⟨[], false, [5, 4, 3]⟩ : Stp).f2.length d26] 42)) (v := .slice (some ⟨w.heap.size, 0, none⟩) 2 2) (wanted_on hgd hog hogd (e23.trans (congrArg some p23))) rfl ?_ ?_
 ·simp only [execOp, hop, hty]
  go_simp
  try rfl
 ·rw [hdst]; exact hK.out _ _ (h.put awnd2 (i := 9) (t := 27) rfl (by rw [H.size]; decide) rfl (below_new _ _) ⟨_, _, rfl, Nat.le_refl _, C_lit kStp w 42 [one_, ⟨[], false, [5, 4, 3]⟩] _ (Reps.snoc (p := (⟨[], false, [5, 4, 3]⟩ : Stp)) (c := [.slice A26 (⟨[], false, [5, 4, 3]⟩ : Stp).f0.length c26, .bool (⟨[], false, [5, 4, 3]⟩ : Stp).f1, .slice B26 (⟨[], false, [5, 4, 3]⟩ : Stp).f2.length d26]) (Reps.snoc (p := (one_ : Stp)) (c := [.slice A24 (one_ : Stp).f0.length c24, .bool (one_ : Stp).f1, .slice B24 (one_ : Stp).f2.length d24]) (Reps.none (kStp.K w) 3) q24 rfl) q26 rfl) (by decide)⟩)
theorem aw2_10 (H : Aw2 W a0 g1 g2 v10 v12 v20 v22) : AwStep W a0 Q 10 := by
 intro b a w h hb_ hon hoff
 obtain ⟨oi, hoi, hop, hdst, hgd, hty⟩ : ∃ oi, (opsOf Tryz.f20 2)[10]? = some oi ∧ oi.op = .call { callee := .value (.func 30), args := #[.const (.int .i64 0), .const (.int .i64 0), .tmp 27], argTypes := #[3, 28, 25] } ∧ oi.dst = some 28 ∧ oi.guard = some (5, false) ∧ oi.type = 4 := ⟨_, rfl, by kernel_rfl, by kernel_rfl, by kernel_rfl, by kernel_rfl⟩
 refine ⟨oi, hoi, fun K hK => ?_⟩
 obtain ⟨u23, e23, p23⟩ := h.get (i := 5) (t := 23) (hon 5 (by kernel_rfl)) rfl rfl
 obtain ⟨og, hog, hogd⟩ : ∃ og, (opsOf Tryz.f20 2)[5]? = some og ∧ og.dst = some 23 := ⟨_, rfl, by kernel_rfl⟩
 obtain ⟨u27, e27, p27⟩ := h.get (i := 9) (t := 27) (hon 9 (by kernel_rfl)) rfl rfl
 obtain ⟨A27, c27, rfl, l27, q27⟩ := p27
 refine call_ (f := 30) (args := #[.int .i64 0, .int .i64 0, .slice A27 2 c27]) (wanted_on hgd hog hogd (e23.trans (congrArg some p23))) rfl ?_ (checked_calls 50 0 0 A27 c27 [one_, ⟨[], false, [5, 4, 3]⟩] _ w q27 l27 (run_sq _ (by decide))) ?_
 ·simp only [execOp, hop, hty]
  go_simp
 ·rintro e w' ⟨rfl, hb⟩
  exact ⟨_, rfl, by rw [hdst]; exact hK.out _ _ (h.put awnd2 (i := 10) (t := 28) rfl (by rw [H.size]; decide) rfl hb (show Value.bool _ = Value.bool true by kernel_rfl))⟩
theorem aw2_11 (H : Aw2 W a0 g1 g2 v10 v12 v20 v22) : AwStep W a0 Q 11 := by
 intro b a w h hb_ hon hoff
 obtain ⟨oi, hoi, hop, hdst, hgd, hty⟩ : ∃ oi, (opsOf Tryz.f20 2)[11]? = some oi ∧ oi.op = .unOp .not 4 (.tmp 28) ∧ oi.dst = some 29 ∧ oi.guard = some (5, false) ∧ oi.type = 4 := ⟨_, rfl, by kernel_rfl, by kernel_rfl, by kernel_rfl, by kernel_rfl⟩
 refine ⟨oi, hoi, fun K hK => ?_⟩
 obtain ⟨u23, e23, p23⟩ := h.get (i := 5) (t := 23) (hon 5 (by kernel_rfl)) rfl rfl
 obtain ⟨og, hog, hogd⟩ : ∃ og, (opsOf Tryz.f20 2)[5]? = some og ∧ og.dst = some 23 := ⟨_, rfl, by kernel_rfl⟩
 obtain ⟨u28, e28, p28⟩ := h.get (i := 10) (t := 28) (hon 10 (by kernel_rfl)) rfl rfl
 obtain rfl : u28 = .bool true := p28
 refine value_ (w1 := w) (v := .bool false) (wanted_on hgd hog hogd (e23.trans (congrArg some p23))) rfl ?_ ?_
 ·simp only [execOp, hop, hty]
  go_simp
 ·rw [hdst]; exact hK.out _ _ (h.put awnd2 (i := 11) (t := 29) rfl (by rw [H.size]; decide) rfl (Below.refl _ _) rfl)
theorem aw2_12 (H : Aw2 W a0 g1 g2 v10 v12 v20 v22) : AwStep W a0 Q 12 := by
 intro b a w h hb_ hon hoff
 obtain ⟨oi, hoi, hop, hdst, hgd, hty⟩ : ∃ oi, (opsOf Tryz.f20 2)[12]? = some oi ∧ oi.op = .pick (.tmp 23) (.const (.bool true)) (.tmp 29) ∧ oi.dst = some 30 ∧ oi.guard = none ∧ oi.type = 4 := ⟨_, rfl, by kernel_rfl, by kernel_rfl, by kernel_rfl, by kernel_rfl⟩
 refine ⟨oi, hoi, fun K hK => ?_⟩
 obtain ⟨u23, e23, p23⟩ := h.get (i := 5) (t := 23) (hon 5 (by kernel_rfl)) rfl rfl
 obtain ⟨u29, e29, p29⟩ := h.get (i := 11) (t := 29) (hon 11 (by kernel_rfl)) rfl rfl
 obtain rfl : u23 = .bool false := p23
 obtain rfl : u29 = .bool false := p29
 refine value_ (w1 := w) (v := .bool false) (by simp [Region.wanted, hgd]) rfl ?_ ?_
 ·simp only [execOp, hop, hty]
  go_simp
 ·rw [hdst]; exact hK.out _ _ (h.put awnd2 (i := 12) (t := 30) rfl (by rw [H.size]; decide) rfl (Below.refl _ _) rfl)
theorem aw2_13 (H : Aw2 W a0 g1 g2 v10 v12 v20 v22) : AwStep W a0 Q 13 := by
 intro b a w h hb_ hon hoff
 obtain ⟨oi, hoi, hop, hdst, hgd, hty⟩ : ∃ oi, (opsOf Tryz.f20 2)[13]? = some oi ∧ oi.op = .move (.tmp 30) ∧ oi.dst = some 31 ∧ oi.guard = none ∧ oi.type = 4 := ⟨_, rfl, by kernel_rfl, by kernel_rfl, by kernel_rfl, by kernel_rfl⟩
 refine ⟨oi, hoi, fun K hK => ?_⟩
 obtain ⟨u30, e30, p30⟩ := h.get (i := 12) (t := 30) (hon 12 (by kernel_rfl)) rfl rfl
 obtain rfl : u30 = .bool false := p30
 refine value_ (w1 := w) (v := .bool false) (by simp [Region.wanted, hgd]) rfl ?_ ?_
 ·simp only [execOp, hop, hty]
  go_simp
 ·rw [hdst]; exact hK.out _ _ (h.put awnd2 (i := 13) (t := 31) rfl (by rw [H.size]; decide) rfl (Below.refl _ _) rfl)
theorem aw2_14 (H : Aw2 W a0 g1 g2 v10 v12 v20 v22) : AwStep W a0 Q 14 := by
 intro b a w h hb_ hon hoff
 obtain ⟨oi, hoi, hop, hdst, hgd, hty⟩ : ∃ oi, (opsOf Tryz.f20 2)[14]? = some oi ∧ oi.op = .buildSlice 31 1 #[(0, .const (.int .i64 1))] ∧ oi.dst = some 32 ∧ oi.guard = some (13, false) ∧ oi.type = 31 := ⟨_, rfl, by kernel_rfl, by kernel_rfl, by kernel_rfl, by kernel_rfl⟩
 refine ⟨oi, hoi, fun K hK => ?_⟩
 obtain ⟨u31, e31, p31⟩ := h.get (i := 13) (t := 31) (hon 13 (by kernel_rfl)) rfl rfl
 obtain ⟨og, hog, hogd⟩ : ∃ og, (opsOf Tryz.f20 2)[13]? = some og ∧ og.dst = some 31 := ⟨_, rfl, by kernel_rfl⟩
 refine value_ (w1 := w.alloc (.cells #[.int .i64 1] 3)) (v := .slice (some ⟨w.heap.size, 0, none⟩) 1 1) (wanted_on hgd hog hogd (e31.trans (congrArg some p31))) rfl ?_ ?_
 ·simp only [execOp, hop, hty]
  go_simp
 ·rw [hdst]; exact hK.out _ _ (h.put awnd2 (i := 14) (t := 32) rfl (by rw [H.size]; decide) rfl (below_new _ _) (ints_lit w [1] _ rfl (by decide)))
theorem aw2_15 (H : Aw2 W a0 g1 g2 v10 v12 v20 v22) : AwStep W a0 Q 15 := by
 intro b a w h hb_ hon hoff
 obtain ⟨oi, hoi, hop, hdst, hgd, hty⟩ : ∃ oi, (opsOf Tryz.f20 2)[15]? = some oi ∧ oi.op = .buildSlice 31 2 #[(0, .const (.int .i64 3)), (1, .const (.int .i64 4))] ∧ oi.dst = some 33 ∧ oi.guard = some (13, false) ∧ oi.type = 31 := ⟨_, rfl, by kernel_rfl, by kernel_rfl, by kernel_rfl, by kernel_rfl⟩
 refine ⟨oi, hoi, fun K hK => ?_⟩
 obtain ⟨u31, e31, p31⟩ := h.get (i := 13) (t := 31) (hon 13 (by kernel_rfl)) rfl rfl
 obtain ⟨og, hog, hogd⟩ : ∃ og, (opsOf Tryz.f20 2)[13]? = some og ∧ og.dst = some 31 := ⟨_, rfl, by kernel_rfl⟩
 refine value_ (w1 := w.alloc (.cells #[.int .i64 3, .int .i64 4] 3)) (v := .slice (some ⟨w.heap.size, 0, none⟩) 2 2) (wanted_on hgd hog hogd (e31.trans (congrArg some p31))) rfl ?_ ?_
 ·simp only [execOp, hop, hty]
  go_simp
 ·rw [hdst]; exact hK.out _ _ (h.put awnd2 (i := 15) (t := 33) rfl (by rw [H.size]; decide) rfl (below_new _ _) (ints_lit w [3, 4] _ rfl (by decide)))
theorem aw2_16 (H : Aw2 W a0 g1 g2 v10 v12 v20 v22) : AwStep W a0 Q 16 := by
 intro b a w h hb_ hon hoff
 obtain ⟨oi, hoi, hop, hdst, hgd, hty⟩ : ∃ oi, (opsOf Tryz.f20 2)[16]? = some oi ∧ oi.op = .call { callee := .value (.func 29), args := #[.tmp 32, .tmp 33], argTypes := #[31, 31] } ∧ oi.dst = some 34 ∧ oi.guard = some (13, false) ∧ oi.type = 42 := ⟨_, rfl, by kernel_rfl, by kernel_rfl, by kernel_rfl, by kernel_rfl⟩
 refine ⟨oi, hoi, fun K hK => ?_⟩
 obtain ⟨u31, e31, p31⟩ := h.get (i := 13) (t := 31) (hon 13 (by kernel_rfl)) rfl rfl
 obtain ⟨og, hog, hogd⟩ : ∃ og, (opsOf Tryz.f20 2)[13]? = some og ∧ og.dst = some 31 := ⟨_, rfl, by kernel_rfl⟩
 obtain ⟨u32, e32, p32⟩ := h.get (i := 14) (t := 32) (hon 14 (by kernel_rfl)) rfl rfl
 obtain ⟨u33, e33, p33⟩ := h.get (i := 15) (t := 33) (hon 15 (by kernel_rfl)) rfl rfl
 obtain ⟨A32, c32, rfl, l32, q32⟩ := p32
 obtain ⟨A33, c33, rfl, l33, q33⟩ := p33
 refine call_ (f := 29) (args := #[.slice A32 1 c32, .slice A33 2 c33]) (wanted_on hgd hog hogd (e31.trans (congrArg some p31))) rfl ?_ (lawAdd_calls _ _ _ _ _ _ w) ?_
 ·simp only [execOp, hop, hty]
  go_simp
 ·rintro e w' ⟨rfl, hb⟩
  exact ⟨_, rfl, by rw [hdst]; exact hK.out _ _ (h.put awnd2 (i := 16) (t := 34) rfl (by rw [H.size]; decide) rfl hb ((K_step w ⟨[1], false, [3, 4]⟩ ⟨_, _, rfl, l32, q32⟩ ⟨_, _, rfl, l33, q33⟩).below hb))⟩
theorem aw2_17 (H : Aw2 W a0 g1 g2 v10 v12 v20 v22) : AwStep W a0 Q 17 := by
 intro b a w h hb_ hon hoff
 obtain ⟨oi, hoi, hop, hdst, hgd, hty⟩ : ∃ oi, (opsOf Tryz.f20 2)[17]? = some oi ∧ oi.op = .load 42 (.tmp 2) ∧ oi.dst = some 35 ∧ oi.guard = some (13, false) ∧ oi.type = 42 := ⟨_, rfl, by kernel_rfl, by kernel_rfl, by kernel_rfl, by kernel_rfl⟩
 refine ⟨oi, hoi, fun K hK => ?_⟩
 obtain ⟨u31, e31, p31⟩ := h.get (i := 13) (t := 31) (hon 13 (by kernel_rfl)) rfl rfl
 obtain ⟨og, hog, hogd⟩ : ∃ og, (opsOf Tryz.f20 2)[13]? = some og ∧ og.dst = some 31 := ⟨_, rfl, by kernel_rfl⟩
 have e1 := h.elder (t := 2) (by rfl) H.s2
 have hb := blk_below H.b2 h.reads
 have hx0 : w.cell? ⟨g2, 0, none⟩ = some v20 := (bkc hb 0).trans rfl
 have hx1 : w.cell? ⟨g2, 1, none⟩ = some (.bool false) := (bkc hb 1).trans rfl
 have hx2 : w.cell? ⟨g2, 2, none⟩ = some v22 := (bkc hb 2).trans rfl
 refine value_ (w1 := w) (v := .agg #[v20, .bool false, v22]) (wanted_on hgd hog hogd (e31.trans (congrArg some p31))) rfl ?_ ?_
 ·simp only [execOp, hop, hty]
  go_simp
 ·rw [hdst]; exact hK.out _ _ (h.put awnd2 (i := 17) (t := 35) rfl (by rw [H.size]; decide) rfl (Below.refl _ _) (H.k2.below h.reads))
theorem aw2_18 (H : Aw2 W a0 g1 g2 v10 v12 v20 v22) : AwStep W a0 Q 18 := by
 intro b a w h hb_ hon hoff
 obtain ⟨oi, hoi, hop, hdst, hgd, hty⟩ : ∃ oi, (opsOf Tryz.f20 2)[18]? = some oi ∧ oi.op = .buildSlice 25 2 #[(0, .tmp 34), (1, .tmp 35)] ∧ oi.dst = some 36 ∧ oi.guard = some (13, false) ∧ oi.type = 25 := ⟨_, rfl, by kernel_rfl, by kernel_rfl, by kernel_rfl, by kernel_rfl⟩
 refine ⟨oi, hoi, fun K hK => ?_⟩
 obtain ⟨u31, e31, p31⟩ := h.get (i := 13) (t := 31) (hon 13 (by kernel_rfl)) rfl rfl
 obtain ⟨og, hog, hogd⟩ : ∃ og, (opsOf Tryz.f20 2)[13]? = some og ∧ og.dst = some 31 := ⟨_, rfl, by kernel_rfl⟩
 obtain ⟨u34, e34, p34⟩ := h.get (i := 16) (t := 34) (hon 16 (by kernel_rfl)) rfl rfl
 obtain ⟨u35, e35, p35⟩ := h.get (i := 17) (t := 35) (hon 17 (by kernel_rfl)) rfl rfl
 obtain ⟨A34, c34, B34, d34, rfl, q34⟩ := p34
 obtain ⟨A35, c35, B35, d35, rfl, q35⟩ := p35
 refine value_ (w1 := w.alloc (.cells #[.slice A34 (⟨[1], false, [3, 4]⟩ : Stp).f0.length c34, .bool (⟨[1], false, [3, 4]⟩ : Stp).f1, .slice B34 (⟨[1], false, [3, 4]⟩ : Stp).f2.length d34, .slice A35 (end_ : Stp).f0.length c35, .bool (end_ : Stp).f1, .slice B35 (end_ : Stp).f2.length d35] 42)) (v := .slice (some ⟨w.heap.size, 0, none⟩) 2 2) (wanted_on hgd hog hogd (e31.trans (congrArg some p31))) rfl ?_ ?_
 ·simp only [execOp, hop, hty]
  go_simp
  try rfl
 ·rw [hdst]; exact hK.out _ _ (h.put awnd2 (i := 18) (t := 36) rfl (by rw [H.size]; decide) rfl (below_new _ _) ⟨_, _, rfl, Nat.le_refl _, C_lit kStp w 42 [⟨[1], false, [3, 4]⟩, end_] _ (Reps.snoc (p := (end_ : Stp)) (c := [.slice A35 (end_ : Stp).f0.length c35, .bool (end_ : Stp).f1, .slice B35 (end_ : Stp).f2.length d35]) (Reps.snoc (p := (⟨[1], false, [3, 4]⟩ : Stp)) (c := [.slice A34 (⟨[1], false, [3, 4]⟩ : Stp).f0.length c34, .bool (⟨[1], false, [3, 4]⟩ : Stp).f1, .slice B34 (⟨[1], false, [3, 4]⟩ : Stp).f2.length d34]) (Reps.none (kStp.K w) 3) q34 rfl) q35 rfl) (by decide)⟩)
theorem aw2_19 (H : Aw2 W a0 g1 g2 v10 v12 v20 v22) : AwStep W a0 Q 19 := by
 intro b a w h hb_ hon hoff
 obtain ⟨oi, hoi, hop, hdst, hgd, hty⟩ : ∃ oi, (opsOf Tryz.f20 2)[19]? = some oi ∧ oi.op = .call { callee := .value (.func 30), args := #[.const (.int .i64 0), .const (.int .i64 21), .tmp 36], argTypes := #[3, 28, 25] } ∧ oi.dst = some 37 ∧ oi.guard = some (13, false) ∧ oi.type = 4 := ⟨_, rfl, by kernel_rfl, by kernel_rfl, by kernel_rfl, by kernel_rfl⟩
 refine ⟨oi, hoi, fun K hK => ?_⟩
 obtain ⟨u31, e31, p31⟩ := h.get (i := 13) (t := 31) (hon 13 (by kernel_rfl)) rfl rfl
 obtain ⟨og, hog, hogd⟩ : ∃ og, (opsOf Tryz.f20 2)[13]? = some og ∧ og.dst = some 31 := ⟨_, rfl, by kernel_rfl⟩
 obtain ⟨u36, e36, p36⟩ := h.get (i := 18) (t := 36) (hon 18 (by kernel_rfl)) rfl rfl
 obtain ⟨A36, c36, rfl, l36, q36⟩ := p36
 refine call_ (f := 30) (args := #[.int .i64 0, .int .i64 21, .slice A36 2 c36]) (wanted_on hgd hog hogd (e31.trans (congrArg some p31))) rfl ?_ (checked_calls 50 0 21 A36 c36 [⟨[1], false, [3, 4]⟩, end_] _ w q36 l36 (run_sq _ (by decide))) ?_
 ·simp only [execOp, hop, hty]
  go_simp
 ·rintro e w' ⟨rfl, hb⟩
  exact ⟨_, rfl, by rw [hdst]; exact hK.out _ _ (h.put awnd2 (i := 19) (t := 37) rfl (by rw [H.size]; decide) rfl hb (show Value.bool _ = Value.bool true by kernel_rfl))⟩
theorem aw2_20 (H : Aw2 W a0 g1 g2 v10 v12 v20 v22) : AwStep W a0 Q 20 := by
 intro b a w h hb_ hon hoff
 obtain ⟨oi, hoi, hop, hdst, hgd, hty⟩ : ∃ oi, (opsOf Tryz.f20 2)[20]? = some oi ∧ oi.op = .unOp .not 4 (.tmp 37) ∧ oi.dst = some 38 ∧ oi.guard = some (13, false) ∧ oi.type = 4 := ⟨_, rfl, by kernel_rfl, by kernel_rfl, by kernel_rfl, by kernel_rfl⟩
 refine ⟨oi, hoi, fun K hK => ?_⟩
 obtain ⟨u31, e31, p31⟩ := h.get (i := 13) (t := 31) (hon 13 (by kernel_rfl)) rfl rfl
 obtain ⟨og, hog, hogd⟩ : ∃ og, (opsOf Tryz.f20 2)[13]? = some og ∧ og.dst = some 31 := ⟨_, rfl, by kernel_rfl⟩
 obtain ⟨u37, e37, p37⟩ := h.get (i := 19) (t := 37) (hon 19 (by kernel_rfl)) rfl rfl
 obtain rfl : u37 = .bool true := p37
 refine value_ (w1 := w) (v := .bool false) (wanted_on hgd hog hogd (e31.trans (congrArg some p31))) rfl ?_ ?_
 ·simp only [execOp, hop, hty]
  go_simp
 ·rw [hdst]; exact hK.out _ _ (h.put awnd2 (i := 20) (t := 38) rfl (by rw [H.size]; decide) rfl (Below.refl _ _) rfl)
theorem aw2_21 (H : Aw2 W a0 g1 g2 v10 v12 v20 v22) : AwStep W a0 Q 21 := by
 intro b a w h hb_ hon hoff
 obtain ⟨oi, hoi, hop, hdst, hgd, hty⟩ : ∃ oi, (opsOf Tryz.f20 2)[21]? = some oi ∧ oi.op = .pick (.tmp 31) (.const (.bool true)) (.tmp 38) ∧ oi.dst = some 39 ∧ oi.guard = none ∧ oi.type = 4 := ⟨_, rfl, by kernel_rfl, by kernel_rfl, by kernel_rfl, by kernel_rfl⟩
 refine ⟨oi, hoi, fun K hK => ?_⟩
 obtain ⟨u31, e31, p31⟩ := h.get (i := 13) (t := 31) (hon 13 (by kernel_rfl)) rfl rfl
 obtain ⟨u38, e38, p38⟩ := h.get (i := 20) (t := 38) (hon 20 (by kernel_rfl)) rfl rfl
 obtain rfl : u31 = .bool false := p31
 obtain rfl : u38 = .bool false := p38
 refine value_ (w1 := w) (v := .bool false) (by simp [Region.wanted, hgd]) rfl ?_ ?_
 ·simp only [execOp, hop, hty]
  go_simp
 ·rw [hdst]; exact hK.out _ _ (h.put awnd2 (i := 21) (t := 39) rfl (by rw [H.size]; decide) rfl (Below.refl _ _) rfl)
theorem aw2_22 (H : Aw2 W a0 g1 g2 v10 v12 v20 v22) : AwStep W a0 Q 22 := by
 intro b a w h hb_ hon hoff
 obtain ⟨oi, hoi, hop, hdst, hgd, hty⟩ : ∃ oi, (opsOf Tryz.f20 2)[22]? = some oi ∧ oi.op = .move (.tmp 39) ∧ oi.dst = some 40 ∧ oi.guard = none ∧ oi.type = 4 := ⟨_, rfl, by kernel_rfl, by kernel_rfl, by kernel_rfl, by kernel_rfl⟩
 refine ⟨oi, hoi, fun K hK => ?_⟩
 obtain ⟨u39, e39, p39⟩ := h.get (i := 21) (t := 39) (hon 21 (by kernel_rfl)) rfl rfl
 obtain rfl : u39 = .bool false := p39
 refine value_ (w1 := w) (v := .bool false) (by simp [Region.wanted, hgd]) rfl ?_ ?_
 ·simp only [execOp, hop, hty]
  go_simp
 ·rw [hdst]; exact hK.out _ _ (h.put awnd2 (i := 22) (t := 40) rfl (by rw [H.size]; decide) rfl (Below.refl _ _) rfl)
theorem aw2_23 (H : Aw2 W a0 g1 g2 v10 v12 v20 v22) : AwStep W a0 Q 23 := by
 intro b a w h hb_ hon hoff
 obtain ⟨oi, hoi, hop, hdst, hgd, hty⟩ : ∃ oi, (opsOf Tryz.f20 2)[23]? = some oi ∧ oi.op = .load 42 (.tmp 1) ∧ oi.dst = some 41 ∧ oi.guard = some (22, false) ∧ oi.type = 42 := ⟨_, rfl, by kernel_rfl, by kernel_rfl, by kernel_rfl, by kernel_rfl⟩
 refine ⟨oi, hoi, fun K hK => ?_⟩
 obtain ⟨u40, e40, p40⟩ := h.get (i := 22) (t := 40) (hon 22 (by kernel_rfl)) rfl rfl
 obtain ⟨og, hog, hogd⟩ : ∃ og, (opsOf Tryz.f20 2)[22]? = some og ∧ og.dst = some 40 := ⟨_, rfl, by kernel_rfl⟩
 have e1 := h.elder (t := 1) (by rfl) H.s1
 have hb := blk_below H.b1 h.reads
 have hx0 : w.cell? ⟨g1, 0, none⟩ = some v10 := (bkc hb 0).trans rfl
 have hx1 : w.cell? ⟨g1, 1, none⟩ = some (.bool false) := (bkc hb 1).trans rfl
 have hx2 : w.cell? ⟨g1, 2, none⟩ = some v12 := (bkc hb 2).trans rfl
 refine value_ (w1 := w) (v := .agg #[v10, .bool false, v12]) (wanted_on hgd hog hogd (e40.trans (congrArg some p40))) rfl ?_ ?_
 ·simp only [execOp, hop, hty]
  go_simp
 ·rw [hdst]; exact hK.out _ _ (h.put awnd2 (i := 23) (t := 41) rfl (by rw [H.size]; decide) rfl (Below.refl _ _) (H.k1.below h.reads))
theorem aw2_24 (H : Aw2 W a0 g1 g2 v10 v12 v20 v22) : AwStep W a0 Q 24 := by
 intro b a w h hb_ hon hoff
 obtain ⟨oi, hoi, hop, hdst, hgd, hty⟩ : ∃ oi, (opsOf Tryz.f20 2)[24]? = some oi ∧ oi.op = .buildSlice 31 1 #[(0, .const (.int .i64 1))] ∧ oi.dst = some 42 ∧ oi.guard = some (22, false) ∧ oi.type = 31 := ⟨_, rfl, by kernel_rfl, by kernel_rfl, by kernel_rfl, by kernel_rfl⟩
 refine ⟨oi, hoi, fun K hK => ?_⟩
 obtain ⟨u40, e40, p40⟩ := h.get (i := 22) (t := 40) (hon 22 (by kernel_rfl)) rfl rfl
 obtain ⟨og, hog, hogd⟩ : ∃ og, (opsOf Tryz.f20 2)[22]? = some og ∧ og.dst = some 40 := ⟨_, rfl, by kernel_rfl⟩
 refine value_ (w1 := w.alloc (.cells #[.int .i64 1] 3)) (v := .slice (some ⟨w.heap.size, 0, none⟩) 1 1) (wanted_on hgd hog hogd (e40.trans (congrArg some p40))) rfl ?_ ?_
 ·simp only [execOp, hop, hty]
  go_simp
 ·rw [hdst]; exact hK.out _ _ (h.put awnd2 (i := 24) (t := 42) rfl (by rw [H.size]; decide) rfl (below_new _ _) (ints_lit w [1] _ rfl (by decide)))
theorem aw2_25 (H : Aw2 W a0 g1 g2 v10 v12 v20 v22) : AwStep W a0 Q 25 := by
 intro b a w h hb_ hon hoff
 obtain ⟨oi, hoi, hop, hdst, hgd, hty⟩ : ∃ oi, (opsOf Tryz.f20 2)[25]? = some oi ∧ oi.op = .call { callee := .value (.func 31), args := #[.tmp 42], argTypes := #[31] } ∧ oi.dst = some 43 ∧ oi.guard = some (22, false) ∧ oi.type = 42 := ⟨_, rfl, by kernel_rfl, by kernel_rfl, by kernel_rfl, by kernel_rfl⟩
 refine ⟨oi, hoi, fun K hK => ?_⟩
 obtain ⟨u40, e40, p40⟩ := h.get (i := 22) (t := 40) (hon 22 (by kernel_rfl)) rfl rfl
 obtain ⟨og, hog, hogd⟩ : ∃ og, (opsOf Tryz.f20 2)[22]? = some og ∧ og.dst = some 40 := ⟨_, rfl, by kernel_rfl⟩
 obtain ⟨u42, e42, p42⟩ := h.get (i := 24) (t := 42) (hon 24 (by kernel_rfl)) rfl rfl
 obtain ⟨A42, c42, rfl, l42, q42⟩ := p42
 refine call_ (f := 31) (args := #[.slice A42 1 c42]) (wanted_on hgd hog hogd (e40.trans (congrArg some p40))) rfl ?_ (lawGone_calls _ _ _ w) ?_
 ·simp only [execOp, hop, hty]
  go_simp
 ·rintro e w' ⟨rfl, hb⟩
  exact ⟨_, rfl, by rw [hdst]; exact hK.out _ _ (h.put awnd2 (i := 25) (t := 43) rfl (by rw [H.size]; decide) rfl hb ((K_step w ⟨[], true, [1]⟩ (ints_nil w) ⟨_, _, rfl, l42, q42⟩).below hb))⟩
theorem aw2_26 (H : Aw2 W a0 g1 g2 v10 v12 v20 v22) : AwStep W a0 Q 26 := by
 intro b a w h hb_ hon hoff
 obtain ⟨oi, hoi, hop, hdst, hgd, hty⟩ : ∃ oi, (opsOf Tryz.f20 2)[26]? = some oi ∧ oi.op = .load 42 (.tmp 2) ∧ oi.dst = some 44 ∧ oi.guard = some (22, false) ∧ oi.type = 42 := ⟨_, rfl, by kernel_rfl, by kernel_rfl, by kernel_rfl, by kernel_rfl⟩
 refine ⟨oi, hoi, fun K hK => ?_⟩
 obtain ⟨u40, e40, p40⟩ := h.get (i := 22) (t := 40) (hon 22 (by kernel_rfl)) rfl rfl
 obtain ⟨og, hog, hogd⟩ : ∃ og, (opsOf Tryz.f20 2)[22]? = some og ∧ og.dst = some 40 := ⟨_, rfl, by kernel_rfl⟩
 have e1 := h.elder (t := 2) (by rfl) H.s2
 have hb := blk_below H.b2 h.reads
 have hx0 : w.cell? ⟨g2, 0, none⟩ = some v20 := (bkc hb 0).trans rfl
 have hx1 : w.cell? ⟨g2, 1, none⟩ = some (.bool false) := (bkc hb 1).trans rfl
 have hx2 : w.cell? ⟨g2, 2, none⟩ = some v22 := (bkc hb 2).trans rfl
 refine value_ (w1 := w) (v := .agg #[v20, .bool false, v22]) (wanted_on hgd hog hogd (e40.trans (congrArg some p40))) rfl ?_ ?_
 ·simp only [execOp, hop, hty]
  go_simp
 ·rw [hdst]; exact hK.out _ _ (h.put awnd2 (i := 26) (t := 44) rfl (by rw [H.size]; decide) rfl (Below.refl _ _) (H.k2.below h.reads))
theorem aw2_27 (H : Aw2 W a0 g1 g2 v10 v12 v20 v22) : AwStep W a0 Q 27 := by
 intro b a w h hb_ hon hoff
 obtain ⟨oi, hoi, hop, hdst, hgd, hty⟩ : ∃ oi, (opsOf Tryz.f20 2)[27]? = some oi ∧ oi.op = .buildSlice 31 1 #[(0, .const (.int .i64 2))] ∧ oi.dst = some 45 ∧ oi.guard = some (22, false) ∧ oi.type = 31 := ⟨_, rfl, by kernel_rfl, by kernel_rfl, by kernel_rfl, by kernel_rfl⟩
 refine ⟨oi, hoi, fun K hK => ?_⟩
 obtain ⟨u40, e40, p40⟩ := h.get (i := 22) (t := 40) (hon 22 (by kernel_rfl)) rfl rfl
 obtain ⟨og, hog, hogd⟩ : ∃ og, (opsOf Tryz.f20 2)[22]? = some og ∧ og.dst = some 40 := ⟨_, rfl, by kernel_rfl⟩
 refine value_ (w1 := w.alloc (.cells #[.int .i64 2] 3)) (v := .slice (some ⟨w.heap.size, 0, none⟩) 1 1) (wanted_on hgd hog hogd (e40.trans (congrArg some p40))) rfl ?_ ?_
 ·simp only [execOp, hop, hty]
  go_simp
 ·rw [hdst]; exact hK.out _ _ (h.put awnd2 (i := 27) (t := 45) rfl (by rw [H.size]; decide) rfl (below_new _ _) (ints_lit w [2] _ rfl (by decide)))
theorem aw2_28 (H : Aw2 W a0 g1 g2 v10 v12 v20 v22) : AwStep W a0 Q 28 := by
 intro b a w h hb_ hon hoff
 obtain ⟨oi, hoi, hop, hdst, hgd, hty⟩ : ∃ oi, (opsOf Tryz.f20 2)[28]? = some oi ∧ oi.op = .buildSlice 31 1 #[(0, .const (.int .i64 1))] ∧ oi.dst = some 46 ∧ oi.guard = some (22, false) ∧ oi.type = 31 := ⟨_, rfl, by kernel_rfl, by kernel_rfl, by kernel_rfl, by kernel_rfl⟩
 refine ⟨oi, hoi, fun K hK => ?_⟩
 obtain ⟨u40, e40, p40⟩ := h.get (i := 22) (t := 40) (hon 22 (by kernel_rfl)) rfl rfl
 obtain ⟨og, hog, hogd⟩ : ∃ og, (opsOf Tryz.f20 2)[22]? = some og ∧ og.dst = some 40 := ⟨_, rfl, by kernel_rfl⟩
 refine value_ (w1 := w.alloc (.cells #[.int .i64 1] 3)) (v := .slice (some ⟨w.heap.size, 0, none⟩) 1 1) (wanted_on hgd hog hogd (e40.trans (congrArg some p40))) rfl ?_ ?_
 ·simp only [execOp, hop, hty]
  go_simp
 ·rw [hdst]; exact hK.out _ _ (h.put awnd2 (i := 28) (t := 46) rfl (by rw [H.size]; decide) rfl (below_new _ _) (ints_lit w [1] _ rfl (by decide)))
theorem aw2_29 (H : Aw2 W a0 g1 g2 v10 v12 v20 v22) : AwStep W a0 Q 29 := by
 intro b a w h hb_ hon hoff
 obtain ⟨oi, hoi, hop, hdst, hgd, hty⟩ : ∃ oi, (opsOf Tryz.f20 2)[29]? = some oi ∧ oi.op = .call { callee := .value (.func 29), args := #[.tmp 45, .tmp 46], argTypes := #[31, 31] } ∧ oi.dst = some 47 ∧ oi.guard = some (22, false) ∧ oi.type = 42 := ⟨_, rfl, by kernel_rfl, by kernel_rfl, by kernel_rfl, by kernel_rfl⟩
 refine ⟨oi, hoi, fun K hK => ?_⟩
 obtain ⟨u40, e40, p40⟩ := h.get (i := 22) (t := 40) (hon 22 (by kernel_rfl)) rfl rfl
 obtain ⟨og, hog, hogd⟩ : ∃ og, (opsOf Tryz.f20 2)[22]? = some og ∧ og.dst = some 40 := ⟨_, rfl, by kernel_rfl⟩
 obtain ⟨u45, e45, p45⟩ := h.get (i := 27) (t := 45) (hon 27 (by kernel_rfl)) rfl rfl
 obtain ⟨u46, e46, p46⟩ := h.get (i := 28) (t := 46) (hon 28 (by kernel_rfl)) rfl rfl
 obtain ⟨A45, c45, rfl, l45, q45⟩ := p45
 obtain ⟨A46, c46, rfl, l46, q46⟩ := p46
 refine call_ (f := 29) (args := #[.slice A45 1 c45, .slice A46 1 c46]) (wanted_on hgd hog hogd (e40.trans (congrArg some p40))) rfl ?_ (lawAdd_calls _ _ _ _ _ _ w) ?_
 ·simp only [execOp, hop, hty]
  go_simp
 ·rintro e w' ⟨rfl, hb⟩
  exact ⟨_, rfl, by rw [hdst]; exact hK.out _ _ (h.put awnd2 (i := 29) (t := 47) rfl (by rw [H.size]; decide) rfl hb ((K_step w ⟨[2], false, [1]⟩ ⟨_, _, rfl, l45, q45⟩ ⟨_, _, rfl, l46, q46⟩).below hb))⟩
theorem aw2_30 (H : Aw2 W a0 g1 g2 v10 v12 v20 v22) : AwStep W a0 Q 30 := by
 intro b a w h hb_ hon hoff
 obtain ⟨oi, hoi, hop, hdst, hgd, hty⟩ : ∃ oi, (opsOf Tryz.f20 2)[30]? = some oi ∧ oi.op = .buildSlice 25 4 #[(0, .tmp 41), (1, .tmp 43), (2, .tmp 44), (3, .tmp 47)] ∧ oi.dst = some 48 ∧ oi.guard = some (22, false) ∧ oi.type = 25 := ⟨_, rfl, by kernel_rfl, by kernel_rfl, by kernel_rfl, by kernel_rfl⟩
 refine ⟨oi, hoi, fun K hK => ?_⟩
 obtain ⟨u40, e40, p40⟩ := h.get (i := 22) (t := 40) (hon 22 (by kernel_rfl)) rfl rfl
 obtain ⟨og, hog, hogd⟩ : ∃ og, (opsOf Tryz.f20 2)[22]? = some og ∧ og.dst = some 40 := ⟨_, rfl, by kernel_rfl⟩
 obtain ⟨u41, e41, p41⟩ := h.get (i := 23) (t := 41) (hon 23 (by kernel_rfl)) rfl rfl
 obtain ⟨u43, e43, p43⟩ := h.get (i := 25) (t := 43) (hon 25 (by kernel_rfl)) rfl rfl
 obtain ⟨u44, e44, p44⟩ := h.get (i := 26) (t := 44) (hon 26 (by kernel_rfl)) rfl rfl
 obtain ⟨u47, e47, p47⟩ := h.get (i := 29) (t := 47) (hon 29 (by kernel_rfl)) rfl rfl
 obtain ⟨A41, c41, B41, d41, rfl, q41⟩ := p41
 obtain ⟨A43, c43, B43, d43, rfl, q43⟩ := p43
 obtain ⟨A44, c44, B44, d44, rfl, q44⟩ := p44
 obtain ⟨A47, c47, B47, d47, rfl, q47⟩ := p47
 refine value_ (w1 := w.alloc (.cells #[.slice A41 (one_ : Stp).f0.length c41, .bool (one_ : Stp).f1, .slice B41 (one_ : Stp).f2.length d41, .slice A43 (⟨[], true, [1]⟩ : Stp).f0.length c43, .bool (⟨[], true, [1]⟩ : Stp).f1, .slice B43 (⟨[], true, [1]⟩ : Stp).f2.length d43, .slice A44 (end_ : Stp).f0.length c44, .bool (end_ : Stp).f1, .slice B44 (end_ : Stp).f2.length d44, .slice A47 (⟨[2], false, [1]⟩ : Stp).f0.length c47, .bool (⟨[2], false, [1]⟩ : Stp).f1, .slice B47 (⟨[2], false, [1]⟩ : Stp).f2.length d47] 42)) (v := .slice (some ⟨w.heap.size, 0, none⟩) 4 4) (wanted_on hgd hog hogd (e40.trans (congrArg some p40))) rfl ?_ ?_
 ·simp only [execOp, hop, hty]
  go_simp
  try rfl
 ·rw [hdst]; exact hK.out _ _ (h.put awnd2 (i := 30) (t := 48) rfl (by rw [H.size]; decide) rfl (below_new _ _) ⟨_, _, rfl, Nat.le_refl _, C_lit kStp w 42 [one_, ⟨[], true, [1]⟩, end_, ⟨[2], false, [1]⟩] _ (Reps.snoc (p := (⟨[2], false, [1]⟩ : Stp)) (c := [.slice A47 (⟨[2], false, [1]⟩ : Stp).f0.length c47, .bool (⟨[2], false, [1]⟩ : Stp).f1, .slice B47 (⟨[2], false, [1]⟩ : Stp).f2.length d47]) (Reps.snoc (p := (end_ : Stp)) (c := [.slice A44 (end_ : Stp).f0.length c44, .bool (end_ : Stp).f1, .slice B44 (end_ : Stp).f2.length d44]) (Reps.snoc (p := (⟨[], true, [1]⟩ : Stp)) (c := [.slice A43 (⟨[], true, [1]⟩ : Stp).f0.length c43, .bool (⟨[], true, [1]⟩ : Stp).f1, .slice B43 (⟨[], true, [1]⟩ : Stp).f2.length d43]) (Reps.snoc (p := (one_ : Stp)) (c := [.slice A41 (one_ : Stp).f0.length c41, .bool (one_ : Stp).f1, .slice B41 (one_ : Stp).f2.length d41]) (Reps.none (kStp.K w) 3) q41 rfl) q43 rfl) q44 rfl) q47 rfl) (by decide)⟩)
theorem aw2_31 (H : Aw2 W a0 g1 g2 v10 v12 v20 v22) : AwStep W a0 Q 31 := by
 intro b a w h hb_ hon hoff
 obtain ⟨oi, hoi, hop, hdst, hgd, hty⟩ : ∃ oi, (opsOf Tryz.f20 2)[31]? = some oi ∧ oi.op = .call { callee := .value (.func 30), args := #[.const (.int .i64 3), .const (.int .i64 21), .tmp 48], argTypes := #[3, 28, 25] } ∧ oi.dst = some 49 ∧ oi.guard = some (22, false) ∧ oi.type = 4 := ⟨_, rfl, by kernel_rfl, by kernel_rfl, by kernel_rfl, by kernel_rfl⟩
 refine ⟨oi, hoi, fun K hK => ?_⟩
 obtain ⟨u40, e40, p40⟩ := h.get (i := 22) (t := 40) (hon 22 (by kernel_rfl)) rfl rfl
 obtain ⟨og, hog, hogd⟩ : ∃ og, (opsOf Tryz.f20 2)[22]? = some og ∧ og.dst = some 40 := ⟨_, rfl, by kernel_rfl⟩
 obtain ⟨u48, e48, p48⟩ := h.get (i := 30) (t := 48) (hon 30 (by kernel_rfl)) rfl rfl
 obtain ⟨A48, c48, rfl, l48, q48⟩ := p48
 refine call_ (f := 30) (args := #[.int .i64 3, .int .i64 21, .slice A48 4 c48]) (wanted_on hgd hog hogd (e40.trans (congrArg some p40))) rfl ?_ (checked_calls 50 3 21 A48 c48 [one_, ⟨[], true, [1]⟩, end_, ⟨[2], false, [1]⟩] _ w q48 l48 (run_sq _ (by decide))) ?_
 ·simp only [execOp, hop, hty]
  go_simp
 ·rintro e w' ⟨rfl, hb⟩
  exact ⟨_, rfl, by rw [hdst]; exact hK.out _ _ (h.put awnd2 (i := 31) (t := 49) rfl (by rw [H.size]; decide) rfl hb (show Value.bool _ = Value.bool true by kernel_rfl))⟩
theorem aw2_32 (H : Aw2 W a0 g1 g2 v10 v12 v20 v22) : AwStep W a0 Q 32 := by
 intro b a w h hb_ hon hoff
 obtain ⟨oi, hoi, hop, hdst, hgd, hty⟩ : ∃ oi, (opsOf Tryz.f20 2)[32]? = some oi ∧ oi.op = .unOp .not 4 (.tmp 49) ∧ oi.dst = some 50 ∧ oi.guard = some (22, false) ∧ oi.type = 4 := ⟨_, rfl, by kernel_rfl, by kernel_rfl, by kernel_rfl, by kernel_rfl⟩
 refine ⟨oi, hoi, fun K hK => ?_⟩
 obtain ⟨u40, e40, p40⟩ := h.get (i := 22) (t := 40) (hon 22 (by kernel_rfl)) rfl rfl
 obtain ⟨og, hog, hogd⟩ : ∃ og, (opsOf Tryz.f20 2)[22]? = some og ∧ og.dst = some 40 := ⟨_, rfl, by kernel_rfl⟩
 obtain ⟨u49, e49, p49⟩ := h.get (i := 31) (t := 49) (hon 31 (by kernel_rfl)) rfl rfl
 obtain rfl : u49 = .bool true := p49
 refine value_ (w1 := w) (v := .bool false) (wanted_on hgd hog hogd (e40.trans (congrArg some p40))) rfl ?_ ?_
 ·simp only [execOp, hop, hty]
  go_simp
 ·rw [hdst]; exact hK.out _ _ (h.put awnd2 (i := 32) (t := 50) rfl (by rw [H.size]; decide) rfl (Below.refl _ _) rfl)
theorem aw2_33 (H : Aw2 W a0 g1 g2 v10 v12 v20 v22) : AwStep W a0 Q 33 := by
 intro b a w h hb_ hon hoff
 obtain ⟨oi, hoi, hop, hdst, hgd, hty⟩ : ∃ oi, (opsOf Tryz.f20 2)[33]? = some oi ∧ oi.op = .pick (.tmp 40) (.const (.bool true)) (.tmp 50) ∧ oi.dst = some 51 ∧ oi.guard = none ∧ oi.type = 4 := ⟨_, rfl, by kernel_rfl, by kernel_rfl, by kernel_rfl, by kernel_rfl⟩
 refine ⟨oi, hoi, fun K hK => ?_⟩
 obtain ⟨u40, e40, p40⟩ := h.get (i := 22) (t := 40) (hon 22 (by kernel_rfl)) rfl rfl
 obtain ⟨u50, e50, p50⟩ := h.get (i := 32) (t := 50) (hon 32 (by kernel_rfl)) rfl rfl
 obtain rfl : u40 = .bool false := p40
 obtain rfl : u50 = .bool false := p50
 refine value_ (w1 := w) (v := .bool false) (by simp [Region.wanted, hgd]) rfl ?_ ?_
 ·simp only [execOp, hop, hty]
  go_simp
 ·rw [hdst]; exact hK.out _ _ (h.put awnd2 (i := 33) (t := 51) rfl (by rw [H.size]; decide) rfl (Below.refl _ _) rfl)
theorem aw2_34 (H : Aw2 W a0 g1 g2 v10 v12 v20 v22) : AwStep W a0 Q 34 := by
 intro b a w h hb_ hon hoff
 obtain ⟨oi, hoi, hop, hdst, hgd, hty⟩ : ∃ oi, (opsOf Tryz.f20 2)[34]? = some oi ∧ oi.op = .move (.tmp 51) ∧ oi.dst = some 52 ∧ oi.guard = none ∧ oi.type = 4 := ⟨_, rfl, by kernel_rfl, by kernel_rfl, by kernel_rfl, by kernel_rfl⟩
 refine ⟨oi, hoi, fun K hK => ?_⟩
 obtain ⟨u51, e51, p51⟩ := h.get (i := 33) (t := 51) (hon 33 (by kernel_rfl)) rfl rfl
 obtain rfl : u51 = .bool false := p51
 refine value_ (w1 := w) (v := .bool false) (by simp [Region.wanted, hgd]) rfl ?_ ?_
 ·simp only [execOp, hop, hty]
  go_simp
 ·rw [hdst]; exact hK.out _ _ (h.put awnd2 (i := 34) (t := 52) rfl (by rw [H.size]; decide) rfl (Below.refl _ _) rfl)
theorem aw2_35 (H : Aw2 W a0 g1 g2 v10 v12 v20 v22) : AwStep W a0 Q 35 := by
 intro b a w h hb_ hon hoff
 obtain ⟨oi, hoi, hop, hdst, hgd, hty⟩ : ∃ oi, (opsOf Tryz.f20 2)[35]? = some oi ∧ oi.op = .load 42 (.tmp 1) ∧ oi.dst = some 53 ∧ oi.guard = some (34, false) ∧ oi.type = 42 := ⟨_, rfl, by kernel_rfl, by kernel_rfl, by kernel_rfl, by kernel_rfl⟩
 refine ⟨oi, hoi, fun K hK => ?_⟩
 obtain ⟨u52, e52, p52⟩ := h.get (i := 34) (t := 52) (hon 34 (by kernel_rfl)) rfl rfl
 obtain ⟨og, hog, hogd⟩ : ∃ og, (opsOf Tryz.f20 2)[34]? = some og ∧ og.dst = some 52 := ⟨_, rfl, by kernel_rfl⟩
 have e1 := h.elder (t := 1) (by rfl) H.s1
 have hb := blk_below H.b1 h.reads
 have hx0 : w.cell? ⟨g1, 0, none⟩ = some v10 := (bkc hb 0).trans rfl
 have hx1 : w.cell? ⟨g1, 1, none⟩ = some (.bool false) := (bkc hb 1).trans rfl
 have hx2 : w.cell? ⟨g1, 2, none⟩ = some v12 := (bkc hb 2).trans rfl
 refine value_ (w1 := w) (v := .agg #[v10, .bool false, v12]) (wanted_on hgd hog hogd (e52.trans (congrArg some p52))) rfl ?_ ?_
 ·simp only [execOp, hop, hty]
  go_simp
 ·rw [hdst]; exact hK.out _ _ (h.put awnd2 (i := 35) (t := 53) rfl (by rw [H.size]; decide) rfl (Below.refl _ _) (H.k1.below h.reads))
theorem aw2_36 (H : Aw2 W a0 g1 g2 v10 v12 v20 v22) : AwStep W a0 Q 36 := by
 intro b a w h hb_ hon hoff
 obtain ⟨oi, hoi, hop, hdst, hgd, hty⟩ : ∃ oi, (opsOf Tryz.f20 2)[36]? = some oi ∧ oi.op = .buildSlice 25 1 #[(0, .tmp 53)] ∧ oi.dst = some 54 ∧ oi.guard = some (34, false) ∧ oi.type = 25 := ⟨_, rfl, by kernel_rfl, by kernel_rfl, by kernel_rfl, by kernel_rfl⟩
 refine ⟨oi, hoi, fun K hK => ?_⟩
 obtain ⟨u52, e52, p52⟩ := h.get (i := 34) (t := 52) (hon 34 (by kernel_rfl)) rfl rfl
 obtain ⟨og, hog, hogd⟩ : ∃ og, (opsOf Tryz.f20 2)[34]? = some og ∧ og.dst = some 52 := ⟨_, rfl, by kernel_rfl⟩
 obtain ⟨u53, e53, p53⟩ := h.get (i := 35) (t := 53) (hon 35 (by kernel_rfl)) rfl rfl
 obtain ⟨A53, c53, B53, d53, rfl, q53⟩ := p53
 refine value_ (w1 := w.alloc (.cells #[.slice A53 (one_ : Stp).f0.length c53, .bool (one_ : Stp).f1, .slice B53 (one_ : Stp).f2.length d53] 42)) (v := .slice (some ⟨w.heap.size, 0, none⟩) 1 1) (wanted_on hgd hog hogd (e52.trans (congrArg some p52))) rfl ?_ ?_
 ·simp only [execOp, hop, hty]
  go_simp
  try rfl
 ·rw [hdst]; exact hK.out _ _ (h.put awnd2 (i := 36) (t := 54) rfl (by rw [H.size]; decide) rfl (below_new _ _) ⟨_, _, rfl, Nat.le_refl _, C_lit kStp w 42 [one_] _ (Reps.snoc (p := (one_ : Stp)) (c := [.slice A53 (one_ : Stp).f0.length c53, .bool (one_ : Stp).f1, .slice B53 (one_ : Stp).f2.length d53]) (Reps.none (kStp.K w) 3) q53 rfl) (by decide)⟩)
theorem aw2_37 (H : Aw2 W a0 g1 g2 v10 v12 v20 v22) : AwStep W a0 Q 37 := by
 intro b a w h hb_ hon hoff
 obtain ⟨oi, hoi, hop, hdst, hgd, hty⟩ : ∃ oi, (opsOf Tryz.f20 2)[37]? = some oi ∧ oi.op = .call { callee := .value (.func 30), args := #[.const (.int .i64 0), .const (.int .i64 8), .tmp 54], argTypes := #[3, 28, 25] } ∧ oi.dst = some 55 ∧ oi.guard = some (34, false) ∧ oi.type = 4 := ⟨_, rfl, by kernel_rfl, by kernel_rfl, by kernel_rfl, by kernel_rfl⟩
 refine ⟨oi, hoi, fun K hK => ?_⟩
 obtain ⟨u52, e52, p52⟩ := h.get (i := 34) (t := 52) (hon 34 (by kernel_rfl)) rfl rfl
 obtain ⟨og, hog, hogd⟩ : ∃ og, (opsOf Tryz.f20 2)[34]? = some og ∧ og.dst = some 52 := ⟨_, rfl, by kernel_rfl⟩
 obtain ⟨u54, e54, p54⟩ := h.get (i := 36) (t := 54) (hon 36 (by kernel_rfl)) rfl rfl
 obtain ⟨A54, c54, rfl, l54, q54⟩ := p54
 refine call_ (f := 30) (args := #[.int .i64 0, .int .i64 8, .slice A54 1 c54]) (wanted_on hgd hog hogd (e52.trans (congrArg some p52))) rfl ?_ (checked_calls 50 0 8 A54 c54 [one_] _ w q54 l54 (run_sq _ (by decide))) ?_
 ·simp only [execOp, hop, hty]
  go_simp
 ·rintro e w' ⟨rfl, hb⟩
  exact ⟨_, rfl, by rw [hdst]; exact hK.out _ _ (h.put awnd2 (i := 37) (t := 55) rfl (by rw [H.size]; decide) rfl hb (show Value.bool _ = Value.bool true by kernel_rfl))⟩
theorem aw2_38 (H : Aw2 W a0 g1 g2 v10 v12 v20 v22) : AwStep W a0 Q 38 := by
 intro b a w h hb_ hon hoff
 obtain ⟨oi, hoi, hop, hdst, hgd, hty⟩ : ∃ oi, (opsOf Tryz.f20 2)[38]? = some oi ∧ oi.op = .unOp .not 4 (.tmp 55) ∧ oi.dst = some 56 ∧ oi.guard = some (34, false) ∧ oi.type = 4 := ⟨_, rfl, by kernel_rfl, by kernel_rfl, by kernel_rfl, by kernel_rfl⟩
 refine ⟨oi, hoi, fun K hK => ?_⟩
 obtain ⟨u52, e52, p52⟩ := h.get (i := 34) (t := 52) (hon 34 (by kernel_rfl)) rfl rfl
 obtain ⟨og, hog, hogd⟩ : ∃ og, (opsOf Tryz.f20 2)[34]? = some og ∧ og.dst = some 52 := ⟨_, rfl, by kernel_rfl⟩
 obtain ⟨u55, e55, p55⟩ := h.get (i := 37) (t := 55) (hon 37 (by kernel_rfl)) rfl rfl
 obtain rfl : u55 = .bool true := p55
 refine value_ (w1 := w) (v := .bool false) (wanted_on hgd hog hogd (e52.trans (congrArg some p52))) rfl ?_ ?_
 ·simp only [execOp, hop, hty]
  go_simp
 ·rw [hdst]; exact hK.out _ _ (h.put awnd2 (i := 38) (t := 56) rfl (by rw [H.size]; decide) rfl (Below.refl _ _) rfl)
theorem aw2_39 (H : Aw2 W a0 g1 g2 v10 v12 v20 v22) : AwStep W a0 Q 39 := by
 intro b a w h hb_ hon hoff
 obtain ⟨oi, hoi, hop, hdst, hgd, hty⟩ : ∃ oi, (opsOf Tryz.f20 2)[39]? = some oi ∧ oi.op = .pick (.tmp 52) (.const (.bool true)) (.tmp 56) ∧ oi.dst = some 57 ∧ oi.guard = none ∧ oi.type = 4 := ⟨_, rfl, by kernel_rfl, by kernel_rfl, by kernel_rfl, by kernel_rfl⟩
 refine ⟨oi, hoi, fun K hK => ?_⟩
 obtain ⟨u52, e52, p52⟩ := h.get (i := 34) (t := 52) (hon 34 (by kernel_rfl)) rfl rfl
 obtain ⟨u56, e56, p56⟩ := h.get (i := 38) (t := 56) (hon 38 (by kernel_rfl)) rfl rfl
 obtain rfl : u52 = .bool false := p52
 obtain rfl : u56 = .bool false := p56
 refine value_ (w1 := w) (v := .bool false) (by simp [Region.wanted, hgd]) rfl ?_ ?_
 ·simp only [execOp, hop, hty]
  go_simp
 ·rw [hdst]; exact hK.out _ _ (h.put awnd2 (i := 39) (t := 57) rfl (by rw [H.size]; decide) rfl (Below.refl _ _) rfl)
theorem aw2_40 (H : Aw2 W a0 g1 g2 v10 v12 v20 v22) : AwStep W a0 Q 40 := by
 intro b a w h hb_ hon hoff
 obtain ⟨oi, hoi, hop, hdst, hgd, hty⟩ : ∃ oi, (opsOf Tryz.f20 2)[40]? = some oi ∧ oi.op = .move (.tmp 57) ∧ oi.dst = some 58 ∧ oi.guard = none ∧ oi.type = 4 := ⟨_, rfl, by kernel_rfl, by kernel_rfl, by kernel_rfl, by kernel_rfl⟩
 refine ⟨oi, hoi, fun K hK => ?_⟩
 obtain ⟨u57, e57, p57⟩ := h.get (i := 39) (t := 57) (hon 39 (by kernel_rfl)) rfl rfl
 obtain rfl : u57 = .bool false := p57
 refine value_ (w1 := w) (v := .bool false) (by simp [Region.wanted, hgd]) rfl ?_ ?_
 ·simp only [execOp, hop, hty]
  go_simp
 ·rw [hdst]; exact hK.out _ _ (h.put awnd2 (i := 40) (t := 58) rfl (by rw [H.size]; decide) rfl (Below.refl _ _) rfl)
theorem aw2_41 (H : Aw2 W a0 g1 g2 v10 v12 v20 v22) : AwStep W a0 Q 41 := by
 intro b a w h hb_ hon hoff
 obtain ⟨oi, hoi, hop, hdst, hgd, hty⟩ : ∃ oi, (opsOf Tryz.f20 2)[41]? = some oi ∧ oi.op = .buildSlice 31 1 #[(0, .const (.int .i64 5))] ∧ oi.dst = some 59 ∧ oi.guard = some (40, false) ∧ oi.type = 31 := ⟨_, rfl, by kernel_rfl, by kernel_rfl, by kernel_rfl, by kernel_rfl⟩
 refine ⟨oi, hoi, fun K hK => ?_⟩
 obtain ⟨u58, e58, p58⟩ := h.get (i := 40) (t := 58) (hon 40 (by kernel_rfl)) rfl rfl
 obtain ⟨og, hog, hogd⟩ : ∃ og, (opsOf Tryz.f20 2)[40]? = some og ∧ og.dst = some 58 := ⟨_, rfl, by kernel_rfl⟩
 refine value_ (w1 := w.alloc (.cells #[.int .i64 5] 3)) (v := .slice (some ⟨w.heap.size, 0, none⟩) 1 1) (wanted_on hgd hog hogd (e58.trans (congrArg some p58))) rfl ?_ ?_
 ·simp only [execOp, hop, hty]
  go_simp
 ·rw [hdst]; exact hK.out _ _ (h.put awnd2 (i := 41) (t := 59) rfl (by rw [H.size]; decide) rfl (below_new _ _) (ints_lit w [5] _ rfl (by decide)))
theorem aw2_42 (H : Aw2 W a0 g1 g2 v10 v12 v20 v22) : AwStep W a0 Q 42 := by
 intro b a w h hb_ hon hoff
 obtain ⟨oi, hoi, hop, hdst, hgd, hty⟩ : ∃ oi, (opsOf Tryz.f20 2)[42]? = some oi ∧ oi.op = .buildSlice 31 1 #[(0, .const (.int .i64 1))] ∧ oi.dst = some 60 ∧ oi.guard = some (40, false) ∧ oi.type = 31 := ⟨_, rfl, by kernel_rfl, by kernel_rfl, by kernel_rfl, by kernel_rfl⟩
 refine ⟨oi, hoi, fun K hK => ?_⟩
 obtain ⟨u58, e58, p58⟩ := h.get (i := 40) (t := 58) (hon 40 (by kernel_rfl)) rfl rfl
 obtain ⟨og, hog, hogd⟩ : ∃ og, (opsOf Tryz.f20 2)[40]? = some og ∧ og.dst = some 58 := ⟨_, rfl, by kernel_rfl⟩
 refine value_ (w1 := w.alloc (.cells #[.int .i64 1] 3)) (v := .slice (some ⟨w.heap.size, 0, none⟩) 1 1) (wanted_on hgd hog hogd (e58.trans (congrArg some p58))) rfl ?_ ?_
 ·simp only [execOp, hop, hty]
  go_simp
 ·rw [hdst]; exact hK.out _ _ (h.put awnd2 (i := 42) (t := 60) rfl (by rw [H.size]; decide) rfl (below_new _ _) (ints_lit w [1] _ rfl (by decide)))
theorem aw2_43 (H : Aw2 W a0 g1 g2 v10 v12 v20 v22) : AwStep W a0 Q 43 := by
 intro b a w h hb_ hon hoff
 obtain ⟨oi, hoi, hop, hdst, hgd, hty⟩ : ∃ oi, (opsOf Tryz.f20 2)[43]? = some oi ∧ oi.op = .call { callee := .value (.func 29), args := #[.tmp 59, .tmp 60], argTypes := #[31, 31] } ∧ oi.dst = some 61 ∧ oi.guard = some (40, false) ∧ oi.type = 42 := ⟨_, rfl, by kernel_rfl, by kernel_rfl, by kernel_rfl, by kernel_rfl⟩
 refine ⟨oi, hoi, fun K hK => ?_⟩
 obtain ⟨u58, e58, p58⟩ := h.get (i := 40) (t := 58) (hon 40 (by kernel_rfl)) rfl rfl
 obtain ⟨og, hog, hogd⟩ : ∃ og, (opsOf Tryz.f20 2)[40]? = some og ∧ og.dst = some 58 := ⟨_, rfl, by kernel_rfl⟩
 obtain ⟨u59, e59, p59⟩ := h.get (i := 41) (t := 59) (hon 41 (by kernel_rfl)) rfl rfl
 obtain ⟨u60, e60, p60⟩ := h.get (i := 42) (t := 60) (hon 42 (by kernel_rfl)) rfl rfl
 obtain ⟨A59, c59, rfl, l59, q59⟩ := p59
 obtain ⟨A60, c60, rfl, l60, q60⟩ := p60
 refine call_ (f := 29) (args := #[.slice A59 1 c59, .slice A60 1 c60]) (wanted_on hgd hog hogd (e58.trans (congrArg some p58))) rfl ?_ (lawAdd_calls _ _ _ _ _ _ w) ?_
 ·simp only [execOp, hop, hty]
  go_simp
 ·rintro e w' ⟨rfl, hb⟩
  exact ⟨_, rfl, by rw [hdst]; exact hK.out _ _ (h.put awnd2 (i := 43) (t := 61) rfl (by rw [H.size]; decide) rfl hb ((K_step w ⟨[5], false, [1]⟩ ⟨_, _, rfl, l59, q59⟩ ⟨_, _, rfl, l60, q60⟩).below hb))⟩
theorem aw2_44 (H : Aw2 W a0 g1 g2 v10 v12 v20 v22) : AwStep W a0 Q 44 := by
 intro b a w h hb_ hon hoff
 obtain ⟨oi, hoi, hop, hdst, hgd, hty⟩ : ∃ oi, (opsOf Tryz.f20 2)[44]? = some oi ∧ oi.op = .buildSlice 25 1 #[(0, .tmp 61)] ∧ oi.dst = some 62 ∧ oi.guard = some (40, false) ∧ oi.type = 25 := ⟨_, rfl, by kernel_rfl, by kernel_rfl, by kernel_rfl, by kernel_rfl⟩
 refine ⟨oi, hoi, fun K hK => ?_⟩
 obtain ⟨u58, e58, p58⟩ := h.get (i := 40) (t := 58) (hon 40 (by kernel_rfl)) rfl rfl
 obtain ⟨og, hog, hogd⟩ : ∃ og, (opsOf Tryz.f20 2)[40]? = some og ∧ og.dst = some 58 := ⟨_, rfl, by kernel_rfl⟩
 obtain ⟨u61, e61, p61⟩ := h.get (i := 43) (t := 61) (hon 43 (by kernel_rfl)) rfl rfl
 obtain ⟨A61, c61, B61, d61, rfl, q61⟩ := p61
 refine value_ (w1 := w.alloc (.cells #[.slice A61 (⟨[5], false, [1]⟩ : Stp).f0.length c61, .bool (⟨[5], false, [1]⟩ : Stp).f1, .slice B61 (⟨[5], false, [1]⟩ : Stp).f2.length d61] 42)) (v := .slice (some ⟨w.heap.size, 0, none⟩) 1 1) (wanted_on hgd hog hogd (e58.trans (congrArg some p58))) rfl ?_ ?_
 ·simp only [execOp, hop, hty]
  go_simp
  try rfl
 ·rw [hdst]; exact hK.out _ _ (h.put awnd2 (i := 44) (t := 62) rfl (by rw [H.size]; decide) rfl (below_new _ _) ⟨_, _, rfl, Nat.le_refl _, C_lit kStp w 42 [⟨[5], false, [1]⟩] _ (Reps.snoc (p := (⟨[5], false, [1]⟩ : Stp)) (c := [.slice A61 (⟨[5], false, [1]⟩ : Stp).f0.length c61, .bool (⟨[5], false, [1]⟩ : Stp).f1, .slice B61 (⟨[5], false, [1]⟩ : Stp).f2.length d61]) (Reps.none (kStp.K w) 3) q61 rfl) (by decide)⟩)
theorem aw2_45 (H : Aw2 W a0 g1 g2 v10 v12 v20 v22) : AwStep W a0 Q 45 := by
 intro b a w h hb_ hon hoff
 obtain ⟨oi, hoi, hop, hdst, hgd, hty⟩ : ∃ oi, (opsOf Tryz.f20 2)[45]? = some oi ∧ oi.op = .call { callee := .value (.func 30), args := #[.const (.int .i64 0), .const (.int .i64 1), .tmp 62], argTypes := #[3, 28, 25] } ∧ oi.dst = some 63 ∧ oi.guard = some (40, false) ∧ oi.type = 4 := ⟨_, rfl, by kernel_rfl, by kernel_rfl, by kernel_rfl, by kernel_rfl⟩
 refine ⟨oi, hoi, fun K hK => ?_⟩
 obtain ⟨u58, e58, p58⟩ := h.get (i := 40) (t := 58) (hon 40 (by kernel_rfl)) rfl rfl
 obtain ⟨og, hog, hogd⟩ : ∃ og, (opsOf Tryz.f20 2)[40]? = some og ∧ og.dst = some 58 := ⟨_, rfl, by kernel_rfl⟩
 obtain ⟨u62, e62, p62⟩ := h.get (i := 44) (t := 62) (hon 44 (by kernel_rfl)) rfl rfl
 obtain ⟨A62, c62, rfl, l62, q62⟩ := p62
 refine call_ (f := 30) (args := #[.int .i64 0, .int .i64 1, .slice A62 1 c62]) (wanted_on hgd hog hogd (e58.trans (congrArg some p58))) rfl ?_ (checked_calls 50 0 1 A62 c62 [⟨[5], false, [1]⟩] _ w q62 l62 (run_sq _ (by decide))) ?_
 ·simp only [execOp, hop, hty]
  go_simp
 ·rintro e w' ⟨rfl, hb⟩
  exact ⟨_, rfl, by rw [hdst]; exact hK.out _ _ (h.put awnd2 (i := 45) (t := 63) rfl (by rw [H.size]; decide) rfl hb (show Value.bool _ = Value.bool true by kernel_rfl))⟩
theorem aw2_46 (H : Aw2 W a0 g1 g2 v10 v12 v20 v22) : AwStep W a0 Q 46 := by
 intro b a w h hb_ hon hoff
 obtain ⟨oi, hoi, hop, hdst, hgd, hty⟩ : ∃ oi, (opsOf Tryz.f20 2)[46]? = some oi ∧ oi.op = .unOp .not 4 (.tmp 63) ∧ oi.dst = some 64 ∧ oi.guard = some (40, false) ∧ oi.type = 4 := ⟨_, rfl, by kernel_rfl, by kernel_rfl, by kernel_rfl, by kernel_rfl⟩
 refine ⟨oi, hoi, fun K hK => ?_⟩
 obtain ⟨u58, e58, p58⟩ := h.get (i := 40) (t := 58) (hon 40 (by kernel_rfl)) rfl rfl
 obtain ⟨og, hog, hogd⟩ : ∃ og, (opsOf Tryz.f20 2)[40]? = some og ∧ og.dst = some 58 := ⟨_, rfl, by kernel_rfl⟩
 obtain ⟨u63, e63, p63⟩ := h.get (i := 45) (t := 63) (hon 45 (by kernel_rfl)) rfl rfl
 obtain rfl : u63 = .bool true := p63
 refine value_ (w1 := w) (v := .bool false) (wanted_on hgd hog hogd (e58.trans (congrArg some p58))) rfl ?_ ?_
 ·simp only [execOp, hop, hty]
  go_simp
 ·rw [hdst]; exact hK.out _ _ (h.put awnd2 (i := 46) (t := 64) rfl (by rw [H.size]; decide) rfl (Below.refl _ _) rfl)
theorem aw2_47 (H : Aw2 W a0 g1 g2 v10 v12 v20 v22) : AwStep W a0 Q 47 := by
 intro b a w h hb_ hon hoff
 obtain ⟨oi, hoi, hop, hdst, hgd, hty⟩ : ∃ oi, (opsOf Tryz.f20 2)[47]? = some oi ∧ oi.op = .pick (.tmp 58) (.const (.bool true)) (.tmp 64) ∧ oi.dst = some 65 ∧ oi.guard = none ∧ oi.type = 4 := ⟨_, rfl, by kernel_rfl, by kernel_rfl, by kernel_rfl, by kernel_rfl⟩
 refine ⟨oi, hoi, fun K hK => ?_⟩
 obtain ⟨u58, e58, p58⟩ := h.get (i := 40) (t := 58) (hon 40 (by kernel_rfl)) rfl rfl
 obtain ⟨u64, e64, p64⟩ := h.get (i := 46) (t := 64) (hon 46 (by kernel_rfl)) rfl rfl
 obtain rfl : u58 = .bool false := p58
 obtain rfl : u64 = .bool false := p64
 refine value_ (w1 := w) (v := .bool false) (by simp [Region.wanted, hgd]) rfl ?_ ?_
 ·simp only [execOp, hop, hty]
  go_simp
 ·rw [hdst]; exact hK.out _ _ (h.put awnd2 (i := 47) (t := 65) rfl (by rw [H.size]; decide) rfl (Below.refl _ _) rfl)
theorem aw2_steps (H : Aw2 W a0 g1 g2 v10 v12 v20 v22) : ∀ i ∈ awO2, AwStep W a0 Q i := (stc (aw2_0 H) (stc (aw2_1 H) (stc (aw2_2 H) (stc (aw2_3 H) (stc (aw2_4 H) (stc (aw2_5 H) (stc (aw2_6 H) (stc (aw2_7 H) (stc (aw2_8 H) (stc (aw2_9 H) (stc (aw2_10 H) (stc (aw2_11 H) (stc (aw2_12 H) (stc (aw2_13 H) (stc (aw2_14 H) (stc (aw2_15 H) (stc (aw2_16 H) (stc (aw2_17 H) (stc (aw2_18 H) (stc (aw2_19 H) (stc (aw2_20 H) (stc (aw2_21 H) (stc (aw2_22 H) (stc (aw2_23 H) (stc (aw2_24 H) (stc (aw2_25 H) (stc (aw2_26 H) (stc (aw2_27 H) (stc (aw2_28 H) (stc (aw2_29 H) (stc (aw2_30 H) (stc (aw2_31 H) (stc (aw2_32 H) (stc (aw2_33 H) (stc (aw2_34 H) (stc (aw2_35 H) (stc (aw2_36 H) (stc (aw2_37 H) (stc (aw2_38 H) (stc (aw2_39 H) (stc (aw2_40 H) (stc (aw2_41 H) (stc (aw2_42 H) (stc (aw2_43 H) (stc (aw2_44 H) (stc (aw2_45 H) (stc (aw2_46 H) (stc (aw2_47 H) steps_nil))))))))))))))))))))))))))))))))))))))))))))))))
end
theorem awake_region2 {W : World} {a0 : Act} {g1 g2 : Nat} {v10 v12 v20 v22 : Value} {Q : Exit → Act → World → Prop} (H : Aw2 W.drew a0 g1 g2 v10 v12 v20 v22)
  (hQ : ∀ v w, v 47 = .bool false → Below W.heap.size W w → Q .normal (fillAll a0 awL2 v) w) : (Code.region 2 (opsOf Tryz.f20 2) true).wp Tryz.prog Q a0 W := by
 refine start_ (n := 48) (S := fun _ => True) (ds := []) (Array.replicate 48 false) (by kernel_rfl) (by kernel_rfl) rfl trivial (fun _ => ?_)
 refine inv_ awO2 (Rel W.drew a0 awL2 awtb2) awtab2 awbits2 (by kernel_rfl) (by kernel_rfl) (Rel.start _ _ _ _) (aw2_steps H) ?_
 intro b a w hall hr
 obtain ⟨v, h1, h2, h3⟩ := hr
 have hb : ∀ i, i < awL2.length → b i = true := by
  intro i hi
  have : i < 48 := by simpa [awL2] using hi
  exact hall i (by rw [List.contains_iff_mem]; unfold awO2; simp; omega)
 rw [h1.all hb]
 exact hQ v w (h3 47 _ rfl (hb 47 (by simp [awL2]))) ⟨h2.os, h2.tape, h2.output, h2.size, h2.block⟩
end Go.Proofs.YtogicccdngpafaaGreatDoor.NState
end
section
set_option maxHeartbeats 1000000
set_option maxRecDepth 100000
namespace Go.Proofs.YtogicccdngpafaaGreatDoor.NState
open Go Go.RowKit Go.Shelf QW.PrintWords QW.PrintLast QW.PrintMore NMap
open PCheck (cnf_Check.f)
open PSame (S42 k42 rd_T42 at_T42 k42_mk)
def awT4 : Bool × List (List Nat × List Nat) := (true, [([], []), ([], []), ([], []), ([1, 2], [1, 2]), ([0, 3, 0], [0, 3]), ([4], [4]), ([5], [5]), ([5], [5]), ([6, 4, 0, 1, 2, 3, 4, 5, 6], [6]), ([7, 8, 0, 1, 2, 3, 4, 5, 6, 7, 8], [7])])
def awB4 : List Nat := [0, 0, 0, 6, 15, 31, 63, 63, 127, 511]
theorem awtab4 : rtab .any (opsOf Tryz.f20 4) = awT4 := by kernel_rfl
theorem awbits4 : waitsOk awT4.2 awB4 = true := by kernel_rfl
def awL4 : List Nat := [67, 68, 69, 70, 71, 66, 72, 73, 3, 4]
def awO4 : List Nat := [0, 1, 2, 3, 4, 5, 6, 7, 8, 9]
def awtb4 : List Sp := [.cnf, .step one_, .step end_, .steps [one_, end_], .tupInts [1, 2, 3, 4] 0, .tupInts [1, 2, 3, 4] 0, .ints [1, 2, 3, 4], .int 0, .ints [1, 2, 3, 4], .int 0]
theorem awnd4 : awL4.Nodup := by decide
section
variable {W : World} {a0 : Act} {g1 g2 : Nat} {v10 v12 v20 v22 : Value} {Q : Exit → Act → World → Prop}
abbrev AwStep4 (W : World) (a0 : Act) (Q : Exit → Act → World → Prop) (i : Nat) : Prop := StepAt Tryz.prog (opsOf Tryz.f20 4) Q awB4 awO4 (Rel W a0 awL4 awtb4) i
theorem aw_run : runL 2 (sq.map some) [] [] (-1) 0 [one_, end_] = ⟨[2, 3], [0, 1], 1, 0, 0⟩ := by kernel_rfl
theorem aw_out : coreOut [one_, end_] [2, 3] 4 (neededL [one_, end_] [2, 3] [0, 1] 4 1) = [3, 4, 1, 2] := by kernel_rfl
theorem aw_sort : ([3, 4, 1, 2] : List Int).mergeSort (fun x y => decide (x ≤ y)) = [1, 2, 3, 4] := by
 simp [List.mergeSort, List.MergeSort.Internal.splitInTwo]
theorem aw_core : coreF 4 [one_, end_] (runL 2 (sq.map some) [] [] (-1) 0 [one_, end_]) = ([1, 2, 3, 4], 0) := by
 rw [aw_run]
 unfold coreF
 simp only [if_true]
 rw [aw_out, aw_sort]
 kernel_rfl
theorem aw_coreU : ∀ u ∈ (runL 2 (sq.map some) [] [] (-1) 0 [one_, end_]).used, u ≤ 268435455 := by
 rw [aw_run]; decide
theorem aw4_0 (H : Aw2 W a0 g1 g2 v10 v12 v20 v22) : AwStep4 W a0 Q 0 := by
 intro b a w h hb_ hon hoff
 obtain ⟨oi, hoi, hop, hdst, hgd⟩ : ∃ oi, (opsOf Tryz.f20 4)[0]? = some oi ∧ oi.op = .call { callee := .value (.func 32), args := #[], argTypes := #[] } ∧ oi.dst = some 67 ∧ oi.guard = none := ⟨_, rfl, by kernel_rfl, by kernel_rfl, by kernel_rfl⟩
 refine ⟨oi, hoi, fun K hK => ?_⟩
 refine call_ (f := 32) (args := #[]) (by simp [Region.wanted, hgd]) rfl ?_ (square_calls w) ?_
 ·simp only [execOp, hop]
  go_simp
 ·rintro e w' ⟨A, rfl, hs, hb⟩
  exact ⟨_, rfl, by rw [hdst]; exact hK.out _ _ (h.put awnd4 (i := 0) (t := 67) rfl (by rw [H.size]; decide) rfl hb ⟨A, rfl, hs⟩)⟩
theorem aw4_1 (H : Aw2 W a0 g1 g2 v10 v12 v20 v22) : AwStep4 W a0 Q 1 := by
 intro b a w h hb_ hon hoff
 obtain ⟨oi, hoi, hop, hdst, hgd⟩ : ∃ oi, (opsOf Tryz.f20 4)[1]? = some oi ∧ oi.op = .load 42 (.tmp 1) ∧ oi.dst = some 68 ∧ oi.guard = none := ⟨_, rfl, by kernel_rfl, by kernel_rfl, by kernel_rfl⟩
 refine ⟨oi, hoi, fun K hK => ?_⟩
 have e1 := h.elder (t := 1) (by rfl) H.s1
 have hb := blk_below H.b1 h.reads
 have hx0 : w.cell? ⟨g1, 0, none⟩ = some v10 := (bkc hb 0).trans rfl
 have hx1 : w.cell? ⟨g1, 1, none⟩ = some (.bool false) := (bkc hb 1).trans rfl
 have hx2 : w.cell? ⟨g1, 2, none⟩ = some v12 := (bkc hb 2).trans rfl
 refine value_ (w1 := w) (v := .agg #[v10, .bool false, v12]) (by simp [Region.wanted, hgd]) rfl ?_ ?_
 ·simp only [execOp, hop]
  go_simp
 ·rw [hdst]; exact hK.out _ _ (h.put awnd4 (i := 1) (t := 68) rfl (by rw [H.size]; decide) rfl (Below.refl _ _) (H.k1.below h.reads))
theorem aw4_2 (H : Aw2 W a0 g1 g2 v10 v12 v20 v22) : AwStep4 W a0 Q 2 := by
 intro b a w h hb_ hon hoff
 obtain ⟨oi, hoi, hop, hdst, hgd⟩ : ∃ oi, (opsOf Tryz.f20 4)[2]? = some oi ∧ oi.op = .load 42 (.tmp 2) ∧ oi.dst = some 69 ∧ oi.guard = none := ⟨_, rfl, by kernel_rfl, by kernel_rfl, by kernel_rfl⟩
 refine ⟨oi, hoi, fun K hK => ?_⟩
 have e1 := h.elder (t := 2) (by rfl) H.s2
 have hb := blk_below H.b2 h.reads
 have hx0 : w.cell? ⟨g2, 0, none⟩ = some v20 := (bkc hb 0).trans rfl
 have hx1 : w.cell? ⟨g2, 1, none⟩ = some (.bool false) := (bkc hb 1).trans rfl
 have hx2 : w.cell? ⟨g2, 2, none⟩ = some v22 := (bkc hb 2).trans rfl
 refine value_ (w1 := w) (v := .agg #[v20, .bool false, v22]) (by simp [Region.wanted, hgd]) rfl ?_ ?_
 ·simp only [execOp, hop]
  go_simp
 ·rw [hdst]; exact hK.out _ _ (h.put awnd4 (i := 2) (t := 69) rfl (by rw [H.size]; decide) rfl (Below.refl _ _) (H.k2.below h.reads))
theorem aw4_3 (H : Aw2 W a0 g1 g2 v10 v12 v20 v22) : AwStep4 W a0 Q 3 := by
 intro b a w h hb_ hon hoff
 obtain ⟨oi, hoi, hop, hdst, hgd⟩ : ∃ oi, (opsOf Tryz.f20 4)[3]? = some oi ∧ oi.op = .buildSlice 25 2 #[(0, .tmp 68), (1, .tmp 69)] ∧ oi.dst = some 70 ∧ oi.guard = none := ⟨_, rfl, by kernel_rfl, by kernel_rfl, by kernel_rfl⟩
 refine ⟨oi, hoi, fun K hK => ?_⟩
 obtain ⟨u68, e68, p68⟩ := h.get (i := 1) (t := 68) (hon 1 (by kernel_rfl)) rfl rfl
 obtain ⟨u69, e69, p69⟩ := h.get (i := 2) (t := 69) (hon 2 (by kernel_rfl)) rfl rfl
 obtain ⟨A68, c68, B68, d68, rfl, q68⟩ := p68
 obtain ⟨A69, c69, B69, d69, rfl, q69⟩ := p69
 refine value_ (w1 := w.alloc (.cells #[.slice A68 (one_ : Stp).f0.length c68, .bool (one_ : Stp).f1, .slice B68 (one_ : Stp).f2.length d68, .slice A69 (end_ : Stp).f0.length c69, .bool (end_ : Stp).f1, .slice B69 (end_ : Stp).f2.length d69] 42)) (v := .slice (some ⟨w.heap.size, 0, none⟩) 2 2) (by simp [Region.wanted, hgd]) rfl ?_ ?_
 ·simp only [execOp, hop]
  go_simp
  try rfl
 ·rw [hdst]; exact hK.out _ _ (h.put awnd4 (i := 3) (t := 70) rfl (by rw [H.size]; decide) rfl (below_new _ _) ⟨_, _, rfl, Nat.le_refl _, C_lit kStp w 42 [one_, end_] _ (Reps.snoc (p := (end_ : Stp)) (c := [.slice A69 (end_ : Stp).f0.length c69, .bool (end_ : Stp).f1, .slice B69 (end_ : Stp).f2.length d69]) (Reps.snoc (p := (one_ : Stp)) (c := [.slice A68 (one_ : Stp).f0.length c68, .bool (one_ : Stp).f1, .slice B68 (one_ : Stp).f2.length d68]) (Reps.none (kStp.K w) 3) q68 rfl) q69 rfl) (by decide)⟩)
theorem aw4_4 (H : Aw2 W a0 g1 g2 v10 v12 v20 v22) : AwStep4 W a0 Q 4 := by
 intro b a w h hb_ hon hoff
 obtain ⟨oi, hoi, hop, hdst, hgd⟩ : ∃ oi, (opsOf Tryz.f20 4)[4]? = some oi ∧ oi.op = .call { callee := .value (.func 13), args := #[.tmp 67, .tmp 70], argTypes := #[24, 25] } ∧ oi.dst = some 71 ∧ oi.guard = none := ⟨_, rfl, by kernel_rfl, by kernel_rfl, by kernel_rfl⟩
 refine ⟨oi, hoi, fun K hK => ?_⟩
 obtain ⟨u67, e67, p67⟩ := h.get (i := 0) (t := 67) (hon 0 (by kernel_rfl)) rfl rfl
 obtain ⟨u70, e70, p70⟩ := h.get (i := 3) (t := 70) (hon 3 (by kernel_rfl)) rfl rfl
 obtain ⟨Ac, rfl, qc⟩ := p67
 obtain ⟨As, cs, rfl, ls, qs⟩ := p70
 refine call_ (f := 13) (args := #[.agg #[.int .i64 2, .slice Ac 4 4], .slice As 2 cs]) (by simp [Region.wanted, hgd]) rfl ?_ (core_calls 50 2 Ac 4 sq As cs [one_, end_] _ w qc (by decide) qs ls (run_sq _ (by decide)) (by decide) aw_coreU) ?_
 ·simp only [execOp, hop]
  go_simp
 ·rintro e w' ⟨v, rfl, hr, hb⟩
  rw [show (sq.length) = 4 from rfl, aw_core] at hr ⊢
  obtain ⟨A, c, rfl, hl, hC⟩ := Kd.R_reads hr
  exact ⟨_, rfl, by rw [hdst]; exact hK.out _ _ (h.put awnd4 (i := 4) (t := 71) rfl (by rw [H.size]; decide) rfl hb ⟨A, c, rfl, hl, hC⟩)⟩
theorem aw4_5 (H : Aw2 W a0 g1 g2 v10 v12 v20 v22) : AwStep4 W a0 Q 5 := by
 intro b a w h hb_ hon hoff
 obtain ⟨oi, hoi, hop, hdst, hgd⟩ : ∃ oi, (opsOf Tryz.f20 4)[5]? = some oi ∧ oi.op = .move (.tmp 71) ∧ oi.dst = some 66 ∧ oi.guard = none := ⟨_, rfl, by kernel_rfl, by kernel_rfl, by kernel_rfl⟩
 refine ⟨oi, hoi, fun K hK => ?_⟩
 obtain ⟨u71, e71, p71⟩ := h.get (i := 4) (t := 71) (hon 4 (by kernel_rfl)) rfl rfl
 refine value_ (w1 := w) (v := u71) (by simp [Region.wanted, hgd]) rfl ?_ ?_
 ·simp only [execOp, hop]
  go_simp
 ·rw [hdst]; exact hK.out _ _ (h.put awnd4 (i := 5) (t := 66) rfl (by rw [H.size]; decide) rfl (Below.refl _ _) p71)
theorem aw4_6 (H : Aw2 W a0 g1 g2 v10 v12 v20 v22) : AwStep4 W a0 Q 6 := by
 intro b a w h hb_ hon hoff
 obtain ⟨oi, hoi, hop, hdst, hgd⟩ : ∃ oi, (opsOf Tryz.f20 4)[6]? = some oi ∧ oi.op = .extract (.tmp 66) 0 ∧ oi.dst = some 72 ∧ oi.guard = none := ⟨_, rfl, by kernel_rfl, by kernel_rfl, by kernel_rfl⟩
 refine ⟨oi, hoi, fun K hK => ?_⟩
 obtain ⟨u66, e66, p66⟩ := h.get (i := 5) (t := 66) (hon 5 (by kernel_rfl)) rfl rfl
 obtain ⟨A, c, rfl, hl, hC⟩ := p66
 refine value_ (w1 := w) (v := .slice A ([1, 2, 3, 4] : List Int).length c) (by simp [Region.wanted, hgd]) rfl ?_ ?_
 ·simp only [execOp, hop]
  go_simp
 ·rw [hdst]; exact hK.out _ _ (h.put awnd4 (i := 6) (t := 72) rfl (by rw [H.size]; decide) rfl (Below.refl _ _) ⟨A, c, rfl, hl, hC⟩)
theorem aw4_7 (H : Aw2 W a0 g1 g2 v10 v12 v20 v22) : AwStep4 W a0 Q 7 := by
 intro b a w h hb_ hon hoff
 obtain ⟨oi, hoi, hop, hdst, hgd⟩ : ∃ oi, (opsOf Tryz.f20 4)[7]? = some oi ∧ oi.op = .extract (.tmp 66) 1 ∧ oi.dst = some 73 ∧ oi.guard = none := ⟨_, rfl, by kernel_rfl, by kernel_rfl, by kernel_rfl⟩
 refine ⟨oi, hoi, fun K hK => ?_⟩
 obtain ⟨u66, e66, p66⟩ := h.get (i := 5) (t := 66) (hon 5 (by kernel_rfl)) rfl rfl
 obtain ⟨A, c, rfl, hl, hC⟩ := p66
 refine value_ (w1 := w) (v := .int .i64 0) (by simp [Region.wanted, hgd]) rfl ?_ ?_
 ·simp only [execOp, hop]
  go_simp
 ·rw [hdst]; exact hK.out _ _ (h.put awnd4 (i := 7) (t := 73) rfl (by rw [H.size]; decide) rfl (Below.refl _ _) rfl)
theorem aw4_8 (H : Aw2 W a0 g1 g2 v10 v12 v20 v22) : AwStep4 W a0 Q 8 := by
 intro b a w h hb_ hon hoff
 obtain ⟨oi, hoi, hop, hdst, hgd⟩ : ∃ oi, (opsOf Tryz.f20 4)[8]? = some oi ∧ oi.op = .assign (.tmp 72) ∧ oi.dst = some 3 ∧ oi.guard = none := ⟨_, rfl, by kernel_rfl, by kernel_rfl, by kernel_rfl⟩
 refine ⟨oi, hoi, fun K hK => ?_⟩
 obtain ⟨u72, e72, p72⟩ := h.get (i := 6) (t := 72) (hon 6 (by kernel_rfl)) rfl rfl
 refine value_ (w1 := w) (v := u72) (by simp [Region.wanted, hgd]) rfl ?_ ?_
 ·simp only [execOp, hop]
  go_simp
 ·rw [hdst]; exact hK.out _ _ (h.put awnd4 (i := 8) (t := 3) rfl (by rw [H.size]; decide) rfl (Below.refl _ _) p72)
theorem aw4_9 (H : Aw2 W a0 g1 g2 v10 v12 v20 v22) : AwStep4 W a0 Q 9 := by
 intro b a w h hb_ hon hoff
 obtain ⟨oi, hoi, hop, hdst, hgd⟩ : ∃ oi, (opsOf Tryz.f20 4)[9]? = some oi ∧ oi.op = .assign (.tmp 73) ∧ oi.dst = some 4 ∧ oi.guard = none := ⟨_, rfl, by kernel_rfl, by kernel_rfl, by kernel_rfl⟩
 refine ⟨oi, hoi, fun K hK => ?_⟩
 obtain ⟨u73, e73, p73⟩ := h.get (i := 7) (t := 73) (hon 7 (by kernel_rfl)) rfl rfl
 refine value_ (w1 := w) (v := u73) (by simp [Region.wanted, hgd]) rfl ?_ ?_
 ·simp only [execOp, hop]
  go_simp
 ·rw [hdst]; exact hK.out _ _ (h.put awnd4 (i := 9) (t := 4) rfl (by rw [H.size]; decide) rfl (Below.refl _ _) p73)
theorem aw4_steps (H : Aw2 W a0 g1 g2 v10 v12 v20 v22) : ∀ i ∈ awO4, AwStep4 W a0 Q i := (stc (aw4_0 H) (stc (aw4_1 H) (stc (aw4_2 H) (stc (aw4_3 H) (stc (aw4_4 H) (stc (aw4_5 H) (stc (aw4_6 H) (stc (aw4_7 H) (stc (aw4_8 H) (stc (aw4_9 H) steps_nil))))))))))
end
theorem awake_region4 {W : World} {a0 : Act} {g1 g2 : Nat} {v10 v12 v20 v22 : Value} {Q : Exit → Act → World → Prop} (H : Aw2 W.drew a0 g1 g2 v10 v12 v20 v22)
  (hQ : ∀ (v : Nat → Value) (w : World), (∀ (i : Nat) (s : Sp), awtb4[i]? = some s → s.holds w (v i)) → Below W.heap.size W w → Q .normal (fillAll a0 awL4 v) w) : (Code.region 4 (opsOf Tryz.f20 4) true).wp Tryz.prog Q a0 W := by
 refine start_ (n := 10) (S := fun _ => True) (ds := []) (Array.replicate 10 false) (by kernel_rfl) (by kernel_rfl) rfl trivial (fun _ => ?_)
 refine inv_ awO4 (Rel W.drew a0 awL4 awtb4) awtab4 awbits4 (by kernel_rfl) (by kernel_rfl) (Rel.start _ _ _ _) (aw4_steps H) ?_
 intro b a w hall hr
 obtain ⟨v, h1, h2, h3⟩ := hr
 have hb : ∀ i, i < awL4.length → b i = true := by
  intro i hi
  have : i < 10 := by simpa [awL4] using hi
  exact hall i (by rw [List.contains_iff_mem]; unfold awO4; simp; omega)
 rw [h1.all hb]
 exact hQ v w (fun i s hs => h3 i s hs (hb i (by have := (List.getElem?_eq_some_iff.1 hs).1; simpa [awL4, awtb4] using this))) ⟨h2.os, h2.tape, h2.output, h2.size, h2.block⟩
end Go.Proofs.YtogicccdngpafaaGreatDoor.NState
end
section
set_option maxHeartbeats 1000000
set_option maxRecDepth 100000
namespace Go.Proofs.YtogicccdngpafaaGreatDoor.NState
open Go Go.RowKit Go.Shelf QW.PrintWords QW.PrintLast QW.PrintMore NMap
open PCheck (cnf_Check.f)
open PSame (S42 k42 rd_T42 at_T42 k42_mk)
def awT5 : Bool × List (List Nat × List Nat) := (true, [([], []), ([], []), ([], []), ([1, 2, 0], [1, 2]), ([], []), ([], []), ([5, 3], [5]), ([3, 4, 6], [3, 4, 6]), ([0, 7, 6], [0, 7]), ([8], [8]), ([9], [9]), ([9], [9]), ([10, 8, 0, 1, 2, 3, 4, 5, 6, 7, 8, 9, 10], [10]), ([11, 12, 0, 1, 2, 3, 4, 5, 6, 7, 8, 9, 10, 11, 12], [11])])
def awB5 : List Nat := [0, 0, 0, 7, 0, 0, 47, 127, 255, 511, 1023, 1023, 2047, 8191]
theorem awtab5 : rtab .any (opsOf Tryz.f20 5) = awT5 := by kernel_rfl
theorem awbits5 : waitsOk awT5.2 awB5 = true := by kernel_rfl
def awL5 : List Nat := [75, 76, 77, 78, 79, 80, 81, 82, 83, 74, 84, 85, 5, 6]
def awO5 : List Nat := [0, 1, 2, 3, 4, 5, 6, 7, 8, 9, 10, 11, 12, 13]
def awtb5 : List Sp := [.cnf, .ints [2], .ints [1, 3], .step ⟨[2], false, [1, 3]⟩, .step one_, .ints [6, 3, 4], .step ⟨[], false, [6, 3, 4]⟩, .steps [⟨[2], false, [1, 3]⟩, one_, ⟨[], false, [6, 3, 4]⟩], .tupSteps [one_, end_] 0, .tupSteps [one_, end_] 0, .steps [one_, end_], .int 0, .steps [one_, end_], .int 0]
theorem awnd5 : awL5.Nodup := by decide
section
variable {W : World} {a0 : Act} {g1 g2 : Nat} {v10 v12 v20 v22 : Value} {Q : Exit → Act → World → Prop}
abbrev AwStep5 (W : World) (a0 : Act) (Q : Exit → Act → World → Prop) (i : Nat) : Prop := StepAt Tryz.prog (opsOf Tryz.f20 5) Q awB5 awO5 (Rel W a0 awL5 awtb5) i
theorem aw_trim : trimF 4 [⟨[2], false, [1, 3]⟩, one_, ⟨[], false, [6, 3, 4]⟩] (runL 2 (sq.map some) [] [] (-1) 0 [⟨[2], false, [1, 3]⟩, one_, ⟨[], false, [6, 3, 4]⟩]) = ([one_, end_], 0) := by kernel_rfl
theorem aw5_0 (H : Aw2 W a0 g1 g2 v10 v12 v20 v22) : AwStep5 W a0 Q 0 := by
 intro b a w h hb_ hon hoff
 obtain ⟨oi, hoi, hop, hdst, hgd⟩ : ∃ oi, (opsOf Tryz.f20 5)[0]? = some oi ∧ oi.op = .call { callee := .value (.func 32), args := #[], argTypes := #[] } ∧ oi.dst = some 75 ∧ oi.guard = none := ⟨_, rfl, by kernel_rfl, by kernel_rfl, by kernel_rfl⟩
 refine ⟨oi, hoi, fun K hK => ?_⟩
 refine call_ (f := 32) (args := #[]) (by simp [Region.wanted, hgd]) rfl ?_ (square_calls w) ?_
 ·simp only [execOp, hop]
  go_simp
 ·rintro e w' ⟨A, rfl, hs, hb⟩
  exact ⟨_, rfl, by rw [hdst]; exact hK.out _ _ (h.put awnd5 (i := 0) (t := 75) rfl (by rw [H.size]; decide) rfl hb ⟨A, rfl, hs⟩)⟩
theorem aw5_1 (H : Aw2 W a0 g1 g2 v10 v12 v20 v22) : AwStep5 W a0 Q 1 := by
 intro b a w h hb_ hon hoff
 obtain ⟨oi, hoi, hop, hdst, hgd⟩ : ∃ oi, (opsOf Tryz.f20 5)[1]? = some oi ∧ oi.op = .buildSlice 31 1 #[(0, .const (.int .i64 2))] ∧ oi.dst = some 76 ∧ oi.guard = none := ⟨_, rfl, by kernel_rfl, by kernel_rfl, by kernel_rfl⟩
 refine ⟨oi, hoi, fun K hK => ?_⟩
 refine value_ (w1 := w.alloc (.cells #[.int .i64 2] 3)) (v := .slice (some ⟨w.heap.size, 0, none⟩) 1 1) (by simp [Region.wanted, hgd]) rfl ?_ ?_
 ·simp only [execOp, hop]
  go_simp
 ·rw [hdst]; exact hK.out _ _ (h.put awnd5 (i := 1) (t := 76) rfl (by rw [H.size]; decide) rfl (below_new _ _) (ints_lit w [2] _ rfl (by decide)))
theorem aw5_2 (H : Aw2 W a0 g1 g2 v10 v12 v20 v22) : AwStep5 W a0 Q 2 := by
 intro b a w h hb_ hon hoff
 obtain ⟨oi, hoi, hop, hdst, hgd⟩ : ∃ oi, (opsOf Tryz.f20 5)[2]? = some oi ∧ oi.op = .buildSlice 31 2 #[(0, .const (.int .i64 1)), (1, .const (.int .i64 3))] ∧ oi.dst = some 77 ∧ oi.guard = none := ⟨_, rfl, by kernel_rfl, by kernel_rfl, by kernel_rfl⟩
 refine ⟨oi, hoi, fun K hK => ?_⟩
 refine value_ (w1 := w.alloc (.cells #[.int .i64 1, .int .i64 3] 3)) (v := .slice (some ⟨w.heap.size, 0, none⟩) 2 2) (by simp [Region.wanted, hgd]) rfl ?_ ?_
 ·simp only [execOp, hop]
  go_simp
 ·rw [hdst]; exact hK.out _ _ (h.put awnd5 (i := 2) (t := 77) rfl (by rw [H.size]; decide) rfl (below_new _ _) (ints_lit w [1, 3] _ rfl (by decide)))
theorem aw5_3 (H : Aw2 W a0 g1 g2 v10 v12 v20 v22) : AwStep5 W a0 Q 3 := by
 intro b a w h hb_ hon hoff
 obtain ⟨oi, hoi, hop, hdst, hgd⟩ : ∃ oi, (opsOf Tryz.f20 5)[3]? = some oi ∧ oi.op = .call { callee := .value (.func 29), args := #[.tmp 76, .tmp 77], argTypes := #[31, 31] } ∧ oi.dst = some 78 ∧ oi.guard = none := ⟨_, rfl, by kernel_rfl, by kernel_rfl, by kernel_rfl⟩
 refine ⟨oi, hoi, fun K hK => ?_⟩
 obtain ⟨u76, e76, p76⟩ := h.get (i := 1) (t := 76) (hon 1 (by kernel_rfl)) rfl rfl
 obtain ⟨u77, e77, p77⟩ := h.get (i := 2) (t := 77) (hon 2 (by kernel_rfl)) rfl rfl
 obtain ⟨A76, c76, rfl, l76, q76⟩ := p76
 obtain ⟨A77, c77, rfl, l77, q77⟩ := p77
 refine call_ (f := 29) (args := #[.slice A76 1 c76, .slice A77 2 c77]) (by simp [Region.wanted, hgd]) rfl ?_ (lawAdd_calls _ _ _ _ _ _ w) ?_
 ·simp only [execOp, hop]
  go_simp
 ·rintro e w' ⟨rfl, hb⟩
  exact ⟨_, rfl, by rw [hdst]; exact hK.out _ _ (h.put awnd5 (i := 3) (t := 78) rfl (by rw [H.size]; decide) rfl hb ((K_step w ⟨[2], false, [1, 3]⟩ ⟨_, _, rfl, l76, q76⟩ ⟨_, _, rfl, l77, q77⟩).below hb))⟩
theorem aw5_4 (H : Aw2 W a0 g1 g2 v10 v12 v20 v22) : AwStep5 W a0 Q 4 := by
 intro b a w h hb_ hon hoff
 obtain ⟨oi, hoi, hop, hdst, hgd⟩ : ∃ oi, (opsOf Tryz.f20 5)[4]? = some oi ∧ oi.op = .load 42 (.tmp 1) ∧ oi.dst = some 79 ∧ oi.guard = none := ⟨_, rfl, by kernel_rfl, by kernel_rfl, by kernel_rfl⟩
 refine ⟨oi, hoi, fun K hK => ?_⟩
 have e1 := h.elder (t := 1) (by rfl) H.s1
 have hb := blk_below H.b1 h.reads
 have hx0 : w.cell? ⟨g1, 0, none⟩ = some v10 := (bkc hb 0).trans rfl
 have hx1 : w.cell? ⟨g1, 1, none⟩ = some (.bool false) := (bkc hb 1).trans rfl
 have hx2 : w.cell? ⟨g1, 2, none⟩ = some v12 := (bkc hb 2).trans rfl
 refine value_ (w1 := w) (v := .agg #[v10, .bool false, v12]) (by simp [Region.wanted, hgd]) rfl ?_ ?_
 ·simp only [execOp, hop]
  go_simp
 ·rw [hdst]; exact hK.out _ _ (h.put awnd5 (i := 4) (t := 79) rfl (by rw [H.size]; decide) rfl (Below.refl _ _) (H.k1.below h.reads))
theorem aw5_5 (H : Aw2 W a0 g1 g2 v10 v12 v20 v22) : AwStep5 W a0 Q 5 := by
 intro b a w h hb_ hon hoff
 obtain ⟨oi, hoi, hop, hdst, hgd⟩ : ∃ oi, (opsOf Tryz.f20 5)[5]? = some oi ∧ oi.op = .buildSlice 31 3 #[(0, .const (.int .i64 6)), (1, .const (.int .i64 3)), (2, .const (.int .i64 4))] ∧ oi.dst = some 80 ∧ oi.guard = none := ⟨_, rfl, by kernel_rfl, by kernel_rfl, by kernel_rfl⟩
 refine ⟨oi, hoi, fun K hK => ?_⟩
 refine value_ (w1 := w.alloc (.cells #[.int .i64 6, .int .i64 3, .int .i64 4] 3)) (v := .slice (some ⟨w.heap.size, 0, none⟩) 3 3) (by simp [Region.wanted, hgd]) rfl ?_ ?_
 ·simp only [execOp, hop]
  go_simp
 ·rw [hdst]; exact hK.out _ _ (h.put awnd5 (i := 5) (t := 80) rfl (by rw [H.size]; decide) rfl (below_new _ _) (ints_lit w [6, 3, 4] _ rfl (by decide)))
theorem aw5_6 (H : Aw2 W a0 g1 g2 v10 v12 v20 v22) : AwStep5 W a0 Q 6 := by
 intro b a w h hb_ hon hoff
 obtain ⟨oi, hoi, hop, hdst, hgd⟩ : ∃ oi, (opsOf Tryz.f20 5)[6]? = some oi ∧ oi.op = .call { callee := .value (.func 29), args := #[.const (.slice none 0 0), .tmp 80], argTypes := #[31, 31] } ∧ oi.dst = some 81 ∧ oi.guard = none := ⟨_, rfl, by kernel_rfl, by kernel_rfl, by kernel_rfl⟩
 refine ⟨oi, hoi, fun K hK => ?_⟩
 obtain ⟨u80, e80, p80⟩ := h.get (i := 5) (t := 80) (hon 5 (by kernel_rfl)) rfl rfl
 obtain ⟨A80, c80, rfl, l80, q80⟩ := p80
 refine call_ (f := 29) (args := #[.slice none 0 0, .slice A80 3 c80]) (by simp [Region.wanted, hgd]) rfl ?_ (lawAdd_calls _ _ _ _ _ _ w) ?_
 ·simp only [execOp, hop]
  go_simp
 ·rintro e w' ⟨rfl, hb⟩
  exact ⟨_, rfl, by rw [hdst]; exact hK.out _ _ (h.put awnd5 (i := 6) (t := 81) rfl (by rw [H.size]; decide) rfl hb ((K_step w ⟨[], false, [6, 3, 4]⟩ (ints_nil w) ⟨_, _, rfl, l80, q80⟩).below hb))⟩
theorem aw5_7 (H : Aw2 W a0 g1 g2 v10 v12 v20 v22) : AwStep5 W a0 Q 7 := by
 intro b a w h hb_ hon hoff
 obtain ⟨oi, hoi, hop, hdst, hgd⟩ : ∃ oi, (opsOf Tryz.f20 5)[7]? = some oi ∧ oi.op = .buildSlice 25 3 #[(0, .tmp 78), (1, .tmp 79), (2, .tmp 81)] ∧ oi.dst = some 82 ∧ oi.guard = none := ⟨_, rfl, by kernel_rfl, by kernel_rfl, by kernel_rfl⟩
 refine ⟨oi, hoi, fun K hK => ?_⟩
 obtain ⟨u78, e78, p78⟩ := h.get (i := 3) (t := 78) (hon 3 (by kernel_rfl)) rfl rfl
 obtain ⟨u79, e79, p79⟩ := h.get (i := 4) (t := 79) (hon 4 (by kernel_rfl)) rfl rfl
 obtain ⟨u81, e81, p81⟩ := h.get (i := 6) (t := 81) (hon 6 (by kernel_rfl)) rfl rfl
 obtain ⟨A78, c78, B78, d78, rfl, q78⟩ := p78
 obtain ⟨A79, c79, B79, d79, rfl, q79⟩ := p79
 obtain ⟨A81, c81, B81, d81, rfl, q81⟩ := p81
 refine value_ (w1 := w.alloc (.cells #[.slice A78 (⟨[2], false, [1, 3]⟩ : Stp).f0.length c78, .bool (⟨[2], false, [1, 3]⟩ : Stp).f1, .slice B78 (⟨[2], false, [1, 3]⟩ : Stp).f2.length d78, .slice A79 (one_ : Stp).f0.length c79, .bool (one_ : Stp).f1, .slice B79 (one_ : Stp).f2.length d79, .slice A81 (⟨[], false, [6, 3, 4]⟩ : Stp).f0.length c81, .bool (⟨[], false, [6, 3, 4]⟩ : Stp).f1, .slice B81 (⟨[], false, [6, 3, 4]⟩ : Stp).f2.length d81] 42)) (v := .slice (some ⟨w.heap.size, 0, none⟩) 3 3) (by simp [Region.wanted, hgd]) rfl ?_ ?_
 ·simp only [execOp, hop]
  go_simp
  try rfl
 ·rw [hdst]; exact hK.out _ _ (h.put awnd5 (i := 7) (t := 82) rfl (by rw [H.size]; decide) rfl (below_new _ _) ⟨_, _, rfl, Nat.le_refl _, C_lit kStp w 42 [⟨[2], false, [1, 3]⟩, one_, ⟨[], false, [6, 3, 4]⟩] _ (Reps.snoc (p := (⟨[], false, [6, 3, 4]⟩ : Stp)) (c := [.slice A81 (⟨[], false, [6, 3, 4]⟩ : Stp).f0.length c81, .bool (⟨[], false, [6, 3, 4]⟩ : Stp).f1, .slice B81 (⟨[], false, [6, 3, 4]⟩ : Stp).f2.length d81]) (Reps.snoc (p := (one_ : Stp)) (c := [.slice A79 (one_ : Stp).f0.length c79, .bool (one_ : Stp).f1, .slice B79 (one_ : Stp).f2.length d79]) (Reps.snoc (p := (⟨[2], false, [1, 3]⟩ : Stp)) (c := [.slice A78 (⟨[2], false, [1, 3]⟩ : Stp).f0.length c78, .bool (⟨[2], false, [1, 3]⟩ : Stp).f1, .slice B78 (⟨[2], false, [1, 3]⟩ : Stp).f2.length d78]) (Reps.none (kStp.K w) 3) q78 rfl) q79 rfl) q81 rfl) (by decide)⟩)
theorem aw5_8 (H : Aw2 W a0 g1 g2 v10 v12 v20 v22) : AwStep5 W a0 Q 8 := by
 intro b a w h hb_ hon hoff
 obtain ⟨oi, hoi, hop, hdst, hgd⟩ : ∃ oi, (opsOf Tryz.f20 5)[8]? = some oi ∧ oi.op = .call { callee := .value (.func 15), args := #[.tmp 75, .tmp 82], argTypes := #[24, 25] } ∧ oi.dst = some 83 ∧ oi.guard = none := ⟨_, rfl, by kernel_rfl, by kernel_rfl, by kernel_rfl⟩
 refine ⟨oi, hoi, fun K hK => ?_⟩
 obtain ⟨u75, e75, p75⟩ := h.get (i := 0) (t := 75) (hon 0 (by kernel_rfl)) rfl rfl
 obtain ⟨u82, e82, p82⟩ := h.get (i := 7) (t := 82) (hon 7 (by kernel_rfl)) rfl rfl
 obtain ⟨Ac, rfl, qc⟩ := p75
 obtain ⟨As, cs, rfl, ls, qs⟩ := p82
 refine call_ (f := 15) (args := #[.agg #[.int .i64 2, .slice Ac 4 4], .slice As 3 cs]) (by simp [Region.wanted, hgd]) rfl ?_ (trim_calls 50 2 Ac 4 sq As cs [⟨[2], false, [1, 3]⟩, one_, ⟨[], false, [6, 3, 4]⟩] _ w qc (by decide) qs ls (run_sq _ (by decide)) (by decide) (by decide)) ?_
 ·simp only [execOp, hop]
  go_simp
 ·rintro e w' ⟨v, rfl, hr, hb⟩
  rw [show (sq.length) = 4 from rfl, aw_trim] at hr ⊢
  obtain ⟨A, c, rfl, hl, hC⟩ := Kd.R_reads hr
  exact ⟨_, rfl, by rw [hdst]; exact hK.out _ _ (h.put awnd5 (i := 8) (t := 83) rfl (by rw [H.size]; decide) rfl hb ⟨A, c, rfl, hl, hC⟩)⟩
theorem aw5_9 (H : Aw2 W a0 g1 g2 v10 v12 v20 v22) : AwStep5 W a0 Q 9 := by
 intro b a w h hb_ hon hoff
 obtain ⟨oi, hoi, hop, hdst, hgd⟩ : ∃ oi, (opsOf Tryz.f20 5)[9]? = some oi ∧ oi.op = .move (.tmp 83) ∧ oi.dst = some 74 ∧ oi.guard = none := ⟨_, rfl, by kernel_rfl, by kernel_rfl, by kernel_rfl⟩
 refine ⟨oi, hoi, fun K hK => ?_⟩
 obtain ⟨u83, e83, p83⟩ := h.get (i := 8) (t := 83) (hon 8 (by kernel_rfl)) rfl rfl
 refine value_ (w1 := w) (v := u83) (by simp [Region.wanted, hgd]) rfl ?_ ?_
 ·simp only [execOp, hop]
  go_simp
 ·rw [hdst]; exact hK.out _ _ (h.put awnd5 (i := 9) (t := 74) rfl (by rw [H.size]; decide) rfl (Below.refl _ _) p83)
theorem aw5_10 (H : Aw2 W a0 g1 g2 v10 v12 v20 v22) : AwStep5 W a0 Q 10 := by
 intro b a w h hb_ hon hoff
 obtain ⟨oi, hoi, hop, hdst, hgd⟩ : ∃ oi, (opsOf Tryz.f20 5)[10]? = some oi ∧ oi.op = .extract (.tmp 74) 0 ∧ oi.dst = some 84 ∧ oi.guard = none := ⟨_, rfl, by kernel_rfl, by kernel_rfl, by kernel_rfl⟩
 refine ⟨oi, hoi, fun K hK => ?_⟩
 obtain ⟨u74, e74, p74⟩ := h.get (i := 9) (t := 74) (hon 9 (by kernel_rfl)) rfl rfl
 obtain ⟨A, c, rfl, hl, hC⟩ := p74
 refine value_ (w1 := w) (v := .slice A ([one_, end_] : List Stp).length c) (by simp [Region.wanted, hgd]) rfl ?_ ?_
 ·simp only [execOp, hop]
  go_simp
 ·rw [hdst]; exact hK.out _ _ (h.put awnd5 (i := 10) (t := 84) rfl (by rw [H.size]; decide) rfl (Below.refl _ _) ⟨A, c, rfl, hl, hC⟩)
theorem aw5_11 (H : Aw2 W a0 g1 g2 v10 v12 v20 v22) : AwStep5 W a0 Q 11 := by
 intro b a w h hb_ hon hoff
 obtain ⟨oi, hoi, hop, hdst, hgd⟩ : ∃ oi, (opsOf Tryz.f20 5)[11]? = some oi ∧ oi.op = .extract (.tmp 74) 1 ∧ oi.dst = some 85 ∧ oi.guard = none := ⟨_, rfl, by kernel_rfl, by kernel_rfl, by kernel_rfl⟩
 refine ⟨oi, hoi, fun K hK => ?_⟩
 obtain ⟨u74, e74, p74⟩ := h.get (i := 9) (t := 74) (hon 9 (by kernel_rfl)) rfl rfl
 obtain ⟨A, c, rfl, hl, hC⟩ := p74
 refine value_ (w1 := w) (v := .int .i64 0) (by simp [Region.wanted, hgd]) rfl ?_ ?_
 ·simp only [execOp, hop]
  go_simp
 ·rw [hdst]; exact hK.out _ _ (h.put awnd5 (i := 11) (t := 85) rfl (by rw [H.size]; decide) rfl (Below.refl _ _) rfl)
theorem aw5_12 (H : Aw2 W a0 g1 g2 v10 v12 v20 v22) : AwStep5 W a0 Q 12 := by
 intro b a w h hb_ hon hoff
 obtain ⟨oi, hoi, hop, hdst, hgd⟩ : ∃ oi, (opsOf Tryz.f20 5)[12]? = some oi ∧ oi.op = .assign (.tmp 84) ∧ oi.dst = some 5 ∧ oi.guard = none := ⟨_, rfl, by kernel_rfl, by kernel_rfl, by kernel_rfl⟩
 refine ⟨oi, hoi, fun K hK => ?_⟩
 obtain ⟨u84, e84, p84⟩ := h.get (i := 10) (t := 84) (hon 10 (by kernel_rfl)) rfl rfl
 refine value_ (w1 := w) (v := u84) (by simp [Region.wanted, hgd]) rfl ?_ ?_
 ·simp only [execOp, hop]
  go_simp
 ·rw [hdst]; exact hK.out _ _ (h.put awnd5 (i := 12) (t := 5) rfl (by rw [H.size]; decide) rfl (Below.refl _ _) p84)
theorem aw5_13 (H : Aw2 W a0 g1 g2 v10 v12 v20 v22) : AwStep5 W a0 Q 13 := by
 intro b a w h hb_ hon hoff
 obtain ⟨oi, hoi, hop, hdst, hgd⟩ : ∃ oi, (opsOf Tryz.f20 5)[13]? = some oi ∧ oi.op = .assign (.tmp 85) ∧ oi.dst = some 6 ∧ oi.guard = none := ⟨_, rfl, by kernel_rfl, by kernel_rfl, by kernel_rfl⟩
 refine ⟨oi, hoi, fun K hK => ?_⟩
 obtain ⟨u85, e85, p85⟩ := h.get (i := 11) (t := 85) (hon 11 (by kernel_rfl)) rfl rfl
 refine value_ (w1 := w) (v := u85) (by simp [Region.wanted, hgd]) rfl ?_ ?_
 ·simp only [execOp, hop]
  go_simp
 ·rw [hdst]; exact hK.out _ _ (h.put awnd5 (i := 13) (t := 6) rfl (by rw [H.size]; decide) rfl (Below.refl _ _) p85)
theorem aw5_steps (H : Aw2 W a0 g1 g2 v10 v12 v20 v22) : ∀ i ∈ awO5, AwStep5 W a0 Q i := (stc (aw5_0 H) (stc (aw5_1 H) (stc (aw5_2 H) (stc (aw5_3 H) (stc (aw5_4 H) (stc (aw5_5 H) (stc (aw5_6 H) (stc (aw5_7 H) (stc (aw5_8 H) (stc (aw5_9 H) (stc (aw5_10 H) (stc (aw5_11 H) (stc (aw5_12 H) (stc (aw5_13 H) steps_nil))))))))))))))
end
theorem awake_region5 {W : World} {a0 : Act} {g1 g2 : Nat} {v10 v12 v20 v22 : Value} {Q : Exit → Act → World → Prop} (H : Aw2 W.drew a0 g1 g2 v10 v12 v20 v22)
  (hQ : ∀ (v : Nat → Value) (w : World), (∀ (i : Nat) (s : Sp), awtb5[i]? = some s → s.holds w (v i)) → Below W.heap.size W w → Q .normal (fillAll a0 awL5 v) w) : (Code.region 5 (opsOf Tryz.f20 5) true).wp Tryz.prog Q a0 W := by
 refine start_ (n := 14) (S := fun _ => True) (ds := []) (Array.replicate 14 false) (by kernel_rfl) (by kernel_rfl) rfl trivial (fun _ => ?_)
 refine inv_ awO5 (Rel W.drew a0 awL5 awtb5) awtab5 awbits5 (by kernel_rfl) (by kernel_rfl) (Rel.start _ _ _ _) (aw5_steps H) ?_
 intro b a w hall hr
 obtain ⟨v, h1, h2, h3⟩ := hr
 have hb : ∀ i, i < awL5.length → b i = true := by
  intro i hi
  have : i < 14 := by simpa [awL5] using hi
  exact hall i (by rw [List.contains_iff_mem]; unfold awO5; simp; omega)
 rw [h1.all hb]
 exact hQ v w (fun i s hs => h3 i s hs (hb i (by have := (List.getElem?_eq_some_iff.1 hs).1; simpa [awL5, awtb5] using this))) ⟨h2.os, h2.tape, h2.output, h2.size, h2.block⟩
end Go.Proofs.YtogicccdngpafaaGreatDoor.NState
end
section
set_option maxHeartbeats 4000000
set_option maxRecDepth 100000
namespace Go.Proofs.YtogicccdngpafaaGreatDoor.NState
open Go Go.RowKit Go.Shelf QW.PrintWords QW.PrintLast QW.PrintMore NMap
open PCheck (cnf_Check.f)
open PEqInts (netlabref32_EqInts.calls netlabref32_EqInts.f)
open PSame (netlabref33_Same.calls netlabref33_Same.f S42 k42 rd_T42 at_T42 k42_mk)
theorem aw_hint1 : hintF 50 2 sq [1] = some ([1, 2], 0) := by
 unfold hintF
 rw [sq_check]
 kernel_rfl
theorem aw_hint2 : hintF 50 2 sq [] = some ([], 8) := by
 unfold hintF
 rw [sq_check]
 kernel_rfl
theorem aw_text : fmtL 4 [one_, end_] = [53, 32, 49, 32, 48, 32, 49, 32, 50, 32, 48, 10, 54, 32, 48, 32, 53, 32, 51, 32, 52, 32, 48, 10] := by
 have h : ∀ i : Nat, i < 10 → Lib.itoa (i : Int) = [UInt8.ofNat (48 + i)] := fun i hi => by rw [Lib.itoa_nonneg, Lib.decDigits_one hi]
 have h1 := h 1 (by decide); have h2 := h 2 (by decide); have h3 := h 3 (by decide); have h4 := h 4 (by decide); have h5 := h 5 (by decide); have h6 := h 6 (by decide)
 simp [fmtL, fmtX, fmtN, numL, one_, end_] at *
 simp [h1, h2, h3, h4, h5, h6]
theorem aw_fmt : formatF 4 [one_, end_] = ([53, 32, 49, 32, 48, 32, 49, 32, 50, 32, 48, 10, 54, 32, 48, 32, 53, 32, 51, 32, 52, 32, 48, 10], 0) := by
 unfold formatF
 rw [aw_text]
 rfl
theorem aw_fmtlen : (fmtL 4 [one_, end_]).length ≤ 140737488355328 := by rw [aw_text]; decide
theorem aw_itn {w : World} : ∀ m : Int, (4 : Int) ≤ m → m ≤ 4 + (([one_, end_] : List Stp).length : Int) → ItoaAt w m := by
 intro m h1 h2
 have h3 : m ≤ 6 := by simpa using h2
 obtain ⟨i, rfl⟩ := Int.eq_ofNat_of_zero_le (show 0 ≤ m by omega)
 exact itoa_small w i (by omega)
theorem aw_itx {w : World} : ∀ x ∈ [one_, end_], (∀ y ∈ x.f0, ItoaAt w y) ∧ (∀ y ∈ x.f2, ItoaAt w y) := by
 have h : ∀ y : Int, 0 ≤ y ∧ y < 100 → ItoaAt w y := by
  intro y hy
  obtain ⟨i, rfl⟩ := Int.eq_ofNat_of_zero_le hy.1
  exact itoa_small w i (by omega)
 have hd : ∀ x ∈ [one_, end_], (∀ y ∈ x.f0, 0 ≤ y ∧ y < 100) ∧ (∀ y ∈ x.f2, 0 ≤ y ∧ y < 100) := by
  simp [one_, end_]
 intro x hx
 exact ⟨fun y hy => h y ((hd x hx).1 y hy), fun y hy => h y ((hd x hx).2 y hy)⟩
def AwakePost (w : World) (e : Ending) (w' : World) : Prop := e = .returned (.bool true) ∧ Below w.heap.size w w'
theorem awake_calls (w : World) : Calls Tryz.prog 20 #[] w (AwakePost w) := by
 go_enter Tryz.func20, Tryz.ntmps20
 go_wp2_with fail
 refine (lawAdd_calls _ _ _ _ _ _ _).mono ?_
 rintro e w1 ⟨rfl, hb1⟩
 have HB1 := Az.mk hb1
 clear hb1
 go_wp2_with fail
 refine (lawAdd_calls _ _ _ _ _ _ _).mono ?_
 rintro e w2 ⟨rfl, hb2⟩
 have HB2 := Az.mk hb2
 clear hb2
 go_wp2_with fail
 have H1 : ∀ W : World, Below w1.heap.size w1 W → (Sp.step one_).holds W (.agg #[.slice (some ⟨w.heap.size, 0, none⟩) 1 1, .bool false, .slice (some ⟨w.heap.size + 1, 0, none⟩) 2 2]) := by
  intro W hW
  have a := ((ints_lit w [1] #[.int .i64 1] rfl (by decide)).below (below_new _ (.cells #[.int .i64 1, .int .i64 2] 3))).below (bwt HB1.out hW)
  have b := (ints_lit (w.alloc (.cells #[.int .i64 1] 3)) [1, 2] #[.int .i64 1, .int .i64 2] rfl (by decide)).below (bwt HB1.out hW)
  rw [World.size_alloc] at b
  exact K_step W one_ a b
 have H2 : ∀ W : World, Below w2.heap.size w2 W → (Sp.step end_).holds W (.agg #[.slice none 0 0, .bool false, .slice (some ⟨w1.heap.size, 0, none⟩) 3 3]) := by
  intro W hW
  have b := (ints_lit w1 [5, 3, 4] #[.int .i64 5, .int .i64 3, .int .i64 4] rfl (by decide)).below (bwt HB2.out hW)
  exact K_step W end_ (ints_nil W) b
 have z : (w2.alloc (.cells #[.slice (some ⟨w.heap.size, 0, none⟩) 1 1, .bool false, .slice (some ⟨w.heap.size + 1, 0, none⟩) 2 2] 42)).heap.size = w2.heap.size + 1 := by simp
 obtain ⟨WB, hWB⟩ : ∃ WB, ((w2.alloc (.cells #[.slice (some ⟨w.heap.size, 0, none⟩) 1 1, .bool false, .slice (some ⟨w.heap.size + 1, 0, none⟩) 2 2] 42)).alloc (.cells #[.slice none 0 0, .bool false, .slice (some ⟨w1.heap.size, 0, none⟩) 3 3] 42)) = WB := ⟨_, rfl⟩
 rw [hWB]
 have hb : Below w2.heap.size w2 WB := by rw [← hWB]; exact ((Below.refl _ _).alloc (Nat.le_refl _) _).alloc (by simp) _
 have B1 : WB.heap[w2.heap.size]? = some (.cells #[.slice (some ⟨w.heap.size, 0, none⟩) 1 1, .bool false, .slice (some ⟨w.heap.size + 1, 0, none⟩) 2 2] 42 (0, 0)) := by rw [← hWB]; exact bka (blk_new w2 _) _
 have B2 : WB.heap[w2.heap.size + 1]? = some (.cells #[.slice none 0 0, .bool false, .slice (some ⟨w1.heap.size, 0, none⟩) 3 3] 42 (0, 0)) := by rw [← hWB]; exact blk_alloc_at z _
 have K1 := H1 WB (bwt (bwt (below_new _ _) HB2.out) hb)
 have K2 := H2 WB hb
 have HWB : Az (Below w.heap.size w WB) := ⟨bwt (bwt (bwt (below_new _ _) (below_new _ _)) HB1.out) (bwt (below_new _ _) (bwt HB2.out hb))⟩
 have HA : Az (∀ (W : World) (a0 : Act), Below WB.heap.size WB W → a0.tmps.size = 143 → a0.tmps[1]? = some (.pointer (some ⟨w2.heap.size, 0, none⟩)) → a0.tmps[2]? = some (.pointer (some ⟨w2.heap.size + 1, 0, none⟩)) → Aw2 W a0 w2.heap.size (w2.heap.size + 1) (.slice (some ⟨w.heap.size, 0, none⟩) 1 1) (.slice (some ⟨w.heap.size + 1, 0, none⟩) 2 2) (.slice none 0 0) (.slice (some ⟨w1.heap.size, 0, none⟩) 3 3)) :=
  ⟨fun W a0 hW h1 h2 h3 => ⟨h1, h2, h3, blk_below B1 hW, blk_below B2 hW, K1.below hW, K2.below hW⟩⟩
 have HBK : Az (∀ W : World, Below WB.heap.size WB W → W.heap[w2.heap.size]? = some (.cells #[.slice (some ⟨w.heap.size, 0, none⟩) 1 1, .bool false, .slice (some ⟨w.heap.size + 1, 0, none⟩) 2 2] 42 (0, 0)) ∧ W.heap[w2.heap.size + 1]? = some (.cells #[.slice none 0 0, .bool false, .slice (some ⟨w1.heap.size, 0, none⟩) 3 3] 42 (0, 0)) ∧ (Sp.step one_).holds W (.agg #[.slice (some ⟨w.heap.size, 0, none⟩) 1 1, .bool false, .slice (some ⟨w.heap.size + 1, 0, none⟩) 2 2]) ∧ (Sp.step end_).holds W (.agg #[.slice none 0 0, .bool false, .slice (some ⟨w1.heap.size, 0, none⟩) 3 3])) := ⟨fun W hW => ⟨blk_below B1 hW, blk_below B2 hW, K1.below hW, K2.below hW⟩⟩
 clear hWB hb B1 B2 K1 K2 H1 H2 HB1 HB2 z
 refine awake_region2 (HA.out WB.drew _ (below_drew (Below.refl _ _)) rfl rfl rfl) ?hQ
 case hQ =>
  intro v W3 hv hb3
  have HB3 := Az.mk hb3
  clear hb3
  change Exit.then _ _ .normal { tmps := #[.bool false, .pointer (some ⟨w2.heap.size, 0, none⟩), .pointer (some ⟨w2.heap.size + 1, 0, none⟩), undef, undef, undef, undef, undef, undef, undef, undef, undef, undef, .slice (some ⟨w.heap.size, 0, none⟩) 1 1, .slice (some ⟨w.heap.size + 1, 0, none⟩) 2 2, .agg #[.slice (some ⟨w.heap.size, 0, none⟩) 1 1, .bool false, .slice (some ⟨w.heap.size + 1, 0, none⟩) 2 2], .slice (some ⟨w1.heap.size, 0, none⟩) 3 3, .agg #[.slice none 0 0, .bool false, .slice (some ⟨w1.heap.size, 0, none⟩) 3 3], v 0, v 1, v 2, v 3, v 4, v 5, v 6, v 7, v 8, v 9, v 10, v 11, v 12, v 13, v 14, v 15, v 16, v 17, v 18, v 19, v 20, v 21, v 22, v 23, v 24, v 25, v 26, v 27, v 28, v 29, v 30, v 31, v 32, v 33, v 34, v 35, v 36, v 37, v 38, v 39, v 40, v 41, v 42, v 43, v 44, v 45, v 46, v 47, undef, undef, undef, undef, undef, undef, undef, undef, undef, undef, undef, undef, undef, undef, undef, undef, undef, undef, undef, undef, undef, undef, undef, undef, undef, undef, undef, undef, undef, undef, undef, undef, undef, undef, undef, undef, undef, undef, undef, undef, undef, undef, undef, undef, undef, undef, undef, undef, undef, undef, undef, undef, undef, undef, undef, undef, undef, undef, undef, undef, undef, undef, undef, undef, undef, undef, undef, undef, undef, undef, undef, undef, undef, undef, undef, undef, undef], defers := [] } W3
  rw [hv]
  go_wp2_with fail
  refine awake_region4 (HA.out W3.drew _ (below_drew HB3.out) rfl rfl rfl) ?hQ4
  case hQ4 =>
   intro v4 W4 hv4 hb4
   have HB4 := Az.mk (bwt HB3.out hb4)
   have HV4 := Az.mk hv4
   clear hb4 hv4
   change Exit.then _ _ .normal { tmps := #[.bool false, .pointer (some ⟨w2.heap.size, 0, none⟩), .pointer (some ⟨w2.heap.size + 1, 0, none⟩), v4 8, v4 9, undef, undef, undef, undef, undef, undef, undef, undef, .slice (some ⟨w.heap.size, 0, none⟩) 1 1, .slice (some ⟨w.heap.size + 1, 0, none⟩) 2 2, .agg #[.slice (some ⟨w.heap.size, 0, none⟩) 1 1, .bool false, .slice (some ⟨w.heap.size + 1, 0, none⟩) 2 2], .slice (some ⟨w1.heap.size, 0, none⟩) 3 3, .agg #[.slice none 0 0, .bool false, .slice (some ⟨w1.heap.size, 0, none⟩) 3 3], v 0, v 1, v 2, v 3, v 4, v 5, v 6, v 7, v 8, v 9, v 10, v 11, v 12, v 13, v 14, v 15, v 16, v 17, v 18, v 19, v 20, v 21, v 22, v 23, v 24, v 25, v 26, v 27, v 28, v 29, v 30, v 31, v 32, v 33, v 34, v 35, v 36, v 37, v 38, v 39, v 40, v 41, v 42, v 43, v 44, v 45, v 46, .bool false, v4 5, v4 0, v4 1, v4 2, v4 3, v4 4, v4 6, v4 7, undef, undef, undef, undef, undef, undef, undef, undef, undef, undef, undef, undef, undef, undef, undef, undef, undef, undef, undef, undef, undef, undef, undef, undef, undef, undef, undef, undef, undef, undef, undef, undef, undef, undef, undef, undef, undef, undef, undef, undef, undef, undef, undef, undef, undef, undef, undef, undef, undef, undef, undef, undef, undef, undef, undef, undef, undef, undef, undef, undef, undef, undef, undef, undef, undef, undef, undef, undef, undef], defers := [] } W4
   go_wp2_with fail
   refine awake_region5 (HA.out W4.drew _ (below_drew HB4.out) rfl rfl rfl) ?hQ5
   case hQ5 =>
    intro v5 W5 hv5 hb5
    have HB5 := Az.mk (bwt HB4.out hb5)
    have HV5 := Az.mk hv5
    have HL4 := Az.mk hb5
    clear hb5 hv5
    change Exit.then _ _ .normal { tmps := #[.bool false, .pointer (some ⟨w2.heap.size, 0, none⟩), .pointer (some ⟨w2.heap.size + 1, 0, none⟩), v4 8, v4 9, v5 12, v5 13, undef, undef, undef, undef, undef, undef, .slice (some ⟨w.heap.size, 0, none⟩) 1 1, .slice (some ⟨w.heap.size + 1, 0, none⟩) 2 2, .agg #[.slice (some ⟨w.heap.size, 0, none⟩) 1 1, .bool false, .slice (some ⟨w.heap.size + 1, 0, none⟩) 2 2], .slice (some ⟨w1.heap.size, 0, none⟩) 3 3, .agg #[.slice none 0 0, .bool false, .slice (some ⟨w1.heap.size, 0, none⟩) 3 3], v 0, v 1, v 2, v 3, v 4, v 5, v 6, v 7, v 8, v 9, v 10, v 11, v 12, v 13, v 14, v 15, v 16, v 17, v 18, v 19, v 20, v 21, v 22, v 23, v 24, v 25, v 26, v 27, v 28, v 29, v 30, v 31, v 32, v 33, v 34, v 35, v 36, v 37, v 38, v 39, v 40, v 41, v 42, v 43, v 44, v 45, v 46, .bool false, v4 5, v4 0, v4 1, v4 2, v4 3, v4 4, v4 6, v4 7, v5 9, v5 0, v5 1, v5 2, v5 3, v5 4, v5 5, v5 6, v5 7, v5 8, v5 10, v5 11, undef, undef, undef, undef, undef, undef, undef, undef, undef, undef, undef, undef, undef, undef, undef, undef, undef, undef, undef, undef, undef, undef, undef, undef, undef, undef, undef, undef, undef, undef, undef, undef, undef, undef, undef, undef, undef, undef, undef, undef, undef, undef, undef, undef, undef, undef, undef, undef, undef, undef, undef, undef, undef, undef, undef, undef, undef], defers := [] } W5
    go_wp2_with fail
    refine (square_calls W5).mono ?_
    rintro e w6 ⟨A6, rfl, hs6, hb6⟩
    have HS6 := Az.mk hs6
    have HB6 := Az.mk (bwt HB5.out hb6)
    have HL6 := Az.mk hb6
    clear hs6 hb6
    go_wp2_with fail
    have hi6 := ints_lit w6 [1] #[.int .i64 1] rfl (by decide)
    obtain ⟨Ai, ci, hie, hil, hiC⟩ := hi6
    cases hie
    refine (hint_calls 50 2 A6 4 sq _ 1 [1] [1, 2] 0 _ (Kd.C_alloc HS6.out _) (by decide) hiC (by decide) aw_hint1).mono ?_
    rintro e w7 ⟨v7, rfl, hr7, hb7⟩
    obtain ⟨A7, c7, hv7⟩ := Kd.R_slice hr7
    subst hv7
    have HR7 := Az.mk hr7
    have HB7 := Az.mk (bwt (bwt HB6.out (below_new _ _)) hb7)
    have HL7 := Az.mk (bwt (bwt HL6.out (below_new _ _)) hb7)
    clear hr7 hb7 hiC hil
    go_wp2_with fail
    refine (square_calls w7).mono ?_
    rintro e w8 ⟨A8, rfl, hs8, hb8⟩
    have HS8 := Az.mk hs8
    have HB8 := Az.mk (bwt HB7.out hb8)
    have HR8 := Az.mk (Kd.R_below HR7.out hb8)
    have HL8 := Az.mk (bwt HL7.out hb8)
    clear hs8 hb8
    go_wp2_with fail
    refine (hint_calls 50 2 A8 4 sq none 0 [] [] 8 w8 HS8.out (by decide) (Kd.C_nil _ _) (Nat.le_refl _) aw_hint2).mono ?_
    rintro e w9 ⟨v9, rfl, hr9, hb9⟩
    obtain ⟨A9, c9, hv9⟩ := Kd.R_slice hr9
    subst hv9
    have HB9 := Az.mk (bwt HB8.out hb9)
    have HR9 := Az.mk (Kd.R_below HR8.out hb9)
    have HL9 := Az.mk (bwt HL8.out hb9)
    clear hr9 hb9
    obtain ⟨hbk1, hbk2, hs1, hs2⟩ := HBK.out w9 HB9.out
    have hx10 : w9.cell? ⟨w2.heap.size, 0, none⟩ = some (.slice (some ⟨w.heap.size, 0, none⟩) 1 1) := (bkc hbk1 0).trans rfl
    have hx11 : w9.cell? ⟨w2.heap.size, 1, none⟩ = some (.bool false) := (bkc hbk1 1).trans rfl
    have hx12 : w9.cell? ⟨w2.heap.size, 2, none⟩ = some (.slice (some ⟨w.heap.size + 1, 0, none⟩) 2 2) := (bkc hbk1 2).trans rfl
    have hx20 : w9.cell? ⟨w2.heap.size + 1, 0, none⟩ = some (.slice none 0 0) := (bkc hbk2 0).trans rfl
    have hx21 : w9.cell? ⟨w2.heap.size + 1, 1, none⟩ = some (.bool false) := (bkc hbk2 1).trans rfl
    have hx22 : w9.cell? ⟨w2.heap.size + 1, 2, none⟩ = some (.slice (some ⟨w1.heap.size, 0, none⟩) 3 3) := (bkc hbk2 2).trans rfl
    have HS1 := Az.mk hs1
    have HS2 := Az.mk hs2
    clear hbk1 hbk2
    go_wp2_with fail
    obtain ⟨a10, c10, a12, c12, he1, hk1⟩ := hs1
    obtain ⟨a20, c20, a22, c22, he2, hk2⟩ := hs2
    cases he1
    cases he2
    have hC := C_lit kStp w9 42 [one_, end_] _ (Reps.snoc (p := end_) (c := [.slice none (end_ : Stp).f0.length 0, .bool (end_ : Stp).f1, .slice (some ⟨w1.heap.size, 0, none⟩) (end_ : Stp).f2.length 3]) (Reps.snoc (p := one_) (c := [.slice (some ⟨w.heap.size, 0, none⟩) (one_ : Stp).f0.length 1, .bool (one_ : Stp).f1, .slice (some ⟨w.heap.size + 1, 0, none⟩) (one_ : Stp).f2.length 2]) (Reps.none (kStp.K w9) 3) hk1 rfl) hk2 rfl) (by decide)
    refine (format_calls 4 _ 2 [one_, end_] _ hC (by decide) (by decide) aw_fmtlen aw_itn aw_itx).mono ?_
    rintro e w10 ⟨rfl, hb10⟩
    have HB10 := Az.mk (bwt (bwt HB9.out (below_new _ _)) hb10)
    have HL10 := Az.mk (bwt (bwt HL9.out (below_new _ _)) hb10)
    have HR10 := Az.mk (Kd.R_below (Kd.R_below HR9.out (below_new _ _)) hb10)
    clear hb10 hC hk1 hk2
    rw [aw_fmt]
    have h49 : v4 9 = .int .i64 0 := HV4.out 9 (.int 0) rfl
    have h513 : v5 13 = .int .i64 0 := HV5.out 13 (.int 0) rfl
    obtain ⟨a8, c8, h48, l48, q48⟩ := HV4.out 8 (.ints [1, 2, 3, 4]) rfl
    obtain ⟨a5, c5, h512, l512, q512⟩ := HV5.out 12 (.steps [one_, end_]) rfl
    have Q48 := Az.mk (Kd.C_below (Kd.C_below q48 HL4.out) HL10.out)
    have Q512 := Az.mk (Kd.C_below q512 HL10.out)
    clear q48 q512
    go_wp2_with fail
    have hC1 := C_ints w10 [1, 2, 3, 4] #[.int .i64 1, .int .i64 2, .int .i64 3, .int .i64 4] rfl (by decide)
    refine (netlabref32_EqInts.calls 20 a8 c8 [1, 2, 3, 4] _ 4 [1, 2, 3, 4] true _ (Kd.C_alloc Q48.out _) l48 hC1 (by decide) (by kernel_rfl)).mono ?_
    rintro e w11 ⟨rfl, hd11⟩
    have HB11 := Az.mk (bwt (bwt HB10.out (below_new _ _)) hd11.below)
    have Q512b := Az.mk (Kd.C_below (Kd.C_alloc Q512.out (.cells #[.int .i64 1, .int .i64 2, .int .i64 3, .int .i64 4] 3)) hd11.below)
    have HR11 := Az.mk (Kd.R_below (Kd.R_below HR10.out (below_new _ _)) hd11.below)
    clear hd11 hC1 hx10 hx11 hx12 hx20 hx21 hx22
    obtain ⟨hbk1, hbk2, hs1, hs2⟩ := HBK.out w11 HB11.out
    have hx10 : w11.cell? ⟨w2.heap.size, 0, none⟩ = some (.slice (some ⟨w.heap.size, 0, none⟩) 1 1) := (bkc hbk1 0).trans rfl
    have hx11 : w11.cell? ⟨w2.heap.size, 1, none⟩ = some (.bool false) := (bkc hbk1 1).trans rfl
    have hx12 : w11.cell? ⟨w2.heap.size, 2, none⟩ = some (.slice (some ⟨w.heap.size + 1, 0, none⟩) 2 2) := (bkc hbk1 2).trans rfl
    have hx20 : w11.cell? ⟨w2.heap.size + 1, 0, none⟩ = some (.slice none 0 0) := (bkc hbk2 0).trans rfl
    have hx21 : w11.cell? ⟨w2.heap.size + 1, 1, none⟩ = some (.bool false) := (bkc hbk2 1).trans rfl
    have hx22 : w11.cell? ⟨w2.heap.size + 1, 2, none⟩ = some (.slice (some ⟨w1.heap.size, 0, none⟩) 3 3) := (bkc hbk2 2).trans rfl
    have HS1b := Az.mk hs1
    have HS2b := Az.mk hs2
    clear hbk1 hbk2 hs1 hs2
    go_wp2_with fail
    obtain ⟨a10, c10, a12, c12, he1, hk1⟩ := HS1b.out
    obtain ⟨a20, c20, a22, c22, he2, hk2⟩ := HS2b.out
    cases he1
    cases he2
    have hC2 := C_lit kStp w11 42 [one_, end_] _ (Reps.snoc (p := end_) (c := [.slice none (end_ : Stp).f0.length 0, .bool (end_ : Stp).f1, .slice (some ⟨w1.heap.size, 0, none⟩) (end_ : Stp).f2.length 3]) (Reps.snoc (p := one_) (c := [.slice (some ⟨w.heap.size, 0, none⟩) (one_ : Stp).f0.length 1, .bool (one_ : Stp).f1, .slice (some ⟨w.heap.size + 1, 0, none⟩) (one_ : Stp).f2.length 2]) (Reps.none (kStp.K w11) 3) hk1 rfl) hk2 rfl) (by decide)
    refine (netlabref33_Same.calls 20 a5 c5 [one_, end_] _ 2 [one_, end_] true _ (Kd.C_alloc Q512b.out _) l512 hC2 (by decide) (by kernel_rfl)).mono ?_
    rintro e w12 ⟨rfl, hb12⟩
    have HB12 := Az.mk (bwt (bwt HB11.out (below_new _ _)) hb12)
    have HR12 := Az.mk (Kd.R_below (Kd.R_below HR11.out (below_new _ _)) hb12)
    clear hb12 hC2 hk1 hk2 hx10 hx11 hx12 hx20 hx21 hx22
    go_wp2_with fail
    have hC3 := C_ints w12 [1, 2] #[.int .i64 1, .int .i64 2] rfl (by decide)
    obtain ⟨A7', c7', he7, hl7, hC7⟩ := Kd.R_reads HR12.out
    cases he7
    refine (netlabref32_EqInts.calls 20 A7 c7 [1, 2] _ 2 [1, 2] true _ (Kd.C_alloc hC7 _) hl7 hC3 (by decide) (by kernel_rfl)).mono ?_
    rintro e w13 ⟨rfl, hd13⟩
    have HB13 := Az.mk (bwt (bwt HB12.out (below_new _ _)) hd13.below)
    clear hd13 hC3 hC7
    go_wp2_with fail
    go_ret
    exact ⟨rfl, bwt HWB.out HB13.out⟩
end Go.Proofs.YtogicccdngpafaaGreatDoor.NState
end
