/-
  Part 21 of the proof of cnfTextMatches_card: walks and lemmas.
-/
import Derived.RangeFuncLeaves
import Derived.RangeFuncNested
import Derived.RangeFuncWrites
import Derived.OwnWalkIn
import Derived.TacticsInMore
import Derived.LoopNIn
import Derived.LoopIn
import Derived.Shelf.Abstract
import Derived.Shelf.RegionOpen
import Derived.WalkKit
import Derived.OwnWalk
set_option linter.unusedVariables false
set_option linter.unusedSimpArgs false
section
set_option maxRecDepth 100000
namespace Go.Proofs.YtkcfdddhnboieaaGreatDoor.NIter
open Go Go.RowKit
def isBook : Obj → Bool
 | .loop _ => true
 | .deferred _ => true
 | _ => false
def bodyEnd {α : Type} (D : Nat) (Keep : World → World → Prop) (I : List α → World → Prop) (xs : List α) (W : World) : Exit → Act → World → Prop
 | .normal, _, W' => W'.heap[D]? = W.heap[D]? ∧ W'.heap[D + 1]? = W.heap[D + 1]? ∧ Keep W W' ∧ I xs W'
 | _, _, _ => False
def noDefer : List Oper → Bool
 | [] => true
 | o :: rest => (match o.op with | .defer _ => false | _ => true) && noDefer rest
theorem wpListIn_round {P : Program} {ops : Array Oper} {Q : Exit → Act → World → Prop} {l : Nat} (hlo : ¬ LetsOut Q) : ∀ (os : List Oper) (a : Act) (w : World), noDefer os = true → wpList P ops Q os a w → wpListIn (Fence.wide.inRound l) 0 P ops Q os a w
 | [], a, w, _, h => h
 | o :: rest, a, w, hd, h => by
  simp only [noDefer, Bool.and_eq_true] at hd
  obtain ⟨hd1, hd2⟩ := hd
  have hdo : ∀ c, o.op ≠ .defer c := by
   intro c hc; rw [hc] at hd1; simp at hd1
  simp only [wpList] at h
  simp only [wpListIn]
  split
  ·rename_i hw
   rw [if_pos hw] at h
   rcases h with h | h
   ·refine ⟨fun f _ => trivial, ?_⟩
    rw [show (Fence.wide.inRound l).round = some l from rfl, Oper.semAt_some l _ _ hdo]
    unfold Oper.wp at h
    revert h
    generalize (execOp a.eval o).run P w = r
    intro h
    have hn : ∀ a w, wpList P ops Q rest a w → wpListIn (Fence.wide.inRound l) 0 P ops Q rest a w := fun a w h => wpListIn_round hlo rest a w hd2 h
    rcases r with ⟨nx, w'⟩ | ⟨ha, w'⟩
    ·cases nx with
     | value v => exact hn _ _ h
     | skip => exact hn _ _ h
     | defer d => exact hn _ _ h
     | enter f args =>
      refine ⟨fun hh => by simp [Fence.wide] at hh, ?_⟩
      refine (CallsIn.inRound l (callsIn_wide.2 h)).mono ?_
      intro e w'' he
      cases e with
      | returned v => exact hn _ _ he
      | panicked ch => exact he
      | outgrown => exact he
     | row row args =>
      refine ⟨fun hh => by simp [Fence.wide] at hh, ?_⟩
      intro c cs hr
      obtain ⟨v, w'', h1, h2⟩ := h c cs
      exact ⟨v, w'', hn _ _ h1, stepsIn_wide.2 h2⟩
     | _ => exact h.elim
    ·cases ha with
     | panic v => exact h
     | _ => exact h.elim
   ·exact absurd h.2 hlo
  ·rename_i hw
   rw [if_neg hw] at h
   exact ⟨fun f _ => trivial, wpListIn_round hlo rest _ _ hd2 h⟩
end Go.Proofs.YtkcfdddhnboieaaGreatDoor.NIter
end
section
set_option maxRecDepth 100000
namespace Go.Proofs.YtkcfdddhnboieaaGreatDoor.NIter
open Go Go.RowKit
def IterAll2 {α : Type} (P : Program) (gf : Nat) (lb : Array Value) (encs : α → Array Value) (xs : List α) (Need : World → Prop) (Step End Keep : World → World → Prop) : Prop :=
 ∀ (l : Nat) (J : List α → World → Prop) (W : World), (∀ pre A, J pre A → Need A) → (∀ pre A B, J pre A → Step A B → J pre B) → (∀ pre A B, J pre A → End A B → J pre B) →
  (∀ pre x post W1, xs = pre ++ x :: post → J pre W1 → YieldAt Fence.wide 0 P l (encs x) W1 fun e W' => e = .returned (.bool true) ∧ J (pre ++ [x]) W' ∧ Keep W1 W') →
  J [] W → CallsIn Fence.wide 0 P gf (#[.func (.yield l) #[] #[]] ++ lb) W fun e W' => (∃ v, e = .returned v) ∧ J xs W'
theorem range_all2 {α : Type} {P : Program} {g : Operand} {ps : Array Tmp} {assign body : Code} {Q : Exit → Act → World → Prop} {a : Act} {w : World} {gf : Nat} {lb : Array Value} (hg : a.eval g = .func (.func gf) #[] lb)
  (eg : ∀ args w, (callFunc gf args).run P w = .ok (.enter gf args) w) {encs : α → Array Value} {xs : List α} {Need : World → Prop} {Step End Keep : World → World → Prop} (hseq : IterAll2 P gf lb encs xs Need Step End Keep)
  (hps : ∀ x, (encs x).size = ps.size)
  (I : List α → World → Prop) (hSk : ∀ (A B : World) (k : Nat) (o : Obj), Step A B → A.heap[k]? = some o → isBook o = true → B.heap[k]? = some o)
  (hEk : ∀ (A B : World) (k : Nat) (o : Obj), End A B → k ≤ w.heap.size + 1 → A.heap[k]? = some o → B.heap[k]? = some o) (hIe : ∀ pre A B, I pre A → End A B → I pre B)
  (hKt : ∀ {A B C : World}, Keep A B → Keep B C → Keep A C) (hKl : ∀ (A : World) (l : Nat) (r o : Loop), A.heap[l]? = some (.loop r) → Keep A (A.putObj l (.loop o)))
  (hIs : ∀ pre A B, I pre A → Step A B → I pre B)
  (hIl : ∀ (pre : List α) (A : World) (l : Nat) (r o : Loop), w.heap.size ≤ l → I pre A → A.heap[l]? = some (.loop r) → I pre (A.putObj l (.loop o)))
  (hIn : ∀ pre W, I pre W → Need W)
  (h0 : ∀ r : Loop, I [] ((w.alloc (.deferred (some []))).alloc (.loop r))) (A1 : List α → α → Act → World → Prop)
  (hassign : ∀ (l : Nat) (pre : List α) (x : α) (W : World), I pre W → (∃ d, W.heap[w.heap.size]? = some (.deferred d)) → (∃ r, W.heap[w.heap.size + 1]? = some (.loop r)) →
   assign.wpIn (Fence.wide.inRound l) 0 P (Exit.then (fun a' W' => A1 pre x a' W' ∧ W'.heap[w.heap.size]? = W.heap[w.heap.size]? ∧ W'.heap[w.heap.size + 1]? = W.heap[w.heap.size + 1]? ∧ Keep W W') (fun _ _ _ => False)) { tmps := (ps.zip (encs x)).foldl (fun t (p, v) => t.setIfInBounds p v) a.tmps, defers := [] } W)
  (hA1 : ∀ (pre : List α) (x : α) (a' : Act) (A : World) (l : Nat) (r o : Loop), w.heap.size ≤ l → A1 pre x a' A → A.heap[l]? = some (.loop r) → A1 pre x a' (A.putObj l (.loop o)))
  (hbody : ∀ (l : Nat) (pre : List α) (x : α) (post : List α) (a' : Act) (W : World), xs = pre ++ x :: post → A1 pre x a' W → (∃ d, W.heap[w.heap.size]? = some (.deferred d)) → (∃ r, W.heap[w.heap.size + 1]? = some (.loop r)) → body.wpIn (Fence.wide.inRound l) 0 P (bodyEnd w.heap.size Keep I (pre ++ [x]) W) a' W)
  (hdone : ∀ (W : World), I xs W → W.heap[w.heap.size]? = some (.deferred (some [])) → Q .normal { a with defers := { target := .collected w.heap.size, args := #[] } :: a.defers } W) :
  (Code.rangeFunc g ps assign body).wpIn Fence.wide 0 P Q a w := by
 refine wpIn_rangeFunc ?_
 intro fn hfn
 have hro : Fence.wide.round = none := rfl
 rw [hro]
 obtain ⟨rec, hrec⟩ : ∃ rec : LoopState → Option Code → Loop, rec = fun st pe => { state := st, pending := pe, fn, tmps := a.tmps, params := ps, assign, body, defers := w.heap.size } := ⟨_, rfl⟩
 obtain ⟨W1, hW1⟩ : ∃ W1, (w.alloc (.deferred (some []))).alloc (.loop (rec .ready none)) = W1 := ⟨_, rfl⟩
 have hL1 : W1.heap[w.heap.size + 1]? = some (.loop (rec .ready none)) := by
  rw [← hW1]; have := World.alloc_heap_new (w.alloc (.deferred (some []))) (.loop (rec .ready none)); rwa [World.size_alloc] at this
 have hK1 : W1.heap[w.heap.size]? = some (.deferred (some [])) := by
  rw [← hW1]; exact (Below.heap_alloc _ _ _ (by simp)).trans (World.alloc_heap_new w _)
 have hI1 : I [] W1 := by rw [← hW1]; exact h0 _
 refine ⟨w.heap.size + 1, [{ target := .collected w.heap.size, args := #[] }], W1, { target := .fn (.func gf) lb, args := #[.func (.yield (w.heap.size + 1)) #[] #[]] }, W1, gf,
  #[.func (.yield (w.heap.size + 1)) #[] #[]] ++ lb, W1, ?_, ?_, ?_, ?_, fun h => by simp [Fence.wide] at h, ?_⟩
 ·rw [← hW1, hrec]; exact run_enterLoop_outer _ _ _ _ _
 ·simp only [resolve, hg]
  simp [go_sem]
 ·intro f' hf'; trivial
 ·simp [invoke, go_sem, eg]
 ·refine (hseq (w.heap.size + 1)
   (fun pre W => I pre W ∧ W.heap[w.heap.size + 1]? = some (.loop (rec .ready none)) ∧ W.heap[w.heap.size]? = some (.deferred (some [])))
   W1 (fun pre A h => hIn pre A h.1)
   (fun s A B hs hst => ⟨hIs s A B hs.1 hst, hSk A B _ _ hst hs.2.1 rfl, hSk A B _ _ hst hs.2.2 rfl⟩)
   (fun s A B hs he => ⟨hIe s A B hs.1 he, hEk A B _ _ he (by omega) hs.2.1, hEk A B _ _ he (by omega) hs.2.2⟩)
   ?_ ⟨hI1, hL1, hK1⟩).mono ?_
  ·rintro pre x post W hx ⟨hi, hl, hk⟩
   have hlt : w.heap.size + 1 < W.heap.size := (Array.getElem?_eq_some_iff.1 hl).1
   have hy := run_yield (P := P) (args := encs x) hl (by rw [hrec]; exact hps x)
   rw [hrec] at hy
   refine ⟨fn, _, assign, body, hy, roundIn_of_wpIn hfn (wpIn_mono (hassign _ pre x W hi ⟨_, hk⟩ ⟨_, hl⟩) ?_)⟩
   rintro e1 a1 Wa q1
   cases e1 with
   | normal =>
    obtain ⟨ha1, hka, hla, hkp1⟩ := q1
    have hl1 := hla.trans hl
    have hk1 := hka.trans hk
    refine ⟨_, run_beginRound hl1 (by rw [hrec]), ?_⟩
    have hlt1 : w.heap.size + 1 < Wa.heap.size := (Array.getElem?_eq_some_iff.1 hl1).1
    have hl2 : (Wa.putObj (w.heap.size + 1) (.loop { rec .ready none with state := .busy })).heap[w.heap.size + 1]? = some (.loop { rec .ready none with state := .busy }) := World.putObj_heap_same hlt1
    have hk2 : (Wa.putObj (w.heap.size + 1) (.loop { rec .ready none with state := .busy })).heap[w.heap.size]? = some (.deferred (some [])) := (World.putObj_heap_other (by omega)).trans hk1
    have hw2 : Keep W (Wa.putObj (w.heap.size + 1) (.loop { rec .ready none with state := .busy })) := hKt hkp1 (hKl _ _ _ _ hl1)
    refine wpIn_mono (hbody _ pre x post _ _ hx (hA1 _ _ _ _ _ _ _ (by omega) ha1 hl1) ⟨_, hk2⟩ ⟨_, hl2⟩) ?_
    rintro e a3 W3 hp
    cases e with
    | normal =>
     obtain ⟨hd3, hr3, hkp3, hi3⟩ := hp
     have hl3 : W3.heap[w.heap.size + 1]? = some (.loop { rec .ready none with state := .busy }) := hr3.trans hl2
     have hk3 : W3.heap[w.heap.size]? = some (.deferred (some [])) := hd3.trans hk2
     have hend := run_endRound (P := P) none hl3
     have hW4 : (Instr.endRound (w.heap.size + 1) none).run P W3 = .ok (.bool true) (W3.putObj (w.heap.size + 1) (.loop (rec .ready none))) := by rw [hrec] at hend ⊢; exact hend
     exact ⟨_, _, hW4, rfl, ⟨hIl _ _ _ _ _ (by omega) hi3 hl3, World.putObj_heap_same (Array.getElem?_eq_some_iff.1 hl3).1, (World.putObj_heap_other (by omega)).trans hk3⟩, hKt (hKt hw2 hkp3) (hKl _ _ _ _ hl3)⟩
    | ret => exact hp.elim
    | exit id => exact hp.elim
    | goto t => exact hp.elim
    | panic ch => exact hp.elim
    | outgrown => exact hp.elim
   | _ => exact q1.elim
  ·rintro e W2 ⟨⟨v, rfl⟩, hi, hl, hk⟩
   exact ⟨none, _, by have := run_endLoop (P := P) hl (by rw [hrec]; simp); rw [hrec] at this; exact this, hdone _ (hIl _ _ _ _ _ (by omega) hi hl) ((World.putObj_heap_other (by omega)).trans hk)⟩
end Go.Proofs.YtkcfdddhnboieaaGreatDoor.NIter
end
