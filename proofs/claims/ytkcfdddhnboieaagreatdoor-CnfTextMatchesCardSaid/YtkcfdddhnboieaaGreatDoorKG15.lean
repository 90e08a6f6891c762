/-
  Part 15 of the proof of cnfTextMatches_card: walks and lemmas.
-/
import Derived.Test.YtkcfdddhnboieaaGreatDoorKG11
import Derived.Test.YtkcfdddhnboieaaGreatDoorKG5
import Derived.Test.YtkcfdddhnboieaaGreatDoorKG14
import Derived.Shelf.SlSortCmp.NoneTotal
import Derived.Lib.SliceRun
import Derived.Deep.RegionWith
set_option linter.unusedVariables false
set_option linter.unusedSimpArgs false
section
set_option maxHeartbeats 4000000
set_option maxRecDepth 100000
namespace Go.Proofs.YtkcfdddhnboieaaGreatDoor.NState
open Go Go.RowKit Go.Shelf Go.Sort Go.Lib QW.PrintWords QW.PrintLast QW.PrintMore NMap
open PLCmp (cmp_Or_int.f cmp_Or_int.l0 cmp_Or_int.calls cmp_Compare_int.f cmp_Compare_int.calls cnf_literal_141.f cnf_literal_141.calls cmp_isNaN_int.f cnf_literal_166.f)
def cmpI (x y : Int) : Int := if varI x < varI y then -1 else if varI y < varI x then 1 else if y < x then -1 else if x < y then 1 else 0
def sgnI (x y : Int) : Int := if x < y then -1 else if y < x then 1 else 0
theorem cmpInt_f (x y : Int) : cmp_Compare_int.f x y = some (sgnI x y) := by
 simp only [cmp_Compare_int.f, cmp_isNaN_int.f, bne_self_eq_false, Option.bind_some, Bool.false_eq_true, if_false]
 unfold sgnI
 by_cases h1 : x < y
 ·simp [h1]
 ·by_cases h2 : y < x <;> simp [h1, h2]
theorem cmpLit_f (x y : Int) : cnf_literal_141.f x y = some (sgnI x y) := by
 simp only [cnf_literal_141.f, cnf_literal_166.f, bne_self_eq_false, Option.bind_some, Bool.false_eq_true, if_false]
 unfold sgnI
 by_cases h1 : x < y
 ·simp [h1]
 ·by_cases h2 : y < x <;> simp [h1, h2]
theorem or_f (a b : Int) : cmp_Or_int.f 4 [a, b] = some (if a = 0 then b else a) := by
 by_cases h : a = 0
 ·subst h
  by_cases hb : b = 0
  ·subst hb
   simp [cmp_Or_int.f, cmp_Or_int.l0, QW.PrintWords.rd, wrap64]
  ·simp [cmp_Or_int.f, cmp_Or_int.l0, QW.PrintWords.rd, wrap64, hb]
 ·simp [cmp_Or_int.f, cmp_Or_int.l0, QW.PrintWords.rd, wrap64, h]
theorem cmpI_or (x y : Int) : (if sgnI (varI x) (varI y) = 0 then sgnI y x else sgnI (varI x) (varI y)) = cmpI x y := by
 unfold cmpI sgnI
 by_cases h1 : varI x < varI y
 ·simp [h1]
 ·by_cases h2 : varI y < varI x
  ·simp [h1, h2]
  ·simp [h1, h2]
theorem compare_calls (x y : Int) (w : World) : Calls Tryz.prog 108 #[.int .i64 x, .int .i64 y] w fun e w' => e = .returned (.int .i64 (cmpI x y)) ∧ ∃ q os, w' = grow (w.drewN q) os := by
 have HVX := fun W => variable_calls x W
 have HVY := fun W => variable_calls y W
 have hor := cmpI_or x y
 generalize cmpI x y = r at hor ⊢
 generalize varI x = a at HVX hor
 generalize varI y = b at HVY hor
 have HC1 := fun W => cmp_Compare_int.calls a b (sgnI a b) W (cmpInt_f a b)
 have HC2 := fun W => cnf_literal_141.calls y x (sgnI y x) W (cmpLit_f y x)
 generalize sgnI a b = s at HC1 hor
 generalize sgnI y x = t at HC2 hor
 have HOR := Az.mk ((or_f s t).trans (congrArg some hor))
 clear hor
 go_enter Tryz.func108, Tryz.ntmps108
 go_wp2_with fail
 refine (HVX _).mono ?_
 rintro e w1 ⟨rfl, n1, rfl⟩
 go_wp2_with fail
 refine (HVY _).mono ?_
 rintro e w2 ⟨rfl, n2, rfl⟩
 go_wp2_with fail
 refine (HC1 _).mono ?_
 rintro e w3 ⟨rfl, n3, rfl⟩
 go_wp2_with fail
 refine (HC2 _).mono ?_
 rintro e w4 ⟨rfl, n4, rfl⟩
 go_wp2_with fail
 have hrow := C_ints (w.drewN (n1 + n2 + n3 + n4)) [s, t] #[.int .i64 s, .int .i64 t] rfl (by simp)
 refine (cmp_Or_int.calls 4 (some ⟨w.heap.size, 0, none⟩) 2 [s, t] _ _ hrow (by simp) HOR.out).mono ?_
 rintro e w5 ⟨rfl, n5, rfl⟩
 go_wp2
 go_ret
 refine ⟨rfl, n1 + n2 + n3 + n4 + n5, #[.cells #[.int .i64 s, .int .i64 t] 3], ?_⟩
 rw [alloc_eq_grow]
 simp [World.drewN, grow, Nat.add_assoc]
theorem ltI (x y : Int) : ltOf cmpI x y = (decide (varI x < varI y) || (decide (varI x = varI y) && decide (y < x))) := by
 unfold ltOf cmpI
 by_cases h1 : varI x < varI y
 ·simp [h1]
 ·by_cases h2 : varI y < varI x
  ·have h3 : ¬ varI x = varI y := by omega
   simp [h1, h2, h3]
  ·have h3 : varI x = varI y := by omega
   by_cases h4 : y < x
   ·simp [h3, h4]
   ·by_cases h5 : x < y <;> simp [h3, h4, h5]
theorem swoI : SWO (ltOf cmpI) where
 irrefl x := by rw [ltI]; simp
 trans x y z h1 h2 := by rw [ltI] at *; simp at *; omega
 ntrans x y z h1 h2 := by rw [ltI] at *; simp at *; omega
theorem totI (x y : Int) (h1 : ltOf cmpI x y = false) (h2 : ltOf cmpI y x = false) : x = y := by rw [ltI] at *; simp at *; omega
theorem enters_compare (args : Array Value) (w : World) : (callFunc 108 args).run Tryz.prog w = .ok (.enter 108 args) w := enters_of Tryz.func108 (by kernel_rfl) rfl args w
theorem cmpLays (blk off size : Nat) (w : World) : CmpLays1 Tryz.prog 108 #[] (Value.int .i64) cmpI blk off size w := fun _ _ _ _ x y => compare_calls x y _
def leI (x y : Int) : Bool := !(ltOf cmpI y x)
theorem sortLit_calls (g c : Nat) (xs : List Int) (w : World) (hH : Holds (Value.int .i64) w g 0 xs.toArray) (hg : g < w.heap.size) (hlen : xs.length < 4611686018427387904) :
  Calls Tryz.prog 136 #[.slice (some ⟨g, 0, none⟩) xs.length c, .func (.func 108) #[] #[]] w fun e w' => e = .returned (.tuple #[]) ∧ ∃ n os, w' = sortWorld (Value.int .i64) w g 0 n (xs.mergeSort leI).toArray os :=
 Any.slices_SortFunc_total Tryz.sortLit (Value.int .i64) (fun _ => rfl) cmpI swoI 108 #[] g 0 c xs.toArray w enters_compare (cmpLays _ _ _ _) hH hg (by simpa using hlen) totI
theorem sortLit_none (A : Option Addr) (c : Nat) (w : World) :
  Calls Tryz.prog 136 #[.slice A 0 c, .func (.func 108) #[] #[]] w fun e w' => e = .returned (.tuple #[]) ∧ w' = w :=
 AnyF.slices_SortFunc_none { Tryz.sortLit with } A c _ w
end Go.Proofs.YtkcfdddhnboieaaGreatDoor.NState
end
section
set_option maxRecDepth 100000
namespace Go.Proofs.YtkcfdddhnboieaaGreatDoor.NState
open Go Go.RowKit Go.Shelf QW.PrintWords QW.PrintLast QW.PrintMore NMap
def compN {α : Type} (d : α) (f : α → α → Bool) (xs : List α) : Nat → List α
 | 0 => []
 | i + 1 => compN d f xs i ++ (if i ≠ 0 ∧ f (rdOf d xs i) (rdOf d xs ((i - 1 : Nat) : Int)) = true then [] else [rdOf d xs i])
theorem compN_len {α : Type} (d : α) (f : α → α → Bool) (xs : List α) : ∀ i, (compN d f xs i).length ≤ i
 | 0 => Nat.le_refl _
 | i + 1 => by
  have := compN_len d f xs i
  rw [compN, List.length_append]
  split <;> simp <;> omega
theorem rdOf_get {α : Type} {d : α} {xs : List α} {i : Nat} (h : i < xs.length) : rdOf d xs (i : Int) = xs[i] := by simp [rdOf, List.getD, h]
theorem compN_take {α : Type} {d : α} {f : α → α → Bool} {xs : List α} : ∀ i, i ≤ xs.length → (∀ j, 0 < j → j < i → f (rdOf d xs j) (rdOf d xs ((j - 1 : Nat) : Int)) = false) → compN d f xs i = xs.take i
 | 0, _, _ => by simp [compN]
 | i + 1, hi, h => by
  rw [compN, compN_take i (by omega) (fun j h0 h1 => h j h0 (by omega)), List.take_succ_eq_append_getElem (by omega), rdOf_get (by omega), if_neg]
  rintro ⟨h0, h1⟩
  rw [← rdOf_get (d := d) (show i < xs.length by omega), h i (by omega) (by omega)] at h1
  cases h1
theorem R_setCells {α : Type} [Inhabited α] {enc : α → Value} {h1 : ∀ x, (enc x).oneCell' = true} {e base : Nat} {ok : Nat → Prop} {g n cap : Nat} (z : α) : ∀ (m o : Nat) (W : World) (xs : List α), (Kd.scalar enc h1).R e W base ok (.slice (some ⟨g, 0, none⟩) n cap) xs → o + m ≤ xs.length →
  (Kd.scalar enc h1).R e (W.setCells g o (List.replicate m (enc z))) base ok (.slice (some ⟨g, 0, none⟩) n cap) (xs.take o ++ List.replicate m z ++ xs.drop (o + m)) ∧ W.grownBy (W.setCells g o (List.replicate m (enc z))) (some g)
 | 0, o, W, xs, h, hl => by
  refine ⟨?_, ⟨rfl, rfl, rfl, Nat.le_refl _, fun _ _ _ => rfl⟩⟩
  simpa [World.setCells] using h
 | m + 1, o, W, xs, h, hl => by
  have hp := Kd.R_putg h (o : Int) z
  simp only [Int.toNat_natCast] at hp
  obtain ⟨r1, r2⟩ := R_setCells z m (o + 1) _ _ hp.1 (by rw [List.length_set]; omega)
  have e1 : W.setCells g o (List.replicate (m + 1) (enc z)) = (W.setCell ⟨g, o, none⟩ (enc z)).setCells g (o + 1) (List.replicate m (enc z)) := rfl
  have hol : o < xs.length := by omega
  have e2 : (xs.set o z).take (o + 1) ++ List.replicate m z ++ (xs.set o z).drop (o + 1 + m) = xs.take o ++ List.replicate (m + 1) z ++ xs.drop (o + (m + 1)) := by
   rw [List.take_succ_eq_append_getElem (by rw [List.length_set]; exact hol), List.getElem_set_self, List.take_set_of_le (Nat.le_refl _), List.drop_set_of_lt (by omega), List.replicate_succ]
   simp [Nat.add_assoc, Nat.add_comm 1 m]
  rw [e1, ← e2]
  exact ⟨r1, ⟨r2.os.trans hp.2.os, r2.tape.trans hp.2.tape, r2.output.trans hp.2.output, Nat.le_trans hp.2.size r2.size, fun k hk hne => (r2.block k (Nat.lt_of_lt_of_le hk hp.2.size) hne).trans (hp.2.block k hk hne)⟩⟩
theorem grown_trans {a b c : World} {row : Option Nat} (h : a.grownBy b row) (k : b.grownBy c row) : a.grownBy c row := ⟨k.os.trans h.os, k.tape.trans h.tape, k.output.trans h.output, Nat.le_trans h.size k.size, fun i hi hne => (k.block i (Nat.lt_of_lt_of_le hi h.size) hne).trans (h.block i hi hne)⟩
theorem grown_below {a b c : World} {row : Option Nat} (h : a.grownBy b row) (k : Below b.heap.size b c) : a.grownBy c row := ⟨k.os.trans h.os, k.tape.trans h.tape, k.output.trans h.output, Nat.le_trans h.size k.size, fun i hi hne => (k.block i (Nat.lt_of_lt_of_le hi h.size)).trans (h.block i hi hne)⟩
end Go.Proofs.YtkcfdddhnboieaaGreatDoor.NState
end
