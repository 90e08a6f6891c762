/-
  Part 1 of the proof of cnfTextMatches_card: walks and lemmas.
-/
import Derived.Maps.OwnSet
import Derived.Deep.Draws
import Derived.OwnWalk
import Derived.WalkKit
set_option linter.unusedVariables false
set_option linter.unusedSimpArgs false
section
set_option maxRecDepth 100000
namespace Go.Proofs.YtkcfdddhnboieaaGreatDoor.NMap
open Go Go.ChangeMaps Go.MapKept
structure KLaw {κ : Type} (P : Program) (k : TypeId) (kv : κ → Value) : Prop where
 inj : ∀ {a b : κ}, kv a = kv b → a = b
 check : ∀ (w : World) (em : Bool) (x : κ), (Instr.checkKey em 10000 k (kv x)).run P w = .ok () w
 find : ∀ (w : World) (x : κ) (es : List MapEntry), (∀ e ∈ es, ∃ y, e.key = kv y) →
  ((Instr.findKey k (kv x) es).run P w = .ok none w ∧ ∀ e ∈ es, e.key ≠ kv x) ∨ ∃ j e, (Instr.findKey k (kv x) es).run P w = .ok (some (j, e.val)) w ∧ es[j]? = some e ∧ e.key = kv x
 stays : ∀ (w : World) (x : κ), (Instr.keyThatStays (kv x) (kv x)).run P w = .ok (kv x) w
theorem KLaw.int {P : Program} {k : TypeId} {q : IntKind} (hk : P.underlying k = some (.int q)) : KLaw P k (Value.int q) := {
 inj := fun h => by cases h; rfl
 check := fun w em x => run_checkKey (d := .int q) hk (k := .int q x) rfl em 9999
 find := fun w x es hes => by
  have hks : ∀ y ∈ es, IsKey (.int q) y.key := fun y hy => by
   obtain ⟨l, hl⟩ := hes y hy
   rw [hl]; rfl
  rcases findNow_spec (d := .int q) (k := .int q x) rfl es 0 hks with ⟨h1, h2⟩ | ⟨j, e0, h1, h2, h3⟩
  ·exact Or.inl ⟨run_findKey hk h1, h2⟩
  ·exact Or.inr ⟨j, e0, by simpa using run_findKey hk h1, h2, h3⟩
 stays := fun w x => run_keyThatStays (d := .int q) rfl }
section
variable {κ : Type} {P : Program} {k e t : TypeId} {kv : κ → Value}
structure Holds (kv : κ → Value) (es : Array MapEntry) (f : κ → Option Value) : Prop where
 keys : ∀ x ∈ es.toList, ∃ y, x.key = kv y
 apart : es.toList.Pairwise (fun a b => a.key ≠ b.key)
 has : ∀ y v, f y = some v ↔ ∃ x ∈ es.toList, x.key = kv y ∧ x.val = v
def HasMap (kv : κ → Value) (w : World) (b : Nat) (f : κ → Option Value) : Prop := ∃ es clock, w.heap[b]? = some (.map es clock) ∧ Holds kv es f
theorem Holds.none_of {es : Array MapEntry} {f : κ → Option Value} (h : Holds kv es f) {y : κ} (hn : ∀ x ∈ es.toList, x.key ≠ kv y) : f y = none := by
 cases hf : f y with
 | none => rfl
 | some v => obtain ⟨x, hx, hk, _⟩ := (h.has y v).1 hf; exact absurd hk (hn x hx)
theorem HasMap.lt {w : World} {b : Nat} {f : κ → Option Value} (h : HasMap kv w b f) : b < w.heap.size := by
 obtain ⟨es, c, hb, _⟩ := h
 exact (Array.getElem?_eq_some_iff.1 hb).1
theorem HasMap.congr {w : World} {b : Nat} {f g : κ → Option Value} (h : HasMap kv w b f) (e : ∀ x, f x = g x) : HasMap kv w b g := by
 have : f = g := funext e
 exact this ▸ h
theorem HasMap.of_block {w w' : World} {b : Nat} {f : κ → Option Value} (h : HasMap kv w b f) (hb : w'.heap[b]? = w.heap[b]?) : HasMap kv w' b f := by
 obtain ⟨es, c, hb0, hh⟩ := h
 exact ⟨es, c, by rw [hb, hb0], hh⟩
theorem HasMap.alloc {w : World} {b : Nat} {f : κ → Option Value} (h : HasMap kv w b f) (o : Obj) : HasMap kv (w.alloc o) b f :=
 h.of_block (Go.RowKit.Below.heap_alloc w o b h.lt)
theorem HasMap.drew {w : World} {b : Nat} {f : κ → Option Value} (h : HasMap kv w b f) : HasMap kv w.drew b f := h
theorem HasMap.drewN {w : World} {b n : Nat} {f : κ → Option Value} (h : HasMap kv w b f) : HasMap kv (w.drewN n) b f := h.of_block rfl
theorem HasMap.setCell {w : World} {b : Nat} {f : κ → Option Value} (h : HasMap kv w b f) {a : Addr} (ha : b ≠ a.block) (u : Value) : HasMap kv (w.setCell a u) b f :=
 h.of_block (Go.RowKit.Below.heap_setCell w a u b ha)
theorem HasMap.below {w w' : World} {B b : Nat} {f : κ → Option Value} (h : HasMap kv w b f) (hw : Go.RowKit.Below B w w') (hb : b < B) : HasMap kv w' b f :=
 h.of_block (hw.block b hb)
variable [DecidableEq κ]
def put (f : κ → Option Value) (x : κ) (v : Value) : κ → Option Value := fun y => if y = x then some v else f y
def del (f : κ → Option Value) (x : κ) : κ → Option Value := fun y => if y = x then none else f y
theorem Holds.update {es : Array MapEntry} {f : κ → Option Value} (H : Holds kv es f) (K : KLaw P k kv) {j : Nat} {e0 : MapEntry} {x : κ} (h2 : es.toList[j]? = some e0) (h3 : e0.key = kv x) (v : Value) :
  Holds kv (es.modify j fun e => { e with key := kv x, val := v }) (put f x v) := by
 have hget : ∀ i, (es.modify j fun e => { e with key := kv x, val := v }).toList[i]? = if j = i then some { e0 with key := kv x, val := v } else es.toList[i]? := by
  intro i
  rw [Array.toList_modify, List.getElem?_modify]
  split
  ·rename_i h; subst h; simp [h2]
  ·cases es.toList[i]? <;> simp
 have huniq : ∀ i e', es.toList[i]? = some e' → e'.key = kv x → i = j := by
  intro i e' hi hk
  rcases Nat.lt_trichotomy i j with hlt | rfl | hlt
  ·have := List.pairwise_iff_getElem.1 H.apart i j (List.getElem?_eq_some_iff.1 hi).1 (List.getElem?_eq_some_iff.1 h2).1 hlt
   rw [(List.getElem?_eq_some_iff.1 hi).2, (List.getElem?_eq_some_iff.1 h2).2, hk, h3] at this
   exact absurd rfl this
  ·rfl
  ·have := List.pairwise_iff_getElem.1 H.apart j i (List.getElem?_eq_some_iff.1 h2).1 (List.getElem?_eq_some_iff.1 hi).1 hlt
   rw [(List.getElem?_eq_some_iff.1 hi).2, (List.getElem?_eq_some_iff.1 h2).2, hk, h3] at this
   exact absurd rfl this
 constructor
 ·intro y hy
  rw [List.mem_iff_getElem?] at hy
  obtain ⟨i, hi⟩ := hy
  rw [hget] at hi
  split at hi
  ·cases hi; exact ⟨x, rfl⟩
  ·exact H.keys y (List.mem_of_getElem? hi)
 ·rw [List.pairwise_iff_getElem]
  intro i1 i2 hi1 hi2 hlt
  have e1 := hget i1
  have e2 := hget i2
  rw [List.getElem?_eq_getElem hi1] at e1
  rw [List.getElem?_eq_getElem hi2] at e2
  intro heq
  have hne : ∀ (a b : Nat) (ea eb : MapEntry), a ≠ b → es.toList[a]? = some ea → es.toList[b]? = some eb → ea.key ≠ eb.key := by
   intro a b ea eb hab ha hb
   rcases Nat.lt_or_gt_of_ne hab with hl | hl
   ·have := List.pairwise_iff_getElem.1 H.apart a b (List.getElem?_eq_some_iff.1 ha).1 (List.getElem?_eq_some_iff.1 hb).1 hl
    rwa [(List.getElem?_eq_some_iff.1 ha).2, (List.getElem?_eq_some_iff.1 hb).2] at this
   ·have := List.pairwise_iff_getElem.1 H.apart b a (List.getElem?_eq_some_iff.1 hb).1 (List.getElem?_eq_some_iff.1 ha).1 hl
    rw [(List.getElem?_eq_some_iff.1 ha).2, (List.getElem?_eq_some_iff.1 hb).2] at this
    exact fun h => this h.symm
  split at e1 <;> split at e2
  ·omega
  ·rename_i hj _
   have e1' := Option.some.inj e1
   rw [e1'] at heq
   have := huniq i2 _ e2.symm heq.symm
   omega
  ·rename_i _ hj
   have e2' := Option.some.inj e2
   rw [e2'] at heq
   have := huniq i1 _ e1.symm heq
   omega
  ·exact hne i1 i2 _ _ (by omega) e1.symm e2.symm heq
 ·intro y u
  unfold put
  split
  ·rename_i hy; subst hy
   constructor
   ·intro h; cases h
    exact ⟨{ e0 with key := kv y, val := v }, List.mem_of_getElem? (i := j) (by rw [hget]; simp), rfl, rfl⟩
   ·rintro ⟨z, hz, hk, rfl⟩
    rw [List.mem_iff_getElem?] at hz
    obtain ⟨i, hi⟩ := hz
    rw [hget] at hi
    split at hi
    ·cases hi; rfl
    ·exact absurd (huniq i z hi hk) (by rename_i hji; omega)
  ·rename_i hy
   rw [H.has]
   constructor
   ·rintro ⟨z, hz, hk, hv⟩
    rw [List.mem_iff_getElem?] at hz
    obtain ⟨i, hi⟩ := hz
    refine ⟨z, List.mem_of_getElem? (i := i) ?_, hk, hv⟩
    rw [hget, if_neg]
    ·exact hi
    ·rintro rfl
     rw [h2] at hi
     cases hi
     exact hy (K.inj (hk.symm.trans h3))
   ·rintro ⟨z, hz, hk, hv⟩
    rw [List.mem_iff_getElem?] at hz
    obtain ⟨i, hi⟩ := hz
    rw [hget] at hi
    split at hi
    ·cases hi
     exact absurd (K.inj hk).symm hy
    ·exact ⟨z, List.mem_of_getElem? hi, hk, hv⟩
theorem Holds.push {es : Array MapEntry} {f : κ → Option Value} (H : Holds kv es f) (K : KLaw P k kv) {x : κ} (hno : ∀ e ∈ es.toList, e.key ≠ kv x) (v : Value) (clock : Nat) :
  Holds kv (es.push { key := kv x, val := v, born := clock }) (put f x v) := by
 constructor
 ·intro y hy
  simp only [Array.toList_push, List.mem_append, List.mem_singleton] at hy
  rcases hy with hy | rfl
  ·exact H.keys y hy
  ·exact ⟨x, rfl⟩
 ·rw [Array.toList_push, List.pairwise_append]
  refine ⟨H.apart, by simp, fun a ha b hb => ?_⟩
  simp only [List.mem_singleton] at hb
  subst hb
  exact hno a ha
 ·intro y u
  unfold put
  split
  ·rename_i hy; subst hy
   constructor
   ·intro h; cases h
    exact ⟨{ key := kv y, val := v, born := clock }, by simp, rfl, rfl⟩
   ·rintro ⟨z, hz, hk, rfl⟩
    simp only [Array.toList_push, List.mem_append, List.mem_singleton] at hz
    rcases hz with hz | rfl
    ·exact absurd hk (hno z hz)
    ·rfl
  ·rename_i hy
   rw [H.has]
   constructor
   ·rintro ⟨z, hz, hk, hv⟩
    exact ⟨z, by simp [hz], hk, hv⟩
   ·rintro ⟨z, hz, hk, hv⟩
    simp only [Array.toList_push, List.mem_append, List.mem_singleton] at hz
    rcases hz with hz | rfl
    ·exact ⟨z, hz, hk, hv⟩
    ·exact absurd (K.inj hk).symm hy
theorem Holds.erase {es : Array MapEntry} {f : κ → Option Value} (H : Holds kv es f) (K : KLaw P k kv) {j : Nat} {e0 : MapEntry} {x : κ} (h2 : es.toList[j]? = some e0) (h3 : e0.key = kv x) :
  Holds kv (es.eraseIdxIfInBounds j) (del f x) := by
 have hlt : j < es.size := by simpa using (List.getElem?_eq_some_iff.1 h2).1
 have hl : (es.eraseIdxIfInBounds j).toList = es.toList.eraseIdx j := by
  simp [Array.eraseIdxIfInBounds, hlt]
 have huniq : ∀ i e', es.toList[i]? = some e' → e'.key = kv x → i = j := by
  intro i e' hi hk
  rcases Nat.lt_trichotomy i j with hlt | rfl | hlt
  ·have := List.pairwise_iff_getElem.1 H.apart i j (List.getElem?_eq_some_iff.1 hi).1 (List.getElem?_eq_some_iff.1 h2).1 hlt
   rw [(List.getElem?_eq_some_iff.1 hi).2, (List.getElem?_eq_some_iff.1 h2).2, hk, h3] at this
   exact absurd rfl this
  ·rfl
  ·have := List.pairwise_iff_getElem.1 H.apart j i (List.getElem?_eq_some_iff.1 h2).1 (List.getElem?_eq_some_iff.1 hi).1 hlt
   rw [(List.getElem?_eq_some_iff.1 hi).2, (List.getElem?_eq_some_iff.1 h2).2, hk, h3] at this
   exact absurd rfl this
 have hmem : ∀ z, z ∈ es.toList.eraseIdx j ↔ z ∈ es.toList ∧ z.key ≠ kv x := by
  intro z
  rw [List.mem_eraseIdx_iff_getElem?]
  constructor
  ·rintro ⟨i, hij, hi⟩
   exact ⟨List.mem_of_getElem? hi, fun hk => hij (huniq i z hi hk)⟩
  ·rintro ⟨hz, hk⟩
   rw [List.mem_iff_getElem?] at hz
   obtain ⟨i, hi⟩ := hz
   refine ⟨i, ?_, hi⟩
   rintro rfl
   rw [h2] at hi
   cases hi
   exact hk h3
 constructor
 ·intro y hy
  rw [hl, hmem] at hy
  exact H.keys y hy.1
 ·rw [hl]; exact H.apart.sublist (List.eraseIdx_sublist _ _)
 ·intro y u
  unfold del
  split
  ·rename_i hy; subst hy
   simp only [reduceCtorEq, false_iff]
   rintro ⟨z, hz, hk, _⟩
   rw [hl, hmem] at hz
   exact hz.2 hk
  ·rename_i hy
   rw [H.has]
   constructor
   ·rintro ⟨z, hz, hk, hv⟩
    exact ⟨z, by rw [hl, hmem]; exact ⟨hz, fun h => hy (K.inj (hk.symm.trans h))⟩, hk, hv⟩
   ·rintro ⟨z, hz, hk, hv⟩
    rw [hl, hmem] at hz
    exact ⟨z, hz.1, hk, hv⟩
theorem HasMap.store {w : World} {b : Nat} {f : κ → Option Value} (h : HasMap kv w b f) (K : KLaw P k kv) (ht : P.underlying t = some (.map k e)) (x : κ) (v : Value) :
  ∃ es clock, (Instr.mapUpdate t (.map (some b)) (kv x) v).run P w = .ok () (setBlock w b (.map es clock)) ∧ HasMap kv (setBlock w b (.map es clock)) b (put f x v) := by
 obtain ⟨es, clock, hb, H⟩ := h
 rcases K.find w x es.toList H.keys with ⟨h1, h2⟩ | ⟨j, e0, h1, h2, h3⟩
 ·refine ⟨es.push { key := kv x, val := v, born := clock }, clock + 1, ?_, _, _, heap_setBlock_same hb _, H.push K h2 v clock⟩
  simp [Instr.mapUpdate, run_underlying ht, MapKept.run_getObj_map hb, K.check w _ x, h1, MapKept.run_setObj_map _ hb, Result.andThen, setBlock]
 ·have hj : es[j]? = some e0 := by rw [← Array.getElem?_toList]; exact h2
  refine ⟨es.modify j fun e => { e with key := kv x, val := v }, clock, ?_, _, _, heap_setBlock_same hb _, H.update K h2 h3 v⟩
  simp [Instr.mapUpdate, run_underlying ht, MapKept.run_getObj_map hb, K.check w _ x, h1, hj, h3, K.stays w x, MapKept.run_setObj_map _ hb, Result.andThen, setBlock]
theorem HasMap.drop {w : World} {b : Nat} {f : κ → Option Value} (h : HasMap kv w b f) (K : KLaw P k kv) (ht : P.underlying t = some (.map k e)) (x : κ) (ty : TypeId) :
  ∃ es clock, (Builtin.delete_ #[t, k] ty #[.map (some b), kv x]).run P w = .ok (.tuple #[]) (setBlock w b (.map es clock)) ∧ HasMap kv (setBlock w b (.map es clock)) b (del f x) := by
 obtain ⟨es, clock, hb, H⟩ := h
 rcases K.find w x es.toList H.keys with ⟨h1, h2⟩ | ⟨j, e0, h1, h2, h3⟩
 ·refine ⟨es, clock, ?_, _, _, heap_setBlock_same hb _, ?_⟩
  ·simp [Builtin.delete_, run_underlying ht, MapKept.run_getObj_map hb, K.check w _ x, h1, MapKept.run_setObj_map _ hb, Result.andThen, setBlock]
  ·have hn := H.none_of h2
   have : del f x = f := by
    funext y; unfold del; split
    ·rename_i hy; rw [hy, hn]
    ·rfl
   rw [this]; exact H
 ·refine ⟨es.eraseIdxIfInBounds j, clock, ?_, _, _, heap_setBlock_same hb _, H.erase K h2 h3⟩
  simp [Builtin.delete_, run_underlying ht, MapKept.run_getObj_map hb, K.check w _ x, h1, MapKept.run_setObj_map _ hb, Result.andThen, setBlock]
section
variable {ops : Array Oper} {rest : List Oper} {o : Oper} {a : Act} {Q : Exit → Act → World → Prop}
end
end
end Go.Proofs.YtkcfdddhnboieaaGreatDoor.NMap
end
