/-
  Part 6 of the proof of cnfTextMatches_card: walks and lemmas.
-/
import Derived.Test.YtkcfdddhnboieaaGreatDoorKG1
import Derived.Test.YtkcfdddhnboieaaGreatDoorProg
import Derived.Test.YtkcfdddhnboieaaGreatDoorKG5
import Derived.Shelf.Abstract
import Derived.Test.YtkcfdddhnboieaaGreatDoorKG4
set_option linter.unusedVariables false
set_option linter.unusedSimpArgs false
section
set_option maxHeartbeats 1000000
set_option maxRecDepth 100000
namespace Go.Proofs.YtkcfdddhnboieaaGreatDoor.NState
open Go Go.RowKit Go.Shelf QW.PrintWords QW.PrintLast QW.PrintMore NMap
theorem wrap_succ {k n : Nat} (h : k < n) (hn : n ≤ 9223372036854775807) : wrap64 ((k : Int) + 1) = ((k + 1 : Nat) : Int) := by unfold wrap64; omega
theorem meas_x {k n : Nat} {x : Int} (h : k < n) (e : x = ((k + 1 : Nat) : Int)) : n - (intOf (.int .i64 x)).toNat < n - (intOf (.int .i64 (k : Int))).toNat := by
 subst e
 simp only [intOf, Int.toNat_natCast]; omega
theorem drop_rd {l : List Int} {k : Nat} (h : k < l.length) : l.drop k = rd l k :: l.drop (k + 1) := by
 rw [List.drop_eq_getElem_cons h]; simp [rd, List.getD, h]
theorem blk_new (w : World) (o : Obj) : (w.alloc o).heap[w.heap.size]? = some o := by show (w.heap.push o)[w.heap.size]? = _; simp
theorem infoInt : (Tryz.prog.info? 3).map (fun i => (i.zero, i.size, i.bytes)) = some (some (.int .i64 0), 1, 8) := by kernel_rfl
theorem C_lit {α : Type} (d : Kd α) (W : World) (e : TypeId) (xs : List α) (inner : List Value) (hr : Reps (d.K W) d.sz xs inner) (hm : xs.length ≤ 1000000) : d.C (W.alloc (.cells inner.toArray e)) (some ⟨W.heap.size, 0, none⟩) xs.length xs := by
 have hb : Below W.heap.size W (W.alloc (.cells inner.toArray e)) := (Below.refl _ _).alloc (Nat.le_refl _) _
 have h := OwnRow.lit (e := e) W W.heap.size (hr.imp_ (fun p c hp => d.K_below hb hp)) (Nat.le_refl _) (by omega)
 obtain ⟨A, c, he, _, hread⟩ := h.reads
 cases he
 exact hread
theorem C_ints (W : World) (xs : List Int) (cs : Array Value) (h : cs = (encs (Value.int .i64) xs).toArray) (hm : xs.length ≤ 1000000) : (Kd.int .i64).C (W.alloc (.cells cs 3)) (some ⟨W.heap.size, 0, none⟩) xs.length xs := by
 subst h
 exact C_lit (Kd.int .i64) W 3 xs _ (Kd.reps_scalar xs) hm
theorem blk_alloc_at {W : World} {g : Nat} (h : W.heap.size = g) (o : Obj) : (W.alloc o).heap[g]? = some o := by subst h; exact blk_new W o
theorem bkg {W w1 : World} {g : Nat} {o : Obj} {row : Option Nat} (h : W.heap[g]? = some o) (hg : W.grownBy w1 row) (hne : some g ≠ row) : w1.heap[g]? = some o :=
 (hg.block g (Array.getElem?_eq_some_iff.1 h).1 hne).trans h
theorem R_apart_of {α β : Type} {d : Kd α} {d' : Kd β} {e e' base b' : Nat} {ok ok' : Nat → Prop} {W : World} {v u : Value} {xs : List α} {ys : List β} (h : d.R e W base ok v xs) (ho : d'.R e' W b' ok' u ys) (ht : ∀ q, q ∈ e :: d.E → q ≠ e') : d.R e W base (fun k => True ∧ some k ≠ u.ownBlock) v xs :=
 Kd.R_mono (Kd.R_bound h) (fun k ⟨_, _, _, q, hq, cells, hc⟩ => ⟨trivial, fun he => by
  obtain ⟨cells', hc'⟩ := Kd.R_typed ho k he.symm
  rw [hc] at hc'; have h2 := ht q hq; cases hc'; exact h2 rfl⟩)
def idxL (p : Int → Bool) : Int → List Int → Int
 | _, [] => -1
 | i, x :: xs => if p x then i else idxL p (i + 1) xs
theorem indexFunc_calls (g : FuncId) (lb : Array Value) (p : Int → Bool) (A0 : Option Addr) (c0 : Nat) (l0 : List Int) (w : World) (hr0 : Kd.C (Kd.int .i64) w A0 l0.length l0)
  (eg : ∀ args w, (callFunc g args).run Tryz.prog w = .ok (.enter g args) w) (hp : ∀ x, Calls Tryz.prog g (#[.int .i64 x] ++ lb) w fun e w' => e = .returned (.bool (p x)) ∧ w = w') :
  Calls Tryz.prog 74 #[.slice A0 l0.length c0, .func (.func g) #[] lb] w fun e w' => e = .returned (.int .i64 (idxL p 0 l0)) ∧ w = w' := by
 have HR0 := Az.mk hr0
 have HL := Az.mk (Kd.C_max hr0)
 have HP := Az.mk hp
 have EG := Az.mk eg
 clear hr0 hp eg
 go_enter Tryz.func74, Tryz.ntmps74
 go_wp2
 go_loop [5, 8, 9, 10, 11, 12, 13, 14, 15, 16, 18] (fun v5 v8 v9 v10 v11 v12 v13 v14 v15 v16 v18 => ∃ (k : Nat), v8 = .int .i64 k ∧ k ≤ l0.length ∧ Az (idxL p 0 l0 = idxL p k (l0.drop k))) (fun _ v8 _ _ _ _ _ _ _ _ _ => l0.length - (intOf v8).toNat)
 case atStart => exact ⟨0, rfl, Nat.zero_le _, ⟨by simp⟩⟩
 case round =>
  obtain ⟨k, rfl, hk, HA⟩ := hrel
  by_cases hlt : k < l0.length
  ·obtain ⟨ad, rfl, hc⟩ := Kd.at_int HR0.out (k : Int) (by omega) (by omega)
   rw [drop_rd hlt] at HA
   generalize rd l0 k = x at HA hc
   simp only [Int.toNat_natCast] at hc
   have he := EG.out (#[.int .i64 x] ++ lb) w
   by_cases hpx : p x = true
   ·have hpc := HP.out x
    rw [hpx] at hpc
    go_wp2_with (refine hpc.mono ?_; rintro e w' ⟨rfl, rfl⟩)
    go_ret
    refine ⟨?_, rfl⟩
    rw [HA.out, idxL, if_pos hpx]; rfl
   ·have hpc := HP.out x
    rw [Bool.not_eq_true] at hpx
    have HX := Az.mk hpx
    rw [hpx] at hpc
    clear hpx
    go_wp2_with (refine hpc.mono ?_; rintro e w' ⟨rfl, rfl⟩)
    go_round
    case rel =>
     refine ⟨k + 1, by rw [wrap_succ hlt HL.out], by omega, ⟨?_⟩⟩
     rw [HA.out, idxL, HX.out]; simp
    case measure => exact meas_x hlt (wrap_succ hlt HL.out)
  ·go_wp2
   go_ret
   refine ⟨?_, rfl⟩
   rw [HA.out, List.drop_of_length_le (by omega)]; rfl
theorem idxL_any (p : Int → Bool) (l : List Int) : ∀ i : Int, 0 ≤ i → (decide (idxL p i l ≥ 0) = l.any p) ∧ (idxL p i l ≥ 0 → i ≤ idxL p i l) := by
 induction l with
 | nil => intro i hi; simp [idxL]
 | cons x xs ih =>
  intro i hi
  unfold idxL
  by_cases h : p x = true
  ·rw [if_pos h]; simp [h, hi]
  ·rw [if_neg h]
   have := ih (i + 1) (by omega)
   simp only [Bool.not_eq_true] at h
   refine ⟨by simp [h, this.1], fun hh => ?_⟩
   have := this.2 hh
   omega
theorem containsFunc_calls (g : FuncId) (lb : Array Value) (p : Int → Bool) (A0 : Option Addr) (c0 : Nat) (l0 : List Int) (w : World) (hr0 : Kd.C (Kd.int .i64) w A0 l0.length l0)
  (eg : ∀ args w, (callFunc g args).run Tryz.prog w = .ok (.enter g args) w) (hp : ∀ x, Calls Tryz.prog g (#[.int .i64 x] ++ lb) w fun e w' => e = .returned (.bool (p x)) ∧ w = w') :
  Calls Tryz.prog 60 #[.slice A0 l0.length c0, .func (.func g) #[] lb] w fun e w' => e = .returned (.bool (l0.any p)) ∧ w = w' := by
 have hc := indexFunc_calls g lb p A0 c0 l0 w hr0 eg hp
 have hi := Az.mk (idxL_any p l0 0 (Int.le_refl _)).1
 clear eg hp hr0
 generalize idxL p 0 l0 = q at hc hi
 go_enter Tryz.func60, Tryz.ntmps60
 go_wp2_with (go_at_call 74; refine hc.mono ?_; rintro e w' ⟨rfl, rfl⟩)
 go_ret
 exact ⟨by rw [← hi.out]; rfl, rfl⟩
def badLit (vars x : Int) : Bool := x == 0 || decide (x < wrap64 (-vars)) || decide (x > vars)
end Go.Proofs.YtkcfdddhnboieaaGreatDoor.NState
end
section
set_option maxRecDepth 100000
namespace Go.Proofs.YtkcfdddhnboieaaGreatDoor.NState
open Go Go.RowKit Go.Shelf QW.PrintWords QW.PrintLast QW.PrintMore NMap
structure Filled (a0 : Act) (L : List Nat) (b : Nat → Bool) (v : Nat → Value) (a : Act) : Prop where
 defers : a.defers = a0.defers
 size : a.tmps.size = a0.tmps.size
 other : ∀ t, L.contains t = false → a.tmps[t]? = a0.tmps[t]?
 slot : ∀ i t, L[i]? = some t → a.tmps[t]? = if b i = true then some (v i) else a0.tmps[t]?
theorem Filled.start (a0 : Act) (L : List Nat) (v : Nat → Value) : Filled a0 L (fun _ => false) v a0 := ⟨rfl, rfl, fun _ _ => rfl, fun i t h => by simp⟩
theorem Filled.put {a0 a : Act} {L : List Nat} {b : Nat → Bool} {v : Nat → Value} (h : Filled a0 L b v a) (hn : L.Nodup) {i t : Nat} (hi : L[i]? = some t) (ht : t < a0.tmps.size) (u : Value) : Filled a0 L (up b i) (fun j => if j = i then u else v j) (a.put (some t) u) := by
 refine ⟨h.defers, by simp [Act.put, h.size], fun s hs => ?_, fun j s hj => ?_⟩
 ·have hne : t ≠ s := by
   rintro rfl
   have : t ∈ L := List.mem_of_getElem? hi
   rw [List.contains_iff_mem.2 this] at hs
   cases hs
  simp only [Act.put, Array.getElem?_setIfInBounds_ne hne]
  exact h.other s hs
 ·by_cases hji : j = i
  ·subst hji
   rw [hi] at hj
   cases hj
   have hlt : t < a.tmps.size := by rw [h.size]; exact ht
   rw [up_self]
   simp [Act.put, hlt]
  ·have hne : t ≠ s := by
    rintro rfl
    obtain ⟨h1, h2⟩ := List.getElem?_eq_some_iff.1 hi
    obtain ⟨h3, h4⟩ := List.getElem?_eq_some_iff.1 hj
    exact hji ((List.getElem_inj hn).1 (h4.trans h2.symm))
   rw [up_ne hji]
   simp only [Act.put, Array.getElem?_setIfInBounds_ne hne, if_neg hji]
   exact h.slot j s hj
def fillAll (a0 : Act) (L : List Nat) (v : Nat → Value) : Act := { tmps := ((List.range a0.tmps.size).map fun t => match L.idxOf? t with | some i => v i | none => a0.tmps.getD t undef).toArray, defers := a0.defers }
theorem Filled.all {a0 a : Act} {L : List Nat} {b : Nat → Bool} {v : Nat → Value} (h : Filled a0 L b v a) (hb : ∀ i, i < L.length → b i = true) : a = fillAll a0 L v := by
 obtain ⟨tm, df⟩ := a
 obtain ⟨h1, h2, h3, h4⟩ := h
 simp only at h1 h2 h3 h4
 unfold fillAll
 rw [h1]
 congr 1
 apply Array.ext_getElem?
 intro t
 have e0 : ∀ l : List Value, l.toArray[t]? = l[t]? := fun l => by simp
 refine Eq.trans ?_ (e0 _).symm
 rw [List.getElem?_map]
 by_cases ht : t < a0.tmps.size
 ·rw [List.getElem?_range ht]
  simp only [Option.map_some]
  cases hi : L.idxOf? t with
  | none =>
   have hc : L.contains t = false := by
    rw [List.idxOf?_eq_none_iff] at hi
    cases hq : L.contains t with
    | false => rfl
    | true => exact absurd (List.contains_iff_mem.1 hq) hi
   rw [h3 t hc]
   simp [Array.getD, ht]
  | some i =>
   have hg : L[i]? = some t := by
    rw [List.idxOf?_eq_some_iff] at hi
    obtain ⟨hl, he, _⟩ := hi
    rw [List.getElem?_eq_getElem hl, he]
   have hl := (List.getElem?_eq_some_iff.1 hg).1
   rw [h4 i t hg, if_pos (hb i hl)]
 ·rw [Array.getElem?_eq_none (by omega), List.getElem?_eq_none (by simp; omega)]
  rfl
structure SpG where
 p : World → Value → Prop
 st : ∀ {w w' : World} {v : Value}, p w v → Below w.heap.size w w' → p w' v
def SpG.is (v : Value) : SpG := ⟨fun _ u => u = v, fun h _ => h⟩
def SpG.ints (l : List Int) : SpG := ⟨fun w v => ∃ A c, v = .slice A l.length c ∧ l.length ≤ c ∧ (Kd.int .i64).C w A l.length l, fun h hb => by obtain ⟨A, c, h1, h2, h3⟩ := h; exact ⟨A, c, h1, h2, Kd.C_below h3 hb⟩⟩
def SpG.rows (cls : List (List Int)) : SpG := ⟨fun w v => ∃ A c, v = .slice A cls.length c ∧ cls.length ≤ c ∧ Kd.C (Kd.slice 3 (Kd.int .i64)) w A cls.length cls,
 fun h hb => by obtain ⟨A, c, h1, h2, h3⟩ := h; exact ⟨A, c, h1, h2, Kd.C_below h3 hb⟩⟩
def SpG.cnf (n : Int) (cls : List (List Int)) : SpG := ⟨fun w v => ∃ A c, v = .agg #[.int .i64 n, .slice A cls.length c] ∧ cls.length ≤ c ∧ Kd.C (Kd.slice 3 (Kd.int .i64)) w A cls.length cls,
 fun h hb => by obtain ⟨A, c, h1, h2, h3⟩ := h; exact ⟨A, c, h1, h2, Kd.C_below h3 hb⟩⟩
def RelG (W : World) (a0 : Act) (L : List Nat) (tab : List SpG) (b : Nat → Bool) (a : Act) (w : World) : Prop :=
 ∃ v, Filled a0 L b v a ∧ Below W.heap.size W w ∧ ∀ i s, tab[i]? = some s → b i = true → s.p w (v i)
theorem RelG.start (W : World) (a0 : Act) (L : List Nat) (tab : List SpG) : RelG W a0 L tab (fun _ => false) a0 W := ⟨fun _ => undef, Filled.start _ _ _, Below.refl _ _, fun _ _ _ h => by cases h⟩
theorem RelG.put {W w w' : World} {a0 a : Act} {L : List Nat} {tab : List SpG} {b : Nat → Bool} (h : RelG W a0 L tab b a w) {i t : Nat} {s : SpG} {u : Value} (hn : L.Nodup) (hi : L[i]? = some t) (ht : t < a0.tmps.size) (hs : tab[i]? = some s) (hb : Below w.heap.size w w') (hu : s.p w' u) :
  RelG W a0 L tab (up b i) (a.put (some t) u) w' := by
 obtain ⟨v, h1, h2, h3⟩ := h
 refine ⟨_, h1.put hn hi ht u, bwt h2 hb, fun j s' hj hbj => ?_⟩
 by_cases hji : j = i
 ·subst hji
  rw [hs] at hj
  cases hj
  rw [if_pos rfl]; exact hu
 ·rw [up_ne hji] at hbj
  rw [if_neg hji]
  exact s'.st (h3 j s' hj hbj) hb
theorem RelG.get {W w : World} {a0 a : Act} {L : List Nat} {tab : List SpG} {b : Nat → Bool} (h : RelG W a0 L tab b a w) {i t : Nat} {s : SpG} (hb : b i = true) (hi : L[i]? = some t) (hs : tab[i]? = some s) : ∃ u, a.tmps[t]? = some u ∧ s.p w u := by
 obtain ⟨v, h1, _, h3⟩ := h
 exact ⟨v i, by rw [h1.slot i t hi, if_pos hb], h3 i s hs hb⟩
theorem RelG.gis {W w : World} {a0 a : Act} {L : List Nat} {tab : List SpG} {b : Nat → Bool} (h : RelG W a0 L tab b a w) {i t : Nat} {v : Value} (hb : b i = true) (hi : L[i]? = some t) (hs : tab[i]? = some (SpG.is v)) : a.tmps[t]? = some v := by
 obtain ⟨u, h1, h2⟩ := h.get hb hi hs
 exact h1.trans (congrArg some h2)
theorem RelG.elder {W w : World} {a0 a : Act} {L : List Nat} {tab : List SpG} {b : Nat → Bool} (h : RelG W a0 L tab b a w) {t : Nat} {u : Value} (hc : L.contains t = false) (hu : a0.tmps[t]? = some u) : a.tmps[t]? = some u := by
 obtain ⟨v, h1, _⟩ := h
 rw [h1.other t hc]; exact hu
theorem RelG.reads {W w : World} {a0 a : Act} {L : List Nat} {tab : List SpG} {b : Nat → Bool} (h : RelG W a0 L tab b a w) : Below W.heap.size W w := h.choose_spec.2.1
section
variable {P : Program} {ops : Array Oper} {Q : Exit → Act → World → Prop} {oi : Oper} {a0 : Act} {W : World} {L : List Nat} {tab : List SpG} {B O : List Nat} {i t : Nat} {s : SpG}
def GOpen (ops : Array Oper) (L : List Nat) (tab : List SpG) (B O : List Nat) (i : Nat) (oi : Oper) : Prop :=
 oi.guard = none ∨ ∃ g u og tg, oi.guard = some (g, u) ∧ ops[g]? = some og ∧ og.dst = some tg ∧ L[g]? = some tg ∧ tab[g]? = some (SpG.is (.bool u)) ∧ (O.contains g && (B.getD i 0).testBit g) = true
theorem GOpen.wanted {b : Nat → Bool} {a : Act} {w : World} (hg : GOpen ops L tab B O i oi) (h : RelG W a0 L tab b a w) (hon : ∀ j, (O.contains j && (B.getD i 0).testBit j) = true → b j = true) : Region.wanted oi (yielded ops a.tmps) = true := by
 rcases hg with hg | ⟨g, u, og, tg, h1, h2, h3, h4, h5, h6⟩
 ·simp [Region.wanted, hg]
 ·exact wanted_on h1 h2 h3 (h.gis (hon g h6) h4 h5)
theorem step_val (hoi : ops[i]? = some oi) (hdst : oi.dst = some t) (hg : GOpen ops L tab B O i oi) (hn : L.Nodup) (hi : L[i]? = some t) (ht : t < a0.tmps.size) (hs : tab[i]? = some s)
  (h : ∀ b a w, RelG W a0 L tab b a w → (∀ j, (O.contains j && (B.getD i 0).testBit j) = true → b j = true) → ∃ v w1, (execOp a.eval oi).run P w = .ok (.value v) w1 ∧ Below w.heap.size w w1 ∧ s.p w1 v) : StepAt P ops Q B O (RelG W a0 L tab) i := by
 intro b a w hr hb hon hoff
 refine ⟨oi, hoi, fun K hK => ?_⟩
 obtain ⟨v, w1, h1, h2, h3⟩ := h b a w hr hon
 refine value_ (hg.wanted hr hon) rfl h1 ?_
 rw [hdst]
 exact hK.out _ _ (hr.put hn hi ht hs h2 h3)
theorem step_call (hoi : ops[i]? = some oi) (hdst : oi.dst = some t) (hg : GOpen ops L tab B O i oi) (hn : L.Nodup) (hi : L[i]? = some t) (ht : t < a0.tmps.size) (hs : tab[i]? = some s)
  (h : ∀ b a w, RelG W a0 L tab b a w → (∀ j, (O.contains j && (B.getD i 0).testBit j) = true → b j = true) → ∃ f args, (execOp a.eval oi).run P w = .ok (.enter f args) w ∧ Calls P f args w fun e w' => ∃ v, e = .returned v ∧ Below w.heap.size w w' ∧ s.p w' v) : StepAt P ops Q B O (RelG W a0 L tab) i := by
 intro b a w hr hb hon hoff
 refine ⟨oi, hoi, fun K hK => ?_⟩
 obtain ⟨f, args, h1, h2⟩ := h b a w hr hon
 rw [if_pos (hg.wanted hr hon)]
 unfold Oper.wp
 rw [h1]
 refine h2.mono ?_
 rintro e w' ⟨v, rfl, h3, h4⟩
 rw [hdst]
 exact hK.out _ _ (hr.put hn hi ht hs h3 h4)
end
theorem ints_lit (w : World) (l : List Int) (cs : Array Value) (h : cs = (encs (Value.int .i64) l).toArray) (hm : l.length ≤ 1000000) : (SpG.ints l).p (w.alloc (.cells cs 3)) (.slice (some ⟨w.heap.size, 0, none⟩) l.length l.length) :=
 ⟨_, _, rfl, Nat.le_refl _, C_ints w l cs h hm⟩
theorem below_new (w : World) (o : Obj) : Below w.heap.size w (w.alloc o) := (Below.refl _ _).alloc (Nat.le_refl _) _
end Go.Proofs.YtkcfdddhnboieaaGreatDoor.NState
end
section
set_option maxRecDepth 100000
namespace Go.Proofs.YtkcfdddhnboieaaGreatDoor.NPlain
open Go Go.RowKit QW.PrintWords QW.PrintLast QW.PrintMore NState
def Ev {α : Type} (f : Nat → Option α) (r : α) : Prop := ∃ K, ∀ k, K ≤ k → f k = some r
theorem Ev.pure {α : Type} (r : α) : Ev (fun _ => some r) r := ⟨0, fun _ _ => rfl⟩
theorem Ev.pureOf {α : Type} {r r' : α} (h : r' = r) : Ev (fun _ => some r') r := h ▸ Ev.pure _
theorem Ev.succ {α : Type} {f : Nat → Option α} {r : α} (h : Ev (fun k => f (k + 1)) r) : Ev f r := by
 obtain ⟨K, h⟩ := h
 refine ⟨K + 1, fun k hk => ?_⟩
 obtain ⟨j, rfl⟩ : ∃ j, k = j + 1 := ⟨k - 1, by omega⟩
 exact h j (by omega)
theorem Ev.bind {α β : Type} {f : Nat → Option α} {g : Nat → α → Option β} {a : α} {r : β} (h1 : Ev f a) (h2 : Ev (fun k => g k a) r) : Ev (fun k => (f k).bind (g k)) r := by
 obtain ⟨K1, h1⟩ := h1
 obtain ⟨K2, h2⟩ := h2
 refine ⟨max K1 K2, fun k hk => ?_⟩
 show (f k).bind (g k) = _
 rw [h1 k (by omega)]; exact h2 k (by omega)
theorem Ev.pos {α : Type} {c : Prop} [Decidable c] {f g : Nat → Option α} {r : α} (hc : c) (h : Ev f r) : Ev (fun k => if c then f k else g k) r := by
 simpa only [if_pos hc] using h
theorem Ev.neg {α : Type} {c : Prop} [Decidable c] {f g : Nat → Option α} {r : α} (hc : ¬ c) (h : Ev g r) : Ev (fun k => if c then f k else g k) r := by
 simpa only [if_neg hc] using h
theorem Ev.both {α β : Type} {f : Nat → Option α} {g : Nat → Option β} {a : α} {b : β} (h1 : Ev f a) (h2 : Ev g b) : ∃ K, ∀ k, K ≤ k → f k = some a ∧ g k = some b := by
 obtain ⟨K1, h1⟩ := h1
 obtain ⟨K2, h2⟩ := h2
 exact ⟨max K1 K2, fun k hk => ⟨h1 k (by omega), h2 k (by omega)⟩⟩
theorem down {P : Nat → Prop} {n : Nat} (hend : P n) (hstep : ∀ i, i < n → P (i + 1) → P i) : ∀ i, i ≤ n → P i := by
 intro i hi
 obtain ⟨d, hd⟩ : ∃ d, d = n - i := ⟨_, rfl⟩
 induction d generalizing i with
 | zero => rw [show i = n by omega]; exact hend
 | succ d ih => exact hstep i (by omega) (ih (i + 1) (by omega) (by omega))
theorem rdL {l : List (List Int)} {k : Nat} (h : k < l.length) : l.drop k = PCheck.rL l k :: l.drop (k + 1) := by
 rw [List.drop_eq_getElem_cons h]; simp [PCheck.rL, List.getD, h]
theorem wneg {x : Int} (h1 : -4611686018427387904 ≤ x) (h2 : x ≤ 4611686018427387904) : wrap64 (-x) = -x := by unfold wrap64; omega
theorem wid {x : Int} (h1 : -4611686018427387904 ≤ x) (h2 : x ≤ 4611686018427387904) : wrap64 x = x := by unfold wrap64; omega
def free (S : List Int) (L : List Int) : Nat := (L.filter fun x => !S.contains x).length
theorem free_le (S : List Int) (o : Int) : ∀ L : List Int, free (o :: S) L ≤ free S L
 | [] => Nat.le_refl _
 | x :: xs => by
  have h := free_le S o xs
  unfold free at h ⊢
  rw [List.filter_cons, List.filter_cons]
  by_cases hx : S.contains x = true
  ·have hx2 : (o :: S).contains x = true := by rw [List.contains_cons, hx]; simp
   simp only [hx, hx2, Bool.not_true, Bool.false_eq_true, if_false]
   exact h
  ·rw [Bool.not_eq_true] at hx
   simp only [hx, Bool.not_false, if_true]
   split
   ·simp only [List.length_cons]; omega
   ·simp only [List.length_cons]; omega
theorem free_lt (S : List Int) (o : Int) (hs : S.contains o = false) : ∀ L : List Int, o ∈ L → free (o :: S) L < free S L
 | x :: xs, hm => by
  have hle := free_le S o xs
  unfold free at hle ⊢
  rw [List.filter_cons, List.filter_cons]
  by_cases he : x = o
  ·subst he
   have hx2 : (x :: S).contains x = true := by simp
   simp only [hs, hx2, Bool.not_true, Bool.not_false, Bool.false_eq_true, if_false, if_true, List.length_cons]
   omega
  ·have hm2 : o ∈ xs := by
    rcases List.mem_cons.1 hm with h | h
    ·exact absurd h.symm he
    ·exact h
   have h := free_lt S o hs xs hm2
   unfold free at h
   have e : (o :: S).contains x = S.contains x := by rw [List.contains_cons]; simp [he]
   rw [e]
   split
   ·simp only [List.length_cons]; omega
   ·exact h
def allF (S l : List Int) : Prop := ∀ y ∈ l, S.contains (wrap64 (-y)) = true
def unitL (S l : List Int) (x : Int) : Prop := x ∈ l ∧ S.contains (wrap64 (-x)) = false ∧ ∀ y ∈ l, y = x ∨ S.contains (wrap64 (-y)) = true
def Sub (S T : List Int) : Prop := ∀ y, S.contains y = true → T.contains y = true
def Good (cls : List (List Int)) (T : List Int) : Prop := ∀ l ∈ cls, ¬ allF T l ∧ ∀ x, unitL T l x → T.contains x = true
theorem good_conf {cls : List (List Int)} {S T l : List Int} (hs : Sub S T) (hg : Good cls T) (hl : l ∈ cls) : ¬ allF S l := fun h => (hg l hl).1 fun y hy => hs _ (h y hy)
theorem good_unit {cls : List (List Int)} {S T l : List Int} {x : Int} (hs : Sub S T) (hg : Good cls T) (hl : l ∈ cls) (hu : unitL S l x) : T.contains x = true := by
 obtain ⟨h1, h2, h3⟩ := hu
 refine (hg l hl).2 x ⟨h1, ?_, fun y hy => ?_⟩
 ·cases hc : T.contains (wrap64 (-x)) with
  | false => rfl
  | true =>
   exact absurd (fun y hy => by
    rcases h3 y hy with rfl | h
    ·exact hc
    ·exact hs _ h) (hg l hl).1
 ·rcases h3 y hy with h | h
  ·exact .inl h
  ·exact .inr (hs _ h)
theorem Sub.cons {S T : List Int} {x : Int} (h : Sub S T) (hx : T.contains x = true) : Sub (x :: S) T := by
 intro y hy
 rw [List.contains_cons, Bool.or_eq_true] at hy
 rcases hy with e | e
 ·have : y = x := by simpa using e
  rw [this]; exact hx
 ·exact h y e
theorem Sub.tail {S T : List Int} {x : Int} (h : Sub (x :: S) T) : Sub S T := fun y hy => h y (by rw [List.contains_cons, hy]; simp)
def tot (cls : List (List Int)) : Nat := (cls.map List.length).sum
def chkL (vars : Int) (cls : List (List Int)) : Int :=
 if vars < 0 then 1 else if vars > 4096 ∨ cls.length > 16384 ∨ tot cls > 65536 then 5 else if cls.any (fun l => l.any (badLit vars)) then 1 else 0
theorem exists_code (x v : Int) : PCheck.cnf_exists.f x v = some (!badLit v x) := by
 unfold PCheck.cnf_exists.f badLit
 by_cases h0 : x = 0
 ·simp [h0]
 by_cases h1 : x ≥ wrap64 (-v)
 ·rw [if_neg h0, if_pos h1]
  have e1 : (x == 0) = false := by simpa using h0
  have e2 : decide (x < wrap64 (-v)) = false := by simpa using h1
  rw [e1, e2]
  by_cases h2 : x ≤ v
  ·have e3 : decide (x > v) = false := by simpa using h2
   rw [e3]; simp [h2]
  ·have e3 : decide (x > v) = true := by simpa using h2
   rw [e3]; simp [h2]
 ·rw [if_neg h0, if_neg h1]
  have e2 : decide (x < wrap64 (-v)) = true := by simpa using h1
  rw [e2]; simp
theorem tot_drop {cls : List (List Int)} {i : Nat} (hi : i < cls.length) : tot (cls.drop i) = (PCheck.rL cls i).length + tot (cls.drop (i + 1)) := by
 rw [rdL hi]; simp [tot]
theorem check_code2 (vars : Int) (cls : List (List Int)) (hc : cls.length ≤ 1000000000) (hl : ∀ l ∈ cls, l.length ≤ 1000000000) {r : Int} (i : Nat) (hi : i < cls.length) (h : Ev (fun k => PCheck.cnf_Check.l1 k cls (cls.length : Int) ((i + 1 : Nat) : Int) vars cls) r) :
  ∀ j : Nat, j ≤ (PCheck.rL cls i).length → Ev (fun k => PCheck.cnf_Check.l2 k cls (cls.length : Int) (i : Int) (PCheck.rL cls i) ((PCheck.rL cls i).length : Int) (j : Int) vars cls) (if ((PCheck.rL cls i).drop j).any (badLit vars) then 1 else r) := by
 have hlen : (PCheck.rL cls i).length ≤ 1000000000 := by
  have e : PCheck.rL cls i = cls[i] := by simp [PCheck.rL, List.getD, hi]
  rw [e]; exact hl _ (List.getElem_mem _)
 refine down ?_ ?_
 ·refine Ev.succ ?_
  simp only [PCheck.cnf_Check.l2]
  refine Ev.neg (by omega) ?_
  rw [List.drop_length, wrap_succ hi (by omega)]
  exact h
 ·intro j hj ih
  refine Ev.succ ?_
  simp only [PCheck.cnf_Check.l2]
  refine Ev.pos (by omega) (Ev.pos (by omega) (Ev.pos (by omega) ?_))
  rw [exists_code, drop_rd hj, wrap_succ hj (by omega)]
  rw [List.any_cons]
  simp only [Option.bind_some]
  by_cases hb : badLit vars (rd (PCheck.rL cls i) j) = true
  ·rw [hb]
   exact Ev.neg (by simp) (Ev.pureOf (by simp))
  ·rw [Bool.not_eq_true] at hb
   rw [hb]
   refine Ev.pos (by simp) ?_
   rw [Bool.false_or]
   exact ih
theorem check_code1 (vars : Int) (cls : List (List Int)) (hc : cls.length ≤ 1000000000) (hl : ∀ l ∈ cls, l.length ≤ 1000000000) : ∀ i : Nat, i ≤ cls.length → Ev (fun k => PCheck.cnf_Check.l1 k cls (cls.length : Int) (i : Int) vars cls) (if (cls.drop i).any (fun l => l.any (badLit vars)) then 1 else 0) := by
 refine down ?_ ?_
 ·refine Ev.succ ?_
  simp only [PCheck.cnf_Check.l1]
  rw [List.drop_length]
  exact Ev.neg (by omega) (Ev.pure _)
 ·intro i hi ih
  refine Ev.succ ?_
  simp only [PCheck.cnf_Check.l1]
  refine Ev.pos (by omega) (Ev.pos (by omega) (Ev.pos (by omega) ?_))
  have h2 := check_code2 vars cls hc hl i hi ih 0 (Nat.zero_le _)
  rw [rdL hi, List.any_cons]
  rw [List.drop_zero] at h2
  have e : PCheck.rL cls i = PCheck.rL cls i := rfl
  rw [e]
  by_cases hb : ((PCheck.rL cls i).any (badLit vars)) = true
  ·rw [hb] at h2 ⊢; exact h2
  ·rw [Bool.not_eq_true] at hb
   rw [hb] at h2 ⊢
   rw [Bool.false_or]
   exact h2
theorem check_code (vars : Int) (cls : List (List Int)) (hc : cls.length ≤ 1000000000) (ht : tot cls ≤ 1000000000) (hl : ∀ l ∈ cls, l.length ≤ 1000000000) : Ev (fun k => PCheck.cnf_Check.f k vars cls) (chkL vars cls) := by
 unfold chkL PCheck.cnf_Check.f
 by_cases h0 : vars < 0
 ·rw [if_pos h0]; exact Ev.pos h0 (Ev.pure _)
 rw [if_neg h0]
 refine Ev.neg h0 ?_
 have key : ∀ i : Nat, i ≤ cls.length → ∀ s : Nat, s + tot (cls.drop i) = tot cls → Ev (fun k => PCheck.cnf_Check.l0 k (s : Int) cls (cls.length : Int) (i : Int) vars cls) (if vars > 4096 ∨ cls.length > 16384 ∨ tot cls > 65536 then 5 else if cls.any (fun l => l.any (badLit vars)) then 1 else 0) := by
  refine down ?_ ?_
  ·intro s hs
   have hs' : s = tot cls := by rw [List.drop_length] at hs; simpa [tot] using hs
   refine Ev.succ ?_
   simp only [PCheck.cnf_Check.l0]
   refine Ev.neg (by omega) ?_
   have h5 : ∀ x37 : Bool, (x37 = true → (vars > 4096 ∨ cls.length > 16384 ∨ tot cls > 65536)) → (x37 = false → ¬ (vars > 4096 ∨ cls.length > 16384 ∨ tot cls > 65536)) → Ev (fun k => PCheck.cnf_Check.j1 k x37 vars cls) (if vars > 4096 ∨ cls.length > 16384 ∨ tot cls > 65536 then 5 else if cls.any (fun l => l.any (badLit vars)) then 1 else 0) := by
    intro b hb1 hb2
    refine Ev.succ ?_
    simp only [PCheck.cnf_Check.j1]
    cases b with
    | true => rw [if_pos (hb1 rfl)]; exact Ev.pos rfl (Ev.pure _)
    | false =>
     rw [if_neg (hb2 rfl)]
     exact Ev.neg (by simp) (by have := check_code1 vars cls hc hl 0 (Nat.zero_le _); rwa [List.drop_zero] at this)
   by_cases c1 : vars > 4096
   ·exact Ev.pos c1 (h5 true (fun _ => .inl c1) (fun h => by cases h))
   refine Ev.neg c1 ?_
   by_cases c2 : (cls.length : Int) > 16384
   ·exact Ev.pos c2 (h5 true (fun _ => .inr (.inl (by omega))) (fun h => by cases h))
   refine Ev.neg c2 ?_
   refine h5 _ (fun h => ?_) (fun h => ?_)
   ·have := of_decide_eq_true h; omega
   ·have := of_decide_eq_false h; omega
  ·intro i hi ih s hs
   rw [tot_drop hi] at hs
   refine Ev.succ ?_
   simp only [PCheck.cnf_Check.l0]
   refine Ev.pos (by omega) (Ev.pos (by omega) (Ev.pos (by omega) ?_))
   have e : wrap64 ((s : Int) + ((PCheck.rL cls i).length : Int)) = ((s + (PCheck.rL cls i).length : Nat) : Int) := by rw [wid (by have e : PCheck.rL cls i = PCheck.rL cls i := rfl; rw [e]; omega) (by have e : PCheck.rL cls i = PCheck.rL cls i := rfl; rw [e]; omega)]; have e : PCheck.rL cls i = PCheck.rL cls i := rfl; rw [e]; omega
   rw [e, wrap_succ hi (by omega)]
   exact ih _ (by omega)
 exact key 0 (Nat.zero_le _) 0 (by rw [List.drop_zero]; omega)
theorem len_tot {cls : List (List Int)} {l : List Int} (h : l ∈ cls) : l.length ≤ tot cls := by
 induction cls with
 | nil => cases h
 | cons x xs ih =>
  simp only [tot, List.map_cons, List.sum_cons] at ih ⊢
  rcases List.mem_cons.1 h with rfl | h
  ·omega
  ·have := ih h; omega
def fewL (most : Nat) (cls : List (List Int)) : List (List Int) := (cls.take most).map fun l => l.take 12
theorem fewL_len (most : Nat) (cls : List (List Int)) : (fewL most cls).length ≤ most := by simp [fewL]; omega
def LitOk (n : Nat) (x : Int) : Prop := x ≠ 0 ∧ -(n : Int) ≤ x ∧ x ≤ n
def Fine (n : Nat) (cls : List (List Int)) : Prop := cls.length ≤ 40 ∧ ∀ l ∈ cls, l.length ≤ 12 ∧ ∀ x ∈ l, LitOk n x
theorem tot_le (b : Nat) : ∀ cls : List (List Int), (∀ l ∈ cls, l.length ≤ b) → tot cls ≤ b * cls.length
 | [], _ => by simp [tot]
 | x :: xs, h => by
  have h1 := h x List.mem_cons_self
  have h2 := tot_le b xs (fun l hl => h l (List.mem_cons_of_mem _ hl))
  simp only [tot, List.map_cons, List.sum_cons, List.length_cons, Nat.mul_add] at h2 ⊢
  omega
theorem Fine.tot {n : Nat} {cls : List (List Int)} (h : Fine n cls) : tot cls ≤ 480 := by
 have := tot_le 12 cls (fun l hl => (h.2 l hl).1)
 have := h.1
 omega
theorem rdFI {l : List (List Int)} {k : Nat} (h : k < l.length) : PFit.rL l k = l[k] := by simp [PFit.rL, List.getD, h]
structure InvF (n len i j : Nat) (L : List (List Int)) : Prop where
 len : L.length = len
 short : ∀ (m : Nat) l, L[m]? = some l → l.length ≤ 12
 done : ∀ (m : Nat) l, m < i → L[m]? = some l → ∀ x ∈ l, LitOk n x
 part : ∀ l, L[i]? = some l → ∀ (q : Nat) x, q < j → l[q]? = some x → LitOk n x
theorem rdFS {L : List (List Int)} {i : Nat} (hi : i < L.length) : L[i]? = some (PFit.rL L (i : Int)) := by
 rw [rdFI hi, List.getElem?_eq_getElem hi]
theorem InvF.next {n len i j : Nat} {L : List (List Int)} (h : InvF n len i j L) (hi : i < len) (hj : j = (PFit.rL L (i : Int)).length) : InvF n len (i + 1) 0 L := by
 refine ⟨h.len, h.short, fun m l hm hl x hx => ?_, fun _ _ _ _ hq => absurd hq (Nat.not_lt_zero _)⟩
 by_cases e : m = i
 ·subst e
  have hr := rdFS (L := L) (i := m) (by rw [h.len]; exact hi)
  rw [hr] at hl
  cases hl
  obtain ⟨q, hq, he⟩ := List.getElem_of_mem hx
  exact h.part _ hr q x (by omega) (by rw [List.getElem?_eq_getElem hq, he])
 ·exact h.done m l (by omega) hl x hx
theorem InvF.put {n len i j : Nat} {L : List (List Int)} (h : InvF n len i j L) (hi : i < len) (hj : j < (PFit.rL L (i : Int)).length) {x : Int} (hx : LitOk n x) : InvF n len i (j + 1) (L.set i ((PFit.rL L (i : Int)).set j x)) := by
 have hL : i < L.length := by rw [h.len]; exact hi
 have hr := rdFS hL
 refine ⟨by simp [h.len], fun m l hl => ?_, fun m l hm hl y hy => ?_, fun l hl q y hq hy => ?_⟩
 ·rw [List.getElem?_set] at hl
  split at hl
  ·rename_i hm
   cases hl
   rw [List.length_set]
   exact h.short i _ hr
  ·exact h.short m l hl
 ·rw [List.getElem?_set] at hl
  split at hl
  ·omega
  ·exact h.done m l hm hl y hy
 ·rw [List.getElem?_set, if_pos rfl, if_pos hL] at hl
  cases hl
  rw [List.getElem?_set] at hy
  split at hy
  ·rename_i hm
   cases hy; exact hx
  ·exact h.part _ hr q y (by omega) hy
end Go.Proofs.YtkcfdddhnboieaaGreatDoor.NPlain
end
section
set_option maxRecDepth 100000
namespace Go.Proofs.YtkcfdddhnboieaaGreatDoor.NPlain
open Go Go.RowKit QW.PrintWords QW.PrintLast QW.PrintMore NState
open PPropagate (cnf_values_of.f cnf_values_set.f cnf_values_unit.l0 cnf_values_unit.j1 cnf_values_unit.f)
def valS (S : List Int) (x : Int) : Int := if S.contains x then 1 else if S.contains (-x) then -1 else 0
def Cons (S : List Int) : Prop := ∀ x, S.contains x = true → S.contains (-x) = false
structure VOk (n : Nat) (v S : List Int) : Prop where
 len : v.length = n + 1
 val : ∀ i : Nat, 1 ≤ i → i ≤ n → rd v (i : Int) = valS S i
 cons : Cons S
 lits : ∀ x, S.contains x = true → LitOk n x
theorem valS_neg {S : List Int} (h : Cons S) (x : Int) : valS S (-x) = -valS S x := by
 unfold valS
 rw [Int.neg_neg]
 have h1 := h x
 have h2 := h (-x)
 rw [Int.neg_neg] at h2
 cases hx : S.contains x <;> cases hy : S.contains (-x)
 ·simp
 ·simp
 ·simp
 ·rw [h1 hx] at hy; cases hy
theorem valS_cases (S : List Int) (x : Int) : valS S x = 1 ∨ valS S x = -1 ∨ valS S x = 0 := by
 unfold valS; split
 ·exact .inl rfl
 split
 ·exact .inr (.inl rfl)
 ·exact .inr (.inr rfl)
theorem of_ok {n : Nat} {v S : List Int} (hn : n ≤ 100000) (h : VOk n v S) {x : Int} (hx : LitOk n x) : cnf_values_of.f v x = some (valS S x) := by
 obtain ⟨h0, h1, h2⟩ := hx
 unfold cnf_values_of.f
 by_cases hneg : x < 0
 ·have e : wrap64 (-x) = ((-x).toNat : Int) := by rw [wneg (by omega) (by omega)]; omega
  rw [if_pos hneg, e, if_pos (by omega), if_pos (by have := h.len; omega), h.val _ (by omega) (by omega)]
  have e2 : (((-x).toNat : Nat) : Int) = -x := by omega
  rw [e2, valS_neg h.cons]
  rcases valS_cases S x with e | e | e <;> rw [e] <;> rfl
 ·have e : x = (x.toNat : Int) := by omega
  rw [if_neg hneg, if_pos (by omega), if_pos (by have := h.len; omega), e, h.val _ (by omega) (by omega)]
theorem valS_pos {S : List Int} {x : Int} : valS S x > 0 ↔ S.contains x = true := by
 unfold valS
 cases S.contains x <;> cases S.contains (-x) <;> simp
theorem valS_lt {S : List Int} (h : Cons S) {x : Int} : valS S x < 0 ↔ S.contains (-x) = true := by
 unfold valS
 have := h x
 cases hx : S.contains x <;> cases hy : S.contains (-x)
 ·simp
 ·simp
 ·simp
 ·rw [this hx] at hy; cases hy
theorem set_ok {n : Nat} {v S : List Int} (hn : n ≤ 100000) (h : VOk n v S) {x : Int} (hx : LitOk n x) (hc : S.contains (-x) = false) : ∃ v', cnf_values_set.f v x = some v' ∧ VOk n v' (x :: S) := by
 have hlits : ∀ y, (x :: S).contains y = true → LitOk n y := fun y hy => by
  rw [List.contains_cons, Bool.or_eq_true] at hy
  rcases hy with hy | hy
  ·have : y = x := by simpa using hy
   rw [this]; exact hx
  ·exact h.lits y hy
 obtain ⟨h0, h1, h2⟩ := hx
 have hcons : Cons (x :: S) := by
  intro y hy
  rw [List.contains_cons, Bool.or_eq_true] at hy
  rw [List.contains_cons, Bool.or_eq_false_iff]
  rcases hy with hy | hy
  ·have : y = x := by simpa using hy
   subst this
   exact ⟨by simp; omega, hc⟩
  ·refine ⟨?_, h.cons y hy⟩
   simp only [beq_eq_false_iff_ne]
   intro e
   rw [← e, Int.neg_neg, hy] at hc; cases hc
 have hval : ∀ i : Nat, 1 ≤ i → (i : Int) ≠ x → (i : Int) ≠ -x → valS (x :: S) i = valS S i := by
  intro i hi e1 e2
  unfold valS
  rw [List.contains_cons, List.contains_cons]
  have e3 : ((i : Int) == x) = false := by simpa using e1
  have e4 : (-(i : Int) == x) = false := by simp; omega
  rw [e3, e4, Bool.false_or, Bool.false_or]
 have hx1 : valS (x :: S) x = 1 := by unfold valS; rw [if_pos (by simp)]
 have hx2 : valS (x :: S) (-x) = -1 := by rw [valS_neg hcons, hx1]
 unfold cnf_values_set.f
 have key : ∀ (m : Nat) (t : Int), 1 ≤ m → m ≤ n → ((m : Int) = x ∨ (m : Int) = -x) → valS (x :: S) m = t → VOk n (v.set m t) (x :: S) := by
  intro m t hm1 hm2 hm3 ht
  refine ⟨by simp [h.len], fun i hi1 hi2 => ?_, hcons, hlits⟩
  have hl := h.len
  by_cases e : i = m
  ·subst e
   rw [ht]
   have hlt : i < v.length := by omega
   simp [rd, List.getD, List.getElem?_set, hlt]
  ·have : rd (v.set m t) (i : Int) = rd v i := by
    simp only [rd, List.getD, Int.toNat_natCast]
    rw [List.getElem?_set_ne (fun h => e h.symm)]
   rw [this, h.val i hi1 hi2, hval i hi1 (by omega) (by omega)]
 by_cases hneg : x < 0
 ·have e : wrap64 (-x) = ((-x).toNat : Int) := by rw [wneg (by omega) (by omega)]; omega
  rw [if_pos hneg, e, if_pos (by omega), if_pos (by have := h.len; omega)]
  refine ⟨_, rfl, ?_⟩
  rw [Int.toNat_natCast]
  exact key _ _ (by omega) (by omega) (.inr (by omega)) (by rw [show (((-x).toNat : Nat) : Int) = -x by omega]; exact hx2)
 ·rw [if_neg hneg, if_pos (by omega), if_pos (by have := h.len; omega)]
  refine ⟨_, rfl, ?_⟩
  exact key _ _ (by omega) (by omega) (.inl (by omega)) (by rw [show ((x.toNat : Nat) : Int) = x by omega]; exact hx1)
def unitS (S : List Int) : Int → List Int → Int × Bool
 | only, [] => (only, only == 0)
 | only, x :: xs => if S.contains x then (0, false) else if S.contains (-x) || x == only then unitS S only xs else if only = 0 then unitS S x xs else (0, false)
theorem unit_ev0 {n : Nat} {v S : List Int} (hn : n ≤ 100000) (h : VOk n v S) (l : List Int) (hlen : l.length ≤ 1000000000) (hl : ∀ x ∈ l, LitOk n x) : ∀ i : Nat, i ≤ l.length → ∀ only : Int, Ev (fun k => cnf_values_unit.l0 k v only l (l.length : Int) (i : Int)) (unitS S only (l.drop i)) := by
 refine down ?_ ?_
 ·intro only
  refine Ev.succ ?_
  simp only [cnf_values_unit.l0]
  rw [List.drop_length]
  exact Ev.neg (by omega) (Ev.pure _)
 ·intro i hi ih only
  have hx : LitOk n (rd l i) := by
   have e : rd l i = l[i] := by simp [rd, List.getD, hi]
   rw [e]; exact hl _ (List.getElem_mem _)
  refine Ev.succ ?_
  simp only [cnf_values_unit.l0]
  refine Ev.pos (by omega) (Ev.pos (by omega) (Ev.pos (by omega) ?_))
  rw [of_ok hn h hx, drop_rd hi, unitS]
  simp only [Option.bind_some]
  by_cases h1 : S.contains (rd l i) = true
  ·rw [if_pos h1]
   exact Ev.pos (valS_pos.2 h1) (Ev.pure _)
  rw [if_neg h1]
  refine Ev.neg (fun hh => h1 (valS_pos.1 hh)) ?_
  have hj : ∀ b : Bool, b = (S.contains (-(rd l i)) || rd l i == only) → Ev (fun k => cnf_values_unit.j1 k v only (rd l i) l (l.length : Int) (i : Int) b) (if (S.contains (-(rd l i)) || rd l i == only) = true then unitS S only (l.drop (i + 1)) else if only = 0 then unitS S (rd l i) (l.drop (i + 1)) else (0, false)) := by
   intro b hb
   refine Ev.succ ?_
   simp only [cnf_values_unit.j1]
   rw [← hb, wrap_succ hi (by omega)]
   cases b with
   | true => rw [if_pos rfl]; exact Ev.pos rfl (ih only)
   | false =>
    rw [if_neg (by simp)]
    refine Ev.neg (by simp) ?_
    by_cases h2 : only = 0
    ·rw [if_pos h2]; exact Ev.pos h2 (ih _)
    ·rw [if_neg h2]; exact Ev.neg h2 (Ev.pure _)
  by_cases h2 : S.contains (-(rd l i)) = true
  ·exact Ev.pos ((valS_lt h.cons).2 h2) (hj _ (by rw [h2]; rfl))
  ·refine Ev.neg (fun hh => h2 ((valS_lt h.cons).1 hh)) (hj _ ?_)
   rw [Bool.not_eq_true] at h2
   rw [h2, Bool.false_or]
theorem unit_ev {n : Nat} {v S : List Int} (hn : n ≤ 100000) (h : VOk n v S) (l : List Int) (hlen : l.length ≤ 1000000000) (hl : ∀ x ∈ l, LitOk n x) : Ev (fun k => cnf_values_unit.f k v l) (unitS S 0 l) := unit_ev0 hn h l hlen hl 0 (Nat.zero_le _) 0
inductive UnitIs (S l : List Int) : Int × Bool → Prop
 | conf : allF S l → UnitIs S l (0, true)
 | unit (x : Int) : unitL S l x → S.contains x = false → x ≠ 0 → UnitIs S l (x, false)
 | none : ¬ allF S l → (∀ x, unitL S l x → S.contains x = true) → UnitIs S l (0, false)
theorem unitS_is0 {n : Nat} (hn : n ≤ 100000) {S : List Int} (hc : Cons S) (L : List Int) (hL : ∀ x ∈ L, LitOk n x) : ∀ (l pre : List Int) (only : Int), L = pre ++ l → (∀ y ∈ pre, (y = only ∧ only ≠ 0) ∨ S.contains (-y) = true) → (only ≠ 0 → only ∈ pre ∧ S.contains only = false ∧ S.contains (-only) = false) → UnitIs S L (unitS S only l)
 | [], pre, only, hp, hpre, ho => by
  have hw : ∀ y ∈ L, wrap64 (-y) = -y := fun y hy => by obtain ⟨_, h1, h2⟩ := hL y hy; exact wneg (by omega) (by omega)
  rw [List.append_nil] at hp
  subst hp
  rw [unitS]
  by_cases h0 : only = 0
  ·subst h0
   refine .conf fun y hy => ?_
   rw [hw y hy]
   rcases hpre y hy with ⟨_, h⟩ | h
   ·exact absurd rfl h
   ·exact h
  ·have hb : (only == 0) = false := by simpa using h0
   rw [hb]
   obtain ⟨h1, h2, h3⟩ := ho h0
   refine .unit only ⟨h1, by rw [hw only h1]; exact h3, fun y hy => ?_⟩ h2 h0
   rw [hw y hy]
   rcases hpre y hy with ⟨h, _⟩ | h
   ·exact .inl h
   ·exact .inr h
 | x :: xs, pre, only, hp, hpre, ho => by
  have hw : ∀ y ∈ L, wrap64 (-y) = -y := fun y hy => by obtain ⟨_, h1, h2⟩ := hL y hy; exact wneg (by omega) (by omega)
  have hxL : x ∈ L := by rw [hp]; simp
  have hp' : L = (pre ++ [x]) ++ xs := by rw [hp]; simp
  rw [unitS]
  by_cases h1 : S.contains x = true
  ·rw [if_pos h1]
   refine .none (fun h => ?_) (fun y hy => ?_)
   ·have := h x hxL
    rw [hw x hxL, hc x h1] at this; cases this
   ·rcases hy.2.2 x hxL with h | h
    ·rw [← h]; exact h1
    ·rw [hw x hxL, hc x h1] at h; cases h
  rw [if_neg h1]
  rw [Bool.not_eq_true] at h1
  by_cases h2 : (S.contains (-x) || x == only) = true
  ·rw [if_pos h2]
   refine unitS_is0 hn hc L hL xs (pre ++ [x]) only hp' (fun y hy => ?_) (fun h => ⟨List.mem_append_left _ (ho h).1, (ho h).2⟩)
   rcases List.mem_append.1 hy with hy | hy
   ·exact hpre y hy
   ·simp at hy; subst hy
    rw [Bool.or_eq_true] at h2
    rcases h2 with h | h
    ·exact .inr h
    ·have e : y = only := by simpa using h
     exact .inl ⟨e, by rw [← e]; exact (hL y hxL).1⟩
  rw [if_neg h2]
  rw [Bool.not_eq_true, Bool.or_eq_false_iff] at h2
  by_cases h3 : only = 0
  ·rw [if_pos h3]
   refine unitS_is0 hn hc L hL xs (pre ++ [x]) x hp' (fun y hy => ?_) (fun _ => ⟨by simp, h1, h2.1⟩)
   rcases List.mem_append.1 hy with hy | hy
   ·rcases hpre y hy with ⟨_, h⟩ | h
    ·exact absurd h3 h
    ·exact .inr h
   ·simp at hy; subst hy; exact .inl ⟨rfl, (hL y hxL).1⟩
  ·rw [if_neg h3]
   obtain ⟨o1, o2, o3⟩ := ho h3
   have hoL : only ∈ L := by rw [hp]; exact List.mem_append_left _ o1
   refine .none (fun h => ?_) (fun y hy => ?_)
   ·have := h x hxL
    rw [hw x hxL, h2.1] at this; cases this
   ·rcases hy.2.2 x hxL with h | h
    ·rcases hy.2.2 only hoL with h' | h'
     ·rw [← h'] at h
      have := h2.2
      rw [h] at this; simp at this
     ·rw [hw only hoL, o3] at h'; cases h'
    ·rw [hw x hxL, h2.1] at h; cases h
theorem unitS_is {n : Nat} (hn : n ≤ 100000) {S : List Int} (hc : Cons S) (l : List Int) (hl : ∀ x ∈ l, LitOk n x) : UnitIs S l (unitS S 0 l) := unitS_is0 hn hc l hl l [] 0 rfl (fun _ h => by cases h) (fun h => absurd rfl h)
theorem VOk.start (n : Nat) : VOk n (List.replicate (n + 1) 0) [] := by
 refine ⟨by simp, fun i hi1 hi2 => ?_, fun x h => by simp at h, fun x h => by simp at h⟩
 have : i < n + 1 := by omega
 simp [rd, List.getD, valS, List.getElem?_replicate, this]
structure Mod (n : Nat) (cls : List (List Int)) (M : List Int) : Prop where
 cons : Cons M
 tot : ∀ i : Nat, 1 ≤ i → i ≤ n → M.contains (i : Int) = true ∨ M.contains (-(i : Int)) = true
 all : ∀ l ∈ cls, ∃ x ∈ l, M.contains x = true
theorem Mod.lit {n : Nat} {cls : List (List Int)} {M : List Int} (h : Mod n cls M) {x : Int} (hx : LitOk n x) : M.contains x = true ∨ M.contains (-x) = true := by
 obtain ⟨h0, h1, h2⟩ := hx
 by_cases hn : x < 0
 ·obtain ⟨i, hi⟩ := Int.eq_ofNat_of_zero_le (show 0 ≤ -x by omega)
  have := h.tot i (by omega) (by omega)
  rw [← hi, Int.neg_neg] at this
  exact this.symm
 ·obtain ⟨i, hi⟩ := Int.eq_ofNat_of_zero_le (show 0 ≤ x by omega)
  have := h.tot i (by omega) (by omega)
  rw [← hi] at this
  exact this
theorem mod_conf {n : Nat} (hn : n ≤ 100000) {cls : List (List Int)} {S M l : List Int} (h : Mod n cls M) (hs : Sub S M) (hl : l ∈ cls) (hlo : ∀ x ∈ l, LitOk n x) : ¬ allF S l := by
 intro hf
 obtain ⟨x, hx, hm⟩ := h.all l hl
 have h1 := hs _ (hf x hx)
 have hxo := hlo x hx
 rw [wneg (by have := hxo.2.1; omega) (by have := hxo.2.2; omega)] at h1
 rw [h.cons x hm] at h1; cases h1
theorem mod_unit {n : Nat} (hn : n ≤ 100000) {cls : List (List Int)} {S M l : List Int} {x : Int} (h : Mod n cls M) (hs : Sub S M) (hl : l ∈ cls) (hlo : ∀ x ∈ l, LitOk n x) (hu : unitL S l x) : M.contains x = true := by
 obtain ⟨y, hy, hm⟩ := h.all l hl
 rcases hu.2.2 y hy with e | e
 ·rw [← e]; exact hm
 ·have h1 := hs _ e
  have hyo := hlo y hy
  rw [wneg (by have := hyo.2.1; omega) (by have := hyo.2.2; omega)] at h1
  rw [h.cons y hm] at h1; cases h1
def fillM (S : List Int) : Nat → List Int
 | 0 => S
 | n + 1 => if (fillM S n).contains (-((n + 1 : Nat) : Int)) then fillM S n else ((n + 1 : Nat) : Int) :: fillM S n
theorem fillM_is {S : List Int} (hc : Cons S) : ∀ n, Cons (fillM S n) ∧ Sub S (fillM S n) ∧ ∀ i : Nat, 1 ≤ i → i ≤ n → (fillM S n).contains (i : Int) = true ∨ (fillM S n).contains (-(i : Int)) = true
 | 0 => ⟨hc, fun _ h => h, fun i h1 h2 => by omega⟩
 | n + 1 => by
  obtain ⟨h1, h2, h3⟩ := fillM_is hc n
  rw [fillM]
  by_cases h : (fillM S n).contains (-((n + 1 : Nat) : Int)) = true
  ·rw [if_pos h]
   refine ⟨h1, h2, fun i hi1 hi2 => ?_⟩
   by_cases e : i = n + 1
   ·subst e; exact .inr h
   ·exact h3 i hi1 (by omega)
  ·rw [if_neg h]
   refine ⟨?_, fun y hy => by rw [List.contains_cons, h2 y hy]; simp, fun i hi1 hi2 => ?_⟩
   ·intro y hy
    rw [List.contains_cons, Bool.or_eq_true] at hy
    rw [List.contains_cons, Bool.or_eq_false_iff]
    rcases hy with e | e
    ·have e' : y = ((n + 1 : Nat) : Int) := by simpa using e
     subst e'
     exact ⟨by simp; omega, by simpa using h⟩
    ·refine ⟨?_, h1 y e⟩
     cases hb : (-y == ((n + 1 : Nat) : Int)) with
     | false => rfl
     | true =>
      have e' : -y = ((n + 1 : Nat) : Int) := by simpa using hb
      have : y = -((n + 1 : Nat) : Int) := by omega
      rw [this] at e; exact absurd e h
   ·by_cases e : i = n + 1
    ·subst e; left; rw [List.contains_cons]; simp
    ·rcases h3 i hi1 (by omega) with q | q
     ·left; rw [List.contains_cons, q]; simp
     ·right; rw [List.contains_cons, q]; simp
theorem mod_of {n : Nat} {cls : List (List Int)} {S : List Int} (hc : Cons S) (hall : ∀ l ∈ cls, ∃ x ∈ l, S.contains x = true) : ∃ M, Mod n cls M ∧ Sub S M := by
 obtain ⟨h1, h2, h3⟩ := fillM_is hc n
 exact ⟨fillM S n, ⟨h1, h3, fun l hl => by obtain ⟨x, hx, hs⟩ := hall l hl; exact ⟨x, hx, h2 x hs⟩⟩, h2⟩
def und (S : List Int) (n : Nat) : Nat := ((List.range n).filter fun i => valS S ((i + 1 : Nat) : Int) == 0).length
theorem filter_len_le {α : Type} {p q : α → Bool} : ∀ l : List α, (∀ x ∈ l, p x = true → q x = true) → (l.filter p).length ≤ (l.filter q).length
 | [], _ => by simp
 | x :: l, h => by
  have ih := filter_len_le l (fun y hy => h y (List.mem_cons_of_mem _ hy))
  have hx := h x (by simp)
  simp only [List.filter_cons]
  cases hp : p x with
  | true => rw [hx hp]; simp; exact ih
  | false => cases q x <;> simp <;> omega
theorem filter_len_lt {α : Type} {p q : α → Bool} : ∀ l : List α, (∀ x ∈ l, p x = true → q x = true) → (∃ x ∈ l, p x = false ∧ q x = true) → (l.filter p).length < (l.filter q).length
 | [], _, ⟨x, h, _⟩ => by cases h
 | x :: l, h, ⟨y, hy, h1, h2⟩ => by
  have hle := filter_len_le l (fun z hz => h z (List.mem_cons_of_mem _ hz))
  have hx := h x (by simp)
  simp only [List.filter_cons]
  rcases List.mem_cons.1 hy with e | e
  ·subst e; rw [h1, h2]; simp; omega
  ·have ih := filter_len_lt l (fun z hz => h z (List.mem_cons_of_mem _ hz)) ⟨y, e, h1, h2⟩
   cases hp : p x with
   | true => rw [hx hp]; simp; exact ih
   | false => cases q x <;> simp <;> omega
theorem valS_zero {S : List Int} {x : Int} : valS S x = 0 ↔ S.contains x = false ∧ S.contains (-x) = false := by
 unfold valS
 cases S.contains x <;> cases S.contains (-x) <;> simp
theorem und_mono {S T : List Int} (h : Sub S T) (n : Nat) : und T n ≤ und S n := by
 unfold und
 refine filter_len_le _ (fun i _ hi => ?_)
 rw [beq_iff_eq, valS_zero] at hi ⊢
 constructor
 ·cases hc : S.contains ((i + 1 : Nat) : Int) with
  | false => rfl
  | true => rw [h _ hc] at hi; cases hi.1
 ·cases hc : S.contains (-((i + 1 : Nat) : Int)) with
  | false => rfl
  | true => rw [h _ hc] at hi; cases hi.2
theorem und_lt {S : List Int} {n : Nat} {x : Int} (hx : LitOk n x) (h : valS S x = 0) : und (x :: S) n < und S n := by
 unfold und
 refine filter_len_lt _ (fun i _ hi => ?_) ?_
 ·rw [beq_iff_eq, valS_zero] at hi ⊢
  rw [List.contains_cons, List.contains_cons, Bool.or_eq_false_iff, Bool.or_eq_false_iff] at hi
  exact ⟨hi.1.2, hi.2.2⟩
 ·obtain ⟨h0, h1, h2⟩ := hx
  have hz := valS_zero.1 h
  by_cases hn : x < 0
  ·obtain ⟨i, hi⟩ := Int.eq_ofNat_of_zero_le (show 0 ≤ -x - 1 by omega)
   refine ⟨i, List.mem_range.2 (by omega), ?_, ?_⟩
   ·have e : -((i + 1 : Nat) : Int) = x := by omega
    have : ¬ valS (x :: S) ((i + 1 : Nat) : Int) = 0 := fun hh => by
     have := (valS_zero.1 hh).2
     rw [e, List.contains_cons] at this; simp at this
    simpa using this
   ·have e : ((i + 1 : Nat) : Int) = -x := by omega
    rw [beq_iff_eq, e, valS_zero, Int.neg_neg]
    exact ⟨hz.2, hz.1⟩
  ·obtain ⟨i, hi⟩ := Int.eq_ofNat_of_zero_le (show 0 ≤ x - 1 by omega)
   have e : ((i + 1 : Nat) : Int) = x := by omega
   refine ⟨i, List.mem_range.2 (by omega), ?_, ?_⟩
   ·have : ¬ valS (x :: S) ((i + 1 : Nat) : Int) = 0 := fun hh => by
     have := (valS_zero.1 hh).1
     rw [e, List.contains_cons] at this; simp at this
    simpa using this
   ·rw [beq_iff_eq, e]; exact h
def litsOf (f : Nat → Bool) (n : Nat) : List Int := (List.range n).map fun i => if f i then ((i + 1 : Nat) : Int) else -((i + 1 : Nat) : Int)
theorem litsOf_pos {f : Nat → Bool} {n i : Nat} (hi : i < n) : (litsOf f n).contains ((i + 1 : Nat) : Int) = f i := by
 rw [Bool.eq_iff_iff, List.contains_iff_mem, litsOf, List.mem_map]
 constructor
 ·rintro ⟨j, _, h⟩
  cases hf : f j with
  | true =>
   rw [hf, if_pos rfl] at h
   have : j = i := by omega
   rw [← this, hf]
  | false => rw [hf, if_neg (by simp)] at h; omega
 ·intro h; exact ⟨i, List.mem_range.2 hi, by rw [h, if_pos rfl]⟩
theorem litsOf_neg {f : Nat → Bool} {n i : Nat} (hi : i < n) : (litsOf f n).contains (-((i + 1 : Nat) : Int)) = !f i := by
 rw [Bool.eq_iff_iff, List.contains_iff_mem, litsOf, List.mem_map]
 constructor
 ·rintro ⟨j, _, h⟩
  cases hf : f j with
  | true => rw [hf, if_pos rfl] at h; omega
  | false =>
   rw [hf, if_neg (by simp)] at h
   have : j = i := by omega
   rw [← this, hf]; rfl
 ·intro h; have h' : f i = false := by simpa using h
  exact ⟨i, List.mem_range.2 hi, by rw [h', if_neg (by simp)]⟩
theorem litsOf_ok {f : Nat → Bool} {n : Nat} {x : Int} (h : (litsOf f n).contains x = true) : LitOk n x := by
 rw [List.contains_iff_mem, litsOf, List.mem_map] at h
 obtain ⟨j, hj, h⟩ := h
 have := List.mem_range.1 hj
 unfold LitOk
 cases hf : f j <;> simp [hf] at h <;> omega
theorem litsOf_lit {f : Nat → Bool} {n : Nat} {x : Int} (hx : LitOk n x) : (litsOf f n).contains (-x) = !(litsOf f n).contains x := by
 obtain ⟨h0, h1, h2⟩ := hx
 by_cases hn : x < 0
 ·obtain ⟨i, hi⟩ := Int.eq_ofNat_of_zero_le (show 0 ≤ -x - 1 by omega)
  have e : x = -((i + 1 : Nat) : Int) := by omega
  rw [e, Int.neg_neg, litsOf_pos (by omega), litsOf_neg (by omega), Bool.not_not]
 ·obtain ⟨i, hi⟩ := Int.eq_ofNat_of_zero_le (show 0 ≤ x - 1 by omega)
  have e : x = ((i + 1 : Nat) : Int) := by omega
  rw [e, litsOf_pos (by omega), litsOf_neg (by omega)]
theorem litsOf_cons (f : Nat → Bool) (n : Nat) : Cons (litsOf f n) := fun x hx => by rw [litsOf_lit (litsOf_ok hx), hx]; rfl
def satB (cls : List (List Int)) (M : List Int) : Bool := cls.all fun l => l.any fun x => M.contains x
theorem satB_iff {cls : List (List Int)} {M : List Int} : satB cls M = true ↔ ∀ l ∈ cls, ∃ x ∈ l, M.contains x = true := by
 simp only [satB, List.all_eq_true, List.any_eq_true]
theorem litsOf_mod {cls : List (List Int)} {f : Nat → Bool} {n : Nat} (h : satB cls (litsOf f n) = true) : Mod n cls (litsOf f n) := by
 refine ⟨litsOf_cons f n, fun i h1 h2 => ?_, satB_iff.1 h⟩
 obtain ⟨j, rfl⟩ : ∃ j, i = j + 1 := ⟨i - 1, by omega⟩
 rw [litsOf_pos (by omega), litsOf_neg (by omega)]
 cases f j <;> simp
def subB (S M : List Int) : Bool := S.all fun y => M.contains y
theorem subB_iff {S M : List Int} : subB S M = true ↔ Sub S M := by
 unfold subB Sub
 rw [List.all_eq_true]
 exact ⟨fun h y hy => h y (List.contains_iff_mem.1 hy), fun h y hy => h y (List.contains_iff_mem.2 hy)⟩
def cntS (n : Nat) (cls : List (List Int)) (S : List Int) : Nat := (List.range (2 ^ n)).countP fun x => satB cls (litsOf x.testBit n) && subB S (litsOf x.testBit n)
theorem countP_congr' {α : Type} {p q : α → Bool} : ∀ l : List α, (∀ x ∈ l, p x = q x) → l.countP p = l.countP q
 | [], _ => rfl
 | x :: l, h => by
  rw [List.countP_cons, List.countP_cons, countP_congr' l (fun y hy => h y (List.mem_cons_of_mem _ hy)), h x (by simp)]
theorem countP_none {α : Type} {p : α → Bool} : ∀ l : List α, (∀ x ∈ l, p x = false) → l.countP p = 0
 | [], _ => rfl
 | x :: l, h => by rw [List.countP_cons, countP_none l (fun y hy => h y (List.mem_cons_of_mem _ hy)), h x (by simp)]; rfl
theorem countP_parts {α : Type} {p q r : α → Bool} : ∀ l : List α, (∀ x ∈ l, p x = (q x || r x) ∧ (q x && r x) = false) → l.countP p = l.countP q + l.countP r
 | [], _ => rfl
 | x :: l, h => by
  obtain ⟨h1, h2⟩ := h x (by simp)
  rw [List.countP_cons, List.countP_cons, List.countP_cons, countP_parts l (fun y hy => h y (List.mem_cons_of_mem _ hy)), h1]
  cases hq : q x <;> cases hr : r x <;> simp [hq, hr] at h2 ⊢ <;> omega
theorem cnt_none {n : Nat} {cls : List (List Int)} {S : List Int} (h : ∀ M, Mod n cls M → ¬ Sub S M) : cntS n cls S = 0 := by
 refine countP_none _ (fun x _ => ?_)
 cases hs : satB cls (litsOf x.testBit n) with
 | false => rfl
 | true =>
  cases hb : subB S (litsOf x.testBit n) with
  | false => rfl
  | true => exact absurd (subB_iff.1 hb) (h _ (litsOf_mod hs))
theorem cnt_split {n : Nat} {cls : List (List Int)} {S S' : List Int} {x : Int} (hsub : Sub S S') (hmod : ∀ M, Mod n cls M → Sub S M → Sub S' M) (hx : LitOk n x) : cntS n cls S = cntS n cls (x :: S') + cntS n cls ((-x) :: S') := by
 refine countP_parts _ (fun i _ => ?_)
 have hl := litsOf_lit (f := i.testBit) hx
 have hm : satB cls (litsOf i.testBit n) = true → Mod n cls (litsOf i.testBit n) := litsOf_mod
 generalize litsOf i.testBit n = M at hl hm
 have e1 : ∀ y : Int, subB (y :: S') M = (M.contains y && subB S' M) := fun y => rfl
 rw [e1, e1, hl]
 cases hs : satB cls M with
 | false => simp
 | true =>
  have e2 : subB S M = subB S' M := by
   rw [Bool.eq_iff_iff, subB_iff, subB_iff]
   exact ⟨hmod M (hm hs), fun h y hy => h y (hsub y hy)⟩
  rw [e2]
  cases M.contains x <;> cases subB S' M <;> simp
def agrB (S : List Int) (n x : Nat) : Bool := (List.range n).all fun i => (!S.contains ((i + 1 : Nat) : Int) || x.testBit i) && (!S.contains (-((i + 1 : Nat) : Int)) || !x.testBit i)
theorem agr_count {S : List Int} (hc : Cons S) : ∀ n : Nat, (List.range (2 ^ n)).countP (agrB S n) = 2 ^ und S n
 | 0 => by simp [agrB, und]
 | n + 1 => by
  have ih := agr_count hc n
  have hr : List.range (2 ^ (n + 1)) = List.range (2 ^ n) ++ (List.range (2 ^ n)).map (2 ^ n + ·) := by
   rw [Nat.pow_succ, Nat.mul_two, List.range_add]
  have h1 : (List.range (2 ^ n)).countP (agrB S (n + 1)) = if S.contains ((n + 1 : Nat) : Int) then 0 else (List.range (2 ^ n)).countP (agrB S n) := by
   by_cases h : S.contains ((n + 1 : Nat) : Int) = true
   ·rw [if_pos h]
    refine countP_none _ (fun x hx => ?_)
    have hx := Nat.testBit_lt_two_pow (List.mem_range.1 hx)
    unfold agrB
    rw [List.range_succ, List.all_append]
    simp only [List.all_cons, List.all_nil, hx, h]
    simp
   ·rw [if_neg h]
    refine countP_congr' _ (fun x hx => ?_)
    have hx := Nat.testBit_lt_two_pow (List.mem_range.1 hx)
    rw [Bool.not_eq_true] at h
    unfold agrB
    rw [List.range_succ, List.all_append]
    simp only [List.all_cons, List.all_nil, hx, h]
    simp
  have h2 : ((List.range (2 ^ n)).map (2 ^ n + ·)).countP (agrB S (n + 1)) = if S.contains (-((n + 1 : Nat) : Int)) then 0 else (List.range (2 ^ n)).countP (agrB S n) := by
   rw [List.countP_map]
   have hb : ∀ x ∈ List.range (2 ^ n), (2 ^ n + x).testBit n = true ∧ ∀ i < n, (2 ^ n + x).testBit i = x.testBit i := fun x hx => by
    rw [Nat.testBit_two_pow_add_eq, Nat.testBit_lt_two_pow (List.mem_range.1 hx)]
    exact ⟨rfl, fun i hi => Nat.testBit_two_pow_add_gt hi x⟩
   by_cases h : S.contains (-((n + 1 : Nat) : Int)) = true
   ·rw [if_pos h]
    refine countP_none _ (fun x hx => ?_)
    show agrB S (n + 1) (2 ^ n + x) = false
    unfold agrB
    rw [List.range_succ, List.all_append]
    simp only [List.all_cons, List.all_nil, (hb x hx).1, h]
    simp
   ·rw [if_neg h]
    refine countP_congr' _ (fun x hx => ?_)
    show agrB S (n + 1) (2 ^ n + x) = _
    rw [Bool.not_eq_true] at h
    unfold agrB
    rw [List.range_succ, List.all_append]
    simp only [List.all_cons, List.all_nil, (hb x hx).1, h]
    simp only [Bool.not_false, Bool.and_true, Bool.or_true, Bool.not_true, Bool.or_false]
    rw [Bool.eq_iff_iff, List.all_eq_true, List.all_eq_true]
    constructor
    ·intro hh i hi; have := hh i hi; rwa [(hb x hx).2 i (List.mem_range.1 hi)] at this
    ·intro hh i hi; rw [(hb x hx).2 i (List.mem_range.1 hi)]; exact hh i hi
  have hu : und S (n + 1) = und S n + if valS S ((n + 1 : Nat) : Int) == 0 then 1 else 0 := by
   unfold und
   rw [List.range_succ, List.filter_append, List.length_append]
   congr 1
   rw [List.filter_cons]
   split <;> simp
  rw [hr, List.countP_append, h1, h2, hu, ih]
  have hcc := hc ((n + 1 : Nat) : Int)
  unfold valS
  cases ha : S.contains ((n + 1 : Nat) : Int) <;> cases hb : S.contains (-((n + 1 : Nat) : Int))
  ·simp [Nat.pow_succ]; omega
  ·simp
  ·simp
  ·rw [hcc ha] at hb; cases hb
theorem cnt_full {n : Nat} {cls : List (List Int)} {S S' : List Int} (hc : Cons S') (hl : ∀ x, S'.contains x = true → LitOk n x) (hsub : Sub S S') (hmod : ∀ M, Mod n cls M → Sub S M → Sub S' M) (hall : ∀ l ∈ cls, ∃ x ∈ l, S'.contains x = true) : cntS n cls S = 2 ^ und S' n := by
 rw [← agr_count hc n]
 refine countP_congr' _ (fun i _ => ?_)
 have hag : agrB S' n i = subB S' (litsOf i.testBit n) := by
  rw [Bool.eq_iff_iff, subB_iff]
  unfold agrB
  rw [List.all_eq_true]
  constructor
  ·intro h y hy
   obtain ⟨h0, h1, h2⟩ := hl y hy
   by_cases hn : y < 0
   ·obtain ⟨j, hj⟩ := Int.eq_ofNat_of_zero_le (show 0 ≤ -y - 1 by omega)
    have e : y = -((j + 1 : Nat) : Int) := by omega
    have := h j (List.mem_range.2 (by omega))
    rw [e] at hy ⊢
    rw [hy, Bool.and_eq_true] at this
    rw [litsOf_neg (by omega)]; simpa using this.2
   ·obtain ⟨j, hj⟩ := Int.eq_ofNat_of_zero_le (show 0 ≤ y - 1 by omega)
    have e : y = ((j + 1 : Nat) : Int) := by omega
    have := h j (List.mem_range.2 (by omega))
    rw [e] at hy ⊢
    rw [hy, Bool.and_eq_true] at this
    rw [litsOf_pos (by omega)]; simpa using this.1
  ·intro h j hj
   have hj := List.mem_range.1 hj
   have p1 := h ((j + 1 : Nat) : Int)
   have p2 := h (-((j + 1 : Nat) : Int))
   rw [litsOf_pos hj] at p1
   rw [litsOf_neg hj] at p2
   cases ha : S'.contains ((j + 1 : Nat) : Int) <;> cases hb : S'.contains (-((j + 1 : Nat) : Int)) <;> simp_all
 rw [hag]
 have hm : satB cls (litsOf i.testBit n) = true → Mod n cls (litsOf i.testBit n) := litsOf_mod
 generalize litsOf i.testBit n = M at hm
 cases hb : subB S' M with
 | true =>
  have hs := subB_iff.1 hb
  rw [satB_iff.2 (fun l hlm => by obtain ⟨x, hx, hh⟩ := hall l hlm; exact ⟨x, hx, hs x hh⟩), subB_iff.2 (fun y hy => hs y (hsub y hy))]; rfl
 | false =>
  cases hs : satB cls M with
  | false => rfl
  | true =>
   cases hb2 : subB S M with
   | false => rfl
   | true => rw [subB_iff.2 (hmod M (hm hs) (subB_iff.1 hb2))] at hb; cases hb
structure CountIs (n : Nat) (cls : List (List Int)) (S : List Int) (c : Nat) : Prop where
 zero : c = 0 ↔ ¬ ∃ M, Mod n cls M ∧ Sub S M
 le : c ≤ 2 ^ und S n
 exact : c = cntS n cls S
theorem count_split {n : Nat} {cls : List (List Int)} {S S' : List Int} {x : Int} {a b : Nat} (hsub : Sub S S') (hmod : ∀ M, Mod n cls M → Sub S M → Sub S' M) (hx : LitOk n x) (hv : valS S' x = 0) (ha : CountIs n cls (x :: S') a) (hb : CountIs n cls ((-x) :: S') b) : CountIs n cls S (a + b) := by
 have hx' : LitOk n (-x) := ⟨by have := hx.1; omega, by have := hx.2.2; omega, by have := hx.2.1; omega⟩
 have hv' : valS S' (-x) = 0 := by rw [valS_zero] at hv ⊢; rw [Int.neg_neg]; exact ⟨hv.2, hv.1⟩
 refine ⟨?_, ?_, by rw [cnt_split hsub hmod hx, ha.exact, hb.exact]⟩
 ·have e : a + b = 0 ↔ a = 0 ∧ b = 0 := by omega
  rw [e, ha.zero, hb.zero]
  constructor
  ·rintro ⟨h1, h2⟩ ⟨M, hM, hs⟩
   have hs' := hmod M hM hs
   rcases hM.lit hx with q | q
   ·exact h1 ⟨M, hM, hs'.cons q⟩
   ·exact h2 ⟨M, hM, hs'.cons q⟩
  ·intro h
   exact ⟨fun ⟨M, hM, hs⟩ => h ⟨M, hM, fun y hy => hs.tail y (hsub y hy)⟩, fun ⟨M, hM, hs⟩ => h ⟨M, hM, fun y hy => hs.tail y (hsub y hy)⟩⟩
 ·have h1 := und_lt hx hv
  have h2 := und_lt hx' hv'
  have h3 := und_mono hsub n
  have h4 : 2 ^ und (x :: S') n ≤ 2 ^ (und S n - 1) := Nat.pow_le_pow_right (by decide) (by omega)
  have h5 : 2 ^ und ((-x) :: S') n ≤ 2 ^ (und S n - 1) := Nat.pow_le_pow_right (by decide) (by omega)
  have h6 : 2 ^ und S n = 2 ^ (und S n - 1) + 2 ^ (und S n - 1) := by
   obtain ⟨m, hm⟩ : ∃ m, und S n = m + 1 := ⟨und S n - 1, by omega⟩
   rw [hm, Nat.pow_succ, Nat.add_sub_cancel]; omega
  have := ha.le
  have := hb.le
  omega
theorem count_full {n : Nat} {cls : List (List Int)} {S S' : List Int} (hc : Cons S') (hl : ∀ x, S'.contains x = true → LitOk n x) (hmod : ∀ M, Mod n cls M → Sub S M → Sub S' M) (hsub : Sub S S') (hall : ∀ l ∈ cls, ∃ x ∈ l, S'.contains x = true) : CountIs n cls S (2 ^ und S' n) := by
 refine ⟨?_, Nat.pow_le_pow_right (by decide) (und_mono hsub n), (cnt_full hc hl hsub hmod hall).symm⟩
 have h0 : 0 < 2 ^ und S' n := Nat.pow_pos (by decide)
 constructor
 ·intro h; omega
 ·intro h
  obtain ⟨M, hM, hs⟩ := mod_of (n := n) hc hall
  exact absurd ⟨M, hM, fun y hy => hs y (hsub y hy)⟩ h
theorem count_none {n : Nat} {cls : List (List Int)} {S : List Int} (h : ∀ M, Mod n cls M → ¬ Sub S M) : CountIs n cls S 0 :=
 ⟨⟨fun _ ⟨M, hM, hs⟩ => h M hM hs, fun _ => rfl⟩, Nat.zero_le _, (cnt_none h).symm⟩
end Go.Proofs.YtkcfdddhnboieaaGreatDoor.NPlain
end
section
set_option maxRecDepth 100000
namespace Go.Proofs.YtkcfdddhnboieaaGreatDoor.NPlain
open Go Go.RowKit QW.PrintWords QW.PrintLast QW.PrintMore NState
open PPropagate (cnf_values_of.f cnf_values_set.f cnf_values_unit.l0 cnf_values_unit.j1 cnf_values_unit.f cnf_values_propagate.l0 cnf_values_propagate.l1 cnf_values_propagate.f)
def PropR (n : Nat) (cls : List (List Int)) (S : List Int) (r : Bool × List Int) : Prop :=
 (r.1 = true → ∃ T, Sub S T ∧ VOk n r.2 T ∧ Good cls T ∧ ∀ U, Good cls U → Sub S U → Sub T U) ∧ (r.1 = false → ¬ ∃ T, Sub S T ∧ Good cls T)
theorem sweep_ev {n : Nat} (hn : n ≤ 100000) (cls : List (List Int)) (hcl : cls.length ≤ 1000000000) (hl : ∀ l ∈ cls, l.length ≤ 1000000000 ∧ ∀ x ∈ l, LitOk n x) (m : Nat)
  (IH : ∀ (v S : List Int), VOk n v S → free S cls.flatten < m → ∃ r, Ev (fun k => cnf_values_propagate.l0 k v cls true) r ∧ PropR n cls S r) :
  ∀ i : Nat, i ≤ cls.length → ∀ (v S : List Int) (c : Bool), VOk n v S → free S cls.flatten ≤ m → (c = true → free S cls.flatten < m) → (c = false → ∀ l ∈ cls.take i, ¬ allF S l ∧ ∀ x, unitL S l x → S.contains x = true) →
   ∃ r, Ev (fun k => cnf_values_propagate.l1 k v cls c cls (cls.length : Int) (i : Int)) r ∧ PropR n cls S r := by
 refine down ?_ ?_
 ·intro v S c hv hm h1 h2
  cases c with
  | true =>
   obtain ⟨r, hr, hp⟩ := IH v S hv (h1 rfl)
   refine ⟨r, ?_, hp⟩
   refine Ev.succ ?_
   simp only [cnf_values_propagate.l1]
   exact Ev.neg (by omega) hr
  | false =>
   refine ⟨(true, v), ?_, fun _ => ⟨S, fun _ h => h, hv, fun l hl => h2 rfl l (by rw [List.take_length]; exact hl), fun _ _ h => h⟩, fun h => by cases h⟩
   refine Ev.succ ?_
   simp only [cnf_values_propagate.l1]
   refine Ev.neg (by omega) (Ev.succ ?_)
   simp only [cnf_values_propagate.l0]
   exact Ev.neg (by simp) (Ev.pure _)
 ·intro i hi ih v S c hv hm h1 h2
  have hrd : PPropagate.rL cls i = cls[i] := by simp [PPropagate.rL, List.getD, hi]
  have hmem : cls[i] ∈ cls := List.getElem_mem _
  have hu := unit_ev hn hv cls[i] (hl _ hmem).1 (hl _ hmem).2
  have hcase := unitS_is hn hv.cons cls[i] (hl _ hmem).2
  generalize unitS S 0 cls[i] = u at hu hcase
  have hbody : ∀ r, Ev (fun k => if u.2 = true then some (false, v) else if u.1 = 0 then cnf_values_propagate.l1 k v cls c cls (cls.length : Int) ((i + 1 : Nat) : Int) else (cnf_values_set.f v u.1).bind fun t => cnf_values_propagate.l1 k t cls true cls (cls.length : Int) ((i + 1 : Nat) : Int)) r → Ev (fun k => cnf_values_propagate.l1 k v cls c cls (cls.length : Int) (i : Int)) r := by
   intro r hr
   refine Ev.succ ?_
   simp only [cnf_values_propagate.l1]
   refine Ev.pos (by omega) (Ev.pos (by omega) (Ev.pos (by omega) ?_))
   rw [hrd, wrap_succ hi (by omega)]
   exact Ev.bind hu hr
  cases hcase with
  | conf hf =>
   exact ⟨(false, v), hbody _ (Ev.pos rfl (Ev.pure _)), (fun h => by cases h), fun _ ⟨T, hs, hg⟩ => good_conf hs hg hmem hf⟩
  | unit x hun hx hx0 =>
   have hxo : LitOk n x := (hl _ hmem).2 x hun.1
   have hcx : S.contains (-x) = false := by
    have := hun.2.1
    rwa [wneg (by have := hxo.2.1; omega) (by have := hxo.2.2; omega)] at this
   obtain ⟨v', he, hv'⟩ := set_ok hn hv hxo hcx
   have hlt := free_lt S x hx cls.flatten (List.mem_flatten.2 ⟨_, hmem, hun.1⟩)
   obtain ⟨r, hr, hp2, hp3⟩ := ih v' (x :: S) true hv' (by omega) (fun _ => by omega) (fun h => by cases h)
   refine ⟨r, hbody r ?_, fun h => ?_, fun h ⟨T, hs, hg⟩ => hp3 h ⟨T, hs.cons (good_unit hs hg hmem hun), hg⟩⟩
   ·refine Ev.neg (by simp) (Ev.neg hx0 ?_)
    simp only [he, Option.bind_some]
    exact hr
   ·obtain ⟨T, hs, hv, hg, hm⟩ := hp2 h
    exact ⟨T, hs.tail, hv, hg, fun U hU hsU => hm U hU (hsU.cons (good_unit hsU hU hmem hun))⟩
  | none hnf hall =>
   obtain ⟨r, hr, hp⟩ := ih v S c hv hm h1 (fun hc l hlm => by
    rw [List.take_succ_eq_append_getElem hi] at hlm
    rcases List.mem_append.1 hlm with h | h
    ·exact h2 hc l h
    ·simp at h; subst h; exact ⟨hnf, hall⟩)
   exact ⟨r, hbody r (Ev.neg (by simp) (Ev.pos rfl hr)), hp⟩
theorem prop_ev0 {n : Nat} (hn : n ≤ 100000) (cls : List (List Int)) (hcl : cls.length ≤ 1000000000) (hl : ∀ l ∈ cls, l.length ≤ 1000000000 ∧ ∀ x ∈ l, LitOk n x) : ∀ (m : Nat) (v S : List Int), VOk n v S → free S cls.flatten < m → ∃ r, Ev (fun k => cnf_values_propagate.l0 k v cls true) r ∧ PropR n cls S r
 | 0, v, S, _, h => absurd h (by omega)
 | m + 1, v, S, hv, h => by
  obtain ⟨r, hr, hp⟩ := sweep_ev hn cls hcl hl m (fun v S hv hf => prop_ev0 hn cls hcl hl m v S hv hf) 0 (Nat.zero_le _) v S false hv (by omega) (fun h => by cases h) (fun _ l h => by simp at h)
  refine ⟨r, ?_, hp⟩
  refine Ev.succ ?_
  simp only [cnf_values_propagate.l0]
  exact Ev.pos trivial hr
theorem prop_ev {n : Nat} (hn : n ≤ 100000) (cls : List (List Int)) (hcl : cls.length ≤ 1000000000) (hl : ∀ l ∈ cls, l.length ≤ 1000000000 ∧ ∀ x ∈ l, LitOk n x) {v S : List Int} (hv : VOk n v S) : ∃ r, Ev (fun k => cnf_values_propagate.f k v cls) r ∧ PropR n cls S r :=
 prop_ev0 hn cls hcl hl _ v S hv (Nat.lt_succ_self _)
theorem Mod.good {n : Nat} (hn : n ≤ 100000) {cls : List (List Int)} {M : List Int} (hl : ∀ l ∈ cls, ∀ x ∈ l, LitOk n x) (h : Mod n cls M) : Good cls M :=
 fun l hlm => ⟨mod_conf hn h (fun _ q => q) hlm (hl l hlm), fun _ hu => mod_unit hn h (fun _ q => q) hlm (hl l hlm) hu⟩
end Go.Proofs.YtkcfdddhnboieaaGreatDoor.NPlain
end
section
set_option maxRecDepth 100000
namespace Go.Proofs.YtkcfdddhnboieaaGreatDoor.NState
open Go Go.RowKit Go.Shelf QW.PrintWords QW.PrintLast QW.PrintMore NMap
theorem rows_of1 {W : World} {v1 : Value} {l1 : List Int} (h1 : (SpG.ints l1).p W v1) : Kd.C (Kd.slice 3 (Kd.int .i64)) (W.alloc (.cells #[v1] 26)) (some ⟨W.heap.size, 0, none⟩) 1 [l1] := by
 obtain ⟨A1, c1, rfl, m1, q1⟩ := h1
 exact C_lit (Kd.slice 3 (Kd.int .i64)) W 26 [l1] _ (Reps.snoc (p := l1) (c := [.slice A1 l1.length c1]) (Reps.none ((Kd.slice 3 (Kd.int .i64)).K W) 1) ⟨A1, c1, rfl, m1, q1⟩ rfl) (by simp)
theorem lit1 (w : World) (l1 : List Int) {cs1 : Array Value} (e1 : cs1 = (encs (Value.int .i64) l1).toArray) (m1 : l1.length ≤ 1000000) : Kd.C (Kd.slice 3 (Kd.int .i64)) ((w.alloc (.cells cs1 3)).alloc (.cells #[.slice (some ⟨w.heap.size, 0, none⟩) l1.length l1.length] 26)) (some ⟨w.heap.size + 1, 0, none⟩) 1 [l1] ∧ Below w.heap.size w ((w.alloc (.cells cs1 3)).alloc (.cells #[.slice (some ⟨w.heap.size, 0, none⟩) l1.length l1.length] 26)) := by
 have h1 := ints_lit w l1 cs1 e1 m1
 (try simp only [World.size_alloc] at h1)
 have h := rows_of1 h1
 (try simp only [World.size_alloc] at h)
 exact ⟨h, ((below_new w _).alloc (by simp only [World.size_alloc]; omega) _)⟩
theorem rows_of2 {W : World} {v1 v2 : Value} {l1 l2 : List Int} (h1 : (SpG.ints l1).p W v1) (h2 : (SpG.ints l2).p W v2) : Kd.C (Kd.slice 3 (Kd.int .i64)) (W.alloc (.cells #[v1, v2] 26)) (some ⟨W.heap.size, 0, none⟩) 2 [l1, l2] := by
 obtain ⟨A1, c1, rfl, m1, q1⟩ := h1
 obtain ⟨A2, c2, rfl, m2, q2⟩ := h2
 exact C_lit (Kd.slice 3 (Kd.int .i64)) W 26 [l1, l2] _ (Reps.snoc (p := l2) (c := [.slice A2 l2.length c2]) (Reps.snoc (p := l1) (c := [.slice A1 l1.length c1]) (Reps.none ((Kd.slice 3 (Kd.int .i64)).K W) 1) ⟨A1, c1, rfl, m1, q1⟩ rfl) ⟨A2, c2, rfl, m2, q2⟩ rfl) (by simp)
theorem lit2 (w : World) (l1 l2 : List Int) {cs1 cs2 : Array Value} (e1 : cs1 = (encs (Value.int .i64) l1).toArray) (m1 : l1.length ≤ 1000000) (e2 : cs2 = (encs (Value.int .i64) l2).toArray) (m2 : l2.length ≤ 1000000) : Kd.C (Kd.slice 3 (Kd.int .i64)) (((w.alloc (.cells cs1 3)).alloc (.cells cs2 3)).alloc (.cells #[.slice (some ⟨w.heap.size, 0, none⟩) l1.length l1.length, .slice (some ⟨w.heap.size + 1, 0, none⟩) l2.length l2.length] 26)) (some ⟨w.heap.size + 1 + 1, 0, none⟩) 2 [l1, l2] ∧ Below w.heap.size w (((w.alloc (.cells cs1 3)).alloc (.cells cs2 3)).alloc (.cells #[.slice (some ⟨w.heap.size, 0, none⟩) l1.length l1.length, .slice (some ⟨w.heap.size + 1, 0, none⟩) l2.length l2.length] 26)) := by
 have h1 := ints_lit w l1 cs1 e1 m1
 replace h1 := (SpG.ints l1).st h1 (below_new _ (.cells cs2 3))
 have h2 := ints_lit (w.alloc (.cells cs1 3)) l2 cs2 e2 m2
 (try simp only [World.size_alloc] at h1 h2)
 have h := rows_of2 h1 h2
 (try simp only [World.size_alloc] at h)
 exact ⟨h, (((below_new w _).alloc (by simp only [World.size_alloc]; omega) _).alloc (by simp only [World.size_alloc]; omega) _)⟩
theorem rows_of3 {W : World} {v1 v2 v3 : Value} {l1 l2 l3 : List Int} (h1 : (SpG.ints l1).p W v1) (h2 : (SpG.ints l2).p W v2) (h3 : (SpG.ints l3).p W v3) : Kd.C (Kd.slice 3 (Kd.int .i64)) (W.alloc (.cells #[v1, v2, v3] 26)) (some ⟨W.heap.size, 0, none⟩) 3 [l1, l2, l3] := by
 obtain ⟨A1, c1, rfl, m1, q1⟩ := h1
 obtain ⟨A2, c2, rfl, m2, q2⟩ := h2
 obtain ⟨A3, c3, rfl, m3, q3⟩ := h3
 exact C_lit (Kd.slice 3 (Kd.int .i64)) W 26 [l1, l2, l3] _ (Reps.snoc (p := l3) (c := [.slice A3 l3.length c3]) (Reps.snoc (p := l2) (c := [.slice A2 l2.length c2]) (Reps.snoc (p := l1) (c := [.slice A1 l1.length c1]) (Reps.none ((Kd.slice 3 (Kd.int .i64)).K W) 1) ⟨A1, c1, rfl, m1, q1⟩ rfl) ⟨A2, c2, rfl, m2, q2⟩ rfl) ⟨A3, c3, rfl, m3, q3⟩ rfl) (by simp)
theorem lit3 (w : World) (l1 l2 l3 : List Int) {cs1 cs2 cs3 : Array Value} (e1 : cs1 = (encs (Value.int .i64) l1).toArray) (m1 : l1.length ≤ 1000000) (e2 : cs2 = (encs (Value.int .i64) l2).toArray) (m2 : l2.length ≤ 1000000) (e3 : cs3 = (encs (Value.int .i64) l3).toArray) (m3 : l3.length ≤ 1000000) : Kd.C (Kd.slice 3 (Kd.int .i64)) ((((w.alloc (.cells cs1 3)).alloc (.cells cs2 3)).alloc (.cells cs3 3)).alloc (.cells #[.slice (some ⟨w.heap.size, 0, none⟩) l1.length l1.length, .slice (some ⟨w.heap.size + 1, 0, none⟩) l2.length l2.length, .slice (some ⟨w.heap.size + 1 + 1, 0, none⟩) l3.length l3.length] 26)) (some ⟨w.heap.size + 1 + 1 + 1, 0, none⟩) 3 [l1, l2, l3] ∧ Below w.heap.size w ((((w.alloc (.cells cs1 3)).alloc (.cells cs2 3)).alloc (.cells cs3 3)).alloc (.cells #[.slice (some ⟨w.heap.size, 0, none⟩) l1.length l1.length, .slice (some ⟨w.heap.size + 1, 0, none⟩) l2.length l2.length, .slice (some ⟨w.heap.size + 1 + 1, 0, none⟩) l3.length l3.length] 26)) := by
 have h1 := ints_lit w l1 cs1 e1 m1
 replace h1 := (SpG.ints l1).st h1 (below_new _ (.cells cs2 3))
 replace h1 := (SpG.ints l1).st h1 (below_new _ (.cells cs3 3))
 have h2 := ints_lit (w.alloc (.cells cs1 3)) l2 cs2 e2 m2
 replace h2 := (SpG.ints l2).st h2 (below_new _ (.cells cs3 3))
 have h3 := ints_lit ((w.alloc (.cells cs1 3)).alloc (.cells cs2 3)) l3 cs3 e3 m3
 (try simp only [World.size_alloc] at h1 h2 h3)
 have h := rows_of3 h1 h2 h3
 (try simp only [World.size_alloc] at h)
 exact ⟨h, ((((below_new w _).alloc (by simp only [World.size_alloc]; omega) _).alloc (by simp only [World.size_alloc]; omega) _).alloc (by simp only [World.size_alloc]; omega) _)⟩
theorem rows_of4 {W : World} {v1 v2 v3 v4 : Value} {l1 l2 l3 l4 : List Int} (h1 : (SpG.ints l1).p W v1) (h2 : (SpG.ints l2).p W v2) (h3 : (SpG.ints l3).p W v3) (h4 : (SpG.ints l4).p W v4) : Kd.C (Kd.slice 3 (Kd.int .i64)) (W.alloc (.cells #[v1, v2, v3, v4] 26)) (some ⟨W.heap.size, 0, none⟩) 4 [l1, l2, l3, l4] := by
 obtain ⟨A1, c1, rfl, m1, q1⟩ := h1
 obtain ⟨A2, c2, rfl, m2, q2⟩ := h2
 obtain ⟨A3, c3, rfl, m3, q3⟩ := h3
 obtain ⟨A4, c4, rfl, m4, q4⟩ := h4
 exact C_lit (Kd.slice 3 (Kd.int .i64)) W 26 [l1, l2, l3, l4] _ (Reps.snoc (p := l4) (c := [.slice A4 l4.length c4]) (Reps.snoc (p := l3) (c := [.slice A3 l3.length c3]) (Reps.snoc (p := l2) (c := [.slice A2 l2.length c2]) (Reps.snoc (p := l1) (c := [.slice A1 l1.length c1]) (Reps.none ((Kd.slice 3 (Kd.int .i64)).K W) 1) ⟨A1, c1, rfl, m1, q1⟩ rfl) ⟨A2, c2, rfl, m2, q2⟩ rfl) ⟨A3, c3, rfl, m3, q3⟩ rfl) ⟨A4, c4, rfl, m4, q4⟩ rfl) (by simp)
theorem lit4 (w : World) (l1 l2 l3 l4 : List Int) {cs1 cs2 cs3 cs4 : Array Value} (e1 : cs1 = (encs (Value.int .i64) l1).toArray) (m1 : l1.length ≤ 1000000) (e2 : cs2 = (encs (Value.int .i64) l2).toArray) (m2 : l2.length ≤ 1000000) (e3 : cs3 = (encs (Value.int .i64) l3).toArray) (m3 : l3.length ≤ 1000000) (e4 : cs4 = (encs (Value.int .i64) l4).toArray) (m4 : l4.length ≤ 1000000) : Kd.C (Kd.slice 3 (Kd.int .i64)) (((((w.alloc (.cells cs1 3)).alloc (.cells cs2 3)).alloc (.cells cs3 3)).alloc (.cells cs4 3)).alloc (.cells #[.slice (some ⟨w.heap.size, 0, none⟩) l1.length l1.length, .slice (some ⟨w.heap.size + 1, 0, none⟩) l2.length l2.length, .slice (some ⟨w.heap.size + 1 + 1, 0, none⟩) l3.length l3.length, .slice (some ⟨w.heap.size + 1 + 1 + 1, 0, none⟩) l4.length l4.length] 26)) (some ⟨w.heap.size + 1 + 1 + 1 + 1, 0, none⟩) 4 [l1, l2, l3, l4] ∧ Below w.heap.size w (((((w.alloc (.cells cs1 3)).alloc (.cells cs2 3)).alloc (.cells cs3 3)).alloc (.cells cs4 3)).alloc (.cells #[.slice (some ⟨w.heap.size, 0, none⟩) l1.length l1.length, .slice (some ⟨w.heap.size + 1, 0, none⟩) l2.length l2.length, .slice (some ⟨w.heap.size + 1 + 1, 0, none⟩) l3.length l3.length, .slice (some ⟨w.heap.size + 1 + 1 + 1, 0, none⟩) l4.length l4.length] 26)) := by
 have h1 := ints_lit w l1 cs1 e1 m1
 replace h1 := (SpG.ints l1).st h1 (below_new _ (.cells cs2 3))
 replace h1 := (SpG.ints l1).st h1 (below_new _ (.cells cs3 3))
 replace h1 := (SpG.ints l1).st h1 (below_new _ (.cells cs4 3))
 have h2 := ints_lit (w.alloc (.cells cs1 3)) l2 cs2 e2 m2
 replace h2 := (SpG.ints l2).st h2 (below_new _ (.cells cs3 3))
 replace h2 := (SpG.ints l2).st h2 (below_new _ (.cells cs4 3))
 have h3 := ints_lit ((w.alloc (.cells cs1 3)).alloc (.cells cs2 3)) l3 cs3 e3 m3
 replace h3 := (SpG.ints l3).st h3 (below_new _ (.cells cs4 3))
 have h4 := ints_lit (((w.alloc (.cells cs1 3)).alloc (.cells cs2 3)).alloc (.cells cs3 3)) l4 cs4 e4 m4
 (try simp only [World.size_alloc] at h1 h2 h3 h4)
 have h := rows_of4 h1 h2 h3 h4
 (try simp only [World.size_alloc] at h)
 exact ⟨h, (((((below_new w _).alloc (by simp only [World.size_alloc]; omega) _).alloc (by simp only [World.size_alloc]; omega) _).alloc (by simp only [World.size_alloc]; omega) _).alloc (by simp only [World.size_alloc]; omega) _)⟩
end Go.Proofs.YtkcfdddhnboieaaGreatDoor.NState
end
