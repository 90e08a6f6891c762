/-
  Part 6 of the proof of cnfText_card: walks and lemmas.
-/
import Derived.Test.YtkcfdddhnboieaaGreatDoorKF1
import Derived.Test.YtkcfdddhnboieaaGreatDoorProg
import Derived.Test.YtkcfdddhnboieaaGreatDoorKF5
import Derived.Shelf.Abstract
import Derived.Test.YtkcfdddhnboieaaGreatDoorKF4
set_option linter.unusedVariables false
set_option linter.unusedSimpArgs false
section
set_option maxHeartbeats 1000000
set_option maxRecDepth 100000
namespace Go.Proofs.YtkcfdddhnboieaaGreatDoor.NState
open Go Go.RowKit Go.Shelf QW.PrintWords QW.PrintLast QW.PrintMore NMap
theorem wrap_succ {k n : Nat} (h : k < n) (hn : n ≤ 9223372036854775807) : wrap64 ((k : Int) + 1) = ((k + 1 : Nat) : Int) := by unfold wrap64; omega
theorem meas_x {k n : Nat} {x : Int} (h : k < n) (e : x = ((k + 1 : Nat) : Int)) : n - (intOf (.int .i64 x)).toNat < n - (intOf (.int .i64 (k : Int))).toNat := by
 subst e
 simp only [intOf, Int.toNat_natCast]; omega
theorem drop_rd {l : List Int} {k : Nat} (h : k < l.length) : l.drop k = rd l k :: l.drop (k + 1) := by
 rw [List.drop_eq_getElem_cons h]; simp [rd, List.getD, h]
theorem blk_new (w : World) (o : Obj) : (w.alloc o).heap[w.heap.size]? = some o := by show (w.heap.push o)[w.heap.size]? = _; simp
theorem infoInt : (Tryz.prog.info? 3).map (fun i => (i.zero, i.size, i.bytes)) = some (some (.int .i64 0), 1, 8) := by kernel_rfl
theorem C_lit {α : Type} (d : Kd α) (W : World) (e : TypeId) (xs : List α) (inner : List Value) (hr : Reps (d.K W) d.sz xs inner) (hm : xs.length ≤ 1000000) : d.C (W.alloc (.cells inner.toArray e)) (some ⟨W.heap.size, 0, none⟩) xs.length xs := by
 have hb : Below W.heap.size W (W.alloc (.cells inner.toArray e)) := (Below.refl _ _).alloc (Nat.le_refl _) _
 have h := OwnRow.lit (e := e) W W.heap.size (hr.imp_ (fun p c hp => d.K_below hb hp)) (Nat.le_refl _) (by omega)
 obtain ⟨A, c, he, _, hread⟩ := h.reads
 cases he
 exact hread
theorem C_ints (W : World) (xs : List Int) (cs : Array Value) (h : cs = (encs (Value.int .i64) xs).toArray) (hm : xs.length ≤ 1000000) : (Kd.int .i64).C (W.alloc (.cells cs 3)) (some ⟨W.heap.size, 0, none⟩) xs.length xs := by
 subst h
 exact C_lit (Kd.int .i64) W 3 xs _ (Kd.reps_scalar xs) hm
theorem blk_alloc_at {W : World} {g : Nat} (h : W.heap.size = g) (o : Obj) : (W.alloc o).heap[g]? = some o := by subst h; exact blk_new W o
theorem bkg {W w1 : World} {g : Nat} {o : Obj} {row : Option Nat} (h : W.heap[g]? = some o) (hg : W.grownBy w1 row) (hne : some g ≠ row) : w1.heap[g]? = some o :=
 (hg.block g (Array.getElem?_eq_some_iff.1 h).1 hne).trans h
theorem R_apart_of {α β : Type} {d : Kd α} {d' : Kd β} {e e' base b' : Nat} {ok ok' : Nat → Prop} {W : World} {v u : Value} {xs : List α} {ys : List β} (h : d.R e W base ok v xs) (ho : d'.R e' W b' ok' u ys) (ht : ∀ q, q ∈ e :: d.E → q ≠ e') : d.R e W base (fun k => True ∧ some k ≠ u.ownBlock) v xs :=
 Kd.R_mono (Kd.R_bound h) (fun k ⟨_, _, _, q, hq, cells, hc⟩ => ⟨trivial, fun he => by
  obtain ⟨cells', hc'⟩ := Kd.R_typed ho k he.symm
  rw [hc] at hc'; have h2 := ht q hq; cases hc'; exact h2 rfl⟩)
def idxL (p : Int → Bool) : Int → List Int → Int
 | _, [] => -1
 | i, x :: xs => if p x then i else idxL p (i + 1) xs
theorem indexFunc_calls (g : FuncId) (lb : Array Value) (p : Int → Bool) (A0 : Option Addr) (c0 : Nat) (l0 : List Int) (w : World) (hr0 : Kd.C (Kd.int .i64) w A0 l0.length l0)
  (eg : ∀ args w, (callFunc g args).run Tryz.prog w = .ok (.enter g args) w) (hp : ∀ x, Calls Tryz.prog g (#[.int .i64 x] ++ lb) w fun e w' => e = .returned (.bool (p x)) ∧ w = w') :
  Calls Tryz.prog 74 #[.slice A0 l0.length c0, .func (.func g) #[] lb] w fun e w' => e = .returned (.int .i64 (idxL p 0 l0)) ∧ w = w' := by
 have HR0 := Az.mk hr0
 have HL := Az.mk (Kd.C_max hr0)
 have HP := Az.mk hp
 have EG := Az.mk eg
 clear hr0 hp eg
 go_enter Tryz.func74, Tryz.ntmps74
 go_wp2
 go_loop [5, 8, 9, 10, 11, 12, 13, 14, 15, 16, 18] (fun v5 v8 v9 v10 v11 v12 v13 v14 v15 v16 v18 => ∃ (k : Nat), v8 = .int .i64 k ∧ k ≤ l0.length ∧ Az (idxL p 0 l0 = idxL p k (l0.drop k))) (fun _ v8 _ _ _ _ _ _ _ _ _ => l0.length - (intOf v8).toNat)
 case atStart => exact ⟨0, rfl, Nat.zero_le _, ⟨by simp⟩⟩
 case round =>
  obtain ⟨k, rfl, hk, HA⟩ := hrel
  by_cases hlt : k < l0.length
  ·obtain ⟨ad, rfl, hc⟩ := Kd.at_int HR0.out (k : Int) (by omega) (by omega)
   rw [drop_rd hlt] at HA
   generalize rd l0 k = x at HA hc
   simp only [Int.toNat_natCast] at hc
   have he := EG.out (#[.int .i64 x] ++ lb) w
   by_cases hpx : p x = true
   ·have hpc := HP.out x
    rw [hpx] at hpc
    go_wp2_with (refine hpc.mono ?_; rintro e w' ⟨rfl, rfl⟩)
    go_ret
    refine ⟨?_, rfl⟩
    rw [HA.out, idxL, if_pos hpx]; rfl
   ·have hpc := HP.out x
    rw [Bool.not_eq_true] at hpx
    have HX := Az.mk hpx
    rw [hpx] at hpc
    clear hpx
    go_wp2_with (refine hpc.mono ?_; rintro e w' ⟨rfl, rfl⟩)
    go_round
    case rel =>
     refine ⟨k + 1, by rw [wrap_succ hlt HL.out], by omega, ⟨?_⟩⟩
     rw [HA.out, idxL, HX.out]; simp
    case measure => exact meas_x hlt (wrap_succ hlt HL.out)
  ·go_wp2
   go_ret
   refine ⟨?_, rfl⟩
   rw [HA.out, List.drop_of_length_le (by omega)]; rfl
theorem idxL_any (p : Int → Bool) (l : List Int) : ∀ i : Int, 0 ≤ i → (decide (idxL p i l ≥ 0) = l.any p) ∧ (idxL p i l ≥ 0 → i ≤ idxL p i l) := by
 induction l with
 | nil => intro i hi; simp [idxL]
 | cons x xs ih =>
  intro i hi
  unfold idxL
  by_cases h : p x = true
  ·rw [if_pos h]; simp [h, hi]
  ·rw [if_neg h]
   have := ih (i + 1) (by omega)
   simp only [Bool.not_eq_true] at h
   refine ⟨by simp [h, this.1], fun hh => ?_⟩
   have := this.2 hh
   omega
theorem containsFunc_calls (g : FuncId) (lb : Array Value) (p : Int → Bool) (A0 : Option Addr) (c0 : Nat) (l0 : List Int) (w : World) (hr0 : Kd.C (Kd.int .i64) w A0 l0.length l0)
  (eg : ∀ args w, (callFunc g args).run Tryz.prog w = .ok (.enter g args) w) (hp : ∀ x, Calls Tryz.prog g (#[.int .i64 x] ++ lb) w fun e w' => e = .returned (.bool (p x)) ∧ w = w') :
  Calls Tryz.prog 60 #[.slice A0 l0.length c0, .func (.func g) #[] lb] w fun e w' => e = .returned (.bool (l0.any p)) ∧ w = w' := by
 have hc := indexFunc_calls g lb p A0 c0 l0 w hr0 eg hp
 have hi := Az.mk (idxL_any p l0 0 (Int.le_refl _)).1
 clear eg hp hr0
 generalize idxL p 0 l0 = q at hc hi
 go_enter Tryz.func60, Tryz.ntmps60
 go_wp2_with (go_at_call 74; refine hc.mono ?_; rintro e w' ⟨rfl, rfl⟩)
 go_ret
 exact ⟨by rw [← hi.out]; rfl, rfl⟩
def badLit (vars x : Int) : Bool := x == 0 || decide (x < wrap64 (-vars)) || decide (x > vars)
end Go.Proofs.YtkcfdddhnboieaaGreatDoor.NState
end
section
set_option maxRecDepth 100000
namespace Go.Proofs.YtkcfdddhnboieaaGreatDoor.NState
open Go Go.RowKit Go.Shelf QW.PrintWords QW.PrintLast QW.PrintMore NMap
structure Filled (a0 : Act) (L : List Nat) (b : Nat → Bool) (v : Nat → Value) (a : Act) : Prop where
 defers : a.defers = a0.defers
 size : a.tmps.size = a0.tmps.size
 other : ∀ t, L.contains t = false → a.tmps[t]? = a0.tmps[t]?
 slot : ∀ i t, L[i]? = some t → a.tmps[t]? = if b i = true then some (v i) else a0.tmps[t]?
theorem Filled.start (a0 : Act) (L : List Nat) (v : Nat → Value) : Filled a0 L (fun _ => false) v a0 := ⟨rfl, rfl, fun _ _ => rfl, fun i t h => by simp⟩
theorem Filled.put {a0 a : Act} {L : List Nat} {b : Nat → Bool} {v : Nat → Value} (h : Filled a0 L b v a) (hn : L.Nodup) {i t : Nat} (hi : L[i]? = some t) (ht : t < a0.tmps.size) (u : Value) : Filled a0 L (up b i) (fun j => if j = i then u else v j) (a.put (some t) u) := by
 refine ⟨h.defers, by simp [Act.put, h.size], fun s hs => ?_, fun j s hj => ?_⟩
 ·have hne : t ≠ s := by
   rintro rfl
   have : t ∈ L := List.mem_of_getElem? hi
   rw [List.contains_iff_mem.2 this] at hs
   cases hs
  simp only [Act.put, Array.getElem?_setIfInBounds_ne hne]
  exact h.other s hs
 ·by_cases hji : j = i
  ·subst hji
   rw [hi] at hj
   cases hj
   have hlt : t < a.tmps.size := by rw [h.size]; exact ht
   rw [up_self]
   simp [Act.put, hlt]
  ·have hne : t ≠ s := by
    rintro rfl
    obtain ⟨h1, h2⟩ := List.getElem?_eq_some_iff.1 hi
    obtain ⟨h3, h4⟩ := List.getElem?_eq_some_iff.1 hj
    exact hji ((List.getElem_inj hn).1 (h4.trans h2.symm))
   rw [up_ne hji]
   simp only [Act.put, Array.getElem?_setIfInBounds_ne hne, if_neg hji]
   exact h.slot j s hj
def fillAll (a0 : Act) (L : List Nat) (v : Nat → Value) : Act := { tmps := ((List.range a0.tmps.size).map fun t => match L.idxOf? t with | some i => v i | none => a0.tmps.getD t undef).toArray, defers := a0.defers }
theorem Filled.all {a0 a : Act} {L : List Nat} {b : Nat → Bool} {v : Nat → Value} (h : Filled a0 L b v a) (hb : ∀ i, i < L.length → b i = true) : a = fillAll a0 L v := by
 obtain ⟨tm, df⟩ := a
 obtain ⟨h1, h2, h3, h4⟩ := h
 simp only at h1 h2 h3 h4
 unfold fillAll
 rw [h1]
 congr 1
 apply Array.ext_getElem?
 intro t
 have e0 : ∀ l : List Value, l.toArray[t]? = l[t]? := fun l => by simp
 refine Eq.trans ?_ (e0 _).symm
 rw [List.getElem?_map]
 by_cases ht : t < a0.tmps.size
 ·rw [List.getElem?_range ht]
  simp only [Option.map_some]
  cases hi : L.idxOf? t with
  | none =>
   have hc : L.contains t = false := by
    rw [List.idxOf?_eq_none_iff] at hi
    cases hq : L.contains t with
    | false => rfl
    | true => exact absurd (List.contains_iff_mem.1 hq) hi
   rw [h3 t hc]
   simp [Array.getD, ht]
  | some i =>
   have hg : L[i]? = some t := by
    rw [List.idxOf?_eq_some_iff] at hi
    obtain ⟨hl, he, _⟩ := hi
    rw [List.getElem?_eq_getElem hl, he]
   have hl := (List.getElem?_eq_some_iff.1 hg).1
   rw [h4 i t hg, if_pos (hb i hl)]
 ·rw [Array.getElem?_eq_none (by omega), List.getElem?_eq_none (by simp; omega)]
  rfl
structure SpG where
 p : World → Value → Prop
 st : ∀ {w w' : World} {v : Value}, p w v → Below w.heap.size w w' → p w' v
def SpG.is (v : Value) : SpG := ⟨fun _ u => u = v, fun h _ => h⟩
def SpG.ints (l : List Int) : SpG := ⟨fun w v => ∃ A c, v = .slice A l.length c ∧ l.length ≤ c ∧ (Kd.int .i64).C w A l.length l, fun h hb => by obtain ⟨A, c, h1, h2, h3⟩ := h; exact ⟨A, c, h1, h2, Kd.C_below h3 hb⟩⟩
def SpG.rows (cls : List (List Int)) : SpG := ⟨fun w v => ∃ A c, v = .slice A cls.length c ∧ cls.length ≤ c ∧ Kd.C (Kd.slice 3 (Kd.int .i64)) w A cls.length cls,
 fun h hb => by obtain ⟨A, c, h1, h2, h3⟩ := h; exact ⟨A, c, h1, h2, Kd.C_below h3 hb⟩⟩
def SpG.cnf (n : Int) (cls : List (List Int)) : SpG := ⟨fun w v => ∃ A c, v = .agg #[.int .i64 n, .slice A cls.length c] ∧ cls.length ≤ c ∧ Kd.C (Kd.slice 3 (Kd.int .i64)) w A cls.length cls,
 fun h hb => by obtain ⟨A, c, h1, h2, h3⟩ := h; exact ⟨A, c, h1, h2, Kd.C_below h3 hb⟩⟩
def RelG (W : World) (a0 : Act) (L : List Nat) (tab : List SpG) (b : Nat → Bool) (a : Act) (w : World) : Prop :=
 ∃ v, Filled a0 L b v a ∧ Below W.heap.size W w ∧ ∀ i s, tab[i]? = some s → b i = true → s.p w (v i)
theorem RelG.start (W : World) (a0 : Act) (L : List Nat) (tab : List SpG) : RelG W a0 L tab (fun _ => false) a0 W := ⟨fun _ => undef, Filled.start _ _ _, Below.refl _ _, fun _ _ _ h => by cases h⟩
theorem RelG.put {W w w' : World} {a0 a : Act} {L : List Nat} {tab : List SpG} {b : Nat → Bool} (h : RelG W a0 L tab b a w) {i t : Nat} {s : SpG} {u : Value} (hn : L.Nodup) (hi : L[i]? = some t) (ht : t < a0.tmps.size) (hs : tab[i]? = some s) (hb : Below w.heap.size w w') (hu : s.p w' u) :
  RelG W a0 L tab (up b i) (a.put (some t) u) w' := by
 obtain ⟨v, h1, h2, h3⟩ := h
 refine ⟨_, h1.put hn hi ht u, bwt h2 hb, fun j s' hj hbj => ?_⟩
 by_cases hji : j = i
 ·subst hji
  rw [hs] at hj
  cases hj
  rw [if_pos rfl]; exact hu
 ·rw [up_ne hji] at hbj
  rw [if_neg hji]
  exact s'.st (h3 j s' hj hbj) hb
theorem RelG.get {W w : World} {a0 a : Act} {L : List Nat} {tab : List SpG} {b : Nat → Bool} (h : RelG W a0 L tab b a w) {i t : Nat} {s : SpG} (hb : b i = true) (hi : L[i]? = some t) (hs : tab[i]? = some s) : ∃ u, a.tmps[t]? = some u ∧ s.p w u := by
 obtain ⟨v, h1, _, h3⟩ := h
 exact ⟨v i, by rw [h1.slot i t hi, if_pos hb], h3 i s hs hb⟩
theorem RelG.gis {W w : World} {a0 a : Act} {L : List Nat} {tab : List SpG} {b : Nat → Bool} (h : RelG W a0 L tab b a w) {i t : Nat} {v : Value} (hb : b i = true) (hi : L[i]? = some t) (hs : tab[i]? = some (SpG.is v)) : a.tmps[t]? = some v := by
 obtain ⟨u, h1, h2⟩ := h.get hb hi hs
 exact h1.trans (congrArg some h2)
theorem RelG.elder {W w : World} {a0 a : Act} {L : List Nat} {tab : List SpG} {b : Nat → Bool} (h : RelG W a0 L tab b a w) {t : Nat} {u : Value} (hc : L.contains t = false) (hu : a0.tmps[t]? = some u) : a.tmps[t]? = some u := by
 obtain ⟨v, h1, _⟩ := h
 rw [h1.other t hc]; exact hu
theorem RelG.reads {W w : World} {a0 a : Act} {L : List Nat} {tab : List SpG} {b : Nat → Bool} (h : RelG W a0 L tab b a w) : Below W.heap.size W w := h.choose_spec.2.1
section
variable {P : Program} {ops : Array Oper} {Q : Exit → Act → World → Prop} {oi : Oper} {a0 : Act} {W : World} {L : List Nat} {tab : List SpG} {B O : List Nat} {i t : Nat} {s : SpG}
def GOpen (ops : Array Oper) (L : List Nat) (tab : List SpG) (B O : List Nat) (i : Nat) (oi : Oper) : Prop :=
 oi.guard = none ∨ ∃ g u og tg, oi.guard = some (g, u) ∧ ops[g]? = some og ∧ og.dst = some tg ∧ L[g]? = some tg ∧ tab[g]? = some (SpG.is (.bool u)) ∧ (O.contains g && (B.getD i 0).testBit g) = true
theorem GOpen.wanted {b : Nat → Bool} {a : Act} {w : World} (hg : GOpen ops L tab B O i oi) (h : RelG W a0 L tab b a w) (hon : ∀ j, (O.contains j && (B.getD i 0).testBit j) = true → b j = true) : Region.wanted oi (yielded ops a.tmps) = true := by
 rcases hg with hg | ⟨g, u, og, tg, h1, h2, h3, h4, h5, h6⟩
 ·simp [Region.wanted, hg]
 ·exact wanted_on h1 h2 h3 (h.gis (hon g h6) h4 h5)
theorem step_val (hoi : ops[i]? = some oi) (hdst : oi.dst = some t) (hg : GOpen ops L tab B O i oi) (hn : L.Nodup) (hi : L[i]? = some t) (ht : t < a0.tmps.size) (hs : tab[i]? = some s)
  (h : ∀ b a w, RelG W a0 L tab b a w → (∀ j, (O.contains j && (B.getD i 0).testBit j) = true → b j = true) → ∃ v w1, (execOp a.eval oi).run P w = .ok (.value v) w1 ∧ Below w.heap.size w w1 ∧ s.p w1 v) : StepAt P ops Q B O (RelG W a0 L tab) i := by
 intro b a w hr hb hon hoff
 refine ⟨oi, hoi, fun K hK => ?_⟩
 obtain ⟨v, w1, h1, h2, h3⟩ := h b a w hr hon
 refine value_ (hg.wanted hr hon) rfl h1 ?_
 rw [hdst]
 exact hK.out _ _ (hr.put hn hi ht hs h2 h3)
theorem step_call (hoi : ops[i]? = some oi) (hdst : oi.dst = some t) (hg : GOpen ops L tab B O i oi) (hn : L.Nodup) (hi : L[i]? = some t) (ht : t < a0.tmps.size) (hs : tab[i]? = some s)
  (h : ∀ b a w, RelG W a0 L tab b a w → (∀ j, (O.contains j && (B.getD i 0).testBit j) = true → b j = true) → ∃ f args, (execOp a.eval oi).run P w = .ok (.enter f args) w ∧ Calls P f args w fun e w' => ∃ v, e = .returned v ∧ Below w.heap.size w w' ∧ s.p w' v) : StepAt P ops Q B O (RelG W a0 L tab) i := by
 intro b a w hr hb hon hoff
 refine ⟨oi, hoi, fun K hK => ?_⟩
 obtain ⟨f, args, h1, h2⟩ := h b a w hr hon
 rw [if_pos (hg.wanted hr hon)]
 unfold Oper.wp
 rw [h1]
 refine h2.mono ?_
 rintro e w' ⟨v, rfl, h3, h4⟩
 rw [hdst]
 exact hK.out _ _ (hr.put hn hi ht hs h3 h4)
end
theorem ints_lit (w : World) (l : List Int) (cs : Array Value) (h : cs = (encs (Value.int .i64) l).toArray) (hm : l.length ≤ 1000000) : (SpG.ints l).p (w.alloc (.cells cs 3)) (.slice (some ⟨w.heap.size, 0, none⟩) l.length l.length) :=
 ⟨_, _, rfl, Nat.le_refl _, C_ints w l cs h hm⟩
theorem below_new (w : World) (o : Obj) : Below w.heap.size w (w.alloc o) := (Below.refl _ _).alloc (Nat.le_refl _) _
end Go.Proofs.YtkcfdddhnboieaaGreatDoor.NState
end
section
set_option maxRecDepth 100000
namespace Go.Proofs.YtkcfdddhnboieaaGreatDoor.NPlain
open Go Go.RowKit QW.PrintWords QW.PrintLast QW.PrintMore NState
def Ev {α : Type} (f : Nat → Option α) (r : α) : Prop := ∃ K, ∀ k, K ≤ k → f k = some r
theorem Ev.pure {α : Type} (r : α) : Ev (fun _ => some r) r := ⟨0, fun _ _ => rfl⟩
theorem Ev.pureOf {α : Type} {r r' : α} (h : r' = r) : Ev (fun _ => some r') r := h ▸ Ev.pure _
theorem Ev.succ {α : Type} {f : Nat → Option α} {r : α} (h : Ev (fun k => f (k + 1)) r) : Ev f r := by
 obtain ⟨K, h⟩ := h
 refine ⟨K + 1, fun k hk => ?_⟩
 obtain ⟨j, rfl⟩ : ∃ j, k = j + 1 := ⟨k - 1, by omega⟩
 exact h j (by omega)
theorem Ev.bind {α β : Type} {f : Nat → Option α} {g : Nat → α → Option β} {a : α} {r : β} (h1 : Ev f a) (h2 : Ev (fun k => g k a) r) : Ev (fun k => (f k).bind (g k)) r := by
 obtain ⟨K1, h1⟩ := h1
 obtain ⟨K2, h2⟩ := h2
 refine ⟨max K1 K2, fun k hk => ?_⟩
 show (f k).bind (g k) = _
 rw [h1 k (by omega)]; exact h2 k (by omega)
theorem Ev.pos {α : Type} {c : Prop} [Decidable c] {f g : Nat → Option α} {r : α} (hc : c) (h : Ev f r) : Ev (fun k => if c then f k else g k) r := by
 simpa only [if_pos hc] using h
theorem Ev.neg {α : Type} {c : Prop} [Decidable c] {f g : Nat → Option α} {r : α} (hc : ¬ c) (h : Ev g r) : Ev (fun k => if c then f k else g k) r := by
 simpa only [if_neg hc] using h
theorem Ev.both {α β : Type} {f : Nat → Option α} {g : Nat → Option β} {a : α} {b : β} (h1 : Ev f a) (h2 : Ev g b) : ∃ K, ∀ k, K ≤ k → f k = some a ∧ g k = some b := by
 obtain ⟨K1, h1⟩ := h1
 obtain ⟨K2, h2⟩ := h2
 exact ⟨max K1 K2, fun k hk => ⟨h1 k (by omega), h2 k (by omega)⟩⟩
theorem down {P : Nat → Prop} {n : Nat} (hend : P n) (hstep : ∀ i, i < n → P (i + 1) → P i) : ∀ i, i ≤ n → P i := by
 intro i hi
 obtain ⟨d, hd⟩ : ∃ d, d = n - i := ⟨_, rfl⟩
 induction d generalizing i with
 | zero => rw [show i = n by omega]; exact hend
 | succ d ih => exact hstep i (by omega) (ih (i + 1) (by omega) (by omega))
theorem rdL {l : List (List Int)} {k : Nat} (h : k < l.length) : l.drop k = PCheck.rL l k :: l.drop (k + 1) := by
 rw [List.drop_eq_getElem_cons h]; simp [PCheck.rL, List.getD, h]
theorem wneg {x : Int} (h1 : -4611686018427387904 ≤ x) (h2 : x ≤ 4611686018427387904) : wrap64 (-x) = -x := by unfold wrap64; omega
theorem wid {x : Int} (h1 : -4611686018427387904 ≤ x) (h2 : x ≤ 4611686018427387904) : wrap64 x = x := by unfold wrap64; omega
def free (S : List Int) (L : List Int) : Nat := (L.filter fun x => !S.contains x).length
theorem free_le (S : List Int) (o : Int) : ∀ L : List Int, free (o :: S) L ≤ free S L
 | [] => Nat.le_refl _
 | x :: xs => by
  have h := free_le S o xs
  unfold free at h ⊢
  rw [List.filter_cons, List.filter_cons]
  by_cases hx : S.contains x = true
  ·have hx2 : (o :: S).contains x = true := by rw [List.contains_cons, hx]; simp
   simp only [hx, hx2, Bool.not_true, Bool.false_eq_true, if_false]
   exact h
  ·rw [Bool.not_eq_true] at hx
   simp only [hx, Bool.not_false, if_true]
   split
   ·simp only [List.length_cons]; omega
   ·simp only [List.length_cons]; omega
theorem free_lt (S : List Int) (o : Int) (hs : S.contains o = false) : ∀ L : List Int, o ∈ L → free (o :: S) L < free S L
 | x :: xs, hm => by
  have hle := free_le S o xs
  unfold free at hle ⊢
  rw [List.filter_cons, List.filter_cons]
  by_cases he : x = o
  ·subst he
   have hx2 : (x :: S).contains x = true := by simp
   simp only [hs, hx2, Bool.not_true, Bool.not_false, Bool.false_eq_true, if_false, if_true, List.length_cons]
   omega
  ·have hm2 : o ∈ xs := by
    rcases List.mem_cons.1 hm with h | h
    ·exact absurd h.symm he
    ·exact h
   have h := free_lt S o hs xs hm2
   unfold free at h
   have e : (o :: S).contains x = S.contains x := by rw [List.contains_cons]; simp [he]
   rw [e]
   split
   ·simp only [List.length_cons]; omega
   ·exact h
def allF (S l : List Int) : Prop := ∀ y ∈ l, S.contains (wrap64 (-y)) = true
def unitL (S l : List Int) (x : Int) : Prop := x ∈ l ∧ S.contains (wrap64 (-x)) = false ∧ ∀ y ∈ l, y = x ∨ S.contains (wrap64 (-y)) = true
def Sub (S T : List Int) : Prop := ∀ y, S.contains y = true → T.contains y = true
def Good (cls : List (List Int)) (T : List Int) : Prop := ∀ l ∈ cls, ¬ allF T l ∧ ∀ x, unitL T l x → T.contains x = true
theorem good_conf {cls : List (List Int)} {S T l : List Int} (hs : Sub S T) (hg : Good cls T) (hl : l ∈ cls) : ¬ allF S l := fun h => (hg l hl).1 fun y hy => hs _ (h y hy)
theorem good_unit {cls : List (List Int)} {S T l : List Int} {x : Int} (hs : Sub S T) (hg : Good cls T) (hl : l ∈ cls) (hu : unitL S l x) : T.contains x = true := by
 obtain ⟨h1, h2, h3⟩ := hu
 refine (hg l hl).2 x ⟨h1, ?_, fun y hy => ?_⟩
 ·cases hc : T.contains (wrap64 (-x)) with
  | false => rfl
  | true =>
   exact absurd (fun y hy => by
    rcases h3 y hy with rfl | h
    ·exact hc
    ·exact hs _ h) (hg l hl).1
 ·rcases h3 y hy with h | h
  ·exact .inl h
  ·exact .inr (hs _ h)
theorem Sub.cons {S T : List Int} {x : Int} (h : Sub S T) (hx : T.contains x = true) : Sub (x :: S) T := by
 intro y hy
 rw [List.contains_cons, Bool.or_eq_true] at hy
 rcases hy with e | e
 ·have : y = x := by simpa using e
  rw [this]; exact hx
 ·exact h y e
theorem Sub.tail {S T : List Int} {x : Int} (h : Sub (x :: S) T) : Sub S T := fun y hy => h y (by rw [List.contains_cons, hy]; simp)
def tot (cls : List (List Int)) : Nat := (cls.map List.length).sum
def chkL (vars : Int) (cls : List (List Int)) : Int :=
 if vars < 0 then 1 else if vars > 4096 ∨ cls.length > 16384 ∨ tot cls > 65536 then 5 else if cls.any (fun l => l.any (badLit vars)) then 1 else 0
theorem exists_code (x v : Int) : PCheck.cnf_exists.f x v = some (!badLit v x) := by
 unfold PCheck.cnf_exists.f badLit
 by_cases h0 : x = 0
 ·simp [h0]
 by_cases h1 : x ≥ wrap64 (-v)
 ·rw [if_neg h0, if_pos h1]
  have e1 : (x == 0) = false := by simpa using h0
  have e2 : decide (x < wrap64 (-v)) = false := by simpa using h1
  rw [e1, e2]
  by_cases h2 : x ≤ v
  ·have e3 : decide (x > v) = false := by simpa using h2
   rw [e3]; simp [h2]
  ·have e3 : decide (x > v) = true := by simpa using h2
   rw [e3]; simp [h2]
 ·rw [if_neg h0, if_neg h1]
  have e2 : decide (x < wrap64 (-v)) = true := by simpa using h1
  rw [e2]; simp
theorem tot_drop {cls : List (List Int)} {i : Nat} (hi : i < cls.length) : tot (cls.drop i) = (PCheck.rL cls i).length + tot (cls.drop (i + 1)) := by
 rw [rdL hi]; simp [tot]
theorem check_code2 (vars : Int) (cls : List (List Int)) (hc : cls.length ≤ 1000000000) (hl : ∀ l ∈ cls, l.length ≤ 1000000000) {r : Int} (i : Nat) (hi : i < cls.length) (h : Ev (fun k => PCheck.cnf_Check.l1 k cls (cls.length : Int) ((i + 1 : Nat) : Int) vars cls) r) :
  ∀ j : Nat, j ≤ (PCheck.rL cls i).length → Ev (fun k => PCheck.cnf_Check.l2 k cls (cls.length : Int) (i : Int) (PCheck.rL cls i) ((PCheck.rL cls i).length : Int) (j : Int) vars cls) (if ((PCheck.rL cls i).drop j).any (badLit vars) then 1 else r) := by
 have hlen : (PCheck.rL cls i).length ≤ 1000000000 := by
  have e : PCheck.rL cls i = cls[i] := by simp [PCheck.rL, List.getD, hi]
  rw [e]; exact hl _ (List.getElem_mem _)
 refine down ?_ ?_
 ·refine Ev.succ ?_
  simp only [PCheck.cnf_Check.l2]
  refine Ev.neg (by omega) ?_
  rw [List.drop_length, wrap_succ hi (by omega)]
  exact h
 ·intro j hj ih
  refine Ev.succ ?_
  simp only [PCheck.cnf_Check.l2]
  refine Ev.pos (by omega) (Ev.pos (by omega) (Ev.pos (by omega) ?_))
  rw [exists_code, drop_rd hj, wrap_succ hj (by omega)]
  rw [List.any_cons]
  simp only [Option.bind_some]
  by_cases hb : badLit vars (rd (PCheck.rL cls i) j) = true
  ·rw [hb]
   exact Ev.neg (by simp) (Ev.pureOf (by simp))
  ·rw [Bool.not_eq_true] at hb
   rw [hb]
   refine Ev.pos (by simp) ?_
   rw [Bool.false_or]
   exact ih
theorem check_code1 (vars : Int) (cls : List (List Int)) (hc : cls.length ≤ 1000000000) (hl : ∀ l ∈ cls, l.length ≤ 1000000000) : ∀ i : Nat, i ≤ cls.length → Ev (fun k => PCheck.cnf_Check.l1 k cls (cls.length : Int) (i : Int) vars cls) (if (cls.drop i).any (fun l => l.any (badLit vars)) then 1 else 0) := by
 refine down ?_ ?_
 ·refine Ev.succ ?_
  simp only [PCheck.cnf_Check.l1]
  rw [List.drop_length]
  exact Ev.neg (by omega) (Ev.pure _)
 ·intro i hi ih
  refine Ev.succ ?_
  simp only [PCheck.cnf_Check.l1]
  refine Ev.pos (by omega) (Ev.pos (by omega) (Ev.pos (by omega) ?_))
  have h2 := check_code2 vars cls hc hl i hi ih 0 (Nat.zero_le _)
  rw [rdL hi, List.any_cons]
  rw [List.drop_zero] at h2
  have e : PCheck.rL cls i = PCheck.rL cls i := rfl
  rw [e]
  by_cases hb : ((PCheck.rL cls i).any (badLit vars)) = true
  ·rw [hb] at h2 ⊢; exact h2
  ·rw [Bool.not_eq_true] at hb
   rw [hb] at h2 ⊢
   rw [Bool.false_or]
   exact h2
theorem check_code (vars : Int) (cls : List (List Int)) (hc : cls.length ≤ 1000000000) (ht : tot cls ≤ 1000000000) (hl : ∀ l ∈ cls, l.length ≤ 1000000000) : Ev (fun k => PCheck.cnf_Check.f k vars cls) (chkL vars cls) := by
 unfold chkL PCheck.cnf_Check.f
 by_cases h0 : vars < 0
 ·rw [if_pos h0]; exact Ev.pos h0 (Ev.pure _)
 rw [if_neg h0]
 refine Ev.neg h0 ?_
 have key : ∀ i : Nat, i ≤ cls.length → ∀ s : Nat, s + tot (cls.drop i) = tot cls → Ev (fun k => PCheck.cnf_Check.l0 k (s : Int) cls (cls.length : Int) (i : Int) vars cls) (if vars > 4096 ∨ cls.length > 16384 ∨ tot cls > 65536 then 5 else if cls.any (fun l => l.any (badLit vars)) then 1 else 0) := by
  refine down ?_ ?_
  ·intro s hs
   have hs' : s = tot cls := by rw [List.drop_length] at hs; simpa [tot] using hs
   refine Ev.succ ?_
   simp only [PCheck.cnf_Check.l0]
   refine Ev.neg (by omega) ?_
   have h5 : ∀ x37 : Bool, (x37 = true → (vars > 4096 ∨ cls.length > 16384 ∨ tot cls > 65536)) → (x37 = false → ¬ (vars > 4096 ∨ cls.length > 16384 ∨ tot cls > 65536)) → Ev (fun k => PCheck.cnf_Check.j1 k x37 vars cls) (if vars > 4096 ∨ cls.length > 16384 ∨ tot cls > 65536 then 5 else if cls.any (fun l => l.any (badLit vars)) then 1 else 0) := by
    intro b hb1 hb2
    refine Ev.succ ?_
    simp only [PCheck.cnf_Check.j1]
    cases b with
    | true => rw [if_pos (hb1 rfl)]; exact Ev.pos rfl (Ev.pure _)
    | false =>
     rw [if_neg (hb2 rfl)]
     exact Ev.neg (by simp) (by have := check_code1 vars cls hc hl 0 (Nat.zero_le _); rwa [List.drop_zero] at this)
   by_cases c1 : vars > 4096
   ·exact Ev.pos c1 (h5 true (fun _ => .inl c1) (fun h => by cases h))
   refine Ev.neg c1 ?_
   by_cases c2 : (cls.length : Int) > 16384
   ·exact Ev.pos c2 (h5 true (fun _ => .inr (.inl (by omega))) (fun h => by cases h))
   refine Ev.neg c2 ?_
   refine h5 _ (fun h => ?_) (fun h => ?_)
   ·have := of_decide_eq_true h; omega
   ·have := of_decide_eq_false h; omega
  ·intro i hi ih s hs
   rw [tot_drop hi] at hs
   refine Ev.succ ?_
   simp only [PCheck.cnf_Check.l0]
   refine Ev.pos (by omega) (Ev.pos (by omega) (Ev.pos (by omega) ?_))
   have e : wrap64 ((s : Int) + ((PCheck.rL cls i).length : Int)) = ((s + (PCheck.rL cls i).length : Nat) : Int) := by rw [wid (by have e : PCheck.rL cls i = PCheck.rL cls i := rfl; rw [e]; omega) (by have e : PCheck.rL cls i = PCheck.rL cls i := rfl; rw [e]; omega)]; have e : PCheck.rL cls i = PCheck.rL cls i := rfl; rw [e]; omega
   rw [e, wrap_succ hi (by omega)]
   exact ih _ (by omega)
 exact key 0 (Nat.zero_le _) 0 (by rw [List.drop_zero]; omega)
theorem len_tot {cls : List (List Int)} {l : List Int} (h : l ∈ cls) : l.length ≤ tot cls := by
 induction cls with
 | nil => cases h
 | cons x xs ih =>
  simp only [tot, List.map_cons, List.sum_cons] at ih ⊢
  rcases List.mem_cons.1 h with rfl | h
  ·omega
  ·have := ih h; omega
def fewL (most : Nat) (cls : List (List Int)) : List (List Int) := (cls.take most).map fun l => l.take 12
theorem fewL_len (most : Nat) (cls : List (List Int)) : (fewL most cls).length ≤ most := by simp [fewL]; omega
def LitOk (n : Nat) (x : Int) : Prop := x ≠ 0 ∧ -(n : Int) ≤ x ∧ x ≤ n
def Fine (n : Nat) (cls : List (List Int)) : Prop := cls.length ≤ 40 ∧ ∀ l ∈ cls, l.length ≤ 12 ∧ ∀ x ∈ l, LitOk n x
theorem tot_le (b : Nat) : ∀ cls : List (List Int), (∀ l ∈ cls, l.length ≤ b) → tot cls ≤ b * cls.length
 | [], _ => by simp [tot]
 | x :: xs, h => by
  have h1 := h x List.mem_cons_self
  have h2 := tot_le b xs (fun l hl => h l (List.mem_cons_of_mem _ hl))
  simp only [tot, List.map_cons, List.sum_cons, List.length_cons, Nat.mul_add] at h2 ⊢
  omega
theorem Fine.tot {n : Nat} {cls : List (List Int)} (h : Fine n cls) : tot cls ≤ 480 := by
 have := tot_le 12 cls (fun l hl => (h.2 l hl).1)
 have := h.1
 omega
theorem badLit_ok {n : Nat} (hn : n ≤ 100000) {x : Int} (h : LitOk n x) : badLit n x = false := by
 obtain ⟨h0, h1, h2⟩ := h
 unfold badLit
 rw [wneg (by omega) (by omega)]
 simp only [Bool.or_eq_false_iff, beq_eq_false_iff_ne, decide_eq_false_iff_not]
 exact ⟨⟨h0, by omega⟩, by omega⟩
theorem any_ok {n : Nat} (hn : n ≤ 100000) {l : List Int} (h : ∀ x ∈ l, LitOk n x) : l.any (badLit n) = false := by
 rw [List.any_eq_false]
 intro x hx
 rw [badLit_ok hn (h x hx)]; simp
theorem bring_ok (a : Int) {m : Int} (h1 : 1 ≤ m) (h2 : m ≤ 1000000000) : ∃ t, PFit.nBr.f a m = some t ∧ 0 ≤ t ∧ t < m := by
 unfold PFit.nBr.f
 rw [if_neg (by omega)]
 refine ⟨_, rfl, ?_⟩
 have ha1 : -m < a.tmod m := by
  have := Int.lt_tmod_of_pos a (show 0 < m by omega)
  exact this
 have ha2 : a.tmod m < m := Int.tmod_lt_of_pos a (by omega)
 rw [wid (by omega) (by omega)]
 exact ⟨Int.tmod_nonneg _ (by omega), Int.tmod_lt_of_pos _ (by omega)⟩
theorem rdFI {l : List (List Int)} {k : Nat} (h : k < l.length) : PFit.rL l k = l[k] := by simp [PFit.rL, List.getD, h]
theorem fewF_ev (most : Nat) (hm : most ≤ 100000) (vars : Int) (cls : List (List Int)) : Ev (fun k => PFit.nfC.f k vars cls (most : Int)) (vars, fewL most cls) := by
 have key : ∀ i : Nat, i ≤ min most cls.length → Ev (fun k => PFit.nfC.l0 k (most : Int) (i : Int) vars cls vars ((cls.take i).map fun l => l.take 12)) (vars, fewL most cls) := by
  refine down ?_ ?_
  ·refine Ev.succ ?_
   simp only [PFit.nfC.l0]
   have e : (cls.take (min most cls.length)).map (fun l => l.take 12) = fewL most cls := by
    unfold fewL
    congr 1
    rw [List.take_eq_take_iff]
    omega
   rw [e]
   by_cases h : most < cls.length
   ·exact Ev.pos (by omega) (Ev.neg (by omega) (Ev.pure _))
   ·exact Ev.neg (by omega) (Ev.pure _)
  ·intro i hi ih
   refine Ev.succ ?_
   simp only [PFit.nfC.l0]
   have hic : i < cls.length := by omega
   rw [rdFI hic, wrap_succ (n := 100000) (by omega) (by omega)]
   have hmn : mn ((cls[i].length : Nat) : Int) 12 = ((min cls[i].length 12 : Nat) : Int) := by unfold mn; split <;> omega
   rw [hmn]
   refine Ev.pos (by omega) (Ev.pos (by omega) (Ev.pos (by omega) (Ev.pos (by omega) (Ev.pos (by omega) (Ev.pos (by simp; omega) (Ev.pos (by simp; omega) ?_))))))
   have e : (cls.take i).map (fun l => l.take 12) ++ [([] : List Int) ++ cls[i].take ((min cls[i].length 12 : Nat) : Int).toNat] = (cls.take (i + 1)).map (fun l => l.take 12) := by
    rw [List.take_succ_eq_append_getElem hic, List.map_append]
    congr 1
    simp only [List.map_cons, List.map_nil, List.nil_append, Int.toNat_natCast]
    congr 1
    rw [List.take_eq_take_iff]
    omega
   rw [e]
   exact ih
 exact key 0 (Nat.zero_le _)
structure InvF (n len i j : Nat) (L : List (List Int)) : Prop where
 len : L.length = len
 short : ∀ (m : Nat) l, L[m]? = some l → l.length ≤ 12
 done : ∀ (m : Nat) l, m < i → L[m]? = some l → ∀ x ∈ l, LitOk n x
 part : ∀ l, L[i]? = some l → ∀ (q : Nat) x, q < j → l[q]? = some x → LitOk n x
theorem rdFS {L : List (List Int)} {i : Nat} (hi : i < L.length) : L[i]? = some (PFit.rL L (i : Int)) := by
 rw [rdFI hi, List.getElem?_eq_getElem hi]
theorem InvF.next {n len i j : Nat} {L : List (List Int)} (h : InvF n len i j L) (hi : i < len) (hj : j = (PFit.rL L (i : Int)).length) : InvF n len (i + 1) 0 L := by
 refine ⟨h.len, h.short, fun m l hm hl x hx => ?_, fun _ _ _ _ hq => absurd hq (Nat.not_lt_zero _)⟩
 by_cases e : m = i
 ·subst e
  have hr := rdFS (L := L) (i := m) (by rw [h.len]; exact hi)
  rw [hr] at hl
  cases hl
  obtain ⟨q, hq, he⟩ := List.getElem_of_mem hx
  exact h.part _ hr q x (by omega) (by rw [List.getElem?_eq_getElem hq, he])
 ·exact h.done m l (by omega) hl x hx
theorem InvF.gone {n len i j : Nat} {L : List (List Int)} (h : InvF n len i j L) (hi : i < len) : InvF n len (i + 1) 0 (L.set i []) := by
 refine ⟨by simp [h.len], fun m l hl => ?_, fun m l hm hl x hx => ?_, fun _ _ _ _ hq => absurd hq (Nat.not_lt_zero _)⟩
 ·rw [List.getElem?_set] at hl
  split at hl
  ·split at hl
   ·cases hl; simp
   ·cases hl
  ·exact h.short m l hl
 ·rw [List.getElem?_set] at hl
  split at hl
  ·split at hl
   ·cases hl; cases hx
   ·cases hl
  ·rename_i hne; exact h.done m l (by omega) hl x hx
theorem InvF.put {n len i j : Nat} {L : List (List Int)} (h : InvF n len i j L) (hi : i < len) (hj : j < (PFit.rL L (i : Int)).length) {x : Int} (hx : LitOk n x) : InvF n len i (j + 1) (L.set i ((PFit.rL L (i : Int)).set j x)) := by
 have hL : i < L.length := by rw [h.len]; exact hi
 have hr := rdFS hL
 refine ⟨by simp [h.len], fun m l hl => ?_, fun m l hm hl y hy => ?_, fun l hl q y hq hy => ?_⟩
 ·rw [List.getElem?_set] at hl
  split at hl
  ·rename_i hm
   cases hl
   rw [List.length_set]
   exact h.short i _ hr
  ·exact h.short m l hl
 ·rw [List.getElem?_set] at hl
  split at hl
  ·omega
  ·exact h.done m l hm hl y hy
 ·rw [List.getElem?_set, if_pos rfl, if_pos hL] at hl
  cases hl
  rw [List.getElem?_set] at hy
  split at hy
  ·rename_i hm
   cases hy; exact hx
  ·exact h.part _ hr q y (by omega) hy
theorem InvF.less {n len i j j' : Nat} {L : List (List Int)} (h : InvF n len i j L) (hj : j' ≤ j) : InvF n len i j' L := ⟨h.len, h.short, h.done, fun l hl q x hq hx => h.part l hl q x (by omega) hx⟩
theorem rd_put {L : List (List Int)} {i : Nat} (hi : i < L.length) (l : List Int) : PFit.rL (L.set i l) (i : Int) = l := by
 have h := rdFS (L := L.set i l) (i := i) (by simpa using hi)
 rw [List.getElem?_set, if_pos rfl, if_pos hi] at h
 exact (Option.some.inj h).symm
theorem lit_pos {n : Nat} (hn : n ≤ 100000) {t : Int} (h0 : 0 ≤ t) (h1 : t < 2 * n) : wrap64 (wrap64 (Int.tdiv t 2) + 1) = t / 2 + 1 ∧ LitOk n (t / 2 + 1) := by
 have e : Int.tdiv t 2 = t / 2 := Int.tdiv_eq_ediv_of_nonneg h0
 rw [e, wid (x := t / 2) (by omega) (by omega), wid (by omega) (by omega)]
 exact ⟨rfl, by omega, by omega, by omega⟩
theorem lit_neg {n : Nat} (hn : n ≤ 100000) {t : Int} (h0 : 0 ≤ t) (h1 : t < 2 * n) : wrap64 (-(wrap64 (wrap64 (Int.tdiv t 2) + 1))) = -(t / 2 + 1) ∧ LitOk n (-(t / 2 + 1)) := by
 obtain ⟨e, h2⟩ := lit_pos hn h0 h1
 rw [e, wneg (by omega) (by omega)]
 exact ⟨rfl, by omega, by omega, by omega⟩
theorem fit_inner {n : Nat} (hn : n ≤ 100000) {len : Nat} (hlen : len ≤ 100000) (i : Nat) (hi : i < len)
  (IH : ∀ L, InvF n len (i + 1) 0 L → ∃ r, Ev (fun k => PFit.nFt.l0 k ((i + 1 : Nat) : Int) n L) ((n : Int), r) ∧ InvF n len len 0 r) :
  ∀ (d j : Nat) (L : List (List Int)), InvF n len i j L → j ≤ (PFit.rL L (i : Int)).length → d = (PFit.rL L (i : Int)).length - j → ∃ r, Ev (fun k => PFit.nFt.l1 k (i : Int) (j : Int) n L) ((n : Int), r) ∧ InvF n len len 0 r := by
 have hw : wrap64 ((i : Int) + 1) = ((i + 1 : Nat) : Int) := wrap_succ hi (by omega)
 intro d
 induction d with
 | zero =>
  intro j L h hj hd
  obtain ⟨r, hr, hf⟩ := IH L (h.next hi (by omega))
  refine ⟨r, Ev.succ ?_, hf⟩
  simp only [PFit.nFt.l1]
  have hL := h.len
  refine Ev.pos (by omega) (Ev.pos (by omega) (Ev.neg (by omega) ?_))
  rw [hw]
  exact hr
 | succ d ih =>
  intro j L h hj hd
  have hL : i < L.length := by rw [h.len]; exact hi
  have hlt : j < (PFit.rL L (i : Int)).length := by omega
  by_cases hn0 : n = 0
  ·subst hn0
   obtain ⟨r, hr, hf⟩ := IH _ (h.gone hi)
   refine ⟨r, Ev.succ ?_, hf⟩
   simp only [PFit.nFt.l1]
   refine Ev.pos (by omega) (Ev.pos (by omega) (Ev.pos (by omega) (Ev.pos rfl ?_)))
   rw [hw, Int.toNat_natCast]
   exact hr
  ·have hm : wrap64 (2 * (n : Int)) = 2 * (n : Int) := wid (by omega) (by omega)
   obtain ⟨t, ht, ht0, ht1⟩ := bring_ok (rd (PFit.rL L (i : Int)) (j : Int)) (m := 2 * (n : Int)) (by omega) (by omega)
   obtain ⟨ep, hp⟩ := lit_pos hn ht0 ht1
   obtain ⟨en, hng⟩ := lit_neg hn ht0 ht1
   have hwj : wrap64 ((j : Int) + 1) = ((j + 1 : Nat) : Int) := wrap_succ (n := 13) (by have := h.short i _ (rdFS hL); omega) (by omega)
   have AM := Az.mk hm
   have AP := Az.mk ep
   have AN := Az.mk en
   have AJ := Az.mk hwj
   clear hm ep en hwj hw
   have h1 := h.put hi hlt hp
   have e1 : PFit.rL (L.set i ((PFit.rL L (i : Int)).set j (t / 2 + 1))) (i : Int) = (PFit.rL L (i : Int)).set j (t / 2 + 1) := rd_put hL _
   have hbody : ∀ r, Ev (fun k => if Int.tmod t 2 = 1 then (if (j : Int) < ((PFit.rL (L.set i ((PFit.rL L (i : Int)).set j (t / 2 + 1))) (i : Int)).length : Int) then PFit.nFt.l1 k (i : Int) ((j + 1 : Nat) : Int) n ((L.set i ((PFit.rL L (i : Int)).set j (t / 2 + 1))).set i ((PFit.rL (L.set i ((PFit.rL L (i : Int)).set j (t / 2 + 1))) (i : Int)).set j (-(t / 2 + 1)))) else none) else PFit.nFt.l1 k (i : Int) ((j + 1 : Nat) : Int) n (L.set i ((PFit.rL L (i : Int)).set j (t / 2 + 1)))) r → Ev (fun k => PFit.nFt.l1 k (i : Int) (j : Int) n L) r := by
    intro r hr
    refine Ev.succ ?_
    simp only [PFit.nFt.l1]
    refine Ev.pos (by omega) (Ev.pos (by omega) (Ev.pos (by omega) (Ev.neg (by omega) (Ev.pos (by omega) ?_))))
    rw [AM.out, ht]
    simp only [Option.bind_some, Int.toNat_natCast]
    rw [AJ.out, AN.out, AP.out]
    exact hr
   have hYL : (L.set i ((PFit.rL L (i : Int)).set j (t / 2 + 1))).length = L.length := by simp
   have hY1 : (PFit.rL (L.set i ((PFit.rL L (i : Int)).set j (t / 2 + 1))) (i : Int)).length = (PFit.rL L (i : Int)).length := by rw [e1, List.length_set]
   clear e1
   generalize L.set i ((PFit.rL L (i : Int)).set j (t / 2 + 1)) = Y at h1 hbody hYL hY1
   by_cases ho : Int.tmod t 2 = 1
   ·have h2 := (h1.less (Nat.le_succ j)).put hi (j := j) (by omega) hng
    have e2 : (PFit.rL (Y.set i ((PFit.rL Y (i : Int)).set j (-(t / 2 + 1)))) (i : Int)).length = (PFit.rL Y (i : Int)).length := by rw [rd_put (by omega), List.length_set]
    obtain ⟨r, hr, hf⟩ := ih (j + 1) _ h2 (by omega) (by omega)
    exact ⟨r, hbody _ (Ev.pos ho (Ev.pos (by omega) hr)), hf⟩
   ·obtain ⟨r, hr, hf⟩ := ih (j + 1) _ h1 (by omega) (by omega)
    exact ⟨r, hbody _ (Ev.neg ho hr), hf⟩
theorem fit_outer {n : Nat} (hn : n ≤ 100000) {len : Nat} (hlen : len ≤ 100000) : ∀ i : Nat, i ≤ len → ∀ L, InvF n len i 0 L → ∃ r, Ev (fun k => PFit.nFt.l0 k (i : Int) n L) ((n : Int), r) ∧ InvF n len len 0 r := by
 refine down ?_ ?_
 ·intro L h
  refine ⟨L, Ev.succ ?_, h⟩
  simp only [PFit.nFt.l0]
  have := h.len
  exact Ev.neg (by omega) (Ev.pure _)
 ·intro i hi ih L h
  obtain ⟨r, hr, hf⟩ := fit_inner hn hlen i hi ih _ 0 L h (Nat.zero_le _) rfl
  refine ⟨r, Ev.succ ?_, hf⟩
  simp only [PFit.nFt.l0]
  have := h.len
  exact Ev.pos (by omega) hr
theorem fit_ev (b most : Nat) (hb : b ≤ 100000) (hm : most ≤ 100000) (vars : Int) (cls : List (List Int)) :
  ∃ (n : Nat) (L : List (List Int)), n ≤ b ∧ L.length ≤ most ∧ (∀ l ∈ L, l.length ≤ 12 ∧ ∀ x ∈ l, LitOk n x) ∧ Ev (fun k => PFit.nFt.f k vars cls (b : Int) (most : Int)) ((n : Int), L) := by
 obtain ⟨t, ht, ht0, ht1⟩ := bring_ok vars (m := (b : Int) + 1) (by omega) (by omega)
 obtain ⟨n, rfl⟩ := Int.eq_ofNat_of_zero_le ht0
 have hstart : InvF n (fewL most cls).length 0 0 (fewL most cls) := by
  refine ⟨rfl, fun m l hl => ?_, fun _ _ h => absurd h (Nat.not_lt_zero _), fun _ _ _ _ h => absurd h (Nat.not_lt_zero _)⟩
  have hmem := List.mem_of_getElem? hl
  simp only [fewL, List.mem_map] at hmem
  obtain ⟨a, _, rfl⟩ := hmem
  simp; omega
 have hfl := fewL_len most cls
 obtain ⟨r, hr, hf⟩ := fit_outer (n := n) (by omega) (len := (fewL most cls).length) (by omega) 0 (Nat.zero_le _) _ hstart
 refine ⟨n, r, by omega, by rw [hf.len]; exact hfl, fun l hl => ?_, ?_⟩
 ·obtain ⟨m, hm, rfl⟩ := List.getElem_of_mem hl
  have e := List.getElem?_eq_getElem hm
  exact ⟨hf.short m _ e, fun x hx => hf.done m _ (by rw [← hf.len]; exact hm) e x hx⟩
 ·simp only [PFit.nFt.f]
  refine Ev.bind (fewF_ev most hm vars cls) ?_
  have e : wrap64 ((b : Int) + 1) = (b : Int) + 1 := wid (by omega) (by omega)
  rw [e, ht]
  simp only [Option.bind_some]
  exact hr
end Go.Proofs.YtkcfdddhnboieaaGreatDoor.NPlain
end
section
set_option maxRecDepth 100000
namespace Go.Proofs.YtkcfdddhnboieaaGreatDoor.NState
open Go Go.RowKit Go.Shelf QW.PrintWords QW.PrintLast QW.PrintMore NMap
theorem rows_of1 {W : World} {v1 : Value} {l1 : List Int} (h1 : (SpG.ints l1).p W v1) : Kd.C (Kd.slice 3 (Kd.int .i64)) (W.alloc (.cells #[v1] 26)) (some ⟨W.heap.size, 0, none⟩) 1 [l1] := by
 obtain ⟨A1, c1, rfl, m1, q1⟩ := h1
 exact C_lit (Kd.slice 3 (Kd.int .i64)) W 26 [l1] _ (Reps.snoc (p := l1) (c := [.slice A1 l1.length c1]) (Reps.none ((Kd.slice 3 (Kd.int .i64)).K W) 1) ⟨A1, c1, rfl, m1, q1⟩ rfl) (by simp)
theorem lit1 (w : World) (l1 : List Int) {cs1 : Array Value} (e1 : cs1 = (encs (Value.int .i64) l1).toArray) (m1 : l1.length ≤ 1000000) : Kd.C (Kd.slice 3 (Kd.int .i64)) ((w.alloc (.cells cs1 3)).alloc (.cells #[.slice (some ⟨w.heap.size, 0, none⟩) l1.length l1.length] 26)) (some ⟨w.heap.size + 1, 0, none⟩) 1 [l1] ∧ Below w.heap.size w ((w.alloc (.cells cs1 3)).alloc (.cells #[.slice (some ⟨w.heap.size, 0, none⟩) l1.length l1.length] 26)) := by
 have h1 := ints_lit w l1 cs1 e1 m1
 (try simp only [World.size_alloc] at h1)
 have h := rows_of1 h1
 (try simp only [World.size_alloc] at h)
 exact ⟨h, ((below_new w _).alloc (by simp only [World.size_alloc]; omega) _)⟩
theorem rows_of2 {W : World} {v1 v2 : Value} {l1 l2 : List Int} (h1 : (SpG.ints l1).p W v1) (h2 : (SpG.ints l2).p W v2) : Kd.C (Kd.slice 3 (Kd.int .i64)) (W.alloc (.cells #[v1, v2] 26)) (some ⟨W.heap.size, 0, none⟩) 2 [l1, l2] := by
 obtain ⟨A1, c1, rfl, m1, q1⟩ := h1
 obtain ⟨A2, c2, rfl, m2, q2⟩ := h2
 exact C_lit (Kd.slice 3 (Kd.int .i64)) W 26 [l1, l2] _ (Reps.snoc (p := l2) (c := [.slice A2 l2.length c2]) (Reps.snoc (p := l1) (c := [.slice A1 l1.length c1]) (Reps.none ((Kd.slice 3 (Kd.int .i64)).K W) 1) ⟨A1, c1, rfl, m1, q1⟩ rfl) ⟨A2, c2, rfl, m2, q2⟩ rfl) (by simp)
theorem lit2 (w : World) (l1 l2 : List Int) {cs1 cs2 : Array Value} (e1 : cs1 = (encs (Value.int .i64) l1).toArray) (m1 : l1.length ≤ 1000000) (e2 : cs2 = (encs (Value.int .i64) l2).toArray) (m2 : l2.length ≤ 1000000) : Kd.C (Kd.slice 3 (Kd.int .i64)) (((w.alloc (.cells cs1 3)).alloc (.cells cs2 3)).alloc (.cells #[.slice (some ⟨w.heap.size, 0, none⟩) l1.length l1.length, .slice (some ⟨w.heap.size + 1, 0, none⟩) l2.length l2.length] 26)) (some ⟨w.heap.size + 1 + 1, 0, none⟩) 2 [l1, l2] ∧ Below w.heap.size w (((w.alloc (.cells cs1 3)).alloc (.cells cs2 3)).alloc (.cells #[.slice (some ⟨w.heap.size, 0, none⟩) l1.length l1.length, .slice (some ⟨w.heap.size + 1, 0, none⟩) l2.length l2.length] 26)) := by
 have h1 := ints_lit w l1 cs1 e1 m1
 replace h1 := (SpG.ints l1).st h1 (below_new _ (.cells cs2 3))
 have h2 := ints_lit (w.alloc (.cells cs1 3)) l2 cs2 e2 m2
 (try simp only [World.size_alloc] at h1 h2)
 have h := rows_of2 h1 h2
 (try simp only [World.size_alloc] at h)
 exact ⟨h, (((below_new w _).alloc (by simp only [World.size_alloc]; omega) _).alloc (by simp only [World.size_alloc]; omega) _)⟩
theorem rows_of3 {W : World} {v1 v2 v3 : Value} {l1 l2 l3 : List Int} (h1 : (SpG.ints l1).p W v1) (h2 : (SpG.ints l2).p W v2) (h3 : (SpG.ints l3).p W v3) : Kd.C (Kd.slice 3 (Kd.int .i64)) (W.alloc (.cells #[v1, v2, v3] 26)) (some ⟨W.heap.size, 0, none⟩) 3 [l1, l2, l3] := by
 obtain ⟨A1, c1, rfl, m1, q1⟩ := h1
 obtain ⟨A2, c2, rfl, m2, q2⟩ := h2
 obtain ⟨A3, c3, rfl, m3, q3⟩ := h3
 exact C_lit (Kd.slice 3 (Kd.int .i64)) W 26 [l1, l2, l3] _ (Reps.snoc (p := l3) (c := [.slice A3 l3.length c3]) (Reps.snoc (p := l2) (c := [.slice A2 l2.length c2]) (Reps.snoc (p := l1) (c := [.slice A1 l1.length c1]) (Reps.none ((Kd.slice 3 (Kd.int .i64)).K W) 1) ⟨A1, c1, rfl, m1, q1⟩ rfl) ⟨A2, c2, rfl, m2, q2⟩ rfl) ⟨A3, c3, rfl, m3, q3⟩ rfl) (by simp)
theorem lit3 (w : World) (l1 l2 l3 : List Int) {cs1 cs2 cs3 : Array Value} (e1 : cs1 = (encs (Value.int .i64) l1).toArray) (m1 : l1.length ≤ 1000000) (e2 : cs2 = (encs (Value.int .i64) l2).toArray) (m2 : l2.length ≤ 1000000) (e3 : cs3 = (encs (Value.int .i64) l3).toArray) (m3 : l3.length ≤ 1000000) : Kd.C (Kd.slice 3 (Kd.int .i64)) ((((w.alloc (.cells cs1 3)).alloc (.cells cs2 3)).alloc (.cells cs3 3)).alloc (.cells #[.slice (some ⟨w.heap.size, 0, none⟩) l1.length l1.length, .slice (some ⟨w.heap.size + 1, 0, none⟩) l2.length l2.length, .slice (some ⟨w.heap.size + 1 + 1, 0, none⟩) l3.length l3.length] 26)) (some ⟨w.heap.size + 1 + 1 + 1, 0, none⟩) 3 [l1, l2, l3] ∧ Below w.heap.size w ((((w.alloc (.cells cs1 3)).alloc (.cells cs2 3)).alloc (.cells cs3 3)).alloc (.cells #[.slice (some ⟨w.heap.size, 0, none⟩) l1.length l1.length, .slice (some ⟨w.heap.size + 1, 0, none⟩) l2.length l2.length, .slice (some ⟨w.heap.size + 1 + 1, 0, none⟩) l3.length l3.length] 26)) := by
 have h1 := ints_lit w l1 cs1 e1 m1
 replace h1 := (SpG.ints l1).st h1 (below_new _ (.cells cs2 3))
 replace h1 := (SpG.ints l1).st h1 (below_new _ (.cells cs3 3))
 have h2 := ints_lit (w.alloc (.cells cs1 3)) l2 cs2 e2 m2
 replace h2 := (SpG.ints l2).st h2 (below_new _ (.cells cs3 3))
 have h3 := ints_lit ((w.alloc (.cells cs1 3)).alloc (.cells cs2 3)) l3 cs3 e3 m3
 (try simp only [World.size_alloc] at h1 h2 h3)
 have h := rows_of3 h1 h2 h3
 (try simp only [World.size_alloc] at h)
 exact ⟨h, ((((below_new w _).alloc (by simp only [World.size_alloc]; omega) _).alloc (by simp only [World.size_alloc]; omega) _).alloc (by simp only [World.size_alloc]; omega) _)⟩
theorem rows_of4 {W : World} {v1 v2 v3 v4 : Value} {l1 l2 l3 l4 : List Int} (h1 : (SpG.ints l1).p W v1) (h2 : (SpG.ints l2).p W v2) (h3 : (SpG.ints l3).p W v3) (h4 : (SpG.ints l4).p W v4) : Kd.C (Kd.slice 3 (Kd.int .i64)) (W.alloc (.cells #[v1, v2, v3, v4] 26)) (some ⟨W.heap.size, 0, none⟩) 4 [l1, l2, l3, l4] := by
 obtain ⟨A1, c1, rfl, m1, q1⟩ := h1
 obtain ⟨A2, c2, rfl, m2, q2⟩ := h2
 obtain ⟨A3, c3, rfl, m3, q3⟩ := h3
 obtain ⟨A4, c4, rfl, m4, q4⟩ := h4
 exact C_lit (Kd.slice 3 (Kd.int .i64)) W 26 [l1, l2, l3, l4] _ (Reps.snoc (p := l4) (c := [.slice A4 l4.length c4]) (Reps.snoc (p := l3) (c := [.slice A3 l3.length c3]) (Reps.snoc (p := l2) (c := [.slice A2 l2.length c2]) (Reps.snoc (p := l1) (c := [.slice A1 l1.length c1]) (Reps.none ((Kd.slice 3 (Kd.int .i64)).K W) 1) ⟨A1, c1, rfl, m1, q1⟩ rfl) ⟨A2, c2, rfl, m2, q2⟩ rfl) ⟨A3, c3, rfl, m3, q3⟩ rfl) ⟨A4, c4, rfl, m4, q4⟩ rfl) (by simp)
theorem lit4 (w : World) (l1 l2 l3 l4 : List Int) {cs1 cs2 cs3 cs4 : Array Value} (e1 : cs1 = (encs (Value.int .i64) l1).toArray) (m1 : l1.length ≤ 1000000) (e2 : cs2 = (encs (Value.int .i64) l2).toArray) (m2 : l2.length ≤ 1000000) (e3 : cs3 = (encs (Value.int .i64) l3).toArray) (m3 : l3.length ≤ 1000000) (e4 : cs4 = (encs (Value.int .i64) l4).toArray) (m4 : l4.length ≤ 1000000) : Kd.C (Kd.slice 3 (Kd.int .i64)) (((((w.alloc (.cells cs1 3)).alloc (.cells cs2 3)).alloc (.cells cs3 3)).alloc (.cells cs4 3)).alloc (.cells #[.slice (some ⟨w.heap.size, 0, none⟩) l1.length l1.length, .slice (some ⟨w.heap.size + 1, 0, none⟩) l2.length l2.length, .slice (some ⟨w.heap.size + 1 + 1, 0, none⟩) l3.length l3.length, .slice (some ⟨w.heap.size + 1 + 1 + 1, 0, none⟩) l4.length l4.length] 26)) (some ⟨w.heap.size + 1 + 1 + 1 + 1, 0, none⟩) 4 [l1, l2, l3, l4] ∧ Below w.heap.size w (((((w.alloc (.cells cs1 3)).alloc (.cells cs2 3)).alloc (.cells cs3 3)).alloc (.cells cs4 3)).alloc (.cells #[.slice (some ⟨w.heap.size, 0, none⟩) l1.length l1.length, .slice (some ⟨w.heap.size + 1, 0, none⟩) l2.length l2.length, .slice (some ⟨w.heap.size + 1 + 1, 0, none⟩) l3.length l3.length, .slice (some ⟨w.heap.size + 1 + 1 + 1, 0, none⟩) l4.length l4.length] 26)) := by
 have h1 := ints_lit w l1 cs1 e1 m1
 replace h1 := (SpG.ints l1).st h1 (below_new _ (.cells cs2 3))
 replace h1 := (SpG.ints l1).st h1 (below_new _ (.cells cs3 3))
 replace h1 := (SpG.ints l1).st h1 (below_new _ (.cells cs4 3))
 have h2 := ints_lit (w.alloc (.cells cs1 3)) l2 cs2 e2 m2
 replace h2 := (SpG.ints l2).st h2 (below_new _ (.cells cs3 3))
 replace h2 := (SpG.ints l2).st h2 (below_new _ (.cells cs4 3))
 have h3 := ints_lit ((w.alloc (.cells cs1 3)).alloc (.cells cs2 3)) l3 cs3 e3 m3
 replace h3 := (SpG.ints l3).st h3 (below_new _ (.cells cs4 3))
 have h4 := ints_lit (((w.alloc (.cells cs1 3)).alloc (.cells cs2 3)).alloc (.cells cs3 3)) l4 cs4 e4 m4
 (try simp only [World.size_alloc] at h1 h2 h3 h4)
 have h := rows_of4 h1 h2 h3 h4
 (try simp only [World.size_alloc] at h)
 exact ⟨h, (((((below_new w _).alloc (by simp only [World.size_alloc]; omega) _).alloc (by simp only [World.size_alloc]; omega) _).alloc (by simp only [World.size_alloc]; omega) _).alloc (by simp only [World.size_alloc]; omega) _)⟩
end Go.Proofs.YtkcfdddhnboieaaGreatDoor.NState
end
