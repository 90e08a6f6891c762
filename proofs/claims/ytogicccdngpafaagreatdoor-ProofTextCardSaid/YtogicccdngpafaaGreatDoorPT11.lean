/-
  Part 11 of the proof of proofText_card: walks and lemmas, packed by the session's own wip/pack.py out of its texts and of what the kit's print.sh printed.
-/
import Derived.Test.YtogicccdngpafaaGreatDoorPT10
import Derived.StillTailTactics
set_option linter.unusedVariables false
set_option linter.unusedSimpArgs false
section
set_option maxHeartbeats 4000000
set_option maxRecDepth 100000
namespace Go.Proofs.YtogicccdngpafaaGreatDoor.NState
open Go Go.RowKit Go.Shelf QW.PrintWords QW.PrintLast QW.PrintMore NMap
open PCheck (cnf_Check.f cnf_Check.calls rL at_L1)
def lookP (P : List (Option (List Int))) (n : Int) : Option (List Int) := if 1 ≤ n then (P[(n - 1).toNat]?).join else none
def SliceOf (w0 : World) (v : Value) (l : List Int) : Prop := ∃ A c, v = .slice A l.length c ∧ l.length ≤ c ∧ Kd.C (Kd.int .i64) w0 A l.length l
def Present (w0 : World) (f : Int → Option Value) (P : List (Option (List Int))) : Prop :=
 ∀ n, (lookP P n = none → f n = none) ∧ ∀ l, lookP P n = some l → ∃ v, f n = some v ∧ SliceOf w0 v l
structure BaseAt (w0 w : World) (B M : Nat) (P : List (Option (List Int))) : Prop where
 cells : w.heap[B]? = some (.cells #[.map (some M), .int .i64 P.length] 147 (0, 0))
 map : ∃ f, HasMap (Value.int .i64) w M f ∧ Present w0 f P
structure But2 (B M : Nat) (w w' : World) : Prop where
 os : w'.os = w.os
 tape : w'.tape = w.tape
 output : w'.output = w.output
 size : w.heap.size ≤ w'.heap.size
 block : ∀ k, k < w.heap.size → k ≠ B → k ≠ M → w'.heap[k]? = w.heap[k]?
theorem But2.refl (B M : Nat) (w : World) : But2 B M w w := ⟨rfl, rfl, rfl, Nat.le_refl _, fun _ _ _ _ => rfl⟩
theorem But2.trans {B M : Nat} {a b c : World} (h : But2 B M a b) (k : But2 B M b c) : But2 B M a c :=
 ⟨k.os.trans h.os, k.tape.trans h.tape, k.output.trans h.output, Nat.le_trans h.size k.size, fun i hi h1 h2 => (k.block i (Nat.lt_of_lt_of_le hi h.size) h1 h2).trans (h.block i hi h1 h2)⟩
theorem But2.of_below {B M : Nat} {w w' : World} (h : Below w.heap.size w w') : But2 B M w w' := ⟨h.os, h.tape, h.output, h.size, fun k hk _ _ => h.block k hk⟩
theorem But2.below {B M : Nat} {w0 w w' : World} (h : But2 B M w w') (h0 : Below w0.heap.size w0 w) (hB : w0.heap.size ≤ B) (hM : w0.heap.size ≤ M) : Below w0.heap.size w0 w' :=
 h0.trans ⟨h.os, h.tape, h.output, h.size, fun k hk => h.block k (Nat.lt_of_lt_of_le hk h0.size) (by omega) (by omega)⟩
theorem But2.blk {B M g : Nat} {o : Obj} {w w' : World} (h : But2 B M w w') (hg : w.heap[g]? = some o) (h1 : g ≠ B) (h2 : g ≠ M) : w'.heap[g]? = some o :=
 (h.block g (Array.getElem?_eq_some_iff.1 hg).1 h1 h2).trans hg
theorem BaseAt.below {w0 w w' : World} {B M : Nat} {P : List (Option (List Int))} (h : BaseAt w0 w B M P) (hb : Below w.heap.size w w') : BaseAt w0 w' B M P := by
 refine ⟨blk_below h.cells hb, ?_⟩
 obtain ⟨f, hm, hp⟩ := h.map
 exact ⟨f, hm.below hb hm.lt, hp⟩
theorem BaseAt.ne {w0 w : World} {B M : Nat} {P : List (Option (List Int))} (h : BaseAt w0 w B M P) : B ≠ M := by
 rintro rfl
 obtain ⟨f, ⟨es, c, hb, _⟩, _⟩ := h.map
 rw [h.cells] at hb; cases hb
theorem lookP_snoc (P : List (Option (List Int))) (x : Option (List Int)) (n : Int) : lookP (P ++ [x]) n = if n = P.length + 1 then x else lookP P n := by
 unfold lookP
 by_cases h1 : 1 ≤ n
 ·rw [if_pos h1, if_pos h1]
  by_cases h2 : n = P.length + 1
  ·rw [if_pos h2]
   have : (n - 1).toNat = P.length := by omega
   rw [this]; simp
  ·rw [if_neg h2]
   by_cases h3 : (n - 1).toNat < P.length
   ·rw [List.getElem?_append_left h3]
   ·rw [List.getElem?_eq_none (by simp; omega), List.getElem?_eq_none (by omega)]
 ·rw [if_neg h1, if_neg h1, if_neg (by omega)]
theorem Present.snoc {w0 : World} {f : Int → Option Value} {P : List (Option (List Int))} (h : Present w0 f P) {v : Value} {l : List Int} (hv : SliceOf w0 v l) : Present w0 (put f (P.length + 1 : Int) v) (P ++ [some l]) := by
 intro n
 rw [lookP_snoc]
 unfold put
 by_cases hn : n = P.length + 1
 ·rw [if_pos hn, if_pos hn]
  exact ⟨fun h => by simp at h, fun l' hl => by cases hl; exact ⟨v, rfl, hv⟩⟩
 ·rw [if_neg hn, if_neg hn]
  exact h n
def AddPost (w0 : World) (B M : Nat) (P : List (Option (List Int))) (w : World) (e : Ending) (w' : World) : Prop :=
 e = .returned (.tuple #[]) ∧ BaseAt w0 w' B M P ∧ But2 B M w w'
theorem add_calls (w0 : World) (B M : Nat) (P : List (Option (List Int))) (v : Value) (l : List Int) (w : World) (hP : P.length < 4611686018427387904) (hb : BaseAt w0 w B M P) (hv : SliceOf w0 v l) :
  Calls Tryz.prog 109 #[.pointer (some ⟨B, 0, none⟩), v] w (AddPost w0 B M (P ++ [some l]) w) := by
 have hne := hb.ne
 obtain ⟨f, hm, hp⟩ := hb.map
 have BK := Az.mk hb.cells
 have HP := Az.mk hP
 have HM := Az.mk hm
 have HPR := Az.mk hp
 have HV := Az.mk hv
 have HNE := Az.mk hne
 clear hb hP hm hp hv hne
 have hx0 : w.cell? ⟨B, 0, none⟩ = some (.map (some M)) := (bkc BK.out 0).trans rfl
 have hx1 : w.cell? ⟨B, 1, none⟩ = some (.int .i64 P.length) := (bkc BK.out 1).trans rfl
 have hf1 : w.frozen? ⟨B, 1, none⟩ = false := bkf BK.out 1
 obtain ⟨y, hy⟩ : ∃ y : Int, wrap64 ((P.length : Int) + 1) = y := ⟨_, rfl⟩
 have HY := Az.mk hy
 go_enter Tryz.func109, Tryz.ntmps109
 go_wp2
 have BK1 : Az ((w.setCell ⟨B, 1, none⟩ (.int .i64 y)).heap[B]? = some (.cells #[.map (some M), .int .i64 y] 147 (0, 0))) := ⟨blk_put (cs := #[.map (some M), .int .i64 P.length]) BK.out 1 _ rfl⟩
 have HM1 : Az (HasMap (Value.int .i64) (w.setCell ⟨B, 1, none⟩ (.int .i64 y)) M f) := ⟨HM.out.setCell (fun h => HNE.out h.symm) _⟩
 have HB1 : Az (But2 B M w (w.setCell ⟨B, 1, none⟩ (.int .i64 y))) := ⟨⟨rfl, rfl, rfl, by simp, fun k hk h1 _ => Below.heap_setCell w ⟨B, 1, none⟩ _ k h1⟩⟩
 clear hx0 hx1 hf1 hy BK
 generalize w.setCell ⟨B, 1, none⟩ (.int .i64 y) = w1 at BK1 HM1 HB1 ⊢
 have hx0 : w1.cell? ⟨B, 0, none⟩ = some (.map (some M)) := (bkc BK1.out 0).trans rfl
 have hx1 : w1.cell? ⟨B, 1, none⟩ = some (.int .i64 y) := (bkc BK1.out 1).trans rfl
 go_still_tail 9, (by kernel_rfl)
 change wpList _ _ _ _ _ w1.drew
 refine wp_store _ rfl _ _ _ 145 rfl 3 31 kint Tryz.underlying145 M f rfl HM1.out.drew y v rfl rfl ?_
 intro w2 hm2 ht2
 have HM2 := Az.mk hm2
 have HT2 := Az.mk ht2
 clear hm2 ht2
 go_wp2
 go_end0
 have e : y = ((P.length + 1 : Nat) : Int) := by rw [← HY.out, wrap_succ (n := P.length + 1) (by omega) (by have := HP.out; omega)]
 have hneB : some B ≠ some M := fun h => HNE.out (Option.some.inj h)
 refine ⟨rfl, ⟨?_, put f y v, HM2.out, ?_⟩, ?_⟩
 ·rw [List.length_append, List.length_singleton, ← e]
  exact bkg (W := w1.drew) BK1.out HT2.out.1 hneB
 ·have := HPR.out.snoc HV.out
  rw [e]
  exact this
 ·refine HB1.out.trans ⟨HT2.out.1.os, HT2.out.1.tape, HT2.out.1.output, HT2.out.1.size, fun k hk _ h2 => HT2.out.1.block k hk (fun h => h2 (Option.some.inj h))⟩
def BeginPost (w0 w : World) (P : List (Option (List Int))) (e : Ending) (w' : World) : Prop :=
 ∃ B M, w.heap.size ≤ B ∧ w.heap.size ≤ M ∧ e = .returned (.pointer (some ⟨B, 0, none⟩)) ∧ BaseAt w0 w' B M P ∧ Below w.heap.size w w'
theorem But2.below_new {B M : Nat} {w w1 w2 : World} (h : But2 B M w1 w2) (h1 : Below w.heap.size w w1) (hB : w.heap.size ≤ B) (hM : w.heap.size ≤ M) : Below w.heap.size w w2 := h.below h1 hB hM
theorem drop_map_rd {cls : List (List Int)} {j : Nat} (hlt : j < cls.length) : cls.take (j + 1) = cls.take j ++ [rL cls j] := by
 rw [List.take_succ_eq_append_getElem hlt]; simp [rL, List.getD, hlt]
theorem begin_calls (w0 : World) (vars : Int) (A1 : Option Addr) (c1 : Nat) (cls : List (List Int)) (w : World) (hr1 : Kd.C (Kd.slice 3 (Kd.int .i64)) w0 A1 cls.length cls) (hB0 : Below w0.heap.size w0 w) (hlen : cls.length ≤ 4611686018427387903) :
  Calls Tryz.prog 81 #[.agg #[.int .i64 vars, .slice A1 cls.length c1]] w (BeginPost w0 w (cls.map some)) := by
 have HR1 := Az.mk hr1
 have HB0 := Az.mk hB0
 have HLEN := Az.mk hlen
 clear hr1 hB0 hlen
 have hu24 := Tryz.underlying24
 have hmm := @run_makeMap Tryz.prog
 go_enter Tryz.func81, Tryz.ntmps81
 go_wp2
 have HBA : Az (BaseAt w0 (((w.alloc (.cells #[.int .i64 vars, .slice A1 cls.length c1] 24)).alloc (.map #[] 0)).alloc (.cells #[.map (some (w.heap.size + 1)), .int .i64 0] 147)) (w.heap.size + 1 + 1) (w.heap.size + 1) ([] : List (Option (List Int)))) := by
  refine ⟨⟨?_, (fun _ => none), ?_, fun n => ?_⟩⟩
  ·have := blk_new ((w.alloc (.cells #[.int .i64 vars, .slice A1 cls.length c1] 24)).alloc (.map #[] 0)) (.cells #[.map (some (w.heap.size + 1)), .int .i64 0] 147)
   simpa using this
  ·have := (HasMap.made (kv := Value.int .i64) (w.alloc (.cells #[.int .i64 vars, .slice A1 cls.length c1] 24))).alloc (.cells #[.map (some (w.heap.size + 1)), .int .i64 0] 147)
   simpa using this
  ·refine ⟨fun _ => rfl, fun l hl => ?_⟩
   unfold lookP at hl; split at hl <;> simp at hl
 have HB : Az (Below w.heap.size w (((w.alloc (.cells #[.int .i64 vars, .slice A1 cls.length c1] 24)).alloc (.map #[] 0)).alloc (.cells #[.map (some (w.heap.size + 1)), .int .i64 0] 147))) :=
  ⟨((((Below.refl _ _).alloc (Nat.le_refl _) _).alloc (by simp) _).alloc (by simp; omega) _)⟩
 clear hmm
 go_loopw [12] (fun v12 wr => ∃ (k : Nat), v12 = .int .i64 k ∧ k ≤ cls.length ∧ Az (BaseAt w0 wr (w.heap.size + 1 + 1) (w.heap.size + 1) ((cls.take k).map some)) ∧ Az (Below w.heap.size w wr)) (fun v12 _ => cls.length - (intOf v12).toNat)
 case atStart => exact ⟨0, rfl, Nat.zero_le _, HBA, HB⟩
 case round =>
  clear HBA HB
  obtain ⟨k, rfl, hk, HBA, HB⟩ := hrel
  by_cases hlt : k < cls.length
  ·obtain ⟨ad, A2, c2, rfl, hc, hlc, hC2⟩ := at_L1 HR1.out (k : Int) (by omega) (by omega)
   replace hc := ((HB0.out.trans (HB.out.mono HB0.out.size)).cell (World.block_lt_of_cell? w0 _ hc)).trans hc
   have HD := Az.mk (drop_map_rd hlt)
   generalize rL cls k = l at hc hC2 HD hlc
   simp only [Int.toNat_natCast] at hc
   have hcall := add_calls w0 (w.heap.size + 1 + 1) (w.heap.size + 1) ((cls.take k).map some) (.slice A2 l.length c2) l wr (by simp; have := HLEN.out; omega) HBA.out ⟨A2, c2, rfl, hlc, hC2⟩
   clear hC2 hlc
   go_wp2_with (go_at_call 109; refine hcall.mono ?_; rintro e w' ⟨rfl, hb', ht'⟩; have HBA' := Az.mk hb'; have HT' := Az.mk ht'; clear hb' ht')
   go_roundw
   case rel =>
    refine ⟨k + 1, by rw [wrap_succ hlt (by have := HLEN.out; omega)], by omega, ⟨?_⟩, ⟨?_⟩⟩
    ·rw [HD.out, List.map_append]; exact HBA'.out
    ·exact HT'.out.below HB.out (by omega) (by omega)
   case measure => exact meas_x hlt (wrap_succ hlt (by have := HLEN.out; omega))
  ·have hk' : k = cls.length := by omega
   subst hk'
   rw [List.take_length] at HBA
   go_wp2
   go_ret
   exact ⟨_, _, by omega, by omega, rfl, HBA.out, HB.out⟩
def deriveL (P : List (Option (List Int))) : List Int → Int → List Int → Int × Bool
 | _, _, [] => (0, false)
 | S, i, h :: hs =>
  match lookP P h with
  | none => (0, false)
  | some l =>
   if (leftL S 0 0 l).2 = 0 then (i + 1, true)
   else if (leftL S 0 0 l).2 > 1 ∨ S.contains (leftL S 0 0 l).1 = true then (0, false)
   else deriveL P ((leftL S 0 0 l).1 :: S) (i + 1) hs
def deriveF (P : List (Option (List Int))) (clause hints : List Int) : Int × Bool :=
 match assumeL [] clause with
 | none => (0, true)
 | some S => deriveL P S 0 hints
theorem BaseAt.turned {w0 w w1 : World} {B M b : Nat} {P : List (Option (List Int))} (h : BaseAt w0 w B M P) (ht : Turned w w1 b) (h1 : B ≠ b) (h2 : M ≠ b) : BaseAt w0 w1 B M P := by
 refine ⟨bkg h.cells ht.1 (fun e => h1 (Option.some.inj e)), ?_⟩
 obtain ⟨f, hm, hp⟩ := h.map
 exact ⟨f, hm.of_block (ht.1.block M hm.lt (fun e => h2 (Option.some.inj e))), hp⟩
theorem BaseAt.lt {w0 w : World} {B M : Nat} {P : List (Option (List Int))} (h : BaseAt w0 w B M P) : B < w.heap.size ∧ M < w.heap.size := by
 obtain ⟨f, hm, _⟩ := h.map
 exact ⟨(Array.getElem?_eq_some_iff.1 h.cells).1, hm.lt⟩
def DerivePost (w : World) (r : Int × Bool) (e : Ending) (w' : World) : Prop := e = .returned (.tuple #[.int .i64 r.1, .bool r.2]) ∧ Below w.heap.size w w'
theorem zeroInts (w : World) : (zeroValue 31).run Tryz.prog w = .ok (.slice none 0 0) w := by kernel_rfl
theorem Present.look {w0 w : World} {M : Nat} {f : Int → Option Value} {P : List (Option (List Int))} (hp : Present w0 f P) (hm : HasMap (Value.int .i64) w M f) (x : Int) :
  (lookP P x = none ∧ (Instr.lookup 145 (.map (some M)) (.int .i64 x) true).run Tryz.prog w = .ok (.tuple #[.slice none 0 0, .bool false]) w) ∨
  ∃ l A c, lookP P x = some l ∧ l.length ≤ c ∧ Kd.C (Kd.int .i64) w0 A l.length l ∧ (Instr.lookup 145 (.map (some M)) (.int .i64 x) true).run Tryz.prog w = .ok (.tuple #[.slice A l.length c, .bool true]) w := by
 have hl := hm.lookup kint Tryz.underlying145 (zeroInts w) true x
 cases hx : lookP P x with
 | none =>
  rw [(hp x).1 hx] at hl
  exact .inl ⟨rfl, hl⟩
 | some l =>
  obtain ⟨v, hv, A, c, rfl, h1, h2⟩ := (hp x).2 l hx
  rw [hv] at hl
  exact .inr ⟨l, A, c, rfl, h1, h2, hl⟩
theorem derive_calls (w0 : World) (B M : Nat) (P : List (Option (List Int))) (A0 : Option Addr) (c0 : Nat) (l0 : List Int) (A1 : Option Addr) (c1 : Nat) (l1 : List Int) (w : World) (hb : BaseAt w0 w B M P)
  (hr0 : Kd.C (Kd.int .i64) w0 A0 l0.length l0) (hr1 : Kd.C (Kd.int .i64) w0 A1 l1.length l1) (hB0 : Below w0.heap.size w0 w) :
  Calls Tryz.prog 110 #[.pointer (some ⟨B, 0, none⟩), .slice A0 l0.length c0, .slice A1 l1.length c1] w (DerivePost w (deriveF P l0 l1)) := by
 have HBA := Az.mk hb
 have HR0 := Az.mk hr0
 have HR1 := Az.mk hr1
 have HB0 := Az.mk hB0
 have HL := Az.mk (Kd.C_max hr1)
 clear hb hr0 hr1 hB0
 go_enter Tryz.func110, Tryz.ntmps110
 go_wp2_with fail
 refine (assume_calls A0 c0 l0 w (Kd.C_below HR0.out HB0.out)).mono ?_
 rintro e w1 ⟨hb1, hr⟩
 rcases hr with ⟨hr, rfl⟩ | ⟨S, b, hr, hbw, rfl, hm⟩
 ·have HD : Az (deriveF P l0 l1 = (0, true)) := ⟨by unfold deriveF; rw [hr]⟩
  have HB1 := Az.mk hb1
  clear hr hb1
  go_wp2
  go_ret2
  exact ⟨by rw [HD.out]; rfl, HB1.out⟩
 ·have HD : Az (deriveF P l0 l1 = deriveL P S 0 l1) := ⟨by unfold deriveF; rw [hr]⟩
  have HB1 := Az.mk hb1
  have HM := Az.mk hm
  have HBW := Az.mk hbw
  have HLT := Az.mk HBA.out.lt
  replace HBA := Az.mk (HBA.out.below hb1)
  clear hr hb1 hm hbw
  go_wp2
  go_loopw [25] (fun v25 wr => ∃ (k : Nat) (T : List Int), v25 = .int .i64 k ∧ k ≤ l1.length ∧ Az (deriveL P S 0 l1 = deriveL P T k (l1.drop k)) ∧ Az (HasMap (Value.int .i64) wr b (setF T)) ∧ Az (BaseAt w0 wr B M P) ∧ Az (Below w.heap.size w wr)) (fun v25 _ => l1.length - (intOf v25).toNat)
  case atStart => exact ⟨0, S, rfl, Nat.zero_le _, ⟨by simp⟩, HM, HBA, HB1⟩
  case round =>
   clear HM HBA HB1
   obtain ⟨k, T, rfl, hk, HA, HM, HBA, HB1⟩ := hrel
   by_cases hlt : k < l1.length
   ·obtain ⟨ad, rfl, hc⟩ := Kd.at_int HR1.out (k : Int) (by omega) (by omega)
    replace hc := ((HB0.out.trans (HB1.out.mono HB0.out.size)).cell (World.block_lt_of_cell? w0 _ hc)).trans hc
    rw [drop_rd hlt] at HA
    generalize rd l1 k = x at HA hc
    simp only [Int.toNat_natCast] at hc
    obtain ⟨f, hfm, hfp⟩ := HBA.out.map
    have hx0 : wr.cell? ⟨B, 0, none⟩ = some (.map (some M)) := (bkc HBA.out.cells 0).trans rfl
    rcases hfp.look hfm x with ⟨hn, hl⟩ | ⟨l, A2, c2, hn, hlc, hC2, hl⟩
    ·have HN := Az.mk hn
     clear hfm hfp hn
     go_wp2
     go_ret2
     refine ⟨?_, HB1.out⟩
     rw [HD.out, HA.out, deriveL, HN.out]; rfl
    ·have HN := Az.mk hn
     have hcall := left_calls b T A2 c2 l wr HM.out (Kd.C_below hC2 (HB0.out.trans (HB1.out.mono HB0.out.size)))
     have HP := Az.mk (show leftL T 0 0 l = ((leftL T 0 0 l).1, (leftL T 0 0 l).2) from rfl)
     generalize (leftL T 0 0 l).1 = u at hcall HP
     generalize (leftL T 0 0 l).2 = n at hcall HP
     have hl2 := HM.out.lookup kint Tryz.underlying133 (zeroBool _) false u
     rw [setF_look] at hl2
     simp only [Bool.false_eq_true, if_false] at hl2
     clear hC2 hlc hfm hfp hn
     by_cases hn0 : n = 0
     ·subst hn0
      go_wp2_with (go_at_call 80; refine hcall.mono ?_; rintro e w' ⟨rfl, rfl⟩)
      go_ret2
      refine ⟨?_, HB1.out⟩
      rw [HD.out, HA.out, deriveL, HN.out]
      simp only [HP.out, if_true]
      rw [wrap_succ hlt HL.out]; rfl
     ·have HN0 := Az.mk hn0
      have hn0' : (n == 0) = false := by simpa using hn0
      clear hn0
      by_cases hn1 : 1 < n
      ·have HN1 := Az.mk hn1
       go_wp2_with (go_at_call 80; refine hcall.mono ?_; rintro e w' ⟨rfl, rfl⟩)
       go_ret2
       refine ⟨?_, HB1.out⟩
       rw [HD.out, HA.out, deriveL, HN.out]
       simp only [HP.out]
       rw [if_neg HN0.out, if_pos (.inl HN1.out)]; rfl
      ·have HN1 := Az.mk hn1
       have hn1' : decide (1 < n) = false := by simpa using hn1
       clear hn1
       by_cases hcon : T.contains u = true
       ·rw [hcon] at hl2
        have HCON := Az.mk hcon
        clear hcon
        go_wp2_with (go_at_call 80; refine hcall.mono ?_; rintro e w' ⟨rfl, rfl⟩)
        go_ret2
        refine ⟨?_, HB1.out⟩
        rw [HD.out, HA.out, deriveL, HN.out]
        simp only [HP.out]
        rw [if_neg HN0.out, if_pos (.inr HCON.out)]; rfl
       ·have hcon' := hcon
        rw [Bool.not_eq_true] at hcon'
        rw [hcon'] at hl2
        have HCON := Az.mk hcon
        clear hcon hcon'
        go_wp2_with (first | (go_at_call 80; refine hcall.mono ?_; rintro e w' ⟨rfl, rfl⟩) | (at_mapUpdate; refine wp_store _ rfl _ _ _ 133 rfl 3 4 kint Tryz.underlying133 b _ rfl HM.out _ _ rfl rfl ?_; intro w6 hm6 ht6; have HM6 := Az.mk hm6; have HT6 := Az.mk ht6; clear hm6 ht6))
        have hBlt := HLT.out
        have hbw := HBW.out
        go_roundw
        case rel =>
         refine ⟨k + 1, u :: T, by rw [wrap_succ hlt HL.out], by omega, ⟨?_⟩, ⟨?_⟩, ⟨?_⟩, ⟨?_⟩⟩
         ·rw [HA.out, deriveL, HN.out]
          simp only [HP.out]
          rw [if_neg HN0.out, if_neg (fun h => h.elim (fun hh => by have := HN1.out; omega) HCON.out)]; simp
         ·rw [← setF_put]; exact HM6.out
         ·exact HBA.out.turned HT6.out (by omega) (by omega)
         ·exact turned_below HB1.out HT6.out (by omega) HB1.out.size
        case measure => exact meas_x hlt (wrap_succ hlt HL.out)
   ·go_wp2
    go_ret2
    refine ⟨?_, HB1.out⟩
    rw [HD.out, HA.out, List.drop_of_length_le (by omega)]; rfl
end Go.Proofs.YtogicccdngpafaaGreatDoor.NState
end
section
set_option maxHeartbeats 4000000
set_option maxRecDepth 100000
namespace Go.Proofs.YtogicccdngpafaaGreatDoor.NState
open Go Go.RowKit Go.Shelf QW.PrintWords QW.PrintLast QW.PrintMore NMap
open PCheck (cnf_Check.f cnf_Check.calls rL at_L1)
def faultV (c : Int) : Value := if c = 0 then .nilIface else if c = 1 then .iface 173 (.agg #[]) else .iface 172 (.agg #[])
theorem faultV_0 : faultV 0 = .nilIface := rfl
theorem faultV_1 : faultV 1 = .iface 173 (.agg #[]) := rfl
theorem faultV_21 : faultV 21 = .iface 172 (.agg #[]) := rfl
theorem errno_1 (w : World) : Calls Tryz.prog 83 #[.iface 173 (.agg #[])] w fun e w' => e = .returned (.int .i64 1) ∧ w = w' := by
 have t1 : (Instr.typeAssert (.iface 173 (.agg #[])) 141 173 true).run Tryz.prog w = .ok (.tuple #[.agg #[], .bool true]) w := by kernel_rfl
 go_enter Tryz.func83, Tryz.ntmps83
 go_wp2
 go_ret
 exact ⟨rfl, rfl⟩
theorem errno_21 (w : World) : Calls Tryz.prog 83 #[.iface 172 (.agg #[])] w fun e w' => e = .returned (.int .i64 21) ∧ w = w' := by
 have t1 : (Instr.typeAssert (.iface 172 (.agg #[])) 141 173 true).run Tryz.prog w = .ok (.tuple #[.agg #[], .bool false]) w := by kernel_rfl
 have t2 : (Instr.typeAssert (.iface 172 (.agg #[])) 141 172 true).run Tryz.prog w = .ok (.tuple #[.agg #[], .bool true]) w := by kernel_rfl
 go_enter Tryz.func83, Tryz.ntmps83
 go_wp2
 go_ret
 exact ⟨rfl, rfl⟩
def delL (P : List (Option (List Int))) : List Int → List (Option (List Int)) × Int
 | [] => (P, 0)
 | h :: hs => match lookP P h with
  | none => (P, 21)
  | some _ => delL (P.set (h - 1).toNat none) hs
def stepF (vars : Int) (P : List (Option (List Int))) (clause : List Int) (gone : Bool) (hints : List Int) : List (Option (List Int)) × Int × Int :=
 if gone = true then ((delL P hints).1, 0, (delL P hints).2)
 else if clause.any (badLit vars) = true then (P, 0, 1)
 else if (deriveF P clause hints).2 = true then (P ++ [some clause], (deriveF P clause hints).1, 0)
 else (P, 0, 21)
theorem lookP_set {P : List (Option (List Int))} {h n : Int} (hh : lookP P h ≠ none) : lookP (P.set (h - 1).toNat none) n = if n = h then none else lookP P n := by
 unfold lookP at hh ⊢
 by_cases h1 : 1 ≤ h
 ·rw [if_pos h1] at hh
  by_cases h2 : 1 ≤ n
  ·rw [if_pos h2, if_pos h2, List.getElem?_set]
   by_cases h3 : n = h
   ·subst h3; rw [if_pos rfl, if_pos rfl]; split <;> rfl
   ·rw [if_neg (by omega), if_neg h3]
  ·rw [if_neg h2, if_neg h2, if_neg (by omega)]
 ·rw [if_neg h1] at hh; exact absurd rfl hh
theorem Present.del {w0 : World} {f : Int → Option Value} {P : List (Option (List Int))} (h : Present w0 f P) {x : Int} (hx : lookP P x ≠ none) : Present w0 (NMap.del f x) (P.set (x - 1).toNat none) := by
 intro n
 rw [lookP_set hx]
 unfold NMap.del
 by_cases hn : n = x
 ·rw [if_pos hn, if_pos hn]; exact ⟨fun _ => rfl, fun l hl => by cases hl⟩
 ·rw [if_neg hn, if_neg hn]; exact h n
theorem BaseAt.dropped {w0 w w1 : World} {B M : Nat} {P : List (Option (List Int))} {f : Int → Option Value} {x : Int} (h : BaseAt w0 w B M P) (hp : Present w0 f P) (hx : lookP P x ≠ none) (hm : HasMap (Value.int .i64) w1 M (NMap.del f x)) (ht : Turned w w1 M) :
  BaseAt w0 w1 B M (P.set (x - 1).toNat none) :=
 ⟨by rw [List.length_set]; exact bkg h.cells ht.1 (fun e => h.ne (Option.some.inj e)), _, hm, hp.del hx⟩
theorem But2.turned {w w1 w2 : World} {B M : Nat} (h : But2 B M w w1) (ht : Turned w1 w2 M) : But2 B M w w2 :=
 h.trans ⟨ht.1.os, ht.1.tape, ht.1.output, ht.1.size, fun k hk _ h2 => ht.1.block k hk (fun e => h2 (Option.some.inj e))⟩
def StepPost (w0 : World) (B M : Nat) (r : List (Option (List Int)) × Int × Int) (w : World) (e : Ending) (w' : World) : Prop :=
 e = .returned (.tuple #[.int .i64 r.2.1, faultV r.2.2]) ∧ BaseAt w0 w' B M r.1 ∧ But2 B M w w'
theorem step_gone (w0 : World) (B M : Nat) (P : List (Option (List Int))) (v1 : Value) (vars : Int) (v0 : Value) (A1 : Option Addr) (c1 : Nat) (l1 : List Int) (w : World) (hb : BaseAt w0 w B M P)
  (hr1 : Kd.C (Kd.int .i64) w0 A1 l1.length l1) (hB0 : Below w0.heap.size w0 w) (hBw : w0.heap.size ≤ B) (hMw : w0.heap.size ≤ M) :
  Calls Tryz.prog 82 #[.pointer (some ⟨B, 0, none⟩), .agg #[.int .i64 vars, v1], .agg #[v0, .bool true, .slice A1 l1.length c1]] w (StepPost w0 B M ((delL P l1).1, 0, (delL P l1).2) w) := by
 have HBA := Az.mk hb
 have HR1 := Az.mk hr1
 have HB0 := Az.mk hB0
 have HL := Az.mk (Kd.C_max hr1)
 have HLT := Az.mk hb.lt
 clear hb hr1 hB0
 go_enter Tryz.func82, Tryz.ntmps82
 go_wp2
 have HB2 : Az (But2 B M w ((w.alloc (.cells #[.int .i64 vars, v1] 24)).alloc (.cells #[v0, .bool true, .slice A1 l1.length c1] 42))) := ⟨But2.of_below (((Below.refl _ _).alloc (Nat.le_refl _) _).alloc (by simp) _)⟩
 replace HBA : Az (BaseAt w0 ((w.alloc (.cells #[.int .i64 vars, v1] 24)).alloc (.cells #[v0, .bool true, .slice A1 l1.length c1] 42)) B M P) := ⟨HBA.out.below (((Below.refl _ _).alloc (Nat.le_refl _) _).alloc (by simp) _)⟩
 go_loopw [19] (fun v19 wr => ∃ (k : Nat) (Q : List (Option (List Int))), v19 = .int .i64 k ∧ k ≤ l1.length ∧ Az (delL P l1 = delL Q (l1.drop k)) ∧ Az (BaseAt w0 wr B M Q) ∧ Az (But2 B M w wr)) (fun v19 _ => l1.length - (intOf v19).toNat)
 case atStart => exact ⟨0, P, rfl, Nat.zero_le _, ⟨by simp⟩, HBA, HB2⟩
 case round =>
  clear HBA HB2
  obtain ⟨k, Q, rfl, hk, HA, HBA, HB2⟩ := hrel
  have HB1 := Az.mk (HB2.out.below HB0.out hBw hMw)
  by_cases hlt : k < l1.length
  ·obtain ⟨ad, rfl, hc⟩ := Kd.at_int HR1.out (k : Int) (by omega) (by omega)
   replace hc := (HB1.out.cell (World.block_lt_of_cell? w0 _ hc)).trans hc
   rw [drop_rd hlt] at HA
   generalize rd l1 k = x at HA hc
   simp only [Int.toNat_natCast] at hc
   obtain ⟨f, hfm, hfp⟩ := HBA.out.map
   have hx0 : wr.cell? ⟨B, 0, none⟩ = some (.map (some M)) := (bkc HBA.out.cells 0).trans rfl
   rcases hfp.look hfm x with ⟨hn, hl⟩ | ⟨l, A2, c2, hn, hlc, hC2, hl⟩
   ·have HN := Az.mk hn
    clear hfm hfp hn
    go_wp2
    go_ret2
    refine ⟨?_, ?_, HB2.out⟩
    ·rw [HA.out, delL, HN.out]; rfl
    ·rw [HA.out, delL, HN.out]; exact HBA.out
   ·have HN := Az.mk hn
    have HFM := Az.mk hfm
    have HFP := Az.mk hfp
    clear hlc hC2 hfm hfp hn
    go_wp2_with (at_delete; refine wp_drop _ rfl _ _ 145 3 rfl 31 kint Tryz.underlying145 M f rfl HFM.out _ rfl ?_; intro w6 hm6 ht6; have HM6 := Az.mk hm6; have HT6 := Az.mk ht6; clear hm6 ht6)
    go_roundw
    case rel =>
     refine ⟨k + 1, Q.set (x - 1).toNat none, by rw [wrap_succ hlt HL.out], by omega, ⟨?_⟩, ⟨?_⟩, ⟨?_⟩⟩
     ·rw [HA.out, delL, HN.out]
     ·exact HBA.out.dropped HFP.out (by rw [HN.out]; simp) HM6.out HT6.out
     ·exact HB2.out.turned HT6.out
    case measure => exact meas_x hlt (wrap_succ hlt HL.out)
  ·go_wp2
   go_ret2
   refine ⟨?_, ?_, HB2.out⟩
   ·rw [HA.out, List.drop_of_length_le (by omega)]; rfl
   ·rw [HA.out, List.drop_of_length_le (by omega)]; exact HBA.out
theorem step_add (w0 : World) (B M : Nat) (P : List (Option (List Int))) (v1 : Value) (vars : Int) (A0 : Option Addr) (c0 : Nat) (l0 : List Int) (A1 : Option Addr) (c1 : Nat) (l1 : List Int) (w : World) (hP : P.length < 4611686018427387904) (hb : BaseAt w0 w B M P)
  (hr0 : Kd.C (Kd.int .i64) w0 A0 l0.length l0) (hc0 : l0.length ≤ c0) (hr1 : Kd.C (Kd.int .i64) w0 A1 l1.length l1) (hB0 : Below w0.heap.size w0 w) (hBw : w0.heap.size ≤ B) (hMw : w0.heap.size ≤ M) :
  Calls Tryz.prog 82 #[.pointer (some ⟨B, 0, none⟩), .agg #[.int .i64 vars, v1], .agg #[.slice A0 l0.length c0, .bool false, .slice A1 l1.length c1]] w (StepPost w0 B M (stepF vars P l0 false l1) w) := by
 have HBA := Az.mk hb
 have HR0 := Az.mk hr0
 have HR1 := Az.mk hr1
 have HB0 := Az.mk hB0
 have HC0 := Az.mk hc0
 have HP := Az.mk hP
 have HLT := Az.mk hb.lt
 clear hb hr1 hB0 hr0 hc0 hP
 have HBX : Az (Below w.heap.size w ((w.alloc (.cells #[.int .i64 vars, v1] 24)).alloc (.cells #[.slice A0 l0.length c0, .bool false, .slice A1 l1.length c1] 42))) := ⟨((Below.refl _ _).alloc (Nat.le_refl _) _).alloc (by simp) _⟩
 have HX0 : Az (((w.alloc (.cells #[.int .i64 vars, v1] 24)).alloc (.cells #[.slice A0 l0.length c0, .bool false, .slice A1 l1.length c1] 42)).heap[w.heap.size + 1]? = some (.cells #[.slice A0 l0.length c0, .bool false, .slice A1 l1.length c1] 42 (0, 0))) := ⟨by
  have := blk_new (w.alloc (.cells #[.int .i64 vars, v1] 24)) (.cells #[.slice A0 l0.length c0, .bool false, .slice A1 l1.length c1] 42)
  simpa using this⟩
 have hu24 := Tryz.underlying24
 go_enter Tryz.func82, Tryz.ntmps82
 go_wp2_with fail
 generalize (w.alloc (.cells #[.int .i64 vars, v1] 24)).alloc (.cells #[.slice A0 l0.length c0, .bool false, .slice A1 l1.length c1] 42) = w1 at HBX HX0 ⊢
 refine (exist_calls vars v1 A0 c0 l0 w1 (Kd.C_below HR0.out (HB0.out.trans (HBX.out.mono HB0.out.size)))).mono ?_
 rintro e w2 ⟨rfl, hb2⟩
 replace HX0 := Az.mk (blk_below HX0.out hb2)
 replace HBX := Az.mk (bwt HBX.out hb2)
 clear hb2
 replace HBA := Az.mk (HBA.out.below HBX.out)
 by_cases hbad : l0.any (badLit vars) = true
 ·have HS : Az (stepF vars P l0 false l1 = (P, 0, 1)) := ⟨by unfold stepF; rw [if_neg (by simp), if_pos hbad]⟩
  rw [hbad]
  go_wp2
  go_ret2
  refine ⟨?_, ?_, But2.of_below HBX.out⟩
  ·rw [HS.out]; rfl
  ·rw [HS.out]; exact HBA.out
 ·have HBAD := Az.mk hbad
  rw [Bool.not_eq_true] at hbad
  rw [hbad]
  clear hbad
  have hx0 : w2.cell? ⟨w.heap.size + 1, 0, none⟩ = some (.slice A0 l0.length c0) := (bkc HX0.out 0).trans rfl
  have hx2 : w2.cell? ⟨w.heap.size + 1, 2, none⟩ = some (.slice A1 l1.length c1) := (bkc HX0.out 2).trans rfl
  go_wp2_with fail
  refine (derive_calls w0 B M P A0 c0 l0 A1 c1 l1 w2 HBA.out HR0.out HR1.out (HB0.out.trans (HBX.out.mono HB0.out.size))).mono ?_
  rintro e w3 ⟨rfl, hb3⟩
  replace HX0 := Az.mk (blk_below HX0.out hb3)
  replace HBX := Az.mk (bwt HBX.out hb3)
  replace HBA := Az.mk (HBA.out.below hb3)
  clear hb3 hx0 hx2
  have HD := Az.mk (show deriveF P l0 l1 = ((deriveF P l0 l1).1, (deriveF P l0 l1).2) from rfl)
  generalize hn : (deriveF P l0 l1).1 = n
  generalize hok : (deriveF P l0 l1).2 = ok
  rw [hn, hok] at HD
  clear hn hok
  cases ok with
  | false =>
   have HS : Az (stepF vars P l0 false l1 = (P, 0, 21)) := ⟨by unfold stepF; rw [if_neg (by simp), if_neg HBAD.out, HD.out]; simp⟩
   go_wp2
   go_ret2
   refine ⟨?_, ?_, But2.of_below HBX.out⟩
   ·rw [HS.out]; rfl
   ·rw [HS.out]; exact HBA.out
  | true =>
   have HS : Az (stepF vars P l0 false l1 = (P ++ [some l0], n, 0)) := ⟨by unfold stepF; rw [if_neg (by simp), if_neg HBAD.out, HD.out]; simp⟩
   have hx0 : w3.cell? ⟨w.heap.size + 1, 0, none⟩ = some (.slice A0 l0.length c0) := (bkc HX0.out 0).trans rfl
   go_wp2_with fail
   refine (add_calls w0 B M P (.slice A0 l0.length c0) l0 w3 HP.out HBA.out ⟨A0, c0, rfl, HC0.out, HR0.out⟩).mono ?_
   rintro e w4 ⟨rfl, hb4, ht4⟩
   have HB4 := Az.mk hb4
   have HT4 := Az.mk ht4
   clear hb4 ht4 hx0
   go_wp2
   go_ret2
   refine ⟨?_, ?_, (But2.of_below HBX.out).trans HT4.out⟩
   ·rw [HS.out]; rfl
   ·rw [HS.out]; exact HB4.out
theorem stepF_gone (vars : Int) (P : List (Option (List Int))) (l0 l1 : List Int) : stepF vars P l0 true l1 = ((delL P l1).1, 0, (delL P l1).2) := by unfold stepF; rw [if_pos rfl]
theorem step_calls (w0 : World) (B M : Nat) (P : List (Option (List Int))) (v1 : Value) (vars : Int) (gone : Bool) (A0 : Option Addr) (c0 : Nat) (l0 : List Int) (A1 : Option Addr) (c1 : Nat) (l1 : List Int) (w : World) (hP : P.length < 4611686018427387904) (hb : BaseAt w0 w B M P)
  (hr0 : Kd.C (Kd.int .i64) w0 A0 l0.length l0) (hc0 : l0.length ≤ c0) (hr1 : Kd.C (Kd.int .i64) w0 A1 l1.length l1) (hB0 : Below w0.heap.size w0 w) (hBw : w0.heap.size ≤ B) (hMw : w0.heap.size ≤ M) :
  Calls Tryz.prog 82 #[.pointer (some ⟨B, 0, none⟩), .agg #[.int .i64 vars, v1], .agg #[.slice A0 l0.length c0, .bool gone, .slice A1 l1.length c1]] w (StepPost w0 B M (stepF vars P l0 gone l1) w) := by
 cases gone with
 | true => rw [stepF_gone]; exact step_gone w0 B M P v1 vars _ A1 c1 l1 w hb hr1 hB0 hBw hMw
 | false => exact step_add w0 B M P v1 vars A0 c0 l0 A1 c1 l1 w hP hb hr0 hc0 hr1 hB0 hBw hMw
end Go.Proofs.YtogicccdngpafaaGreatDoor.NState
end
