/-
  Part 9 of the proof of cnfTextMatches_card: walks and lemmas.
-/
import Derived.Test.YtkcfdddhnboieaaGreatDoorKG7
import Derived.Test.YtkcfdddhnboieaaGreatDoorKG8
import Derived.Shelf.Strings.IndexAnyAll
import Derived.Shelf.Strings.SlTrimAscii
import Derived.Shelf.Small.Utf8
import Derived.Below
import Derived.WalkMore
import Derived.Deep.RegionWith
import Derived.Deep.LoopGhost
import Derived.Shelf.Small.Wraps
import Derived.Shelf.Pu.ParseUintPublic10
set_option linter.unusedVariables false
set_option linter.unusedSimpArgs false
section
set_option maxHeartbeats 4000000
set_option maxRecDepth 100000
namespace Go.Proofs.YtkcfdddhnboieaaGreatDoor.NText
open Go Go.RowKit Go.Shelf Go.Lib
def ws : List UInt8 := [32, 9, 10, 13]
theorem ws_ascii : ∀ (j : Nat) b, ws[j]? = some b → b.toNat < 128 := fun j b h => by
 have : ws.all (fun b => decide (b.toNat < 128)) = true := by decide
 exact of_decide_eq_true (List.all_eq_true.1 this b (List.mem_of_getElem? h))
theorem next_step {P : Program} {w0 W : World} {b g : Nat} {s : ByteArray} {pos c k : Nat} (hB : Below b w0 W) (hb : b ≤ g) (hg : W.heap[g]? = some (.stringIter s pos)) (h : pos < s.size) (hd : Utf8.decode s pos = (c, k)) :
  ∃ W1, (∀ ty, (Instr.next (.pointer (some ⟨g, 0, none⟩)) true ty).run P W = .ok (.tuple #[.bool true, .int .i64 pos, .int .i32 c]) W1) ∧ W1.heap[g]? = some (.stringIter s (pos + k)) ∧ Below b w0 W1 := by
 have hlt : g < W.heap.size := (Array.getElem?_eq_some_iff.1 hg).1
 refine ⟨{ W with heap := W.heap.setIfInBounds g (.stringIter s (pos + k)) }, fun ty => ?_, ?_, ?_⟩
 ·simp only [Instr.next, getObj, setObj, Sem.run_bind, Sem.run, hg, Result.andThen, h, if_true, hd]
  simp [goInt]
 ·show (W.heap.setIfInBounds g _)[g]? = _
  rw [Array.getElem?_setIfInBounds_self_of_lt hlt]
 ·refine ⟨hB.os, hB.tape, hB.output, by show _ ≤ (W.heap.setIfInBounds g _).size; rw [Array.size_setIfInBounds]; exact hB.size, fun j hj => ?_⟩
  show (W.heap.setIfInBounds g _)[j]? = _
  rw [Array.getElem?_setIfInBounds_ne (by omega)]
  exact hB.block j hj
theorem run_next_stop {P : Program} {W : World} {g : Nat} {s : ByteArray} {pos : Nat} (ty : TypeId) (hg : W.heap[g]? = some (.stringIter s pos)) (h : ¬ pos < s.size) :
  (Instr.next (.pointer (some ⟨g, 0, none⟩)) true ty).run P W = .ok (.tuple #[.bool false]) W := by
 simp [Instr.next, getObj, Sem.run, hg, h]
theorem validRune_calls (r : Int) (w : World) : Calls Tryz.prog 201 #[.int .i32 r] w fun e w' => e = .returned (.bool (Lib.validRune r)) ∧ w' = w :=
 Any.utf8_ValidRune (P := Tryz.prog) (ρ := Tryz.lays153_ren) { Tryz.lays153 with } r w
theorem indexByte_calls (s : ByteArray) (c : Int) (w : World) : Calls Tryz.prog 200 #[.string s, .int .u8 c] w fun e w' => e = .returned (.int .i64 (Lib.indexByte s.data.toList c.toNat.toUInt8)) ∧ w' = w :=
 Any.strings_IndexByte (P := Tryz.prog) (ρ := Tryz.lays153_ren) { Tryz.lays153 with } s c w
theorem conv_rune (c : Int) (w : World) : (convert 21 9 (.int .i32 c)).run Tryz.prog w = .ok (.string (Utf8.encode c)) w := by
 simp [convert, run_underlying Tryz.underlying21, run_underlying Tryz.underlying9, Conv.intToString]
theorem indexByte_high (b : UInt8) (hb : 128 ≤ b.toNat) : ∀ {l : List UInt8}, (l.all fun c => decide (c.toNat < 128)) = true → indexByte l b = -1
 | [], _ => rfl
 | c :: l, h => by
  simp only [List.all_cons, Bool.and_eq_true, decide_eq_true_eq] at h
  have hc : (c == b) = false := by rw [beq_eq_false_iff_ne]; rintro rfl; omega
  have ih := indexByte_high b hb (l := l) h.2
  rw [indexByte, hc, ih]; rfl
theorem indexRune_high (r : Nat) (c : Int) (hc : (r : Int) = c) (h1 : 128 ≤ c) (w : World) : Calls Tryz.prog 172 #[.string ⟨#[32, 9, 10, 13]⟩, .int .i32 c] w fun e w' => e = .returned (.int .i64 (-1)) ∧ Below w.heap.size w w' := by
 have hA : decide (c < 128) = false := decide_eq_false (by omega)
 have hZ : decide (0 ≤ c) = true := decide_eq_true (by omega)
 cases hE : c == 65533 with
 | true =>
  clear hc h1
  go_enter Tryz.func172, Tryz.ntmps172
  go_wp2_with fail
  go_loopg [5, 6] 4 (fun g _ _ wx => ∃ i : Nat, i + g = 4 ∧ wx = w.iter ⟨#[32, 9, 10, 13]⟩ i)
  case atStart => exact ⟨0, by omega, rfl⟩
  case round =>
   obtain ⟨i, hig, rfl⟩ := hrel
   cases gk with
   | zero =>
    obtain rfl : i = 4 := by omega
    have hnx := fun ty => run_next_end (P := Tryz.prog) w ⟨#[32, 9, 10, 13]⟩ 4 ty (by decide)
    go_wp2
    go_ret
    exact ⟨rfl, (Below.refl _ _).alloc (Nat.le_refl _) _⟩
   | succ g =>
    have hnx := fun ty => run_next_any (P := Tryz.prog) w ⟨#[32, 9, 10, 13]⟩ i ty (show i < 4 by omega)
    obtain ⟨h1, h2⟩ : ((Utf8.decode ⟨#[32, 9, 10, 13]⟩ i).1 : Int) ≠ 65533 ∧ (Utf8.decode ⟨#[32, 9, 10, 13]⟩ i).2 = 1 := by
     have hi : i = 0 ∨ i = 1 ∨ i = 2 ∨ i = 3 := by omega
     rcases hi with rfl | rfl | rfl | rfl <;> exact ⟨by decide, by decide⟩
    rw [h2] at hnx
    have h1' := beq_eq_false_iff_ne.2 h1
    generalize (Utf8.decode ⟨#[32, 9, 10, 13]⟩ i).1 = d at hnx h1'
    clear h1 h2
    go_wp2
    go_roundg g
    case measure => omega
    case rel => exact ⟨i + 1, by omega, rfl⟩
 | false =>
  cases hV : Lib.validRune c with
  | false =>
   go_enter Tryz.func172, Tryz.ntmps172
   go_wp2_with (go_at_call 201; refine (validRune_calls _ _).mono ?_; rintro e w' ⟨rfl, hw⟩; rw [hw, hV])
   go_ret
   exact ⟨rfl, Below.refl _ _⟩
  | true =>
   have hcv := conv_rune c
   have he := encode_high r (by omega)
   rw [hc] at he
   generalize Utf8.encode c = rs at hcv he
   rcases he with ⟨a, b, rfl, hb⟩ | ⟨a, a', b, rfl, hb⟩ | ⟨a, a', a'', b, rfl, hb⟩
   ·have hne : ((↑(({ data := #[32, 9, 10, 13] } : ByteArray)[1]'(show 1 < 4 by decide)).toNat : Int) != ↑(({ data := #[a, b] } : ByteArray)[1]'(show 1 < 2 by decide)).toNat) = true := by
     show ((9 : Int) != (b.toNat : Int)) = true
     exact bne_iff_ne.2 (by omega)
    have hib : indexByte [10, 13] (({ data := #[a, b] } : ByteArray)[1]'(show 1 < 2 by decide)) = -1 := indexByte_high b hb (by decide)
    go_enter Tryz.func172, Tryz.ntmps172
    go_wp2_with (go_at_call 201; refine (validRune_calls _ _).mono ?_; rintro e w' ⟨rfl, hw⟩; rw [hw, hV])
    go_step3
    go_wp2
    go_loopw [9, 10] (fun v9 v10 wr => v9 = .int .i64 1 ∧ v10 = .int .i64 0 ∧ wr = w) (fun _ _ _ => 0)
    case atStart => exact ⟨rfl, rfl, rfl⟩
    case round =>
     obtain ⟨rfl, rfl, rfl⟩ := hrel
     go_wp2
     go_step3
     go_wp2
     go_region
     go_wp2
     go_region_with (go_at_call 200; refine (indexByte_calls _ _ _).mono ?_; rintro e w' ⟨rfl, hw⟩; rw [hw]; simp only [Int.toNat_natCast, UInt8.ofNat_toNat, hib])
     all_goals go_wp2
     all_goals simp +zetaDelta only [Exit.noGoto_ret, Exit.inBlock, Exit.noGoto, Exit.then]
     all_goals go_ret
     all_goals exact ⟨rfl, (Below.refl _ _).drew.drew⟩
   ·have hne : ((↑(({ data := #[32, 9, 10, 13] } : ByteArray)[2]'(show 2 < 4 by decide)).toNat : Int) != ↑(({ data := #[a, a', b] } : ByteArray)[2]'(show 2 < 3 by decide)).toNat) = true := by
     show ((10 : Int) != (b.toNat : Int)) = true
     exact bne_iff_ne.2 (by omega)
    have hib : indexByte [13] (({ data := #[a, a', b] } : ByteArray)[2]'(show 2 < 3 by decide)) = -1 := indexByte_high b hb (by decide)
    go_enter Tryz.func172, Tryz.ntmps172
    go_wp2_with (go_at_call 201; refine (validRune_calls _ _).mono ?_; rintro e w' ⟨rfl, hw⟩; rw [hw, hV])
    go_step3
    go_wp2
    go_loopw [9, 10] (fun v9 v10 wr => v9 = .int .i64 2 ∧ v10 = .int .i64 0 ∧ wr = w) (fun _ _ _ => 0)
    case atStart => exact ⟨rfl, rfl, rfl⟩
    case round =>
     obtain ⟨rfl, rfl, rfl⟩ := hrel
     go_wp2
     go_step3
     go_wp2
     go_region
     go_wp2
     go_region_with (go_at_call 200; refine (indexByte_calls _ _ _).mono ?_; rintro e w' ⟨rfl, hw⟩; rw [hw]; simp only [Int.toNat_natCast, UInt8.ofNat_toNat, hib])
     all_goals go_wp2
     all_goals simp +zetaDelta only [Exit.noGoto_ret, Exit.inBlock, Exit.noGoto, Exit.then]
     all_goals go_ret
     all_goals exact ⟨rfl, (Below.refl _ _).drew.drew⟩
   ·have hne : ((↑(({ data := #[32, 9, 10, 13] } : ByteArray)[3]'(show 3 < 4 by decide)).toNat : Int) != ↑(({ data := #[a, a', a'', b] } : ByteArray)[3]'(show 3 < 4 by decide)).toNat) = true := by
     show ((13 : Int) != (b.toNat : Int)) = true
     exact bne_iff_ne.2 (by omega)
    have hib : indexByte [] (({ data := #[a, a', a'', b] } : ByteArray)[3]'(show 3 < 4 by decide)) = -1 := indexByte_high b hb (by decide)
    go_enter Tryz.func172, Tryz.ntmps172
    go_wp2_with (go_at_call 201; refine (validRune_calls _ _).mono ?_; rintro e w' ⟨rfl, hw⟩; rw [hw, hV])
    go_step3
    go_wp2
    go_loopw [9, 10] (fun v9 v10 wr => v9 = .int .i64 3 ∧ v10 = .int .i64 0 ∧ wr = w) (fun _ _ _ => 0)
    case atStart => exact ⟨rfl, rfl, rfl⟩
    case round =>
     obtain ⟨rfl, rfl, rfl⟩ := hrel
     go_wp2
     go_step3
     go_wp2
     go_region
     go_wp2
     go_region_with (go_at_call 200; refine (indexByte_calls _ _ _).mono ?_; rintro e w' ⟨rfl, hw⟩; rw [hw]; simp only [Int.toNat_natCast, UInt8.ofNat_toNat, hib])
     all_goals go_wp2
     all_goals simp +zetaDelta only [Exit.noGoto_ret, Exit.inBlock, Exit.noGoto, Exit.then]
     all_goals go_ret
     all_goals exact ⟨rfl, (Below.refl _ _).drew.drew⟩
theorem indexRune_ascii (r : Int) (w : World) (h0 : 0 ≤ r) (h1 : r < 128) : Calls Tryz.prog 172 #[.string ⟨#[32, 9, 10, 13]⟩, .int .i32 r] w fun e w' => e = .returned (.int .i64 (Lib.indexByte ws r.toNat.toUInt8)) ∧ w' = w :=
 Any.strings_IndexRune_ascii (P := Tryz.prog) (ρ := Tryz.lays153_ren) { Tryz.lays153 with } ⟨#[32, 9, 10, 13]⟩ r w h0 h1
theorem useSet_calls (n : Int) (w : World) : Calls Tryz.prog 173 #[.int .i64 n] w fun e w' => e = .returned (.bool (decide (8 < n))) ∧ w' = w :=
 Any.strings_shouldUseASCIISet (P := Tryz.prog) (ρ := Tryz.lays153_ren) { Tryz.lays153 with } n w
structure AsideT (p : Prop) : Prop where mk :: (out : p)
theorem indexAny_short (s : ByteArray) (w : World) (h8 : s.size ≤ 8) : Calls Tryz.prog 146 #[.string s, .string ⟨#[32, 9, 10, 13]⟩] w fun e w' => e = .returned (.int .i64 (indexAny s.data.toList ws)) ∧ Below w.heap.size w w' := by
 have h8z : decide ((8 : Int) < (s.size : Int)) = false := decide_eq_false (by omega)
 go_enter Tryz.func146, Tryz.ntmps146
 go_wp2_with (go_at_call 173; refine (useSet_calls _ _).mono ?_; rintro e w' ⟨rfl, hw⟩; rw [hw, h8z])
 go_loopg [9, 10] s.size (fun g _ _ wx => ∃ i : Nat, i + g = s.size ∧ AsideT (wx.heap[w.heap.size]? = some (.stringIter s i)) ∧ AsideT (Below w.heap.size w wx) ∧ AsideT (NoAny s.data.toList ws i))
 case atStart => exact ⟨0, by omega, ⟨w.iter_heap s 0⟩, ⟨(Below.refl _ _).alloc (Nat.le_refl _) _⟩, ⟨NoAny.zero _ _⟩⟩
 case round =>
  obtain ⟨i, hig, HG, HB, HN⟩ := hrel
  cases gk with
  | zero =>
   obtain rfl : i = s.size := by omega
   have hnx := fun ty => run_next_stop (P := Tryz.prog) ty HG.out (Nat.lt_irrefl _)
   go_wp2
   go_ret
   exact ⟨by rw [indexAny_none (by rw [← size_eq]; exact HN.out)]; rfl, HB.out⟩
  | succ g =>
   have hi : i < s.size := by omega
   obtain ⟨x, hx⟩ : ∃ x : UInt8, s[i]'hi = x := ⟨_, rfl⟩
   have hxl : s.data.toList[i]? = some x := by rw [← hx]; exact data_getElem? s i hi
   by_cases h128 : x.toNat < 128
   ·obtain ⟨W1, hnx, hg1, hb1⟩ := next_step (P := Tryz.prog) HB.out (Nat.le_refl _) HG.out hi (by rw [decode_ascii s i hi (by rw [hx]; exact h128), hx])
    have HG1 := AsideT.mk hg1
    have HB1 := AsideT.mk hb1
    have HX := AsideT.mk hxl
    have hcon := contains_iff_indexByte ws x
    have hback : ((x.toNat : Int)).toNat.toUInt8 = x := by simp
    clear hg1 hb1 HG HB hx hxl
    cases hin : ws.contains x
    ·rw [hin] at hcon
     have hlt : ¬ ((0 : Int) ≤ Lib.indexByte ws x) := of_decide_eq_false hcon.symm
     clear hcon
     go_wp2_with (go_at_call 172; refine (indexRune_ascii _ _ (by omega) (by omega)).mono ?_; rintro e w' ⟨rfl, hw⟩; rw [hw, hback])
     go_roundg g
     case measure => omega
     case rel => exact ⟨i + 1, by omega, HG1, HB1, ⟨HN.out.succ HX.out hin⟩⟩
    ·rw [hin] at hcon
     have hge : (0 : Int) ≤ Lib.indexByte ws x := of_decide_eq_true hcon.symm
     clear hcon
     go_wp2_with (go_at_call 172; refine (indexRune_ascii _ _ (by omega) (by omega)).mono ?_; rintro e w' ⟨rfl, hw⟩; rw [hw, hback])
     go_ret
     exact ⟨by rw [indexAny_hit HN.out HX.out hin]; rfl, HB1.out⟩
   ·obtain ⟨c, k, hd, hc1, hc2, hk1, hk2, hbs⟩ := decode_skip s i x hxl (by omega)
    obtain ⟨W1, hnx, hg1, hb1⟩ := next_step (P := Tryz.prog) HB.out (Nat.le_refl _) HG.out hi hd
    have HN1 : AsideT (NoAny s.data.toList ws (i + k)) := ⟨noAny_run HN.out (by decide) hbs⟩
    have HG1 := AsideT.mk hg1
    have HB1 := AsideT.mk hb1
    obtain ⟨ci, hci⟩ : ∃ ci : Int, (c : Int) = ci := ⟨_, rfl⟩
    rw [hci] at hnx
    clear hg1 hb1 HG HB HN hx hxl hbs hd h128
    go_wp2_with (go_at_call 172; refine (indexRune_high c ci hci (by omega) _).mono ?_; rintro e w2 ⟨rfl, hb2⟩; have HG2 := AsideT.mk ((hb2.block _ ((Array.getElem?_eq_some_iff.1 HG1.out).1)).trans HG1.out); have HB2 := AsideT.mk (HB1.out.trans (hb2.mono HB1.out.size)); clear hb2 HG1 HB1)
    go_roundg (g + 1 - k)
    case measure => omega
    case rel => exact ⟨i + k, by omega, HG2, HB2, HN1⟩
end Go.Proofs.YtkcfdddhnboieaaGreatDoor.NText
end
section
set_option maxHeartbeats 1000000
set_option maxRecDepth 100000
namespace Go.Proofs.YtkcfdddhnboieaaGreatDoor.NText
open Go Go.RowKit Go.Shelf Go.Lib
def wh (b : UInt8) : Bool := ws.contains b
def nw (b : UInt8) : Bool := !ws.contains b
theorem indexAny_word (l : List UInt8) : (indexAny l ws = -1 ∧ l.takeWhile nw = l) ∨ ∃ i : Nat, indexAny l ws = i ∧ i ≤ l.length ∧ l.takeWhile nw = l.take i := by
 have ge := indexAny_ge ws l
 induction l with
 | nil => exact .inl ⟨rfl, rfl⟩
 | cons b l ih =>
  by_cases hb : ws.contains b = true
  ·refine .inr ⟨0, by rw [indexAny, if_pos hb]; rfl, Nat.zero_le _, ?_⟩
   have hn : nw b = false := by unfold nw; rw [hb]; rfl
   rw [List.takeWhile_cons, hn]; rfl
  ·have hb' : nw b = true := by unfold nw; rw [Bool.eq_false_iff.2 hb]; rfl
   rcases ih (indexAny_ge ws l) with ⟨h1, h2⟩ | ⟨i, h1, hi, h2⟩
   ·exact .inl ⟨by rw [indexAny, if_neg hb, h1]; rfl, by rw [List.takeWhile_cons_of_pos hb', h2]⟩
   ·refine .inr ⟨i + 1, ?_, by simp; omega, by rw [List.takeWhile_cons_of_pos hb', h2]; rfl⟩
    rw [indexAny, if_neg hb, h1, if_neg (by intro e; have := beq_iff_eq.1 e; omega)]
    push_cast; rfl
theorem trimLeft_calls (s : ByteArray) (w : World) : Calls Tryz.prog 124 #[.string s, .string ⟨#[32, 9, 10, 13]⟩] w fun e w' => e = .returned (.string ⟨(s.data.toList.dropWhile wh).toArray⟩) ∧ Below w.heap.size w w' :=
 Any.strings_TrimLeft_laid (P := Tryz.prog) (ρ := Tryz.lays161_ren) Tryz.lays161 (by kernel_rfl) s ⟨#[32, 9, 10, 13]⟩ w (by decide) ws_ascii
theorem indexAny_calls (s : ByteArray) (hs : s.size < 4294967281) (w : World) : Calls Tryz.prog 146 #[.string s, .string ⟨#[32, 9, 10, 13]⟩] w fun e w' => e = .returned (.int .i64 (indexAny s.data.toList ws)) ∧ Below w.heap.size w w' := by
 by_cases h8 : s.size ≤ 8
 ·exact indexAny_short s w h8
 ·have z := zero_of_info (show (Tryz.prog.info? (Tryz.lays153_ren.t 116)).map (fun i => (i.zero, i.size)) = some (some (.agg (Array.replicate 256 (.bool false))), 256) by kernel_rfl)
  refine (Any.strings_IndexAny_long (P := Tryz.prog) (ρ := Tryz.lays153_ren) Tryz.lays153 z.1 z.2 s ⟨#[32, 9, 10, 13]⟩ w (by decide) (by omega) hs (by decide) ws_ascii).mono ?_
  rintro e w' ⟨rfl, rfl⟩
  exact ⟨rfl, ((Below.refl _ _).alloc (Nat.le_refl _) _).alloc (by rw [World.size_alloc]; omega) _⟩
theorem cutPrefix_calls (s : ByteArray) (w : World) : Calls Tryz.prog 123 #[.string s, .string ⟨#[45]⟩] w fun e w' => e = .returned (.tuple #[.string ⟨(trimPrefix s.data.toList [45]).toArray⟩, .bool (hasPrefix s.data.toList [45])]) ∧ w' = w :=
 Any.strings_CutPrefix (P := Tryz.prog) (ρ := Tryz.lays103_ren) Tryz.lays103 s ⟨#[45]⟩ w
structure GOK (w : World) : Prop where
 syn : ∃ ev, w.cell? ⟨Tryz.laysPu14_ren.g 0, 0, none⟩ = some ev ∧ (ev = .nilIface ∨ ∃ te pe, ev = .iface te pe)
 rng : ∃ ev, w.cell? ⟨Tryz.laysPu14_ren.g 1, 0, none⟩ = some ev ∧ (ev = .nilIface ∨ ∃ te pe, ev = .iface te pe)
theorem GOK.below {w w' : World} (h : GOK w) (hb : Below w.heap.size w w') : GOK w' := by
 obtain ⟨⟨e1, h1, k1⟩, e2, h2, k2⟩ := h
 exact ⟨⟨e1, (hb.cell (World.block_lt_of_cell? w _ h1)).trans h1, k1⟩, e2, (hb.cell (World.block_lt_of_cell? w _ h2)).trans h2, k2⟩
def valueL (l : List UInt8) : Int × Bool := match parseUintB 32 l with
 | .ok u => ((u : Int), decide (l.length ≤ 9))
 | .range => (4294967295, false)
 | _ => (0, false)
theorem parseUintM_le {M : Nat} : ∀ {l : List UInt8} {acc u : Nat}, acc ≤ M → parseUintM M acc l = .ok u → u ≤ M
 | [], acc, u, ha, h => by injection h with h; omega
 | c :: l, acc, u, ha, h => by
  unfold parseUintM at h
  split at h
  ·split at h
   ·cases h
   ·split at h
    ·cases h
    ·exact parseUintM_le (by omega) h
  ·cases h
theorem bytes_below (w : World) (t : TypeId) (s : ByteArray) : Below w.heap.size w (bytesWorld w t s) :=
 ⟨rfl, rfl, rfl, by rw [bytesWorld_size]; omega, fun k hk => bytesWorld_at_old w t s k hk⟩
theorem digits_calls (s : ByteArray) (hs : s.size ≤ 281474976710656) (w : World) (hg : GOK w) : Calls Tryz.prog 121 #[.string s] w fun e w' => e = .returned (.tuple #[.int .i64 (valueL s.data.toList).1, .bool (valueL s.data.toList).2]) ∧ Below w.heap.size w w' := by
 obtain ⟨⟨e1, c1, k1⟩, e2, c2, k2⟩ := hg
 unfold valueL
 cases h : parseUintB 32 s.data.toList with
 | ok u =>
  have hu : u ≤ 2 ^ 32 - 1 := by
   unfold parseUintB at h
   split at h
   ·cases h
   ·exact parseUintM_le (Nat.zero_le _) h
  have hw : IntKind.i64.wrap (u : Int) = u := by rw [IntKind.wrap_i64]; omega
  go_enter Tryz.func121, Tryz.ntmps121
  go_wp2_with (go_at_call 147; refine (Any.strconv_ParseUint_10_at32_ok (P := Tryz.prog) (ρ := Tryz.laysPu14_ren) Tryz.laysPu14 s (by omega) u h w).mono ?_; rintro e w1 ⟨rfl, hw1⟩; have hb1 : Below w.heap.size w w1 := (by rcases hw1 with rfl | rfl; exact Below.refl _ _; exact bytes_below _ _ _); clear hw1)
  go_ret2
  refine ⟨?_, hb1⟩
  show Ending.returned (.tuple #[.int .i64 (u : Int), .bool (decide ((s.size : Int) ≤ 9))]) = _
  have hl9 : decide ((s.size : Int) ≤ 9) = decide (s.data.toList.length ≤ 9) := by rw [← size_eq]; exact decide_eq_decide.2 (by omega)
  rw [hl9]
 | range =>
  go_enter Tryz.func121, Tryz.ntmps121
  go_wp2_with (go_at_call 147; refine (Any.strconv_ParseUint_10_at32_range (P := Tryz.prog) (ρ := Tryz.laysPu14_ren) Tryz.laysPu14 s hs h e2 w c2 k2).mono ?_; rintro e w1 ⟨N, rfl, _, _, hb1⟩)
  go_ret2
  exact ⟨rfl, hb1⟩
 | _ =>
  go_enter Tryz.func121, Tryz.ntmps121
  go_wp2_with (go_at_call 147; refine (Any.strconv_ParseUint_10_at32_syntax (P := Tryz.prog) (ρ := Tryz.laysPu14_ren) Tryz.laysPu14 s hs h e1 w c1 k1).mono ?_; rintro e w1 ⟨N, rfl, _, _, hb1⟩)
  go_ret2
  exact ⟨rfl, hb1⟩
end Go.Proofs.YtkcfdddhnboieaaGreatDoor.NText
end
section
set_option maxRecDepth 100000
namespace Go.Proofs.YtkcfdddhnboieaaGreatDoor.NText
open Go Go.Lib
inductive Tk (l : List UInt8) : Nat → List (Nat × List UInt8) → Prop
 | nil {i : Nat} (hi : i ≤ l.length) (h : (l.drop i).dropWhile wh = []) : Tk l i []
 | cons {i a : Nat} {r : List UInt8} {ts : List (Nat × List UInt8)} (hi : i ≤ l.length) (h : (l.drop i).dropWhile wh = r) (hr : r ≠ []) (ha : a + r.length = l.length) (ht : Tk l (a + (r.takeWhile nw).length) ts) : Tk l i ((a, r.takeWhile nw) :: ts)
theorem dropWhile_le {p : UInt8 → Bool} (l : List UInt8) : (l.dropWhile p).length ≤ l.length := by
 induction l with
 | nil => simp
 | cons b l ih => rw [List.dropWhile_cons]; split <;> simp <;> omega
theorem takeWhile_le {p : UInt8 → Bool} (l : List UInt8) : (l.takeWhile p).length ≤ l.length := by
 induction l with
 | nil => simp
 | cons b l ih => rw [List.takeWhile_cons]; split <;> simp <;> omega
theorem nw_not (b : UInt8) : nw b = !wh b := rfl
theorem word_pos {l r : List UInt8} (h : l.dropWhile wh = r) (hr : r ≠ []) : 0 < (r.takeWhile nw).length := by
 cases r with
 | nil => exact absurd rfl hr
 | cons b r =>
  have hb : wh b = false := by
   induction l with
   | nil => simp at h
   | cons c l ih =>
    rw [List.dropWhile_cons] at h
    cases hc : wh c with
    | true => rw [hc] at h; exact ih h
    | false => rw [hc] at h; simp at h; rw [← h.1]; exact hc
  rw [List.takeWhile_cons, nw_not, hb]
  simp
theorem tk_all (l : List UInt8) : ∀ (n i : Nat), i ≤ l.length → l.length - i ≤ n → ∃ ts, Tk l i ts
 | n, i, hi, hn => by
  by_cases hr : (l.drop i).dropWhile wh = []
  ·exact ⟨[], .nil hi hr⟩
  ·have hp := word_pos rfl hr
   have h1 := dropWhile_le (p := wh) (l.drop i)
   have h2 := takeWhile_le (p := nw) ((l.drop i).dropWhile wh)
   rw [List.length_drop] at h1
   match n with
   | 0 => omega
   | n + 1 =>
    obtain ⟨ts, ht⟩ := tk_all l n (l.length - ((l.drop i).dropWhile wh).length + (((l.drop i).dropWhile wh).takeWhile nw).length) (by omega) (by omega)
    exact ⟨_, .cons hi rfl hr (by omega) ht⟩
theorem Tk.le {l : List UInt8} {i : Nat} {ts : List (Nat × List UInt8)} (h : Tk l i ts) : i ≤ l.length := by cases h <;> assumption
structure RS where
 at_ : Nat
 wrong : Int
 e : Int
def failS (s : RS) (a : Int) (e : Int) : RS := if s.e = 0 then { s with wrong := a, e := e } else s
theorem failS_at (s : RS) (a e : Int) : (failS s a e).at_ = s.at_ := by unfold failS; split <;> rfl
def peekT (len : Nat) : List (Nat × List UInt8) → List UInt8 × Nat
 | [] => ([], len)
 | (a, x) :: _ => (x, a)
def nextS (len : Nat) (s : RS) : List (Nat × List UInt8) → RS × List (Nat × List UInt8)
 | [] => ({ failS s len 4 with at_ := len }, [])
 | (a, x) :: ts => ({ s with at_ := a + x.length }, ts)
theorem nextS_tk {l : List UInt8} {s : RS} {ts : List (Nat × List UInt8)} (h : Tk l s.at_ ts) : Tk l (nextS l.length s ts).1.at_ (nextS l.length s ts).2 := by
 cases h with
 | nil hi h =>
  show Tk l l.length []
  exact .nil (Nat.le_refl _) (by rw [List.drop_length]; rfl)
 | cons hi h hr ha ht => exact ht
def litT (x : List UInt8) : Int × Bool := let v := valueL (trimPrefix x [45]); (if hasPrefix x [45] then -v.1 else v.1, v.2)
end Go.Proofs.YtkcfdddhnboieaaGreatDoor.NText
end
