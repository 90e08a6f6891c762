/-
  Part 20 of the proof of proofText_card: walks and lemmas, packed by the session's own wip/pack.py out of its texts and of what the kit's print.sh printed.
-/
import Derived.Test.YtogicccdngpafaaGreatDoorPT16
import Derived.Test.YtogicccdngpafaaGreatDoorPT17
import Derived.Shelf.Strings.Builder1
import Derived.Shelf.Strings.BuilderF
import Derived.Shelf.Strings.BuilderK
import Derived.Shelf.Strconv.Itoa3
import Derived.Lib.ItoaLen
set_option linter.unusedVariables false
set_option linter.unusedSimpArgs false
section
set_option maxHeartbeats 4000000
set_option maxRecDepth 100000
namespace Go.Proofs
open Go.Shelf
theorem Tryz.bex169 : Builder.Extra Tryz.prog Tryz.lays169_ren := {
 sizeBuilder := by kernel_rfl
 liesBuilder := by kernel_rfl
 t5 := Tryz.underlying5
 a5 := Tryz.isAgg5
 z5 := Tryz.sizeOf5
 v5 := Tryz.zeroValue5
 infoByte := by kernel_rfl
 cellsByte := by kernel_rfl
 sizeByte := by kernel_rfl
 neB5 := by decide }
end Go.Proofs
namespace Go.Proofs.YtogicccdngpafaaGreatDoor.NState
open Go Go.RowKit Go.Shelf QW.PrintWords QW.PrintLast QW.PrintMore NMap
open PSame (S42 k42 rd_T42 at_T42)
abbrev Bld (B b : Nat) (l : List UInt8) (w : World) : Prop := Lib.IsBuilderF 106 5 B b (Lib.byteCells l) w
abbrev Kept (b : Nat) (w w' : World) : Prop := Lib.OthersKept 5 (some b) w w'
theorem bldAt_below {T e : TypeId} {B b : Nat} {p : Value} {bs : List Value} {w w' : World} (h : Lib.BuilderAtF T e B b p bs w) (hb : Below w.heap.size w w') : Lib.BuilderAtF T e B b p bs w' := by
 obtain ⟨hB, v, hbk, hown, hne⟩ := h
 refine ⟨hB, v, blk_below hbk hb, ⟨hown.1, ?_⟩, hne⟩
 rcases hown.2 with hn | ⟨g, cap, cur, fz, hv, hbg, hg, rest⟩
 ·exact .inl hn
 ·exact .inr ⟨g, cap, cur, fz, hv, hbg, (hb.block g (Array.getElem?_eq_some_iff.1 hg).1).trans hg, rest⟩
theorem bld_below {B b : Nat} {l : List UInt8} {w w' : World} (h : Bld B b l w) (hb : Below w.heap.size w w') : Bld B b l w' := h.elim (fun x => .inl (bldAt_below x hb)) (fun x => .inr (bldAt_below x hb))
theorem kept_below {b : Nat} {w w' : World} (hb : Below w.heap.size w w') : Kept b w w' := fun k _ hk _ _ => (hb.block k (Array.getElem?_eq_some_iff.1 hk).1).trans hk
theorem Kept.blk {b k t : Nat} {w w' : World} {cs : Array Value} {fr : Nat × Nat} (h : Kept b w w') (hk : w.heap[k]? = some (.cells cs t fr)) (hne : k ≠ b) (ht : t ≠ 5) : w'.heap[k]? = some (.cells cs t fr) :=
 h k _ hk (fun e => hne (Option.some.inj e)) (fun _ _ e => by cases e; exact ht rfl)
theorem below_grow (w : World) (k : Nat) (os : Array Obj) : Below w.heap.size w (Sort.grow (w.drewN k) os) := by
 refine ⟨rfl, rfl, rfl, ?_, fun i hi => ?_⟩
 ·rw [Sort.size_grow]; exact Nat.le_add_right _ _
 ·exact Sort.heap_grow_old (w.drewN k) os hi
theorem ptr_neq (w : World) (a : Addr) : (binOp .neq 103 (.pointer (some a)) (.pointer (some a))).run Tryz.prog w = .ok (.bool false) w := by
 obtain ⟨j, hj, _⟩ := Option.map_eq_some_iff.1 Tryz.bex169.sizeBuilder
 exact Lib.run_neq_ptr_same w a Tryz.underlying103 hj
theorem infoByte : (Tryz.prog.info? 5).map (fun i => (i.zero, i.size, i.bytes)) = some (some (.int .u8 0), 1, 1) := by kernel_rfl
theorem copy_fresh (b : Nat) (w : World) (h0 : w.cell? ⟨b, 0, none⟩ = some (.pointer none)) (hsh : w.shape? b = some (106, 2)) (hfz : w.frozen? ⟨b, 0, none⟩ = false) :
  Calls Tryz.prog 98 #[.pointer (some ⟨b, 0, none⟩)] w fun e w' => e = .returned (.tuple #[]) ∧ w' = w.setCell ⟨b, 0, none⟩ (.pointer (some ⟨b, 0, none⟩)) := by
 obtain ⟨j, hj, hjs⟩ := Option.map_eq_some_iff.1 Tryz.bex169.sizeBuilder
 have hto := Lib.run_to_unsafe (P := Tryz.prog) (w := w) (src := 103) (dst := 185) ⟨b, 0, none⟩ Tryz.underlying103 Tryz.underlying185 hj (by rw [hjs]; decide) hsh (Nat.zero_lt_succ 1)
 have hfrom := Lib.run_from_unsafe (P := Tryz.prog) (w := w) (src := 185) (dst := 103) ⟨b, 0, none⟩ Tryz.underlying185 Tryz.underlying103 hj hsh Tryz.bex169.liesBuilder
 go_enter Tryz.func98, Tryz.ntmps98
 go_wp2
 rw [run_callFunc_extern Tryz.func126 (by kernel_rfl) (by kernel_rfl) (by kernel_rfl) (e := Extern.AbiNoEscape.same) (by kernel_rfl)]
 rw [Lib.run_noEscape]
 simp only [Result.andThen]
 rw [Oper.upon_value]
 go_wp2
 go_end0
 exact ⟨rfl, rfl⟩
theorem copy_used (b : Nat) (w : World) (h0 : w.cell? ⟨b, 0, none⟩ = some (.pointer (some ⟨b, 0, none⟩))) :
  Calls Tryz.prog 98 #[.pointer (some ⟨b, 0, none⟩)] w fun e w' => e = .returned (.tuple #[]) ∧ w' = w := by
 have hne := ptr_neq w ⟨b, 0, none⟩
 go_enter Tryz.func98, Tryz.ntmps98
 go_wp2
 go_end0
 exact ⟨rfl, rfl⟩
abbrev BldU (B b : Nat) (bs : List Value) (w : World) : Prop := Lib.BuilderAtF 106 5 B b (.pointer (some ⟨b, 0, none⟩)) bs w
theorem copy_calls (B b : Nat) (bs : List Value) (w : World) (h : Lib.IsBuilderF 106 5 B b bs w) :
  Calls Tryz.prog 98 #[.pointer (some ⟨b, 0, none⟩)] w fun e w' => e = .returned (.tuple #[]) ∧ BldU B b bs w' ∧ Below B w w' ∧ Kept b w w' := by
 rcases h with h | h
 ·refine (copy_fresh b w h.cell0 h.shape h.frozen0).mono ?_
  rintro e w' ⟨rfl, rfl⟩
  exact ⟨rfl, h.used _, (Below.refl B w).setCell (p := ⟨b, 0, none⟩) h.1 _, (Lib.OthersKept.refl _ _ w).setCell ⟨b, 0, none⟩ rfl _⟩
 ·refine (copy_used b w h.cell0).mono ?_
  rintro e w' ⟨rfl, rfl⟩
  exact ⟨rfl, h, Below.refl B _, Lib.OthersKept.refl _ _ _⟩
theorem wbyte_calls (B b : Nat) (l : List UInt8) (c : UInt8) (w : World) (h : Bld B b l w) (hlen : l.length + 1 ≤ 140737488355328) (hB : B ≤ w.heap.size) :
  Calls Tryz.prog 63 #[.pointer (some ⟨b, 0, none⟩), .int .u8 c.toNat] w fun e w' => e = .returned .nilIface ∧ Bld B b (l ++ [c]) w' ∧ Below B w w' ∧ Kept b w w' := by
 obtain ⟨i0, hi, hz0, hz1, hz2⟩ := info_parts infoByte
 have HBL : Az ((Lib.byteCells l).length = l.length) := ⟨Lib.byteCells_length l⟩
 have hcopy := copy_calls B b (Lib.byteCells l) w h
 clear h
 go_enter Tryz.func63, Tryz.ntmps63
 go_wp2_with fail
 refine hcopy.mono ?_
 rintro e w1 ⟨rfl, h1, hb1, hk1⟩
 clear hcopy
 obtain ⟨hB1, v, hbk, hown, hne⟩ := h1
 have c0 : w1.cell? ⟨b, 0, none⟩ = some (.pointer (some ⟨b, 0, none⟩)) := by rw [Lib.cell_of_heap hbk]; rfl
 have c1 : w1.cell? ⟨b, 1, none⟩ = some v := by rw [Lib.cell_of_heap hbk]; rfl
 go_wp2_with (at_builtin; refine wpList_append_ownF _ rfl _ _ 104 rfl B 5 i0 (.int .u8 0) 1 1 Tryz.underlying104 hi hz0 hz1 hz2 rfl (by decide) _ _ _ rfl (hown.alloc _) ⟨w1.heap.size, 0, none⟩ 1 1 [.int .u8 c.toNat] rfl rfl ?c1 ?c2 ?c3 ?c4 ?c5 ?_)
 case c1 =>
  intro j u hj
  match j, hj with
  | 0, hj => simp at hj; subst hj; simp [Addr.add]
 case c2 => intro u hu; simp at hu; subst hu; rfl
 case c3 => rw [HBL.out]; unfold maxLen; omega
 case c4 => rw [HBL.out]; omega
 case c5 => have := hb1.size; simp; omega
 intro v' w2 hown' hgrow _
 have hlt : b < w1.heap.size := (Array.getElem?_eq_some_iff.1 hbk).1
 have hb2 : w2.heap[b]? = some (.cells #[.pointer (some ⟨b, 0, none⟩), v] 106 (0, 0)) := by
  rw [hgrow.block b (by simp; omega) (fun e => hne e.symm), Lib.alloc_old w1 _ b hlt]
  exact hbk
 have d0 : w2.cell? ⟨b, 0, none⟩ = some (.pointer (some ⟨b, 0, none⟩)) := by rw [Lib.cell_of_heap hb2]; rfl
 have d1 : w2.cell? ⟨b, 1, none⟩ = some v := by rw [Lib.cell_of_heap hb2]; rfl
 have f1 : w2.frozen? ⟨b, 1, none⟩ = false := Lib.frozen_of_heap hb2 1
 obtain ⟨g, cap, rfl⟩ : ∃ g cap, v' = .slice (some ⟨g, 0, none⟩) ((Lib.byteCells l).length + 1) cap := by
  rcases hown'.2 with ⟨_, h0⟩ | ⟨g, cap, cur, fz, hv, _⟩
  ·omega
  ·exact ⟨g, cap, hv⟩
 go_wp2
 go_ret
 refine ⟨rfl, .inr ?_, ?_, ((hk1.alloc _).grown hgrow (Lib.ownsRowF_kind (hown.alloc _))).setCell ⟨b, 1, none⟩ rfl _⟩
 ·rw [Lib.byteCells_append]
  exact Lib.BuilderAtF.put (T := 106) (e := 5) hB1 hb2 (bs' := Lib.byteCells l ++ [.int .u8 c.toNat]) (by simpa using hown') (by decide)
 ·exact ((hb1.alloc (by have := hb1.size; omega) _).grown hgrow (by have := hb1.size; simp; omega) (fun k hk => (hown.lt k hk).1)).setCell (p := ⟨b, 1, none⟩) hB1 _
theorem wstr_calls (B b : Nat) (l s : List UInt8) (w : World) (h : Bld B b l w) (hlen : l.length + s.length ≤ 140737488355328) (hB : B ≤ w.heap.size) :
  Calls Tryz.prog 61 #[.pointer (some ⟨b, 0, none⟩), .string ⟨s.toArray⟩] w fun e w' => e = .returned (.tuple #[.int .i64 s.length, .nilIface]) ∧ Bld B b (l ++ s) w' ∧ Below B w w' ∧ Kept b w w' := by
 obtain ⟨i0, hi, hz0, hz1, hz2⟩ := info_parts infoByte
 have HBL : Az ((Lib.byteCells l).length = l.length) := ⟨Lib.byteCells_length l⟩
 have hcopy := copy_calls B b (Lib.byteCells l) w h
 clear h
 obtain ⟨q, hq⟩ : ∃ q : ByteArray, q = ⟨s.toArray⟩ := ⟨_, rfl⟩
 have HQS : Az (q.size = s.length) := ⟨by rw [hq]; rfl⟩
 have HQC : Az (Lib.strCells q = Lib.byteCells s) := ⟨by rw [hq]; rfl⟩
 rw [← hq]
 clear hq
 go_enter Tryz.func61, Tryz.ntmps61
 go_wp2_with fail
 refine hcopy.mono ?_
 rintro e w1 ⟨rfl, h1, hb1, hk1⟩
 clear hcopy
 obtain ⟨hB1, v, hbk, hown, hne⟩ := h1
 have c0 : w1.cell? ⟨b, 0, none⟩ = some (.pointer (some ⟨b, 0, none⟩)) := by rw [Lib.cell_of_heap hbk]; rfl
 have c1 : w1.cell? ⟨b, 1, none⟩ = some v := by rw [Lib.cell_of_heap hbk]; rfl
 go_wp2_with (at_builtin; refine Lib.wpList_append_own_stringF _ rfl _ _ 104 9 rfl B 5 i0 Tryz.underlying104 Tryz.underlying9 hi hz0 hz1 hz2 _ _ _ rfl hown q rfl ?c3 ?c4 ?c5 ?_)
 case c3 => rw [HBL.out, HQS.out]; unfold maxLen; omega
 case c4 => rw [HBL.out, HQS.out]; omega
 case c5 => have := hb1.size; omega
 intro v' w2 hown' hgrow _
 have hlt : b < w1.heap.size := (Array.getElem?_eq_some_iff.1 hbk).1
 have hb2 : w2.heap[b]? = some (.cells #[.pointer (some ⟨b, 0, none⟩), v] 106 (0, 0)) := by
  rw [hgrow.block b hlt (fun e => hne e.symm)]
  exact hbk
 have d0 : w2.cell? ⟨b, 0, none⟩ = some (.pointer (some ⟨b, 0, none⟩)) := by rw [Lib.cell_of_heap hb2]; rfl
 have d1 : w2.cell? ⟨b, 1, none⟩ = some v := by rw [Lib.cell_of_heap hb2]; rfl
 have f1 : w2.frozen? ⟨b, 1, none⟩ = false := Lib.frozen_of_heap hb2 1
 obtain ⟨ao, n', cap, rfl⟩ : ∃ ao n' cap, v' = .slice ao n' cap := by
  rcases hown'.2 with ⟨hv, _⟩ | ⟨g, cap, cur, fz, hv, _⟩
  ·exact ⟨_, _, _, hv⟩
  ·exact ⟨_, _, _, hv⟩
 go_wp2
 go_ret2
 refine ⟨by rw [← HQS.out]; rfl, .inr ?_, ?_, (hk1.grown hgrow (Lib.ownsRowF_kind hown)).setCell ⟨b, 1, none⟩ rfl _⟩
 ·rw [Lib.byteCells_append, ← HQC.out]
  exact Lib.BuilderAtF.put (T := 106) (e := 5) hB1 hb2 (bs' := Lib.byteCells l ++ Lib.strCells q) (by simpa [Lib.strCells_length] using hown') (by decide)
 ·exact (hb1.grown hgrow (by have := hb1.size; omega) (fun k hk => (hown.lt k hk).1)).setCell (p := ⟨b, 1, none⟩) hB1 _
theorem bstring_calls (B b : Nat) (l : List UInt8) (w : World) (h : Bld B b l w) (hB : B ≤ w.heap.size) :
  Calls Tryz.prog 66 #[.pointer (some ⟨b, 0, none⟩)] w fun e w' => e = .returned (.string ⟨l.toArray⟩) ∧ Below B w w' := by
 refine (Any.Builder_String_any_k Tryz.lays169 Tryz.bex169 B b l w h hB).mono ?_
 rintro e w' ⟨rfl, _, h2, _⟩
 exact ⟨rfl, h2⟩
theorem blen_calls (B b : Nat) (l : List UInt8) (w : World) (h : Bld B b l w) :
  Calls Tryz.prog 65 #[.pointer (some ⟨b, 0, none⟩)] w fun e w' => e = .returned (.int .i64 l.length) ∧ w' = w := by
 refine (Any.Builder_Len_f Tryz.lays170 B b (Lib.byteCells l) w h).mono ?_
 rintro e w' ⟨rfl, rfl⟩
 exact ⟨by rw [Lib.byteCells_length], rfl⟩
def ItoaAt (w : World) (x : Int) : Prop := ∀ W, Below w.heap.size w W → Calls Tryz.prog 62 #[.int .i64 x] W fun e W' => e = .returned (.string ⟨(Lib.itoa x).toArray⟩) ∧ Below W.heap.size W W'
theorem itoa_small (w : World) (i : Nat) (hi : i < 100) : ItoaAt w (i : Int) := fun W _ => (Any.strconv_Itoa_small Tryz.lays171 i hi W).mono (by
 rintro e W' ⟨rfl, rfl⟩
 exact ⟨by rw [Lib.itoa_nonneg], Below.refl _ _⟩)
def numL (l : List Int) : List UInt8 := l.flatMap (fun x => Lib.itoa x ++ [32]) ++ [48]
def NumPost (w0 W : World) (B b : Nat) (l : List UInt8) (e : Ending) (W' : World) : Prop := e = .returned (.tuple #[]) ∧ Bld B b l W' ∧ Below w0.heap.size w0 W' ∧ Kept b W W' ∧ W.heap.size ≤ W'.heap.size
theorem numbers_calls (w0 W : World) (b : Nat) (acc : List UInt8) (A : Option Addr) (c : Nat) (l : List Int) (hC : Kd.C (Kd.int .i64) w0 A l.length l) (hW : Below w0.heap.size w0 W) (hb : Bld w0.heap.size b acc W) (hit : ∀ x ∈ l, ItoaAt w0 x) (hlen : acc.length + (numL l).length ≤ 140737488355328) :
  Calls Tryz.prog 64 #[.pointer (some ⟨b, 0, none⟩), .slice A l.length c] W (NumPost w0 W w0.heap.size b (acc ++ numL l)) := by
 have HC := Az.mk hC
 have HW := Az.mk hW
 have HB := Az.mk hb
 have HIT := Az.mk hit
 have HLEN := Az.mk hlen
 have HLL : Az (l.length ≤ 9223372036854775807) := ⟨Kd.C_max hC⟩
 have HK : Az (Kept b W W) := ⟨Lib.OthersKept.refl _ _ _⟩
 clear hC hW hb hit hlen
 go_enter Tryz.func64, Tryz.ntmps64
 go_wp2
 go_loopw [8] (fun v8 wr => ∃ (j : Nat) (acc' : List UInt8), v8 = .int .i64 j ∧ j ≤ l.length ∧ Az (Bld w0.heap.size b acc' wr) ∧ Az (Below w0.heap.size w0 wr) ∧ Az (Kept b W wr) ∧ Az (acc ++ numL l = acc' ++ numL (l.drop j)) ∧ Az (W.heap.size ≤ wr.heap.size)) (fun v8 _ => l.length - (intOf v8).toNat)
 case atStart => exact ⟨0, acc, rfl, Nat.zero_le _, HB, HW, HK, ⟨by simp⟩, ⟨Nat.le_refl _⟩⟩
 case round =>
  clear HB HW HK
  obtain ⟨j, acc', rfl, hj, HB, HW, HK, HG, HS⟩ := hrel
  by_cases hlt : j < l.length
  ·obtain ⟨ad, rfl, hc⟩ := Kd.at_int (Kd.C_below HC.out HW.out) (j : Int) (by omega) (by omega)
   have hd : l.drop j = rd l (j : Int) :: l.drop (j + 1) := by
    rw [List.drop_eq_getElem_cons hlt]; simp [rd, rdOf, hlt]
   have HX : Az (ItoaAt w0 (rd l (j : Int))) := ⟨HIT.out _ (by
    have : rd l (j : Int) = l[j] := by simp [rd, rdOf, hlt]
    rw [this]; exact List.getElem_mem _)⟩
   have HG2 : Az (acc ++ numL l = ((acc' ++ Lib.itoa (rd l (j : Int))) ++ [32]) ++ numL (l.drop (j + 1))) := ⟨by rw [HG.out, hd]; simp [numL]⟩
   clear hd HG
   generalize rd l (j : Int) = x at HX HG2 hc
   simp only [Int.toNat_natCast] at hc
   have HL2 : Az (acc'.length + (Lib.itoa x).length + 1 ≤ 140737488355328) := ⟨by
    have h1 := HLEN.out
    have h2 := congrArg List.length HG2.out
    simp only [List.length_append, List.length_cons, List.length_nil] at h2
    omega⟩
   have hcall := HX.out wr HW.out
   go_wp2_with (first | (go_at_call 62; refine hcall.mono ?_; rintro e w2 ⟨rfl, hb2⟩; have HB2 := Az.mk (bld_below HB.out hb2); have HW2 := Az.mk (bwt HW.out hb2); have HK2 := Az.mk (HK.out.trans (kept_below hb2)); have HS2 : Az (W.heap.size ≤ w2.heap.size) := ⟨Nat.le_trans HS.out hb2.size⟩; clear hb2 hcall hc) | (go_at_call 61; refine (wstr_calls w0.heap.size b acc' (Lib.itoa x) w2 HB2.out (by have := HL2.out; omega) HW2.out.size).mono ?_; rintro e w3 ⟨rfl, hb3, hl3, hk3⟩; have HB3 := Az.mk hb3; have HW3 := Az.mk (HW2.out.trans hl3); have HK3 := Az.mk (HK2.out.trans hk3); have HS3 : Az (W.heap.size ≤ w3.heap.size) := ⟨Nat.le_trans HS2.out hl3.size⟩; clear hb3 hl3 hk3) | (go_at_call 63; refine (wbyte_calls w0.heap.size b (acc' ++ Lib.itoa x) 32 w3 HB3.out (by have := HL2.out; simp; omega) HW3.out.size).mono ?_; rintro e w4 ⟨rfl, hb4, hl4, hk4⟩; have HB4 := Az.mk hb4; have HW4 := Az.mk (HW3.out.trans hl4); have HK4 := Az.mk (HK3.out.trans hk4); have HS4 : Az (W.heap.size ≤ w4.heap.size) := ⟨Nat.le_trans HS3.out hl4.size⟩; clear hb4 hl4 hk4))
   go_roundw
   case rel => exact ⟨j + 1, _, by rw [wrap_succ hlt HLL.out], by omega, HB4, HW4, HK4, HG2, HS4⟩
   case measure => exact meas_x hlt (wrap_succ hlt HLL.out)
  ·have HG2 : Az (acc ++ numL l = acc' ++ [48]) := ⟨by rw [HG.out, List.drop_of_length_le (by omega)]; rfl⟩
   have HL2 : Az (acc'.length + 1 ≤ 140737488355328) := ⟨by
    have h1 := HLEN.out
    have h2 := congrArg List.length HG2.out
    simp only [List.length_append, List.length_cons, List.length_nil] at h2
    omega⟩
   go_wp2_with (go_at_call 63; refine (wbyte_calls w0.heap.size b acc' 48 wr HB.out HL2.out HW.out.size).mono ?_; rintro e w4 ⟨rfl, hb4, hl4, hk4⟩; have HB4 := Az.mk hb4; have HW4 := Az.mk (HW.out.trans hl4); have HK4 := Az.mk (HK.out.trans hk4); have HS4 : Az (W.heap.size ≤ w4.heap.size) := ⟨Nat.le_trans HS.out hl4.size⟩; clear hb4 hl4 hk4)
   go_end0
   exact ⟨rfl, by rw [HG2.out]; exact HB4.out, HW4.out, HK4.out, HS4.out⟩
end Go.Proofs.YtogicccdngpafaaGreatDoor.NState
end
section
set_option maxHeartbeats 4000000
set_option maxRecDepth 100000
namespace Go.Proofs.YtogicccdngpafaaGreatDoor.NState
open Go Go.RowKit Go.Shelf QW.PrintWords QW.PrintLast QW.PrintMore NMap
open PSame (S42 k42 rd_T42 at_T42)
theorem wrong_calls (n : Int) (w : World) : Calls Tryz.prog 60 #[.int .i64 n] w fun e w' => e = .returned (.bool (decide (n < 0) || decide (16384 < n))) ∧ w = w' := by
 by_cases h : n < 0
 ·have h' : decide (n < 0) = true := decide_eq_true h
  go_enter Tryz.func60, Tryz.ntmps60
  go_wp2
  go_ret
  exact ⟨by first | rfl | (rw [h']; rfl), rfl⟩
 ·have h' : decide (n < 0) = false := decide_eq_false h
  go_enter Tryz.func60, Tryz.ntmps60
  go_wp2
  go_ret
  exact ⟨by first | rfl | (rw [h']; rfl), rfl⟩
def fmtN (n : Int) (x : Stp) : Int := if x.f1 = true then n else n + 1
def fmtX (n : Int) (x : Stp) : List UInt8 := Lib.itoa (fmtN n x) ++ [32] ++ (if x.f1 = true then [100] else numL x.f0) ++ [32] ++ numL x.f2 ++ [10]
def fmtL : Int → List Stp → List UInt8
 | _, [] => []
 | n, x :: xs => fmtX n x ++ fmtL (fmtN n x) xs
def formatF (n : Int) (p : List Stp) : List UInt8 × Int :=
 if n < 0 ∨ 16384 < n then ([], 1) else if 65536 < (fmtL n p).length then ([], 5) else (fmtL n p, 0)
def FormatPost (w : World) (r : List UInt8 × Int) (e : Ending) (w' : World) : Prop := e = .returned (.tuple #[.string ⟨r.1.toArray⟩, .int .i64 r.2]) ∧ Below w.heap.size w w'
theorem format_calls (n : Int) (A2 : Option Addr) (c2 : Nat) (p : List Stp) (w : World) (hr2 : Kd.C kStp w A2 p.length p) (hc2 : p.length ≤ c2) (hpl : p.length ≤ 1000000) (hlen : (fmtL n p).length ≤ 140737488355328)
  (hitn : ∀ m : Int, n ≤ m → m ≤ n + p.length → ItoaAt w m) (hitx : ∀ x ∈ p, (∀ y ∈ x.f0, ItoaAt w y) ∧ (∀ y ∈ x.f2, ItoaAt w y)) :
  Calls Tryz.prog 25 #[.int .i64 n, .slice A2 p.length c2] w (FormatPost w (formatF n p)) := by
 have HR2 := Az.mk hr2
 have HITN := Az.mk hitn
 have HITX := Az.mk hitx
 have HLEN := Az.mk hlen
 have HPL := Az.mk hpl
 clear hr2 hc2 hpl hlen hitn hitx
 go_enter Tryz.func25, Tryz.ntmps25
 go_wp2_with fail
 refine (wrong_calls n w).mono ?_
 rintro e w0 ⟨rfl, rfl⟩
 by_cases hw : n < 0 ∨ 16384 < n
 ·have HF : Az (formatF n p = ([], 1)) := ⟨by unfold formatF; rw [if_pos hw]⟩
  have hw' : (decide (n < 0) || decide (16384 < n)) = true := by simpa using hw
  rw [hw']
  clear hw hw'
  go_wp2
  go_ret2
  exact ⟨by rw [HF.out]; rfl, Below.refl _ _⟩
 ·have hw' : (decide (n < 0) || decide (16384 < n)) = false := by
   rw [Bool.or_eq_false_iff]; exact ⟨decide_eq_false (fun h => hw (.inl h)), decide_eq_false (fun h => hw (.inr h))⟩
  have HN : Az (0 ≤ n ∧ n ≤ 16384) := ⟨by omega⟩
  have HF : Az (formatF n p = if 65536 < (fmtL n p).length then ([], 5) else (fmtL n p, 0)) := ⟨by unfold formatF; rw [if_neg hw]⟩
  rw [hw']
  clear hw hw'
  have HB0 : Az (Bld w.heap.size w.heap.size [] (w.alloc (.cells #[.pointer none, .slice none 0 0] 106))) := ⟨Lib.IsBuilderF.of (Lib.fresh_isBuilder 106 5 w)⟩
  have HW0 : Az (Below w.heap.size w (w.alloc (.cells #[.pointer none, .slice none 0 0] 106))) := ⟨(Below.refl _ _).alloc (Nat.le_refl _) _⟩
  have HS0 : Az (w.heap.size < (w.alloc (.cells #[.pointer none, .slice none 0 0] 106)).heap.size) := ⟨by simp⟩
  go_wp2
  generalize w.alloc (.cells #[.pointer none, .slice none 0 0] 106) = W at HB0 HW0 HS0 ⊢
  go_loopw [0, 13] (fun v0 v13 wr => ∃ (m : Int) (j : Nat) (acc : List UInt8), v0 = .int .i64 m ∧ v13 = .int .i64 j ∧ j ≤ p.length ∧ Az (n ≤ m ∧ m ≤ n + j) ∧ Az (Bld w.heap.size w.heap.size acc wr) ∧ Az (Below w.heap.size w wr) ∧ Az (w.heap.size < wr.heap.size) ∧ Az (fmtL n p = acc ++ fmtL m (p.drop j))) (fun _ v13 _ => p.length - (intOf v13).toNat)
  case atStart => exact ⟨n, 0, [], rfl, rfl, Nat.zero_le _, ⟨by omega⟩, HB0, HW0, HS0, ⟨by simp⟩⟩
  case round =>
   clear HB0 HW0 HS0
   obtain ⟨m, j, acc, rfl, rfl, hj, HM, HB, HW, HS, HG⟩ := hrel
   by_cases hlt : j < p.length
   ·obtain ⟨ad, A3, c3, A4, c4, rfl, hp0, hp1, hp2, hl3, hC3, hl4, hC4⟩ := at_T42 HR2.out (j : Int) (by omega) (by omega)
    have HC3 := Az.mk hC3
    have HC4 := Az.mk hC4
    replace hp0 := (HW.out.cell (World.block_lt_of_cell? w _ hp0)).trans hp0
    replace hp1 := (HW.out.cell (World.block_lt_of_cell? w _ hp1)).trans hp1
    replace hp2 := (HW.out.cell (World.block_lt_of_cell? w _ hp2)).trans hp2
    have hd : p.drop j = rd_T42 p (j : Int) :: p.drop (j + 1) := by
     rw [List.drop_eq_getElem_cons hlt]; simp [rd_T42, List.getD, hlt]
    have HX : Az ((∀ y ∈ (rd_T42 p (j : Int)).f0, ItoaAt w y) ∧ (∀ y ∈ (rd_T42 p (j : Int)).f2, ItoaAt w y)) := ⟨HITX.out _ (by
     have : rd_T42 p (j : Int) = p[j] := by simp [rd_T42, List.getD, hlt]
     rw [this]; exact List.getElem_mem _)⟩
    have HG2 : Az (fmtL n p = (acc ++ fmtX m (rd_T42 p (j : Int))) ++ fmtL (fmtN m (rd_T42 p (j : Int))) (p.drop (j + 1))) := ⟨by rw [HG.out, hd, fmtL, List.append_assoc]⟩
    clear hd HG hC3 hC4 hl3 hl4
    generalize rd_T42 p (j : Int) = x at HX HG2 HC3 HC4 hp0 hp1 hp2
    obtain ⟨xc, xg, xh⟩ := x
    simp only [Int.toNat_natCast] at hp0 hp1 hp2
    have HLB : Az (acc.length + (fmtX m ⟨xc, xg, xh⟩).length ≤ 140737488355328) := ⟨by
     have h1 := HLEN.out
     rw [HG2.out, List.length_append, List.length_append] at h1
     omega⟩
    obtain ⟨y, hy⟩ : ∃ y : Int, wrap64 (m + 1) = y := ⟨_, rfl⟩
    have HY : Az (y = m + 1) := ⟨by
     rw [← hy]; have := HM.out; have := HN.out; have := HPL.out
     unfold wrap64; omega⟩
    have HBX : Az (Bld w.heap.size w.heap.size acc (wr.alloc (.cells #[.slice A3 xc.length c3, .bool xg, .slice A4 xh.length c4] 42))) := ⟨bld_below HB.out ((Below.refl _ _).alloc (Nat.le_refl _) _)⟩
    have HWX : Az (Below w.heap.size w (wr.alloc (.cells #[.slice A3 xc.length c3, .bool xg, .slice A4 xh.length c4] 42))) := ⟨bwt HW.out ((Below.refl _ _).alloc (Nat.le_refl _) _)⟩
    have HXX : Az ((wr.alloc (.cells #[.slice A3 xc.length c3, .bool xg, .slice A4 xh.length c4] 42)).heap[wr.heap.size]? = some (.cells #[.slice A3 xc.length c3, .bool xg, .slice A4 xh.length c4] 42 (0, 0))) := ⟨blk_new _ _⟩
    clear HB HW
    cases xg with
    | false =>
     have HIN : Az (ItoaAt w y) := ⟨HITN.out _ (by have := HM.out; have := HY.out; omega) (by have := HM.out; have := HY.out; omega)⟩
     have HFX : Az (fmtX m ⟨xc, false, xh⟩ = Lib.itoa y ++ [32] ++ numL xc ++ [32] ++ numL xh ++ [10]) := ⟨by unfold fmtX fmtN; simp only [if_true, Bool.false_eq_true, if_false]; rw [HY.out]⟩
     have HFN : Az (fmtN m ⟨xc, false, xh⟩ = y) := ⟨by unfold fmtN; simp only [if_true, Bool.false_eq_true, if_false]; exact HY.out.symm⟩
     rw [HFX.out] at HLB HG2
     rw [HFN.out] at HG2
     have HLB2 : Az (acc.length + (Lib.itoa y).length + 1 + (numL xc).length + 1 + (numL xh).length + 1 ≤ 140737488355328) := ⟨by have := HLB.out; simp only [List.length_append, List.length_cons, List.length_nil] at this ⊢; omega⟩
     clear HFX HFN HLB
     go_wp2_with fail
     generalize wr.alloc (.cells #[.slice A3 xc.length c3, .bool false, .slice A4 xh.length c4] 42) = W1 at HBX HWX HXX ⊢
     have hbx : wr.heap.size ≠ w.heap.size := by have := HS.out; omega
     refine (HIN.out W1 HWX.out).mono ?_
     rintro e w2 ⟨rfl, hb2⟩
     have HB2 := Az.mk (bld_below HBX.out hb2)
     have HW2 := Az.mk (bwt HWX.out hb2)
     have HX2 := Az.mk (blk_below HXX.out hb2)
     clear hb2 HBX HWX HXX hp0 hp1 hp2
     go_wp2_with fail
     refine (wstr_calls w.heap.size w.heap.size acc (Lib.itoa y) w2 HB2.out (by have := HLB2.out; omega) HW2.out.size).mono ?_
     rintro e w3 ⟨rfl, hb3, hl3, hk3⟩
     have HB3 := Az.mk hb3
     have HW3 := Az.mk (HW2.out.trans hl3)
     have HX3 := Az.mk (Kept.blk hk3 HX2.out hbx (by decide))
     clear hb3 hl3 hk3 HB2 HW2 HX2
     have hx0 : w3.cell? ⟨wr.heap.size, 0, none⟩ = some (.slice A3 xc.length c3) := (bkc HX3.out 0).trans rfl
     have hx1 : w3.cell? ⟨wr.heap.size, 1, none⟩ = some (.bool false) := (bkc HX3.out 1).trans rfl
     have hx2 : w3.cell? ⟨wr.heap.size, 2, none⟩ = some (.slice A4 xh.length c4) := (bkc HX3.out 2).trans rfl
     go_wp2_with fail
     clear hx0 hx1 hx2
     refine (wbyte_calls w.heap.size w.heap.size (acc ++ Lib.itoa y) 32 w3 HB3.out (by have := HLB2.out; simp only [List.length_append]; omega) HW3.out.size).mono ?_
     rintro e w4 ⟨rfl, hb4, hl4, hk4⟩
     have HB4 := Az.mk hb4
     have HW4 := Az.mk (HW3.out.trans hl4)
     have HX4 := Az.mk (Kept.blk hk4 HX3.out hbx (by decide))
     clear hb4 hl4 hk4 HB3 HW3 HX3
     have hx0 : w4.cell? ⟨wr.heap.size, 0, none⟩ = some (.slice A3 xc.length c3) := (bkc HX4.out 0).trans rfl
     have hx1 : w4.cell? ⟨wr.heap.size, 1, none⟩ = some (.bool false) := (bkc HX4.out 1).trans rfl
     have hx2 : w4.cell? ⟨wr.heap.size, 2, none⟩ = some (.slice A4 xh.length c4) := (bkc HX4.out 2).trans rfl
     go_wp2_with fail
     clear hx0 hx1 hx2
     refine (numbers_calls w w4 w.heap.size ((acc ++ Lib.itoa y) ++ [32]) A3 c3 xc HC3.out HW4.out HB4.out HX.out.1 (by have := HLB2.out; simp only [List.length_append, List.length_cons, List.length_nil] at this ⊢; omega)).mono ?_
     rintro e w5 ⟨rfl, hb5, hl5, hk5, _⟩
     have HB5 := Az.mk hb5
     have HW5 := Az.mk hl5
     have HX5 := Az.mk (Kept.blk hk5 HX4.out hbx (by decide))
     clear hb5 hl5 hk5 HB4 HW4 HX4
     have hx0 : w5.cell? ⟨wr.heap.size, 0, none⟩ = some (.slice A3 xc.length c3) := (bkc HX5.out 0).trans rfl
     have hx1 : w5.cell? ⟨wr.heap.size, 1, none⟩ = some (.bool false) := (bkc HX5.out 1).trans rfl
     have hx2 : w5.cell? ⟨wr.heap.size, 2, none⟩ = some (.slice A4 xh.length c4) := (bkc HX5.out 2).trans rfl
     go_wp2_with fail
     clear hx0 hx1 hx2
     refine (wbyte_calls w.heap.size w.heap.size (((acc ++ Lib.itoa y) ++ [32]) ++ numL xc) 32 w5 HB5.out (by have := HLB2.out; simp only [List.length_append, List.length_cons, List.length_nil] at this ⊢; omega) HW5.out.size).mono ?_
     rintro e w6 ⟨rfl, hb6, hl6, hk6⟩
     have HB6 := Az.mk hb6
     have HW6 := Az.mk (HW5.out.trans hl6)
     have HX6 := Az.mk (Kept.blk hk6 HX5.out hbx (by decide))
     clear hb6 hl6 hk6 HB5 HW5 HX5
     have hx0 : w6.cell? ⟨wr.heap.size, 0, none⟩ = some (.slice A3 xc.length c3) := (bkc HX6.out 0).trans rfl
     have hx1 : w6.cell? ⟨wr.heap.size, 1, none⟩ = some (.bool false) := (bkc HX6.out 1).trans rfl
     have hx2 : w6.cell? ⟨wr.heap.size, 2, none⟩ = some (.slice A4 xh.length c4) := (bkc HX6.out 2).trans rfl
     go_wp2_with fail
     clear hx0 hx1 hx2
     refine (numbers_calls w w6 w.heap.size ((((acc ++ Lib.itoa y) ++ [32]) ++ numL xc) ++ [32]) A4 c4 xh HC4.out HW6.out HB6.out HX.out.2 (by have := HLB2.out; simp only [List.length_append, List.length_cons, List.length_nil] at this ⊢; omega)).mono ?_
     rintro e w7 ⟨rfl, hb7, hl7, hk7, _⟩
     have HB7 := Az.mk hb7
     have HW7 := Az.mk hl7
     have HX7 := Az.mk (Kept.blk hk7 HX6.out hbx (by decide))
     clear hb7 hl7 hk7 HB6 HW6 HX6
     have hx0 : w7.cell? ⟨wr.heap.size, 0, none⟩ = some (.slice A3 xc.length c3) := (bkc HX7.out 0).trans rfl
     have hx1 : w7.cell? ⟨wr.heap.size, 1, none⟩ = some (.bool false) := (bkc HX7.out 1).trans rfl
     have hx2 : w7.cell? ⟨wr.heap.size, 2, none⟩ = some (.slice A4 xh.length c4) := (bkc HX7.out 2).trans rfl
     go_wp2_with fail
     clear hx0 hx1 hx2
     refine (wbyte_calls w.heap.size w.heap.size (((((acc ++ Lib.itoa y) ++ [32]) ++ numL xc) ++ [32]) ++ numL xh) 10 w7 HB7.out (by have := HLB2.out; simp only [List.length_append, List.length_cons, List.length_nil] at this ⊢; omega) HW7.out.size).mono ?_
     rintro e w8 ⟨rfl, hb8, hl8, hk8⟩
     have HB8 := Az.mk hb8
     have HW8 := Az.mk (HW7.out.trans hl8)
     have HX8 := Az.mk (Kept.blk hk8 HX7.out hbx (by decide))
     have HS8 : Az (w.heap.size < w8.heap.size) := ⟨by have h1 := (Array.getElem?_eq_some_iff.1 HX8.out).1; have := HS.out; omega⟩
     clear hb8 hl8 hk8
     go_wp2
     go_roundw
     case rel =>
      exact ⟨y, j + 1, _, by first | rfl | rw [hy], by rw [wrap_succ hlt (by have := HPL.out; omega)], by omega, ⟨by have := HM.out; have := HY.out; omega⟩, HB8, HW8, HS8, ⟨by rw [HG2.out]; simp only [List.append_assoc]⟩⟩
     case measure => exact meas_x hlt (wrap_succ hlt (by have := HPL.out; omega))
    | true =>
     have HIN : Az (ItoaAt w m) := ⟨HITN.out _ (by have := HM.out; omega) (by have := HM.out; omega)⟩
     have HFX : Az (fmtX m ⟨xc, true, xh⟩ = Lib.itoa m ++ [32] ++ [100] ++ [32] ++ numL xh ++ [10]) := ⟨by unfold fmtX fmtN; simp only [if_true, Bool.false_eq_true, if_false]⟩
     have HFN : Az (fmtN m ⟨xc, true, xh⟩ = m) := ⟨by unfold fmtN; simp only [if_true, Bool.false_eq_true, if_false]⟩
     rw [HFX.out] at HLB HG2
     rw [HFN.out] at HG2
     have HLB2 : Az (acc.length + (Lib.itoa m).length + 1 + ([100]).length + 1 + (numL xh).length + 1 ≤ 140737488355328) := ⟨by have := HLB.out; simp only [List.length_append, List.length_cons, List.length_nil] at this ⊢; omega⟩
     clear HFX HFN HLB
     go_wp2_with fail
     generalize wr.alloc (.cells #[.slice A3 xc.length c3, .bool true, .slice A4 xh.length c4] 42) = W1 at HBX HWX HXX ⊢
     have hbx : wr.heap.size ≠ w.heap.size := by have := HS.out; omega
     refine (HIN.out W1 HWX.out).mono ?_
     rintro e w2 ⟨rfl, hb2⟩
     have HB2 := Az.mk (bld_below HBX.out hb2)
     have HW2 := Az.mk (bwt HWX.out hb2)
     have HX2 := Az.mk (blk_below HXX.out hb2)
     clear hb2 HBX HWX HXX hp0 hp1 hp2
     go_wp2_with fail
     refine (wstr_calls w.heap.size w.heap.size acc (Lib.itoa m) w2 HB2.out (by have := HLB2.out; omega) HW2.out.size).mono ?_
     rintro e w3 ⟨rfl, hb3, hl3, hk3⟩
     have HB3 := Az.mk hb3
     have HW3 := Az.mk (HW2.out.trans hl3)
     have HX3 := Az.mk (Kept.blk hk3 HX2.out hbx (by decide))
     clear hb3 hl3 hk3 HB2 HW2 HX2
     have hx0 : w3.cell? ⟨wr.heap.size, 0, none⟩ = some (.slice A3 xc.length c3) := (bkc HX3.out 0).trans rfl
     have hx1 : w3.cell? ⟨wr.heap.size, 1, none⟩ = some (.bool true) := (bkc HX3.out 1).trans rfl
     have hx2 : w3.cell? ⟨wr.heap.size, 2, none⟩ = some (.slice A4 xh.length c4) := (bkc HX3.out 2).trans rfl
     go_wp2_with fail
     clear hx0 hx1 hx2
     refine (wbyte_calls w.heap.size w.heap.size (acc ++ Lib.itoa m) 32 w3 HB3.out (by have := HLB2.out; simp only [List.length_append]; omega) HW3.out.size).mono ?_
     rintro e w4 ⟨rfl, hb4, hl4, hk4⟩
     have HB4 := Az.mk hb4
     have HW4 := Az.mk (HW3.out.trans hl4)
     have HX4 := Az.mk (Kept.blk hk4 HX3.out hbx (by decide))
     clear hb4 hl4 hk4 HB3 HW3 HX3
     have hx0 : w4.cell? ⟨wr.heap.size, 0, none⟩ = some (.slice A3 xc.length c3) := (bkc HX4.out 0).trans rfl
     have hx1 : w4.cell? ⟨wr.heap.size, 1, none⟩ = some (.bool true) := (bkc HX4.out 1).trans rfl
     have hx2 : w4.cell? ⟨wr.heap.size, 2, none⟩ = some (.slice A4 xh.length c4) := (bkc HX4.out 2).trans rfl
     go_wp2_with fail
     clear hx0 hx1 hx2
     refine (wstr_calls w.heap.size w.heap.size ((acc ++ Lib.itoa m) ++ [32]) [100] w4 HB4.out (by have := HLB2.out; simp only [List.length_append, List.length_cons, List.length_nil] at this ⊢; omega) HW4.out.size).mono ?_
     rintro e w5 ⟨rfl, hb5, hl5, hk5⟩
     have HB5 := Az.mk hb5
     have HW5 := Az.mk (HW4.out.trans hl5)
     have HX5 := Az.mk (Kept.blk hk5 HX4.out hbx (by decide))
     clear hb5 hl5 hk5 HB4 HW4 HX4
     have hx0 : w5.cell? ⟨wr.heap.size, 0, none⟩ = some (.slice A3 xc.length c3) := (bkc HX5.out 0).trans rfl
     have hx1 : w5.cell? ⟨wr.heap.size, 1, none⟩ = some (.bool true) := (bkc HX5.out 1).trans rfl
     have hx2 : w5.cell? ⟨wr.heap.size, 2, none⟩ = some (.slice A4 xh.length c4) := (bkc HX5.out 2).trans rfl
     go_wp2_with fail
     clear hx0 hx1 hx2
     refine (wbyte_calls w.heap.size w.heap.size (((acc ++ Lib.itoa m) ++ [32]) ++ [100]) 32 w5 HB5.out (by have := HLB2.out; simp only [List.length_append, List.length_cons, List.length_nil] at this ⊢; omega) HW5.out.size).mono ?_
     rintro e w6 ⟨rfl, hb6, hl6, hk6⟩
     have HB6 := Az.mk hb6
     have HW6 := Az.mk (HW5.out.trans hl6)
     have HX6 := Az.mk (Kept.blk hk6 HX5.out hbx (by decide))
     clear hb6 hl6 hk6 HB5 HW5 HX5
     have hx0 : w6.cell? ⟨wr.heap.size, 0, none⟩ = some (.slice A3 xc.length c3) := (bkc HX6.out 0).trans rfl
     have hx1 : w6.cell? ⟨wr.heap.size, 1, none⟩ = some (.bool true) := (bkc HX6.out 1).trans rfl
     have hx2 : w6.cell? ⟨wr.heap.size, 2, none⟩ = some (.slice A4 xh.length c4) := (bkc HX6.out 2).trans rfl
     go_wp2_with fail
     clear hx0 hx1 hx2
     refine (numbers_calls w w6 w.heap.size ((((acc ++ Lib.itoa m) ++ [32]) ++ [100]) ++ [32]) A4 c4 xh HC4.out HW6.out HB6.out HX.out.2 (by have := HLB2.out; simp only [List.length_append, List.length_cons, List.length_nil] at this ⊢; omega)).mono ?_
     rintro e w7 ⟨rfl, hb7, hl7, hk7, _⟩
     have HB7 := Az.mk hb7
     have HW7 := Az.mk hl7
     have HX7 := Az.mk (Kept.blk hk7 HX6.out hbx (by decide))
     clear hb7 hl7 hk7 HB6 HW6 HX6
     have hx0 : w7.cell? ⟨wr.heap.size, 0, none⟩ = some (.slice A3 xc.length c3) := (bkc HX7.out 0).trans rfl
     have hx1 : w7.cell? ⟨wr.heap.size, 1, none⟩ = some (.bool true) := (bkc HX7.out 1).trans rfl
     have hx2 : w7.cell? ⟨wr.heap.size, 2, none⟩ = some (.slice A4 xh.length c4) := (bkc HX7.out 2).trans rfl
     go_wp2_with fail
     clear hx0 hx1 hx2
     refine (wbyte_calls w.heap.size w.heap.size (((((acc ++ Lib.itoa m) ++ [32]) ++ [100]) ++ [32]) ++ numL xh) 10 w7 HB7.out (by have := HLB2.out; simp only [List.length_append, List.length_cons, List.length_nil] at this ⊢; omega) HW7.out.size).mono ?_
     rintro e w8 ⟨rfl, hb8, hl8, hk8⟩
     have HB8 := Az.mk hb8
     have HW8 := Az.mk (HW7.out.trans hl8)
     have HX8 := Az.mk (Kept.blk hk8 HX7.out hbx (by decide))
     have HS8 : Az (w.heap.size < w8.heap.size) := ⟨by have h1 := (Array.getElem?_eq_some_iff.1 HX8.out).1; have := HS.out; omega⟩
     clear hb8 hl8 hk8
     go_wp2
     go_roundw
     case rel =>
      exact ⟨m, j + 1, _, rfl, by rw [wrap_succ hlt (by have := HPL.out; omega)], by omega, ⟨by have := HM.out; omega⟩, HB8, HW8, HS8, ⟨by rw [HG2.out]; simp only [List.append_assoc]⟩⟩
     case measure => exact meas_x hlt (wrap_succ hlt (by have := HPL.out; omega))
   ·have HG2 : Az (fmtL n p = acc) := ⟨by rw [HG.out, List.drop_of_length_le (by omega), fmtL, List.append_nil]⟩
    rw [HG2.out] at HF
    have hlenc := blen_calls w.heap.size w.heap.size acc wr HB.out
    by_cases hlong : 65536 < acc.length
    ·have hl' : decide (65536 < (acc.length : Int)) = true := decide_eq_true (by omega)
     have HF2 := Az.mk (HF.out.trans (if_pos hlong))
     clear hlong HF
     go_wp2_with (go_at_call 65; refine hlenc.mono ?_; rintro e w2 ⟨rfl, rfl⟩)
     go_ret2
     exact ⟨by rw [HF2.out]; rfl, HW.out⟩
    ·have hl' : decide (65536 < (acc.length : Int)) = false := decide_eq_false (by omega)
     have HF2 := Az.mk (HF.out.trans (if_neg hlong))
     clear hlong HF
     go_wp2_with (first | (go_at_call 65; refine hlenc.mono ?_; rintro e w2 ⟨rfl, rfl⟩) | (go_at_call 66; refine (bstring_calls w.heap.size w.heap.size acc _ HB.out HW.out.size).mono ?_; rintro e w3 ⟨rfl, hb3⟩; have HB3 := Az.mk hb3; clear hb3))
     go_ret2
     exact ⟨by rw [HF2.out]; rfl, HW.out.trans HB3.out⟩
end Go.Proofs.YtogicccdngpafaaGreatDoor.NState
end
