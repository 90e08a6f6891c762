/-
  Part 12 of the proof of cnfTextMatches_card: walks and lemmas.
-/
import Derived.Test.YtkcfdddhnboieaaGreatDoorKG11
import Derived.Test.YtkcfdddhnboieaaGreatDoorKG7
import Derived.Shelf.Strconv.AppendIntPublic10
import Derived.Lib.SmallJoins
import Derived.Lib.LaidTab
import Derived.Laws.BytesArg
import Derived.Lib.AppendStr
import Derived.Lib.SlBytesConst
import Derived.Lib.ItoaNum
import Derived.Shelf.Strconv.Itoa1
import Derived.Shelf.Strconv.Itoa2
set_option linter.unusedVariables false
set_option linter.unusedSimpArgs false
section
set_option maxHeartbeats 4000000
set_option maxRecDepth 100000
namespace Go.Proofs.YtkcfdddhnboieaaGreatDoor.NState
open Go Go.RowKit Go.Shelf Go.Lib Go.Sort QW.PrintWords QW.PrintLast QW.PrintMore NMap
open PCheck (cnf_Check.f cnf_Check.calls rL at_L1)
abbrev TabOK (w : World) : Prop := TabIs Tryz.prog w "internal/strconv.uint64pow10" .u64 pow10Tab
theorem tab_glob : Tryz.prog.globalNamed "internal/strconv.uint64pow10" = some (Tryz.laysM176_ren.g 0) := by kernel_rfl
theorem TabOK.below {w w' : World} (h : TabOK w) (hb : Below w.heap.size w w') : TabOK w' := Joins.tab_stays tab_glob h hb (Nat.le_refl _)
def bI (l : List UInt8) : List Int := l.map fun b => (b.toNat : Int)
theorem bI_append (a b : List UInt8) : bI (a ++ b) = bI a ++ bI b := by simp [bI]
theorem bI_len (a : List UInt8) : (bI a).length = a.length := by simp [bI]
theorem encs_bI (l : List UInt8) : encs (Value.int .u8) (bI l) = byteCells l := by simp [encs, bI, byteCells, Function.comp_def]
abbrev BRow (w0 w : World) (v : Value) (l : List UInt8) : Prop := Kd.R (Kd.int .u8) 5 w w0.heap.size (fun _ => True) v (bI l)
theorem brow_snoc {w0 w : World} {v : Value} {l : List UInt8} {b : UInt8} (h : Kd.R (Kd.int .u8) 5 w w0.heap.size (fun _ => True) v (bI l ++ [(b.toNat : Int)])) : BRow w0 w v (l ++ [b]) := by
 unfold BRow
 rw [bI_append]; exact h
theorem strOf_bI (l : List UInt8) : strOfNums (bI l) = ⟨l.toArray⟩ := by
 have h := strOfNums_data (bI l)
 have h2 : (bI l).map (fun n : Int => UInt8.ofNat n.toNat) = l := by
  unfold bI
  rw [List.map_map]
  refine (List.map_congr_left (fun b _ => ?_)).trans (List.map_id l)
  simp
 rw [h2] at h
 cases hs : strOfNums (bI l) with
 | mk d =>
  rw [hs] at h
  simp only at h
  rw [← h]
theorem C_bytes (W : World) (l : List Int) (hm : l.length ≤ 1000000) : Kd.C (Kd.int .u8) (W.alloc (.cells (encs (Value.int .u8) l).toArray 5)) (some ⟨W.heap.size, 0, none⟩) l.length l :=
 C_lit (Kd.int .u8) W 5 l _ (Kd.reps_scalar l) hm
theorem infoU8 : (Tryz.prog.info? 5).map (fun i => (i.zero, i.size, i.bytes)) = some (some (.int .u8 0), 1, 1) := by kernel_rfl
theorem appendInt_calls {w0 w : World} (ht : TabOK w0) (hb : Below w0.heap.size w0 w) {v : Value} {l : List UInt8} (h : BRow w0 w v l) (i : Int) (h0 : -9223372036854775808 ≤ i) (h1 : i ≤ 9223372036854775807) (hl : l.length + 21 ≤ 140737488355328) :
  Calls Tryz.prog 77 #[v, .int .i64 i, .int .i64 10] w fun e w' => ∃ v', e = .returned v' ∧ BRow w0 w' v' (l ++ itoa i) ∧ Below w0.heap.size w0 w' ∧ OthersKept 5 none w w' := by
 have ho := Kd.own_of_R (enc := Value.int .u8) h
 rw [bI_len, encs_bI] at ho
 refine (Any.strconv_AppendInt_10 (P := Tryz.prog) (ρ := Tryz.laysM176_ren) Tryz.laysM176 w0.heap.size l.length i h0 h1 v (byteCells l) w ho hb.size hl (fun w' hb' => ht.below (hb.trans hb'))).mono ?_
 rintro e w' ⟨v', rfl, hr, hb', hk⟩
 refine ⟨v', rfl, ?_, hb.trans hb', hk⟩
 refine Kd.R_of_own (enc := Value.int .u8) ?_ (fun _ _ => trivial)
 rw [bI_len, encs_bI, List.length_append]
 have e : byteCells (l ++ itoa i) = byteCells l ++ byteCells (itoa i) := by simp [byteCells]
 rw [e]
 exact hr
theorem append_first {w0 W : World} {g : Nat} {l : List UInt8} (hb : W.heap[g]? = some (.cells (byteCells l).toArray 5 (l.length, l.length + 1))) (s : ByteArray) (hs : 0 < s.size) (hl : l.length + s.size ≤ 200) (hbase : w0.heap.size ≤ W.heap.size) :
  ∃ v' W', (∀ ty, (Builtin.append_ #[58, 9] ty #[.slice (some ⟨g, 0, none⟩) l.length l.length, .string s]).run Tryz.prog W = .ok v' W') ∧ BRow w0 W' v' (l ++ s.data.toList) ∧ Below W.heap.size W W' := by
 obtain ⟨i, hi, hz⟩ := Option.map_eq_some_iff.1 infoU8
 simp only [Prod.mk.injEq] at hz
 obtain ⟨z1, z2, z3⟩ := hz
 have hcells : ∀ j v, (byteCells l)[j]? = some v → W.cell? ((⟨g, 0, none⟩ : Addr).add j) = some v := fun j v hj => by
  have hadd : (⟨g, 0, none⟩ : Addr).add j = ⟨g, j, none⟩ := by unfold Addr.add; split <;> simp_all
  rw [hadd]
  simp only [World.cell?, hb]
  simpa using hj
 have hnc : ∀ n o, o ≤ 200 → n ≤ 200 → Builtin.nextslicecap n o ≤ 400 := fun n o ho hn => by
  unfold Builtin.nextslicecap
  rw [if_pos (show o < 256 by omega)]
  split <;> omega
 have hr := fun ty => run_append_grow_string (P := Tryz.prog) W 58 9 ty 5 i (.int .u8 0) Tryz.underlying58 Tryz.underlying9 hi z1 ⟨g, 0, none⟩ l.length l.length (byteCells l) (by rw [byteCells_length, z2, Nat.mul_one]) hcells s (by omega) (by omega) (by
  have := hnc (l.length + s.size) l.length (by omega) hl
  rw [z3, Nat.mul_one]; omega)
 have hge := grownCap_ge W (l.length + s.size) l.length 5
 have hcm := grownCap_le_maxLen W (l.length + s.size) l.length 5 (by simp only [maxLen]; omega)
 refine ⟨_, _, hr, Kd.R_of_own (enc := Value.int .u8) ?_ (fun _ _ => trivial), bwa (below_drew (Below.refl _ _)) _⟩
 have hsl : s.data.toList.length = s.size := Array.length_toList
 rw [bI_len, encs_bI, List.length_append, hsl]
 refine ⟨by rw [byteCells_length, List.length_append, hsl, Nat.mul_one], .inr ⟨W.heap.size, _, _, rfl, hbase, heap_alloc_new W.drew _, hge, hcm, ?_, ?_⟩⟩
 ·have hz1 : (Value.int IntKind.u8 0).cells.size = 1 := rfl
  simp only [Array.size_append, List.size_toArray, size_zeroCells, hz1, byteCells_length, strCells_length]
  omega
 ·have e : byteCells (l ++ s.data.toList) = byteCells l ++ strCells s := by simp [byteCells, strCells]
  rw [e]
  simp only [Array.toList_append, List.append_assoc]
  rw [← List.append_assoc]
  exact List.take_left' (by rw [List.length_append, byteCells_length, strCells_length, Nat.mul_one])
theorem append_event {P : Program} {ops : Array Oper} {rest : List Oper} {o : Oper} {a : Act} {Q : Exit → Act → World → Prop} {w w1 : World} {v : Value} (hgd : o.guard = none) (s x : Operand) (t u : TypeId) (ho : o.op = .call { callee := .builtin .append, args := #[s, x], argTypes := #[t, u] }) (vs vx : Value) (hs : a.eval s = vs) (hx : a.eval x = vx)
  (hr : ∀ ty, (Builtin.append_ #[t, u] ty #[vs, vx]).run P w = .ok v w1) (h : wpList P ops Q rest (a.put o.dst v) w1) : wpList P ops Q (o :: rest) a w :=
 wpList_plain hgd fun _ hK => by
  unfold Oper.wp execOp
  simp only [ho, resolve, invoke, builtin, Sem.run_bind, Sem.run_pure, Result.andThen_ok, List.map_toArray, List.map_cons, List.map_nil, hs, hx, hr]
  exact hK _ _ h
def FirstPost (w0 W : World) (l : List UInt8) (e : Ending) (w' : World) : Prop := ∃ v', e = .returned v' ∧ BRow w0 w' v' l ∧ Below W.heap.size W w'
theorem firstUint_calls {w0 W : World} {g : Nat} {l : List UInt8} (hb : W.heap[g]? = some (.cells (byteCells l).toArray 5 (l.length, l.length + 1))) (i : Nat) (hi : i < 100) (hl : l.length ≤ 100) (hbase : w0.heap.size ≤ W.heap.size) :
  Calls Tryz.prog 142 #[.slice (some ⟨g, 0, none⟩) l.length l.length, .int .u64 i, .int .i64 10] W (FirstPost w0 W (l ++ itoa i)) := by
 have hdl : 0 < (decDigits i).length ∧ (decDigits i).length ≤ 20 := by
  rcases Nat.lt_or_ge i 10 with h | h
  ·rw [decDigits_one h]; simp
  ·rw [decDigits_two (by omega) hi]; simp
 have hit : itoa (i : Int) = decDigits i := itoa_nonneg i
 have hsz : (⟨(decDigits i).toArray⟩ : ByteArray).size = (decDigits i).length := by simp [ByteArray.size]
 obtain ⟨v', W', hap, hr, hbl⟩ := append_first (w0 := w0) hb ⟨(decDigits i).toArray⟩ (by rw [hsz]; exact hdl.1) (by rw [hsz]; omega) hbase
 have hsm := Any.internal_strconv_small (P := Tryz.prog) (ρ := Tryz.lays283_ren) Tryz.lays283 i hi W
 have HR : Az (BRow w0 W' v' (l ++ decDigits i)) := ⟨by simpa using hr⟩
 have HBL := Az.mk hbl
 rw [hit]
 have hw : IntKind.i64.wrap (i : Int) = (i : Int) := by rw [iw]; unfold wrap64; omega
 have hi1 : decide ((i : Int) < 100) = true := decide_eq_true (by omega)
 have hi2 : i < 100 := hi
 clear hb hdl hit hsz hr hbl
 generalize (⟨(decDigits i).toArray⟩ : ByteArray) = sd at hap hsm
 go_enter Tryz.func142, Tryz.ntmps142
 go_wp2_with (first | (go_at_call 167; refine hsm.mono ?_; rintro e w1 ⟨rfl, rfl⟩) | ((with_reducible refine gate_builtin (b := .append) (xs := #[.tmp 13, .tmp 16]) rfl ?_); at_builtin; refine append_event rfl (.tmp 13) (.tmp 16) 58 9 rfl _ _ rfl rfl hap ?_; clear hap))
 go_ret
 exact ⟨_, rfl, HR.out, HBL.out⟩
theorem append_firstA {w0 W : World} {g : Nat} {l : List UInt8} (hb : W.heap[g]? = some (.cells (byteCells l).toArray 5 (l.length, l.length + 1))) (a : Addr) (n c : Nat) (s : List UInt8) (hs : s.length = n) (hn : 0 < n) (hcells : ∀ j v, (byteCells s)[j]? = some v → W.cell? (a.add j) = some v) (hl : l.length + n ≤ 200) (hbase : w0.heap.size ≤ W.heap.size) :
  ∃ v' W', (∀ ty, (Builtin.append_ #[58, 58] ty #[.slice (some ⟨g, 0, none⟩) l.length l.length, .slice (some a) n c]).run Tryz.prog W = .ok v' W') ∧ BRow w0 W' v' (l ++ s) ∧ Below W.heap.size W W' := by
 obtain ⟨i, hi, hz⟩ := Option.map_eq_some_iff.1 infoU8
 simp only [Prod.mk.injEq] at hz
 obtain ⟨z1, z2, z3⟩ := hz
 have hcold : ∀ j v, (byteCells l)[j]? = some v → W.cell? ((⟨g, 0, none⟩ : Addr).add j) = some v := fun j v hj => by
  have hadd : (⟨g, 0, none⟩ : Addr).add j = ⟨g, j, none⟩ := by unfold Addr.add; split <;> simp_all
  rw [hadd]
  simp only [World.cell?, hb]
  simpa using hj
 have hnc : ∀ n o, o ≤ 200 → n ≤ 200 → Builtin.nextslicecap n o ≤ 400 := fun n o ho hn => by
  unfold Builtin.nextslicecap
  rw [if_pos (show o < 256 by omega)]
  split <;> omega
 have hr := fun ty => run_append_grow (P := Tryz.prog) W 58 ty 5 i (.int .u8 0) Tryz.underlying58 hi z1 ⟨g, 0, none⟩ l.length l.length (byteCells l) (by rw [byteCells_length, z2, Nat.mul_one]) hcold a n c (byteCells s) (by rw [byteCells_length, z2, Nat.mul_one, hs]) hcells (by omega) (by omega) (by
  have := hnc (l.length + n) l.length (by omega) hl
  rw [z3, Nat.mul_one]; omega)
 have hge := grownCap_ge W (l.length + n) l.length 5
 have hcm := grownCap_le_maxLen W (l.length + n) l.length 5 (by simp only [maxLen]; omega)
 refine ⟨_, _, hr, Kd.R_of_own (enc := Value.int .u8) ?_ (fun _ _ => trivial), bwa (below_drew (Below.refl _ _)) _⟩
 rw [bI_len, encs_bI, List.length_append, hs]
 refine ⟨by rw [byteCells_length, List.length_append, hs, Nat.mul_one], .inr ⟨W.heap.size, _, _, rfl, hbase, heap_alloc_new W.drew _, hge, hcm, ?_, ?_⟩⟩
 ·have hz1 : (Value.int IntKind.u8 0).cells.size = 1 := rfl
  simp only [Array.size_append, List.size_toArray, size_zeroCells, hz1, byteCells_length, hs]
  omega
 ·have e : byteCells (l ++ s) = byteCells l ++ byteCells s := by simp [byteCells]
  rw [e]
  simp only [Array.toList_append, List.append_assoc]
  rw [← List.append_assoc]
  exact List.take_left' (by rw [List.length_append, byteCells_length, byteCells_length, hs, Nat.mul_one])
theorem firstUintBig_calls {w0 W : World} {g : Nat} {l : List UInt8} (hb : W.heap[g]? = some (.cells (byteCells l).toArray 5 (l.length, l.length + 1))) (u : Nat) (hu : 100 ≤ u) (hu64 : u < 18446744073709551616) (hl : l.length ≤ 100) (hbase : w0.heap.size ≤ W.heap.size) (htab : TabOK W) :
  Calls Tryz.prog 142 #[.slice (some ⟨g, 0, none⟩) l.length l.length, .int .u64 u, .int .i64 10] W (FirstPost w0 W (l ++ itoa u)) := by
 have hu1 : 1 ≤ u := by omega
 have hnd20 : nDigits u ≤ 20 := by have := numDigits_eq u hu1 hu64; split at this <;> omega
 have hpos : 0 < nDigits u := by
  rcases Nat.eq_zero_or_pos (nDigits u) with h | h
  ·have h2 := lt_pow_nDigits u
   rw [h] at h2
   omega
  ·exact h
 have hal : Tryz.prog.arrayLen 202 = 24 := by kernel_rfl
 have hsl : ∀ W', (Instr.sliceAt 202 (.pointer (some ⟨W.heap.size, 0, none⟩)) none (some (.int .i64 (nDigits u : Int))) none).run Tryz.prog W' = .ok (.slice (some ⟨W.heap.size, 0, none⟩) (nDigits u) 24) W' := fun W' => by
  rw [run_sliceAt_array_h W' 202 ⟨W.heap.size, 0, none⟩ (by kernel_rfl) .i64 (nDigits u : Int) (by omega) (by rw [hal]; omega)]
  go_simp
 have hH0 := holds_zero0 W 202 (nDigits u) (by omega)
 have hfmt := Any.internal_strconv_formatBase10 (P := Tryz.prog) (ρ := Tryz.laysM176_ren) { Tryz.laysM176 with } W.heap.size 0 24 u (Array.replicate (nDigits u) 0) (W.alloc (.cells zeros24 202)) hH0 (by rw [Array.size_replicate]; exact lt_pow_nDigits u) hu64 (by rw [Array.size_replicate]; omega)
 rw [Array.size_replicate] at hfmt
 have hnum := Any.internal_strconv_numDigits (P := Tryz.prog) (ρ := Tryz.laysM176_ren) { Tryz.laysM176 with } u hu1 hu64 (W.alloc (.cells zeros24 202)) (tabIs_alloc htab _)
 have HH0 := Az.mk hH0
 have HB := Az.mk hb
 have iu : (100 : Int) ≤ (u : Int) := by omega
 have hit : itoa (u : Int) = decDigits u := itoa_nonneg u
 rw [hit]
 clear hH0 hal hb hit
 go_enter Tryz.func142, Tryz.ntmps142
 go_wp2_with fail
 refine hnum.mono ?_
 rintro e w' ⟨rfl, rfl⟩
 go_wp2_with fail
 refine hfmt.mono ?_
 rintro e w' ⟨rfl, k, v', dk, rfl, hF⟩
 have hcells : ∀ j u', (byteCells (decDigits u))[j]? = some u' → ((putRow (fun (b : UInt8) => Value.int .u8 (b.toNat : Int)) (W.alloc (.cells zeros24 202)) W.heap.size 0 dk).drewN k).cell? ((⟨W.heap.size, 0, none⟩ : Addr).add j) = some u' := by
  intro j u' hj
  have hjl : j < (decDigits u).length := by
   have h5 := (List.getElem?_eq_some_iff.1 hj).1
   rwa [byteCells_length] at h5
  have e5 : (byteCells (decDigits u))[j]? = some (Value.int .u8 ((decDigits u)[j].toNat : Int)) := by simp [byteCells, hjl]
  rw [e5] at hj
  cases hj
  rw [row_is_numeral hF j hjl, Go.Lib.add_plain, World.cell?_drewN]
  exact cell?_putRow (fun (b : UInt8) => Value.int .u8 (b.toNat : Int)) _ W.heap.size 0 _ dk HH0.out (by rw [hF.size, Array.size_replicate]) j (by rw [hF.size]; rw [decDigits_length] at hjl; exact hjl)
 obtain ⟨os, eo⟩ := fin_at W (.cells zeros24 202) dk k 0
 have hnx2 : Below W.heap.size W ((putRow (fun (b : UInt8) => Value.int .u8 (b.toNat : Int)) (W.alloc (.cells zeros24 202)) W.heap.size 0 dk).drewN k) := by rw [eo]; exact Lib.below_grow W.heap.size W (Nat.le_refl _) k os
 generalize (putRow (fun (b : UInt8) => Value.int .u8 (b.toNat : Int)) (W.alloc (.cells zeros24 202)) W.heap.size 0 dk).drewN k = W2 at hcells hnx2 ⊢
 have hg2 : W2.heap[g]? = some (.cells (byteCells l).toArray 5 (l.length, l.length + 1)) := by rw [hnx2.block g ((Array.getElem?_eq_some_iff.1 HB.out).1)]; exact HB.out
 obtain ⟨v3, W3, hap, hr, hbl⟩ := append_firstA (w0 := w0) hg2 ⟨W.heap.size, 0, none⟩ (nDigits u) 24 (decDigits u) (decDigits_length u) hpos hcells (by omega) (Nat.le_trans hbase hnx2.size)
 have HR := Az.mk hr
 have HBL := Az.mk (bwt hnx2 hbl)
 clear hcells hnx2 hg2 hr hbl eo HH0 hfmt hnum
 go_wp2_with ((with_reducible refine gate_builtin (b := .append) (xs := #[.tmp 24, .tmp 26]) rfl ?_); at_builtin; go_loud (refine append_event rfl (.tmp 24) (.tmp 26) 58 58 rfl _ _ rfl rfl hap ?_; clear hap))
 go_ret
 exact ⟨_, rfl, HR.out, HBL.out⟩
theorem firstInt_any {w0 W : World} {g : Nat} {l : List UInt8} (hb : W.heap[g]? = some (.cells (byteCells l).toArray 5 (l.length, l.length + 1))) (i : Nat) (hi : i < 9223372036854775808) (hl : l.length ≤ 100) (hbase : w0.heap.size ≤ W.heap.size) (htab : TabOK W) :
  Calls Tryz.prog 77 #[.slice (some ⟨g, 0, none⟩) l.length l.length, .int .i64 i, .int .i64 10] W (FirstPost w0 W (l ++ itoa i)) := by
 have hu : Calls Tryz.prog 142 #[.slice (some ⟨g, 0, none⟩) l.length l.length, .int .u64 i, .int .i64 10] W (FirstPost w0 W (l ++ itoa i)) := by
  by_cases h : i < 100
  ·exact firstUint_calls hb i h hl hbase
  ·exact firstUintBig_calls hb i (by omega) (by omega) hl hbase htab
 generalize l ++ itoa (i : Int) = r at hu ⊢
 have hw : IntKind.u64.wrap (i : Int) = (i : Int) := by rw [IntKind.wrap_u64]; omega
 have hi0 : ¬ ((i : Int) < 0) := by omega
 clear hb hl hbase htab
 have h114 : Calls Tryz.prog 114 #[.slice (some ⟨g, 0, none⟩) l.length l.length, .int .i64 i, .int .i64 10] W (FirstPost w0 W r) := by
  go_enter Tryz.func114, Tryz.ntmps114
  go_wp2_with fail
  refine hu.mono ?_
  rintro e w1 ⟨v, rfl, hr, hb⟩
  go_wp2
  go_ret
  exact ⟨_, rfl, hr, hb⟩
 go_enter Tryz.func77, Tryz.ntmps77
 go_wp2_with fail
 refine h114.mono ?_
 rintro e w1 ⟨v, rfl, hr, hb⟩
 go_wp2
 go_ret
 exact ⟨_, rfl, hr, hb⟩
def litsT (l : List Int) : List UInt8 := l.flatMap fun x => itoa x ++ [32]
def clsT (l : List Int) : List UInt8 := litsT l ++ [48, 10]
def headT (vars : Int) (n : Nat) : List UInt8 := [112, 32, 99, 110, 102, 32] ++ itoa vars ++ [32] ++ itoa (n : Int) ++ [10]
def fmtT (vars : Int) (cls : List (List Int)) : List UInt8 := headT vars cls.length ++ cls.flatMap clsT
def formatC (vars : Int) (cls : List (List Int)) (e : Int) : List UInt8 × Int := if e = 0 then (if (fmtT vars cls).length ≤ 65536 then (fmtT vars cls, 0) else ([], 5)) else ([], e)
structure FmtOk (vars : Int) (cls : List (List Int)) : Prop where
 v : -9223372036854775808 ≤ vars ∧ vars ≤ 9223372036854775807
 x : ∀ l ∈ cls, ∀ x ∈ l, -9223372036854775808 ≤ x ∧ x ≤ 9223372036854775807
 len : (fmtT vars cls).length ≤ 100000000
def FormatCPost (w : World) (r : List UInt8 × Int) (e : Ending) (w' : World) : Prop := e = .returned (.tuple #[.string ⟨r.1.toArray⟩, .int .i64 r.2]) ∧ Below w.heap.size w w'
theorem formatC_calls (k : Nat) (vars : Int) (A1 : Option Addr) (c1 : Nat) (cls : List (List Int)) (e0 : Int) (w : World) (hr1 : Kd.C (Kd.slice 3 (Kd.int .i64)) w A1 cls.length cls) (hc1 : cls.length ≤ c1) (hck : cnf_Check.f k vars cls = some e0) (ht : TabOK w) (hok : e0 = 0 → FmtOk vars cls) (hv : e0 = 0 → ∃ n : Nat, vars = n ∧ n ≤ 4096) :
  Calls Tryz.prog 29 #[.agg #[.int .i64 vars, .slice A1 cls.length c1]] w (FormatCPost w (formatC vars cls e0)) := by
 have HR1 := Az.mk hr1
 have HC1 := Az.mk hc1
 have HCK := Az.mk hck
 have HT := Az.mk ht
 have HL := Az.mk (Kd.C_max hr1)
 have HF : Az (formatC vars cls e0 = if e0 = 0 then (if (fmtT vars cls).length ≤ 65536 then (fmtT vars cls, 0) else ([], 5)) else ([], e0)) := ⟨rfl⟩
 generalize formatC vars cls e0 = res at HF ⊢
 clear hr1 hc1 hck ht
 have hu24 := Tryz.underlying24
 go_enter Tryz.func29, Tryz.ntmps29
 go_wp2_with fail
 refine (cnf_Check.calls k vars A1 c1 cls e0 _ (Kd.C_alloc HR1.out _) HC1.out HCK.out).mono ?_
 rintro e w1 ⟨rfl, hb1⟩
 have BK : Az (w1.heap[w.heap.size]? = some (.cells #[.int .i64 vars, .slice A1 cls.length c1] 24 (0, 0))) := ⟨blk_below (blk_new w _) hb1⟩
 have HB : Az (Below w.heap.size w w1) := ⟨bwt (bwa (Below.refl _ _) _) hb1⟩
 clear hb1
 by_cases he : e0 = 0
 ·subst he
  rw [if_pos rfl] at HF
  have HOK := Az.mk (hok rfl)
  obtain ⟨n, rfl, hn⟩ := hv rfl
  have hcv : (convert 58 58 (.slice (some ⟨w1.heap.size, 0, none⟩) 6 6)).run Tryz.prog (w1.alloc (.cells #[.int .u8 112, .int .u8 32, .int .u8 99, .int .u8 110, .int .u8 102, .int .u8 32] 5)) = .ok (.slice (some ⟨w1.heap.size, 0, none⟩) 6 6) (w1.alloc (.cells #[.int .u8 112, .int .u8 32, .int .u8 99, .int .u8 110, .int .u8 102, .int .u8 32] 5 (6, 7))) := Lib.run_convert_bytes_const w1 58 5 _ 6 6 Tryz.underlying58 Tryz.underlying5
  clear hok HCK hv
  have BK2 := Az.mk (bka BK.out (.cells #[.int .u8 112, .int .u8 32, .int .u8 99, .int .u8 110, .int .u8 102, .int .u8 32] 5 (6, 7)))
  have HB2 := Az.mk (bwa HB.out (.cells #[.int .u8 112, .int .u8 32, .int .u8 99, .int .u8 110, .int .u8 102, .int .u8 32] 5 (6, 7)))
  have HBC : Az ((w1.alloc (.cells #[.int .u8 112, .int .u8 32, .int .u8 99, .int .u8 110, .int .u8 102, .int .u8 32] 5 (6, 7))).heap[w1.heap.size]? = some (.cells (byteCells [112, 32, 99, 110, 102, 32]).toArray 5 (([112, 32, 99, 110, 102, 32] : List UInt8).length, ([112, 32, 99, 110, 102, 32] : List UInt8).length + 1))) := ⟨blk_new w1 (.cells #[.int .u8 112, .int .u8 32, .int .u8 99, .int .u8 110, .int .u8 102, .int .u8 32] 5 (6, 7))⟩
  have hx0 : (w1.alloc (.cells #[.int .u8 112, .int .u8 32, .int .u8 99, .int .u8 110, .int .u8 102, .int .u8 32] 5 (6, 7))).cell? ⟨w.heap.size, 0, none⟩ = some (.int .i64 n) := (bkc BK2.out 0).trans rfl
  go_wp2_with fail
  clear hcv hx0
  refine (firstInt_any (w0 := w) HBC.out n (by omega) (by decide) HB2.out.size (HT.out.below HB2.out)).mono ?_
  rintro e w3 ⟨v3, rfl, hr3, hb3⟩
  have BK3 := Az.mk (blk_below BK2.out hb3)
  have HB3 := Az.mk (bwt HB2.out hb3)
  have HV3 := Az.mk hr3
  clear hr3 hb3 HBC BK HB BK2 HB2
  have HLN : Az ((([112, 32, 99, 110, 102, 32] : List UInt8) ++ itoa (n : Int)).length + (itoa (cls.length : Int)).length + 2 ≤ 100000000) := ⟨by have := HOK.out.len; unfold fmtT headT at this; simp only [List.length_append, List.length_cons, List.length_nil] at this ⊢; omega⟩
  have hx1 : w3.cell? ⟨w.heap.size, 1, none⟩ = some (.slice A1 cls.length c1) := (bkc BK3.out 1).trans rfl
  go_wp2_with ((with_reducible refine gate_builtin (b := .append) (xs := #[.tmp 21, .tmp 22]) rfl ?_); at_builtin; refine Kd.R_append (Kd.int .u8) (w0 := w) w.heap.size rfl (.tmp 21) (.tmp 22) 58 5 (.int .u8 0) 1 rfl Tryz.underlying58 infoU8 rfl (by decide) (by decide) v3 (bI ([112, 32, 99, 110, 102, 32] ++ itoa (n : Int))) 32 [.int .u8 32] (fun _ => True) (fun _ => False) rfl rfl ?aP (fun _ hk => hk.elim) ?aF ?aO ?aB ?aS ?aL ?_; (case aP => exact rfl); (case aF => exact fun _ _ => trivial); (case aO => exact HV3.out); (case aB => exact HB3.out); (case aS => exact HB3.out.size); (case aL => have := HLN.out; rw [bI_len]; omega); intro v9 w4 ho hb hg hat; have HV4 : Az (BRow w w4 v9 ([112, 32, 99, 110, 102, 32] ++ itoa (n : Int) ++ [32])) := ⟨brow_snoc ho⟩; have HB4 := Az.mk hb; have BK4 := Az.mk (bkg BK3.out hg (Kd.R_ne HV3.out BK3.out (by decide))); clear ho hb hg hat; have hx1b : w4.cell? ⟨w.heap.size, 1, none⟩ = some (.slice A1 cls.length c1) := (bkc BK4.out 1).trans rfl)
  clear hx1
  refine (appendInt_calls HT.out HB4.out HV4.out (cls.length : Int) (by omega) (by have := HL.out; omega) (by have := HLN.out; simp only [List.length_append] at this ⊢; simp only [List.length_cons, List.length_nil] at this ⊢; omega)).mono ?_
  rintro e w5 ⟨v5, rfl, hr5, hb5, hk5⟩
  have HB5 := Az.mk hb5
  have HV5 := Az.mk hr5
  have BK5 : Az (w5.heap[w.heap.size]? = some (.cells #[.int .i64 n, .slice A1 cls.length c1] 24 (0, 0))) := ⟨hk5 _ _ BK4.out (by simp) (fun c fz h => by injection h with _ h; exact absurd h (by decide))⟩
  clear hr5 hb5 hk5
  go_wp2_with ((with_reducible refine gate_builtin (b := .append) (xs := #[.tmp 29, .tmp 30]) rfl ?_); at_builtin; refine Kd.R_append (Kd.int .u8) (w0 := w) w.heap.size rfl (.tmp 29) (.tmp 30) 58 5 (.int .u8 0) 1 rfl Tryz.underlying58 infoU8 rfl (by decide) (by decide) v5 (bI ([112, 32, 99, 110, 102, 32] ++ itoa (n : Int) ++ [32] ++ itoa (cls.length : Int))) 10 [.int .u8 10] (fun _ => True) (fun _ => False) rfl rfl ?aP (fun _ hk => hk.elim) ?aF ?aO ?aB ?aS ?aL ?_; (case aP => exact rfl); (case aF => exact fun _ _ => trivial); (case aO => exact HV5.out); (case aB => exact HB5.out); (case aS => exact HB5.out.size); (case aL => have := HLN.out; rw [bI_len]; simp only [List.length_append, List.length_cons, List.length_nil] at this ⊢; omega); intro v10 w6 ho hb hg hat; have HV6 : Az (BRow w w6 v10 ([112, 32, 99, 110, 102, 32] ++ itoa (n : Int) ++ [32] ++ itoa (cls.length : Int) ++ [10])) := ⟨brow_snoc ho⟩; have HB6 := Az.mk hb; have BK6 := Az.mk (bkg BK5.out hg (Kd.R_ne HV5.out BK5.out (by decide))); clear ho hb hg hat; have hx1c : w6.cell? ⟨w.heap.size, 1, none⟩ = some (.slice A1 cls.length c1) := (bkc BK6.out 1).trans rfl)
  have HT0 : Az (fmtT (n : Int) cls = [112, 32, 99, 110, 102, 32] ++ itoa (n : Int) ++ [32] ++ itoa (cls.length : Int) ++ [10] ++ cls.flatMap clsT) := ⟨rfl⟩
  generalize [112, 32, 99, 110, 102, 32] ++ itoa (n : Int) ++ [32] ++ itoa (cls.length : Int) ++ [10] = hd at HV6 HT0
  obtain ⟨V1, hV1⟩ : ∃ V, V = Value.slice A1 cls.length c1 := ⟨_, rfl⟩
  rw [← hV1] at BK6
  clear hV1
  clear HB3 HV3 HLN HV4 HB4 hx1b HB5 HV5 hx1c BK3 BK4 BK5
  go_loopw [5, 35] (fun v5 v35 wr => ∃ j : Nat, v35 = .int .i64 j ∧ j ≤ cls.length ∧ Az (BRow w wr v5 (hd ++ (cls.take j).flatMap clsT)) ∧ Az (Below w.heap.size w wr) ∧ Az (wr.heap[w.heap.size]? = some (.cells #[.int .i64 n, V1] 24 (0, 0)))) (fun _ v35 _ => cls.length - (Go.RowKit.intOf v35).toNat)
  case atStart => exact ⟨0, rfl, Nat.zero_le _, ⟨by simpa using HV6.out⟩, HB6, BK6⟩
  case round =>
   clear HV6 HB6 BK6
   obtain ⟨j, rfl, hj, HV, HB, BK⟩ := hrel
   by_cases hlt : j < cls.length
   ·obtain ⟨ad, A', c', rfl, hcc, hl1, hC1⟩ := at_L1 HR1.out (j : Int) (by omega) (by omega)
    replace hcc := (HB.out.cell (World.block_lt_of_cell? w _ hcc)).trans hcc
    have hrd : rL cls j = cls[j] := by simp [rL, List.getD, hlt]
    have HX : Az (rL cls j = cls[j] ∧ rL cls j ∈ cls) := ⟨hrd, by rw [hrd]; exact List.getElem_mem _⟩
    have HTJ : Az (hd ++ (cls.take (j + 1)).flatMap clsT = hd ++ (cls.take j).flatMap clsT ++ clsT (rL cls j)) := ⟨by rw [List.take_succ_eq_append_getElem hlt, List.flatMap_append, ← hrd, List.append_assoc]; simp⟩
    have HLJ0 : Az ((hd ++ (cls.take j).flatMap clsT).length + (clsT (rL cls j)).length ≤ 100000000) := ⟨by
     have h1 := HOK.out.len
     rw [HT0.out] at h1
     have h2 : (cls.flatMap clsT).length = ((cls.take (j + 1)).flatMap clsT).length + ((cls.drop (j + 1)).flatMap clsT).length := by rw [← List.length_append, ← List.flatMap_append, List.take_append_drop]
     have h3 := congrArg List.length HTJ.out
     simp only [List.length_append] at h1 h3 ⊢
     omega⟩
    have HXI := Az.mk (HOK.out.x _ HX.out.2)
    clear hrd
    generalize rL cls j = l at HX HTJ HLJ0 HXI hcc hl1 hC1
    generalize hd ++ (cls.take j).flatMap clsT = tj at HV HTJ HLJ0
    have HLJ : Az (tj.length + (litsT l).length + 2 ≤ 100000000) := ⟨by have := HLJ0.out; unfold clsT at this; simp only [List.length_append, List.length_cons, List.length_nil] at this; omega⟩
    have HCL := Az.mk hC1
    have HLL := Az.mk (Kd.C_max hC1)
    simp only [Int.toNat_natCast] at hcc
    clear hl1 hC1 HLJ0
    go_wp2_with fail
    go_loopw [5, 41] (fun v5 v41 wi => ∃ i : Nat, v41 = .int .i64 i ∧ i ≤ l.length ∧ Az (BRow w wi v5 (tj ++ litsT (l.take i))) ∧ Az (Below w.heap.size w wi) ∧ Az (wi.heap[w.heap.size]? = some (.cells #[.int .i64 n, V1] 24 (0, 0)))) (fun _ v41 _ => l.length - (Go.RowKit.intOf v41).toNat)
    case atStart => exact ⟨0, rfl, Nat.zero_le _, ⟨by simpa [litsT] using HV.out⟩, HB, BK⟩
    case round =>
     clear HV HB BK hcc
     obtain ⟨i, rfl, hi, HVi, HBi, BKi⟩ := hrel
     by_cases hli : i < l.length
     ·obtain ⟨ad2, rfl, hci⟩ := Kd.at_int HCL.out (i : Int) (by omega) (by omega)
      replace hci := (HBi.out.cell (World.block_lt_of_cell? w _ hci)).trans hci
      have hrx : rd l i = l[i] := by simp [rd, List.getD, hli]
      have HXR : Az (-9223372036854775808 ≤ rd l i ∧ rd l i ≤ 9223372036854775807) := ⟨HXI.out _ (by rw [hrx]; exact List.getElem_mem _)⟩
      have HTI : Az (tj ++ litsT (l.take (i + 1)) = tj ++ litsT (l.take i) ++ itoa (rd l i) ++ [32]) := ⟨by rw [List.take_succ_eq_append_getElem hli, ← hrx]; unfold litsT; rw [List.flatMap_append]; simp⟩
      have HLX : Az ((tj ++ litsT (l.take i) ++ itoa (rd l i) ++ [32]).length ≤ 100000000) := ⟨by
       rw [← HTI.out]
       have h1 := HLJ.out
       have h2 : (litsT l).length = (litsT (l.take (i + 1))).length + (litsT (l.drop (i + 1))).length := by unfold litsT; rw [← List.length_append, ← List.flatMap_append, List.take_append_drop]
       simp only [List.length_append]; omega⟩
      clear hrx
      generalize rd l i = x at hci HXR HTI HLX
      simp only [Int.toNat_natCast] at hci
      go_wp2_with fail
      refine (appendInt_calls HT.out HBi.out HVi.out x HXR.out.1 HXR.out.2 (by have := HLX.out; simp only [List.length_append] at this ⊢; omega)).mono ?_
      rintro e w8 ⟨v8, rfl, hr8, hb8, hk8⟩
      have HB8 := Az.mk hb8
      have HV8 := Az.mk hr8
      have BK8 : Az (w8.heap[w.heap.size]? = some (.cells #[.int .i64 n, V1] 24 (0, 0))) := ⟨hk8 _ _ BKi.out (by simp) (fun c fz h => by injection h with _ h; exact absurd h (by decide))⟩
      clear hr8 hb8 hk8 hci HVi HBi BKi
      go_wp2_with ((with_reducible refine gate_builtin (b := .append) (xs := #[.tmp 48, .tmp 49]) rfl ?_); at_builtin; refine Kd.R_append (Kd.int .u8) (w0 := w) w.heap.size rfl (.tmp 48) (.tmp 49) 58 5 (.int .u8 0) 1 rfl Tryz.underlying58 infoU8 rfl (by decide) (by decide) v8 (bI (tj ++ litsT (l.take i) ++ itoa x)) 32 [.int .u8 32] (fun _ => True) (fun _ => False) rfl rfl ?aP (fun _ hk => hk.elim) ?aF ?aO ?aB ?aS ?aL ?_; (case aP => exact rfl); (case aF => exact fun _ _ => trivial); (case aO => exact HV8.out); (case aB => exact HB8.out); (case aS => exact HB8.out.size); (case aL => have := HLX.out; rw [bI_len]; simp only [List.length_append] at this ⊢; omega); intro v9 w9 ho hb hg hat; have HV9 : Az (BRow w w9 v9 (tj ++ litsT (l.take i) ++ itoa x ++ [32])) := ⟨brow_snoc ho⟩; have HB9 := Az.mk hb; have BK9 := Az.mk (bkg BK8.out hg (Kd.R_ne HV8.out BK8.out (by decide))); clear ho hb hg hat)
      go_roundw
      case rel => exact ⟨i + 1, by rw [wrap_succ hli HLL.out], by omega, ⟨by rw [HTI.out]; exact HV9.out⟩, HB9, BK9⟩
      case measure => exact meas_x hli (wrap_succ hli HLL.out)
     ·have hil : i = l.length := by omega
      subst hil
      rw [List.take_length] at HVi
      have HVA := Az.mk (Kd.R_alloc HVi.out (.cells #[.int .u8 48, .int .u8 10] 5))
      have BKA := Az.mk (bka BKi.out (.cells #[.int .u8 48, .int .u8 10] 5))
      have HLIT2 : Az (Kd.C (Kd.int .u8) (wr.alloc (.cells #[.int .u8 48, .int .u8 10] 5)) (some ⟨wr.heap.size, 0, none⟩) 2 [48, 10]) := ⟨C_bytes wr [48, 10] (by decide)⟩
      go_wp2_with ((with_reducible refine gate_builtin (b := .append) (xs := #[.tmp 52, .tmp 53]) rfl ?_); at_builtin; refine Kd.R_append_rows (Kd.int .u8) (w0 := w) w.heap.size rfl (.tmp 52) (.tmp 53) 58 5 (.int .u8 0) 1 rfl Tryz.underlying58 infoU8 rfl (by decide) (by omega) u5 (bI (tj ++ litsT l)) [48, 10] (some ⟨wr.heap.size, 0, none⟩) 2 2 (fun _ => True) (fun _ => False) rfl rfl ?aO ?aR (fun _ _ h => h) (fun _ h => h.elim) ?aF ?aB ?aS ?aL ?_; (case aR => exact HLIT2.out); (case aB => exact bwa HBi.out _); (case aF => exact fun _ _ => trivial); (case aO => exact Kd.R_alloc HVi.out _); (case aS => exact (bwa HBi.out _).size); (case aL => have := HLJ.out; rw [bI_len]; simp only [List.length_append, List.length_cons, List.length_nil] at this ⊢; omega); intro v9 w9 ho hb hg hat; have HV9 : Az (BRow w w9 v9 (tj ++ litsT l ++ [48, 10])) := ⟨by unfold BRow; rw [bI_append]; exact ho⟩; have HB9 := Az.mk hb; have BK9 := Az.mk (bkg BKA.out hg (Kd.R_ne HVA.out BKA.out (by decide))); clear ho hb hg hat)
      go_roundw
      case rel => exact ⟨j + 1, by rw [wrap_succ hlt HL.out], by omega, ⟨by rw [HTJ.out]; unfold clsT; rw [← List.append_assoc]; exact HV9.out⟩, HB9, BK9⟩
      case measure => exact meas_x hlt (wrap_succ hlt HL.out)
   ·have hjl : j = cls.length := by omega
    subst hjl
    rw [List.take_length, ← HT0.out] at HV
    obtain ⟨Ao, co, hvo⟩ := Kd.R_slice HV.out
    rw [bI_len] at hvo
    subst hvo
    have hlim : (fmtT (n : Int) cls).length ≤ 9223372036854775807 := by have := HOK.out.len; omega
    by_cases h65 : (fmtT (n : Int) cls).length ≤ 65536
    ·rw [if_pos h65] at HF
     obtain ⟨g, hg, hcells⟩ : ∃ g, Ao = some ⟨g, 0, none⟩ ∧ ∀ i, i < (fmtT (n : Int) cls).length → wr.cell? ⟨g, 0 + i, none⟩ = some (.int .u8 ((bI (fmtT (n : Int) cls)).getD i 0)) := by
      have hpos : 0 < (fmtT (n : Int) cls).length := by unfold fmtT headT; simp
      obtain ⟨g, cg, eo, _, _, _⟩ := Kd.R_form HV.out (by rw [bI_len]; exact hpos)
      injection eo with ea _ _
      subst ea
      refine ⟨g, rfl, fun i hi => ?_⟩
      have hR := HV.out
      have := (Kd.R_celln (0 : Int) hR (i : Int) (by omega) (by omega)).1
      rw [Nat.zero_add]
      simpa [rdOf] using this
     subst hg
     have hcv := run_convert_bytes_arg (P := Tryz.prog) wr 58 5 Tryz.underlying58 Tryz.underlying5 g 0 (fmtT (n : Int) cls).length co (bI (fmtT (n : Int) cls)) (bI_len _) hcells 9 Tryz.underlying9
     rw [strOf_bI] at hcv
     have hlt2 : ¬ (65536 < (fmtT (n : Int) cls).length) := by omega
     clear hcells hlim
     generalize fmtT (n : Int) cls = tx at HF hcv h65 hlt2 HV
     go_wp2
     go_ret2
     exact ⟨by rw [HF.out]; rfl, HB.out⟩
    ·rw [if_neg h65] at HF
     have hlt2 : 65536 < (fmtT (n : Int) cls).length := by omega
     clear hlim
     generalize fmtT (n : Int) cls = tx at HF h65 hlt2 HV
     go_wp2
     go_ret2
     exact ⟨by rw [HF.out]; rfl, HB.out⟩
 ·rw [if_neg he] at HF
  have heb : (e0 != 0) = true := by simpa using he
  clear he hok
  go_wp2
  go_ret2
  exact ⟨by rw [HF.out]; rfl, HB.out⟩
end Go.Proofs.YtkcfdddhnboieaaGreatDoor.NState
end
