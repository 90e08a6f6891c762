/-
  Part 8 of the proof of proofTextMatches_card: walks and lemmas, packed by the session's own wip/pack.py out of its texts and of what the kit's print.sh printed.
-/
import Derived.Test.YtogicccdngpafaaGreatDoorProg
import Derived.Below
import Derived.Deep.Draws
import Derived.Deep.AppendLies
import Derived.Maps.AppendAt
import Derived.OwnWalk
import Derived.Laws.BytesArg
import Derived.Laws.MakeOwn
import Derived.Laws.OwnMore
import Derived.Deep.OwnRows
import Derived.Tactics
import Derived.Lib.ConvBytes
import Derived.Laws.Slices
import Derived.WalkKit
import Derived.KernelRfl
import Derived.RowKit3
import Derived.Deep.LoopGhost
import Derived.Deep.QuietTactic
import Derived.BigQuiet
import Derived.WideLaws
import Derived.Deep.DeepCutAuto
import Derived.Deep.CutBlock
import Derived.Deep.RegionHeld3
import Derived.Laws.Rows
import Derived.Lib.AppendStr
import Derived.ArgAppend
import Derived.Laws.IdiomCopy
import Derived.OrdersHeld
import Derived.Laws.BitsLemmas
import Derived.RowKit
import Derived.Test.YtogicccdngpafaaGreatDoorTX5
import Derived.Test.YtogicccdngpafaaGreatDoorTX6
import Derived.Test.YtogicccdngpafaaGreatDoorTX7
import Derived.Laws.StructEq
set_option linter.unusedVariables false
set_option linter.unusedSimpArgs false
section
set_option maxRecDepth 100000
namespace Go.Proofs.YtogicccdngpafaaGreatDoor.PCheck
open Go.RowKit QW.PrintWords QW.PrintLast QW.PrintMore
attribute [local go_sem] max2_int min2_int max_two min_two max_three min_three max_four min_four   
def errW : Option Int → Value
 | none => .nilIface
 | some c => .iface 0 (.int .i64 c)
theorem errW_none : errW none = .nilIface := rfl
theorem errW_some (c : Int) : errW (some c) = .iface 0 (.int .i64 c) := rfl
def rL (xs : List (List Int)) (i : Int) : (List Int) := xs.getD i.toNat ([] : List Int)
theorem at_L1 {w : World} {A : Option Addr} {n : Nat} {xs : List (List Int)} (h : Kd.C (Kd.slice 3 (Kd.int .i64)) w A n xs) (i : Int) (h0 : 0 ≤ i) (h1 : i < n) : ∃ ad A0 c0, A = some ad ∧ w.cell? (ad.add i.toNat) = some (.slice A0 (rL xs i).length c0) ∧ (rL xs i).length ≤ c0 ∧ (Kd.int .i64).C w A0 (rL xs i).length (rL xs i) := by
 obtain ⟨ad, c, e, _, hK, hc0⟩ := Kd.C_get h ([] : List Int) i h0 h1
 have hc : ∀ j u, c[j]? = some u → w.cell? (ad.add (i.toNat * 1 + j)) = some u := hc0
 obtain ⟨A0, c0, rfl, l0, g0⟩ := hK
 exact ⟨ad, A0, c0, e, by have hq := hc 0 _ rfl; rwa [Nat.mul_one, Nat.add_zero] at hq, l0, g0⟩
end Go.Proofs.YtogicccdngpafaaGreatDoor.PCheck
end
section
set_option maxHeartbeats 8000000
set_option maxRecDepth 100000
namespace Go.Proofs.YtogicccdngpafaaGreatDoor.PCheck
open Go.RowKit QW.PrintWords QW.PrintLast QW.PrintMore
attribute [local go_sem] max2_int min2_int max_two min_two max_three min_three max_four min_four   
def cnf_exists.f (a0 : Int) (a1 : Int) : Option (Bool) := if a0 = 0 then (some false) else (if a0 ≥ (wrap64 (-a1)) then (some (decide (a0 ≤ a1))) else (some false))
theorem cnf_exists.calls (a0 : Int) (a1 : Int) (r : Bool) (w : World) (h : cnf_exists.f a0 a1 = some r) :
  Calls Tryz.prog 96 #[.int .i64 a0, .int .i64 a1] w fun e w' => e = .returned (.bool r) ∧ Drawn0 w w' := by
 have H : (if a0 = 0 then (some false) else (if a0 ≥ (wrap64 (-a1)) then (some (decide (a0 ≤ a1))) else (some false))) = some r := h
 clear h
 by_cases c3 : a0 = 0
 ·rw [if_pos c3] at H
  have c3b0 : (a0 == 0) = true := beq_iff_eq.mpr c3
  have c3b1 : (a0 != 0) = false := bne_eq_false_iff_eq.mpr c3
  clear c3
  obtain rfl := Option.some.inj H
  go_enter Tryz.func96, Tryz.ntmps96
  go_wp2
  go_ret
  exact ⟨by first | rfl | (simp; done) | (simp [*]; done), by repeat (first | exact Drawn0.refl _ | apply Drawn0.step)⟩
 ·rw [if_neg c3] at H
  have c3b0 : (a0 == 0) = false := beq_eq_false_iff_ne.mpr c3
  have c3b1 : (a0 != 0) = true := bne_iff_ne.mpr c3
  by_cases c4 : a0 ≥ (wrap64 (-a1))
  ·rw [if_pos c4] at H
   have c4b0 : decide ((wrap64 (-a1)) ≤ a0) = true := decide_eq_true c4
   clear c4
   obtain rfl := Option.some.inj H
   go_enter Tryz.func96, Tryz.ntmps96
   go_wp2
   go_ret
   exact ⟨by first | rfl | (simp; done) | (simp [*]; done), by repeat (first | exact Drawn0.refl _ | apply Drawn0.step)⟩
  ·rw [if_neg c4] at H
   have c4b0 : decide ((wrap64 (-a1)) ≤ a0) = false := decide_eq_false c4
   clear c4
   obtain rfl := Option.some.inj H
   go_enter Tryz.func96, Tryz.ntmps96
   go_wp2
   go_ret
   exact ⟨by first | rfl | (simp; done) | (simp [*]; done), by repeat (first | exact Drawn0.refl _ | apply Drawn0.step)⟩
mutual
def cnf_Check.l0 : Nat → Int → List (List Int) → Int → Int → Int → List (List Int) → Option (Int)
 | 0, _, _, _, _, _, _ => none
 | k + 1, x3, x14, x15, x16, x102000, x102001 => if x16 < x15 then (if 0 ≤ x16 then (if x16 < (x14.length : Int) then (cnf_Check.l0 k (wrap64 (x3 + ((rL x14 x16).length : Int))) x14 x15 (wrap64 (x16 + 1)) x102000 x102001) else (none)) else (none)) else (if x102000 > 4096 then (cnf_Check.j1 k true x102000 x102001) else (if (x102001.length : Int) > 16384 then (cnf_Check.j1 k true x102000 x102001) else (cnf_Check.j1 k (decide (x3 > 65536)) x102000 x102001)))
def cnf_Check.j1 : Nat → Bool → Int → List (List Int) → Option (Int)
 | 0, _, _, _ => none
 | k + 1, x37, x102000, x102001 => if x37 = true then (some 5) else (cnf_Check.l1 k x102001 (x102001.length : Int) 0 x102000 x102001)
def cnf_Check.l1 : Nat → List (List Int) → Int → Int → Int → List (List Int) → Option (Int)
 | 0, _, _, _, _, _ => none
 | k + 1, x39, x40, x41, x102000, x102001 => if x41 < x40 then (if 0 ≤ x41 then (if x41 < (x39.length : Int) then (cnf_Check.l2 k x39 x40 x41 (rL x39 x41) ((rL x39 x41).length : Int) 0 x102000 x102001) else (none)) else (none)) else (some 0)
def cnf_Check.l2 : Nat → List (List Int) → Int → Int → List Int → Int → Int → Int → List (List Int) → Option (Int)
 | 0, _, _, _, _, _, _, _, _ => none
 | k + 1, x39, x40, x41, x45, x46, x47, x102000, x102001 => if x47 < x46 then (if 0 ≤ x47 then (if x47 < (x45.length : Int) then ((cnf_exists.f (rd x45 x47) x102000).bind fun t105 => (if t105 = true then (cnf_Check.l2 k x39 x40 x41 x45 x46 (wrap64 (x47 + 1)) x102000 x102001) else (some 1))) else (none)) else (none)) else (cnf_Check.l1 k x39 x40 (wrap64 (x41 + 1)) x102000 x102001)
end
def cnf_Check.f (k : Nat) (a0_0 : Int) (l0_1 : List (List Int)) : Option (Int) := if a0_0 < 0 then (some 1) else (cnf_Check.l0 k 0 l0_1 (l0_1.length : Int) 0 a0_0 l0_1)
theorem cnf_Check.calls (k : Nat) (a0_0 : Int) (A0_1 : Option Addr) (c0_1 : Nat) (l0_1 : List (List Int)) (r : Int) (w : World) (hr0_1 : Kd.C (Kd.slice 3 (Kd.int .i64)) w A0_1 l0_1.length l0_1) (hc0_1 : l0_1.length ≤ c0_1) (h : cnf_Check.f k a0_0 l0_1 = some r) :
  Calls Tryz.prog 48 #[.agg #[.int .i64 a0_0, .slice A0_1 l0_1.length c0_1]] w fun e w' => e = .returned (.int .i64 r) ∧ Below w.heap.size w w' := by
 have hu24 := Tryz.underlying24
 have HR0_1 := Az.mk hr0_1
 have HC0_1 := Az.mk hc0_1
 clear hr0_1 hc0_1
 have HB := Az.mk (Below.refl w.heap.size w)
 have H : (if a0_0 < 0 then (some 1) else (cnf_Check.l0 k 0 l0_1 (l0_1.length : Int) 0 a0_0 l0_1)) = some r := h
 clear h
 by_cases c2 : a0_0 < 0
 ·rw [if_pos c2] at H
  have c2b0 : decide (a0_0 < 0) = true := decide_eq_true c2
  clear c2
  obtain rfl := Option.some.inj H
  go_enter Tryz.func48, Tryz.ntmps48
  go_wp2_with (first | ((with_reducible refine gate_dst (N := 1) rfl ?_); (try (refine gate_guard (by rfl) ?_; dsimp only)); refine box_event ?hg (N := 1) ?hd (cs := #[.int .i64 a0_0, .slice A0_1 l0_1.length c0_1]) (t := 24) ?hr ?_; (case hd => rfl); (case hg => rfl); (case hr => first | (go_simp; done) | (go_simp; rfl)); intro gb101 hg w3 hbox hb; have n0_ := Az.mk (bwt (by repeat (first | (with_reducible first | exact HB.out | apply bwa | apply pwN | apply bw1) | exact HB.out)) hb); have n1_ := Az.mk (hbox); have n2_ := Az.mk ((by rw [hg]; exact (below_size (by repeat (first | (with_reducible first | exact HB.out | apply bwa | apply pwN | apply bw1) | exact HB.out))) : w.heap.size ≤ gb101)); have n3_ := Az.mk ((by rw [hg]; exact (below_size (by repeat (first | (with_reducible first | exact HB.out | apply bwa | apply pwN | apply bw1) | exact HB.out))) : w.heap.size ≤ gb101)); clear HB; have HB := n0_; have BK101 := n1_; have GW101 := n2_; have GE101 := n3_; clear n0_ n1_ n2_ n3_; clear hb hbox hg; have hcz4_0 : w3.cell? ⟨gb101, 0, none⟩ = some (.int .i64 a0_0) := (bkc BK101.out 0).trans rfl; have hcz4_1 : w3.cell? ⟨gb101, 1, none⟩ = some (.slice A0_1 l0_1.length c0_1) := (bkc BK101.out 1).trans rfl; have hfz4_0 := bkf BK101.out 0; have hfz4_1 := bkf BK101.out 1))
  go_ret
  exact ⟨by first | rfl | (simp [errW_none, errW_some] <;> rfl) | (simp [*, errW_none, errW_some] <;> rfl), by repeat (first | (with_reducible first | exact HB.out | apply bwa | apply pwN | apply bw1 | refine bws ?_ GE101.out) | exact HB.out)⟩
 ·rw [if_neg c2] at H
  have c2b0 : decide (a0_0 < 0) = false := decide_eq_false c2
  clear c2
  have H' := Az.mk H
  clear H
  go_enter Tryz.func48, Tryz.ntmps48
  go_wp2_with (first | ((with_reducible refine gate_dst (N := 1) rfl ?_); (try (refine gate_guard (by rfl) ?_; dsimp only)); refine box_event ?hg (N := 1) ?hd (cs := #[.int .i64 a0_0, .slice A0_1 l0_1.length c0_1]) (t := 24) ?hr ?_; (case hd => rfl); (case hg => rfl); (case hr => first | (go_simp; done) | (go_simp; rfl)); intro gb101 hg w5 hbox hb; have n0_ := Az.mk (bwt (by repeat (first | (with_reducible first | exact HB.out | apply bwa | apply pwN | apply bw1) | exact HB.out)) hb); have n1_ := Az.mk (hbox); have n2_ := Az.mk ((by rw [hg]; exact (below_size (by repeat (first | (with_reducible first | exact HB.out | apply bwa | apply pwN | apply bw1) | exact HB.out))) : w.heap.size ≤ gb101)); have n3_ := Az.mk ((by rw [hg]; exact (below_size (by repeat (first | (with_reducible first | exact HB.out | apply bwa | apply pwN | apply bw1) | exact HB.out))) : w.heap.size ≤ gb101)); clear HB; have HB := n0_; have BK101 := n1_; have GW101 := n2_; have GE101 := n3_; clear n0_ n1_ n2_ n3_; clear hb hbox hg; have hcz6_0 : w5.cell? ⟨gb101, 0, none⟩ = some (.int .i64 a0_0) := (bkc BK101.out 0).trans rfl; have hcz6_1 : w5.cell? ⟨gb101, 1, none⟩ = some (.slice A0_1 l0_1.length c0_1) := (bkc BK101.out 1).trans rfl; have hfz6_0 := bkf BK101.out 0; have hfz6_1 := bkf BK101.out 1))
  go_loopg [3, 16] k (fun kq v3 v16 w' => ∃ (x3_1 : Int) (x16_1 : Int), v3 = .int .i64 x3_1 ∧ v16 = .int .i64 x16_1 ∧ Az (cnf_Check.l0 kq x3_1 l0_1 (l0_1.length : Int) x16_1 a0_0 l0_1 = some r) ∧ Az (kq ≤ k) ∧ Az (w'.heap[gb101]? = some (.cells #[.int .i64 a0_0, (.slice A0_1 l0_1.length c0_1)] 24 (0, 0))) ∧ Az (Below w.heap.size w w'))
  case atStart => exact ⟨(0), (0), (by first | rfl | (simp; done) | (simp [*]; done)), (by first | rfl | (simp; done) | (simp [*]; done)), H', ⟨Nat.le_refl _⟩, ⟨by (with_reducible repeat (first | refine bkN ?_ _ | refine bkd ?_ | refine bka ?_ _)); exact BK101.out⟩, ⟨by repeat (first | (with_reducible first | exact HB.out | apply bwa | apply pwN | apply bw1 | refine bws ?_ GE101.out) | exact HB.out)⟩⟩
  case round =>
   clear H'
   try clear c2
   try clear c2b0
   try clear p2
   try clear c4
   try clear hcz4_0
   try clear hcz4_1
   try clear hcz6_0
   try clear hcz6_1
   try clear hfz4_0
   try clear hfz4_1
   try clear hfz6_0
   try clear hfz6_1
   obtain ⟨x3_1, x16_1, rfl, rfl, HA, HK1, BK101, HB⟩ := hrel
   cases gk with
   | zero => exact absurd HA.out (by simp [cnf_Check.l0])
   | succ k1 =>
    have H := HA.out
    clear HA
    simp only [cnf_Check.l0] at H
    by_cases c7 : x16_1 < (l0_1.length : Int)
    ·rw [if_pos c7] at H
     have c7b0 : decide (x16_1 < (l0_1.length : Int)) = true := decide_eq_true c7
     clear c7
     by_cases c8 : 0 ≤ x16_1
     ·rw [if_pos c8] at H
      have c8b0 : decide (0 ≤ x16_1) = true := decide_eq_true c8
      clear c8
      by_cases c9 : x16_1 < (l0_1.length : Int)
      ·rw [if_pos c9] at H
       have c9b0 : decide (x16_1 < (l0_1.length : Int)) = true := decide_eq_true c9
       clear c9
       have H' := Az.mk H
       clear H
       have p102 : 0 ≤ (x16_1 : Int) := of_decide_eq_true (by assumption)
       have q102 : x16_1 < (l0_1.length : Int) := of_decide_eq_true (by assumption)
       obtain ⟨ad102, A102_0, c102_0, e102, hx102_0, hl102_0, hi102_0⟩ := at_L1 HR0_1.out x16_1 p102 q102
       cases e102
       replace hx102_0 := (HB.out.cell (World.block_lt_of_cell? w _ hx102_0)).trans hx102_0
       have HR102_0 := Az.mk hi102_0
       have HC102_0 := Az.mk hl102_0
       clear hi102_0 hl102_0
       replace p102 := eq_true p102
       replace q102 := eq_true q102
       go_wp2
       go_roundg k1
       case measure => have := HK1.out; omega
       case rel => exact ⟨(wrap64 (x3_1 + ((rL l0_1 x16_1).length : Int))), (wrap64 (x16_1 + 1)), (by first | rfl | (simp; done) | (simp [*]; done)), (by first | rfl | (simp; done) | (simp [*]; done)), H', ⟨by have := HK1.out; omega⟩, ⟨by (with_reducible repeat (first | refine bkN ?_ _ | refine bkd ?_ | refine bka ?_ _)); exact BK101.out⟩, ⟨by repeat (first | (with_reducible first | exact HB.out | apply bwa | apply pwN | apply bw1 | refine bws ?_ GE101.out) | exact HB.out)⟩⟩
      ·rw [if_neg c9] at H
       exact absurd H (by simp)
     ·rw [if_neg c8] at H
      exact absurd H (by simp)
    ·rw [if_neg c7] at H
     have c7b0 : decide (x16_1 < (l0_1.length : Int)) = false := decide_eq_false c7
     clear c7
     have HC10 := Az.mk H
     clear H
     go_upto_region 9 with (fail)
     go_cut [37] (fun v37 wc => ∃ (kq : Nat) (x37_9 : Bool), v37 = .bool x37_9 ∧ Az (cnf_Check.j1 kq x37_9 a0_0 l0_1 = some r) ∧ Az (kq ≤ k1) ∧ Az (wc.heap[gb101]? = some (.cells #[.int .i64 a0_0, (.slice A0_1 l0_1.length c0_1)] 24 (0, 0))) ∧ Az (Below w.heap.size w wc))
     case first =>
      have H := HC10.out
      clear HC10
      by_cases c11 : a0_0 > 4096
      ·rw [if_pos c11] at H
       have c11b0 : decide (4096 < a0_0) = true := decide_eq_true c11
       clear c11
       (first | rw [c11b0] | (simp only [iw, jw]; rw [c11b0]) | skip)
       have H' := Az.mk H
       clear H
       have hcz12_0 : wr.cell? ⟨gb101, 0, none⟩ = some (.int .i64 a0_0) := (bkc BK101.out 0).trans rfl
       have hcz12_1 : wr.cell? ⟨gb101, 1, none⟩ = some (.slice A0_1 l0_1.length c0_1) := (bkc BK101.out 1).trans rfl
       have hfz12_0 := bkf BK101.out 0
       have hfz12_1 := bkf BK101.out 1
       go_wp2
       go_meet
       case rel => exact ⟨_, (true), (by first | rfl | (simp; done) | (simp [*]; done)), H', ⟨by have := HK1.out; first | omega | exact Nat.le_refl _⟩, ⟨by (with_reducible repeat (first | refine bkN ?_ _ | refine bkd ?_ | refine bka ?_ _)); exact BK101.out⟩, ⟨by repeat (first | (with_reducible first | exact HB.out | apply bwa | apply pwN | apply bw1 | refine bws ?_ GE101.out) | exact HB.out)⟩⟩
      ·rw [if_neg c11] at H
       have c11b0 : decide (4096 < a0_0) = false := decide_eq_false c11
       clear c11
       (first | rw [c11b0] | (simp only [iw, jw]; rw [c11b0]) | skip)
       by_cases c13 : (l0_1.length : Int) > 16384
       ·rw [if_pos c13] at H
        have c13b0 : decide (16384 < (l0_1.length : Int)) = true := decide_eq_true c13
        have c13b1 : decide (16384 < l0_1.length) = true := decide_eq_true (by omega)
        clear c13
        have H' := Az.mk H
        clear H
        have hcz14_0 : wr.cell? ⟨gb101, 0, none⟩ = some (.int .i64 a0_0) := (bkc BK101.out 0).trans rfl
        have hcz14_1 : wr.cell? ⟨gb101, 1, none⟩ = some (.slice A0_1 l0_1.length c0_1) := (bkc BK101.out 1).trans rfl
        have hfz14_0 := bkf BK101.out 0
        have hfz14_1 := bkf BK101.out 1
        go_wp2
        go_meet
        case rel => exact ⟨_, (true), (by first | rfl | (simp; done) | (simp [*]; done)), H', ⟨by have := HK1.out; first | omega | exact Nat.le_refl _⟩, ⟨by (with_reducible repeat (first | refine bkN ?_ _ | refine bkd ?_ | refine bka ?_ _)); exact BK101.out⟩, ⟨by repeat (first | (with_reducible first | exact HB.out | apply bwa | apply pwN | apply bw1 | refine bws ?_ GE101.out) | exact HB.out)⟩⟩
       ·rw [if_neg c13] at H
        have c13b0 : decide (16384 < (l0_1.length : Int)) = false := decide_eq_false c13
        have c13b1 : decide (16384 < l0_1.length) = false := decide_eq_false (by omega)
        clear c13
        have H' := Az.mk H
        clear H
        have hcz15_0 : wr.cell? ⟨gb101, 0, none⟩ = some (.int .i64 a0_0) := (bkc BK101.out 0).trans rfl
        have hcz15_1 : wr.cell? ⟨gb101, 1, none⟩ = some (.slice A0_1 l0_1.length c0_1) := (bkc BK101.out 1).trans rfl
        have hfz15_0 := bkf BK101.out 0
        have hfz15_1 := bkf BK101.out 1
        go_wp2
        go_meet
        case rel => exact ⟨_, (decide (x3_1 > 65536)), (by first | rfl | (simp; done) | (simp [*]; done)), H', ⟨by have := HK1.out; first | omega | exact Nat.le_refl _⟩, ⟨by (with_reducible repeat (first | refine bkN ?_ _ | refine bkd ?_ | refine bka ?_ _)); exact BK101.out⟩, ⟨by repeat (first | (with_reducible first | exact HB.out | apply bwa | apply pwN | apply bw1 | refine bws ?_ GE101.out) | exact HB.out)⟩⟩
     case rest =>
      clear HC10
      try clear c1
      try clear p1
      try clear q1
      try clear hx1
      try clear c2
      try clear c2b0
      try clear p2
      try clear c4
      try clear p6
      try clear c7
      try clear c7b0
      try clear c8
      try clear c8b0
      try clear c9
      try clear c9b0
      try clear c10
      try clear p10
      try clear q10
      try clear hx10
      try clear c11
      try clear c11b0
      try clear c13
      try clear c13b0
      try clear c13b1
      try clear hcz12_0
      try clear hcz12_1
      try clear hcz14_0
      try clear hcz14_1
      try clear hcz15_0
      try clear hcz15_1
      try clear hcz4_0
      try clear hcz4_1
      try clear hcz6_0
      try clear hcz6_1
      try clear hfz12_0
      try clear hfz12_1
      try clear hfz14_0
      try clear hfz14_1
      try clear hfz15_0
      try clear hfz15_1
      try clear hfz4_0
      try clear hfz4_1
      try clear hfz6_0
      try clear hfz6_1
      try clear hx102_0
      try clear p102
      try clear p2
      try clear q102
      obtain ⟨kq, x37_9, rfl, HA, HJ9, BK101, HB⟩ := hcut
      cases kq with
      | zero => exact absurd HA.out (by simp [cnf_Check.j1])
      | succ kj9 =>
       have H := HA.out
       clear HA
       simp only [cnf_Check.j1] at H
       by_cases c16 : x37_9 = true
       ·subst c16
        have H1 : (some 5) = some r := by rw [if_pos rfl] at H; exact H
        clear H
        have H := H1
        clear H1
        obtain rfl := Option.some.inj H
        go_wp2
        go_ret
        exact ⟨by first | rfl | (simp [errW_none, errW_some] <;> rfl) | (simp [*, errW_none, errW_some] <;> rfl), by repeat (first | (with_reducible first | exact HB.out | apply bwa | apply pwN | apply bw1 | refine bws ?_ GE101.out) | exact HB.out)⟩
       ·replace c16 := Bool.eq_false_iff.mpr c16
        subst c16
        have H1 : (cnf_Check.l1 kj9 l0_1 (l0_1.length : Int) 0 a0_0 l0_1) = some r := by rw [if_neg (show ¬ (false = true) by decide)] at H; exact H
        clear H
        have H := H1
        clear H1
        have H' := Az.mk H
        clear H
        have hcz17_0 : wc.cell? ⟨gb101, 0, none⟩ = some (.int .i64 a0_0) := (bkc BK101.out 0).trans rfl
        have hcz17_1 : wc.cell? ⟨gb101, 1, none⟩ = some (.slice A0_1 l0_1.length c0_1) := (bkc BK101.out 1).trans rfl
        have hfz17_0 := bkf BK101.out 0
        have hfz17_1 := bkf BK101.out 1
        go_wp2
        go_loopg [41] kj9 (fun kq v41 w' => ∃ (x41_3 : Int), v41 = .int .i64 x41_3 ∧ Az (cnf_Check.l1 kq l0_1 (l0_1.length : Int) x41_3 a0_0 l0_1 = some r) ∧ Az (kq ≤ kj9) ∧ Az (w'.heap[gb101]? = some (.cells #[.int .i64 a0_0, (.slice A0_1 l0_1.length c0_1)] 24 (0, 0))) ∧ Az (Below w.heap.size w w'))
        case atStart => exact ⟨(0), (by first | rfl | (simp; done) | (simp [*]; done)), H', ⟨Nat.le_refl _⟩, ⟨by (with_reducible repeat (first | refine bkN ?_ _ | refine bkd ?_ | refine bka ?_ _)); exact BK101.out⟩, ⟨by repeat (first | (with_reducible first | exact HB.out | apply bwa | apply pwN | apply bw1 | refine bws ?_ GE101.out) | exact HB.out)⟩⟩
        case round =>
         clear H'
         try clear c1
         try clear p1
         try clear q1
         try clear hx1
         try clear c2
         try clear c2b0
         try clear p2
         try clear c4
         try clear p6
         try clear c7
         try clear c7b0
         try clear c8
         try clear c8b0
         try clear c9
         try clear c9b0
         try clear c10
         try clear p10
         try clear q10
         try clear hx10
         try clear c11
         try clear c11b0
         try clear c13
         try clear c13b0
         try clear c13b1
         try clear c16
         try clear hcz12_0
         try clear hcz12_1
         try clear hcz14_0
         try clear hcz14_1
         try clear hcz15_0
         try clear hcz15_1
         try clear hcz17_0
         try clear hcz17_1
         try clear hcz4_0
         try clear hcz4_1
         try clear hcz6_0
         try clear hcz6_1
         try clear hfz12_0
         try clear hfz12_1
         try clear hfz14_0
         try clear hfz14_1
         try clear hfz15_0
         try clear hfz15_1
         try clear hfz17_0
         try clear hfz17_1
         try clear hfz4_0
         try clear hfz4_1
         try clear hfz6_0
         try clear hfz6_1
         try clear hx102_0
         try clear p1
         try clear p10
         try clear p102
         try clear p2
         try clear p6
         try clear q1
         try clear q10
         try clear q102
         obtain ⟨x41_3, rfl, HA, HK3, BK101, HB⟩ := hrel
         cases gk with
         | zero => exact absurd HA.out (by simp [cnf_Check.l1])
         | succ k3 =>
          have H := HA.out
          clear HA
          simp only [cnf_Check.l1] at H
          by_cases c18 : x41_3 < (l0_1.length : Int)
          ·rw [if_pos c18] at H
           have c18b0 : decide (x41_3 < (l0_1.length : Int)) = true := decide_eq_true c18
           clear c18
           by_cases c19 : 0 ≤ x41_3
           ·rw [if_pos c19] at H
            have c19b0 : decide (0 ≤ x41_3) = true := decide_eq_true c19
            clear c19
            by_cases c20 : x41_3 < (l0_1.length : Int)
            ·rw [if_pos c20] at H
             have c20b0 : decide (x41_3 < (l0_1.length : Int)) = true := decide_eq_true c20
             clear c20
             have H' := Az.mk H
             clear H
             have p103 : 0 ≤ (x41_3 : Int) := of_decide_eq_true (by assumption)
             have q103 : x41_3 < (l0_1.length : Int) := of_decide_eq_true (by assumption)
             obtain ⟨ad103, A103_0, c103_0, e103, hx103_0, hl103_0, hi103_0⟩ := at_L1 HR0_1.out x41_3 p103 q103
             cases e103
             replace hx103_0 := (HB.out.cell (World.block_lt_of_cell? w _ hx103_0)).trans hx103_0
             have HR103_0 := Az.mk hi103_0
             have HC103_0 := Az.mk hl103_0
             clear hi103_0 hl103_0
             replace p103 := eq_true p103
             replace q103 := eq_true q103
             go_wp2
             go_loopg [47] k3 (fun kq v47 w' => ∃ (x47_4 : Int), v47 = .int .i64 x47_4 ∧ Az (cnf_Check.l2 kq l0_1 (l0_1.length : Int) x41_3 (rL l0_1 x41_3) ((rL l0_1 x41_3).length : Int) x47_4 a0_0 l0_1 = some r) ∧ Az (kq ≤ k3) ∧ Az (w'.heap[gb101]? = some (.cells #[.int .i64 a0_0, (.slice (some ad103) l0_1.length c0_1)] 24 (0, 0))) ∧ Az (Below w.heap.size w w'))
             case atStart => exact ⟨(0), (by first | rfl | (simp; done) | (simp [*]; done)), H', ⟨Nat.le_refl _⟩, ⟨by (with_reducible repeat (first | refine bkN ?_ _ | refine bkd ?_ | refine bka ?_ _)); exact BK101.out⟩, ⟨by repeat (first | (with_reducible first | exact HB.out | apply bwa | apply pwN | apply bw1 | refine bws ?_ GE101.out) | exact HB.out)⟩⟩
             case round =>
              clear H'
              try clear c1
              try clear p1
              try clear q1
              try clear hx1
              try clear c2
              try clear c2b0
              try clear p2
              try clear c4
              try clear p6
              try clear c7
              try clear c7b0
              try clear c8
              try clear c8b0
              try clear c9
              try clear c9b0
              try clear c10
              try clear p10
              try clear q10
              try clear hx10
              try clear c11
              try clear c11b0
              try clear c13
              try clear c13b0
              try clear c13b1
              try clear c16
              try clear c18
              try clear c18b0
              try clear c19
              try clear c19b0
              try clear c20
              try clear c20b0
              try clear hcz12_0
              try clear hcz12_1
              try clear hcz14_0
              try clear hcz14_1
              try clear hcz15_0
              try clear hcz15_1
              try clear hcz17_0
              try clear hcz17_1
              try clear hcz4_0
              try clear hcz4_1
              try clear hcz6_0
              try clear hcz6_1
              try clear hfz12_0
              try clear hfz12_1
              try clear hfz14_0
              try clear hfz14_1
              try clear hfz15_0
              try clear hfz15_1
              try clear hfz17_0
              try clear hfz17_1
              try clear hfz4_0
              try clear hfz4_1
              try clear hfz6_0
              try clear hfz6_1
              try clear hx102_0
              try clear hx103_0
              try clear p1
              try clear p10
              try clear p102
              try clear p103
              try clear p2
              try clear p6
              try clear q1
              try clear q10
              try clear q102
              try clear q103
              obtain ⟨x47_4, rfl, HA, HK4, BK101, HB⟩ := hrel
              cases gk with
              | zero => exact absurd HA.out (by simp [cnf_Check.l2])
              | succ k4 =>
               have H := HA.out
               clear HA
               simp only [cnf_Check.l2] at H
               by_cases c21 : x47_4 < ((rL l0_1 x41_3).length : Int)
               ·rw [if_pos c21] at H
                have c21b0 : decide (x47_4 < ((rL l0_1 x41_3).length : Int)) = true := decide_eq_true c21
                clear c21
                by_cases c22 : 0 ≤ x47_4
                ·rw [if_pos c22] at H
                 have c22b0 : decide (0 ≤ x47_4) = true := decide_eq_true c22
                 clear c22
                 by_cases c23 : x47_4 < ((rL l0_1 x41_3).length : Int)
                 ·rw [if_pos c23] at H
                  have c23b0 : decide (x47_4 < ((rL l0_1 x41_3).length : Int)) = true := decide_eq_true c23
                  clear c23
                  replace H := Option.bind_eq_some_iff.mp H
                  obtain ⟨t105, A240, H⟩ := H
                  replace H : (if t105 = true then (cnf_Check.l2 k4 l0_1 (l0_1.length : Int) x41_3 (rL l0_1 x41_3) ((rL l0_1 x41_3).length : Int) (wrap64 (x47_4 + 1)) a0_0 l0_1) else (some 1)) = some r := H
                  have A24 := Az.mk A240
                  clear A240
                  by_cases c25 : t105 = true
                  ·subst c25
                   have H1 : (cnf_Check.l2 k4 l0_1 (l0_1.length : Int) x41_3 (rL l0_1 x41_3) ((rL l0_1 x41_3).length : Int) (wrap64 (x47_4 + 1)) a0_0 l0_1) = some r := by rw [if_pos rfl] at H; exact H
                   clear H
                   have H := H1
                   clear H1
                   have H' := Az.mk H
                   clear H
                   have p104 : 0 ≤ (x47_4 : Int) := of_decide_eq_true (by assumption)
                   have q104 : x47_4 < ((rL l0_1 x41_3).length : Int) := of_decide_eq_true (by assumption)
                   obtain ⟨ad104, e104, hx104_0⟩ := Kd.at_int HR103_0.out x47_4 p104 q104
                   cases e104
                   replace hx104_0 := (HB.out.cell (World.block_lt_of_cell? w _ hx104_0)).trans hx104_0
                   replace p104 := eq_true p104
                   replace q104 := eq_true q104
                   have hcz26_0 : wr.cell? ⟨gb101, 0, none⟩ = some (.int .i64 a0_0) := (bkc BK101.out 0).trans rfl
                   have hcz26_1 : wr.cell? ⟨gb101, 1, none⟩ = some (.slice (some ad103) l0_1.length c0_1) := (bkc BK101.out 1).trans rfl
                   have hfz26_0 := bkf BK101.out 0
                   have hfz26_1 := bkf BK101.out 1
                   go_wp2_with (first | ((with_reducible refine gate_callee (f := 96) rfl ?_); refine goesL_ (some 54) rfl rfl Tryz.func96 (by kernel_rfl) rfl #[.int .i64 (rd (rL l0_1 x41_3) x47_4), .int .i64 a0_0] rfl (by (try simp only [List.map_toArray, List.map_cons, List.map_nil]); first | done | rfl | (simp only [List.length_drop, List.length_take]; rfl)) ?_; (with_reducible refine (cnf_exists.calls (rd (rL l0_1 x41_3) x47_4) a0_0 true _ A24.out).mono ?_); rintro e w' ⟨rfl, ⟨nd, rfl⟩⟩; refine ⟨_, rfl, ?_⟩))
                   go_roundg k4
                   case measure => have := HK1.out; have := HJ9.out; have := HK3.out; have := HK4.out; omega
                   case rel => exact ⟨(wrap64 (x47_4 + 1)), (by first | rfl | (simp; done) | (simp [*]; done)), H', ⟨by have := HK1.out; have := HJ9.out; have := HK3.out; have := HK4.out; omega⟩, ⟨by (with_reducible repeat (first | refine bkN ?_ _ | refine bkd ?_ | refine bka ?_ _)); exact BK101.out⟩, ⟨by repeat (first | (with_reducible first | exact HB.out | apply bwa | apply pwN | apply bw1 | refine bws ?_ GE101.out) | exact HB.out)⟩⟩
                  ·replace c25 := Bool.eq_false_iff.mpr c25
                   subst c25
                   have H1 : (some 1) = some r := by rw [if_neg (show ¬ (false = true) by decide)] at H; exact H
                   clear H
                   have H := H1
                   clear H1
                   obtain rfl := Option.some.inj H
                   have p104 : 0 ≤ (x47_4 : Int) := of_decide_eq_true (by assumption)
                   have q104 : x47_4 < ((rL l0_1 x41_3).length : Int) := of_decide_eq_true (by assumption)
                   obtain ⟨ad104, e104, hx104_0⟩ := Kd.at_int HR103_0.out x47_4 p104 q104
                   cases e104
                   replace hx104_0 := (HB.out.cell (World.block_lt_of_cell? w _ hx104_0)).trans hx104_0
                   replace p104 := eq_true p104
                   replace q104 := eq_true q104
                   have hcz27_0 : wr.cell? ⟨gb101, 0, none⟩ = some (.int .i64 a0_0) := (bkc BK101.out 0).trans rfl
                   have hcz27_1 : wr.cell? ⟨gb101, 1, none⟩ = some (.slice (some ad103) l0_1.length c0_1) := (bkc BK101.out 1).trans rfl
                   have hfz27_0 := bkf BK101.out 0
                   have hfz27_1 := bkf BK101.out 1
                   go_wp2_with (first | ((with_reducible refine gate_callee (f := 96) rfl ?_); refine goesL_ (some 54) rfl rfl Tryz.func96 (by kernel_rfl) rfl #[.int .i64 (rd (rL l0_1 x41_3) x47_4), .int .i64 a0_0] rfl (by (try simp only [List.map_toArray, List.map_cons, List.map_nil]); first | done | rfl | (simp only [List.length_drop, List.length_take]; rfl)) ?_; (with_reducible refine (cnf_exists.calls (rd (rL l0_1 x41_3) x47_4) a0_0 false _ A24.out).mono ?_); rintro e w' ⟨rfl, ⟨nd, rfl⟩⟩; refine ⟨_, rfl, ?_⟩))
                   go_ret
                   exact ⟨by first | rfl | (simp [errW_none, errW_some] <;> rfl) | (simp [*, errW_none, errW_some] <;> rfl), by repeat (first | (with_reducible first | exact HB.out | apply bwa | apply pwN | apply bw1 | refine bws ?_ GE101.out) | exact HB.out)⟩
                 ·rw [if_neg c23] at H
                  exact absurd H (by simp)
                ·rw [if_neg c22] at H
                 exact absurd H (by simp)
               ·rw [if_neg c21] at H
                have c21b0 : decide (x47_4 < ((rL l0_1 x41_3).length : Int)) = false := decide_eq_false c21
                clear c21
                have H' := Az.mk H
                clear H
                go_wp2
                go_roundg k4
                case measure => have := HK1.out; have := HJ9.out; have := HK3.out; have := HK4.out; omega
                case rel => exact ⟨(wrap64 (x41_3 + 1)), (by first | rfl | (simp; done) | (simp [*]; done)), H', ⟨by have := HK1.out; have := HJ9.out; have := HK3.out; have := HK4.out; omega⟩, ⟨by (with_reducible repeat (first | refine bkN ?_ _ | refine bkd ?_ | refine bka ?_ _)); exact BK101.out⟩, ⟨by repeat (first | (with_reducible first | exact HB.out | apply bwa | apply pwN | apply bw1 | refine bws ?_ GE101.out) | exact HB.out)⟩⟩
            ·rw [if_neg c20] at H
             exact absurd H (by simp)
           ·rw [if_neg c19] at H
            exact absurd H (by simp)
          ·rw [if_neg c18] at H
           have c18b0 : decide (x41_3 < (l0_1.length : Int)) = false := decide_eq_false c18
           clear c18
           obtain rfl := Option.some.inj H
           go_wp2
           go_ret
           exact ⟨by first | rfl | (simp [errW_none, errW_some] <;> rfl) | (simp [*, errW_none, errW_some] <;> rfl), by repeat (first | (with_reducible first | exact HB.out | apply bwa | apply pwN | apply bw1 | refine bws ?_ GE101.out) | exact HB.out)⟩
end Go.Proofs.YtogicccdngpafaaGreatDoor.PCheck
end
section
set_option maxRecDepth 100000
namespace Go.Proofs.YtogicccdngpafaaGreatDoor.PSame
open Go.RowKit QW.PrintWords QW.PrintLast QW.PrintMore
attribute [local go_sem] max2_int min2_int max_two min_two max_three min_three max_four min_four   
def errW : Option Int → Value
 | none => .nilIface
 | some c => .iface 0 (.int .i64 c)
theorem errW_none : errW none = .nilIface := rfl
theorem errW_some (c : Int) : errW (some c) = .iface 0 (.int .i64 c) := rfl
def rL (xs : List (List Int)) (i : Int) : (List Int) := xs.getD i.toNat ([] : List Int)
theorem at_L1 {w : World} {A : Option Addr} {n : Nat} {xs : List (List Int)} (h : Kd.C (Kd.slice 3 (Kd.int .i64)) w A n xs) (i : Int) (h0 : 0 ≤ i) (h1 : i < n) : ∃ ad A0 c0, A = some ad ∧ w.cell? (ad.add i.toNat) = some (.slice A0 (rL xs i).length c0) ∧ (rL xs i).length ≤ c0 ∧ (Kd.int .i64).C w A0 (rL xs i).length (rL xs i) := by
 obtain ⟨ad, c, e, _, hK, hc0⟩ := Kd.C_get h ([] : List Int) i h0 h1
 have hc : ∀ j u, c[j]? = some u → w.cell? (ad.add (i.toNat * 1 + j)) = some u := hc0
 obtain ⟨A0, c0, rfl, l0, g0⟩ := hK
 exact ⟨ad, A0, c0, e, by have hq := hc 0 _ rfl; rwa [Nat.mul_one, Nat.add_zero] at hq, l0, g0⟩
structure S42 where
 f0 : (List Int)
 f1 : Bool
 f2 : (List Int)
def z42 : S42 := ⟨([] : List Int), false, ([] : List Int)⟩
def k42 : Kd S42 := Kd.iso (Kd.pair (Kd.slice 3 (Kd.int .i64)) (Kd.pair Kd.bool (Kd.slice 3 (Kd.int .i64)))) (fun x : S42 => (x.f0, x.f1, x.f2))
theorem k42_open {w : World} {x : S42} {cs : List Value} (h : k42.K w x cs) : ∃ A0 c0 A2 c2, cs = [.slice A0 x.f0.length c0, .bool x.f1, .slice A2 x.f2.length c2] ∧ x.f0.length ≤ c0 ∧ (Kd.int .i64).C w A0 x.f0.length x.f0 ∧ x.f2.length ≤ c2 ∧ (Kd.int .i64).C w A2 x.f2.length x.f2 := by
 obtain ⟨_, _, rfl, ⟨A0, c0, rfl, l0, g0⟩, ⟨_, _, rfl, rfl, ⟨A2, c2, rfl, l2, g2⟩⟩⟩ := h
 exact ⟨A0, c0, A2, c2, rfl, l0, g0, l2, g2⟩
theorem k42_mk (w : World) (x : S42) {A0 : Option Addr} {c0 : Nat} (l0 : x.f0.length ≤ c0) (g0 : (Kd.int .i64).C w A0 x.f0.length x.f0) {A2 : Option Addr} {c2 : Nat} (l2 : x.f2.length ≤ c2) (g2 : (Kd.int .i64).C w A2 x.f2.length x.f2) : k42.K w x [.slice A0 x.f0.length c0, .bool x.f1, .slice A2 x.f2.length c2] := ⟨[.slice A0 x.f0.length c0], [.bool x.f1, .slice A2 x.f2.length c2], rfl, ⟨A0, c0, rfl, l0, g0⟩, ⟨[.bool x.f1], [.slice A2 x.f2.length c2], rfl, rfl, ⟨A2, c2, rfl, l2, g2⟩⟩⟩
theorem k42_mkM (w : World) (base : Nat) (ok : Nat → Prop) (x : S42) {v0 : Value} (g0 : (Kd.int .i64).R 3 w base ok v0 x.f0) {v2 : Value} (g2 : (Kd.int .i64).R 3 w base ok v2 x.f2) : k42.M w base ok x [v0, .bool x.f1, v2] := ⟨[v0], [.bool x.f1, v2], rfl, ⟨v0, rfl, g0⟩, ⟨[.bool x.f1], [v2], rfl, rfl, ⟨v2, rfl, g2⟩⟩⟩
def rd_T42 (xs : List S42) (i : Int) : S42 := xs.getD i.toNat z42
theorem at_T42 {w : World} {A : Option Addr} {n : Nat} {xs : List S42} (h : Kd.C k42 w A n xs) (i : Int) (h0 : 0 ≤ i) (h1 : i < n) : ∃ ad A0 c0 A2 c2, A = some ad ∧ w.cell? (ad.add (i.toNat * 3)) = some (.slice A0 (rd_T42 xs i).f0.length c0) ∧ w.cell? ⟨(ad.add (i.toNat * 3)).block, (ad.add (i.toNat * 3)).off + 1, none⟩ = some (.bool (rd_T42 xs i).f1) ∧ w.cell? ⟨(ad.add (i.toNat * 3)).block, (ad.add (i.toNat * 3)).off + 2, none⟩ = some (.slice A2 (rd_T42 xs i).f2.length c2) ∧ (rd_T42 xs i).f0.length ≤ c0 ∧ (Kd.int .i64).C w A0 (rd_T42 xs i).f0.length (rd_T42 xs i).f0 ∧ (rd_T42 xs i).f2.length ≤ c2 ∧ (Kd.int .i64).C w A2 (rd_T42 xs i).f2.length (rd_T42 xs i).f2 := by
 obtain ⟨ad, c, e, _, hK, hc0⟩ := Kd.C_get h z42 i h0 h1
 have hc : ∀ j u, c[j]? = some u → w.cell? (ad.add (i.toNat * 3 + j)) = some u := hc0
 obtain ⟨A0, c0, A2, c2, rfl, l0, g0, l2, g2⟩ := k42_open hK
 exact ⟨ad, A0, c0, A2, c2, e, hc 0 _ rfl, by rw [← add_field _ _ 1 (by omega)]; exact hc 1 _ rfl, by rw [← add_field _ _ 2 (by omega)]; exact hc 2 _ rfl, l0, g0, l2, g2⟩
end Go.Proofs.YtogicccdngpafaaGreatDoor.PSame
end
section
set_option maxRecDepth 100000
namespace Go.Proofs.YtogicccdngpafaaGreatDoor.PRef
open Go.RowKit QW.PrintWords QW.PrintLast QW.PrintMore
attribute [local go_sem] max2_int min2_int max_two min_two max_three min_three max_four min_four   
def errW : Option Int → Value
 | none => .nilIface
 | some c => .iface 0 (.int .i64 c)
theorem errW_none : errW none = .nilIface := rfl
theorem errW_some (c : Int) : errW (some c) = .iface 0 (.int .i64 c) := rfl
theorem info3 : (Tryz.prog.info? 3).map (fun i => (i.zero, i.size, i.bytes)) = some (some (.int .i64 0), 1, 8) := by kernel_rfl
def rL (xs : List (List Int)) (i : Int) : (List Int) := xs.getD i.toNat ([] : List Int)
theorem at_L1 {w : World} {A : Option Addr} {n : Nat} {xs : List (List Int)} (h : Kd.C (Kd.slice 3 (Kd.int .i64)) w A n xs) (i : Int) (h0 : 0 ≤ i) (h1 : i < n) : ∃ ad A0 c0, A = some ad ∧ w.cell? (ad.add i.toNat) = some (.slice A0 (rL xs i).length c0) ∧ (rL xs i).length ≤ c0 ∧ (Kd.int .i64).C w A0 (rL xs i).length (rL xs i) := by
 obtain ⟨ad, c, e, _, hK, hc0⟩ := Kd.C_get h ([] : List Int) i h0 h1
 have hc : ∀ j u, c[j]? = some u → w.cell? (ad.add (i.toNat * 1 + j)) = some u := hc0
 obtain ⟨A0, c0, rfl, l0, g0⟩ := hK
 exact ⟨ad, A0, c0, e, by have hq := hc 0 _ rfl; rwa [Nat.mul_one, Nat.add_zero] at hq, l0, g0⟩
structure S42 where
 f0 : (List Int)
 f1 : Bool
 f2 : (List Int)
def z42 : S42 := ⟨([] : List Int), false, ([] : List Int)⟩
def k42 : Kd S42 := Kd.iso (Kd.pair (Kd.slice 3 (Kd.int .i64)) (Kd.pair Kd.bool (Kd.slice 3 (Kd.int .i64)))) (fun x : S42 => (x.f0, x.f1, x.f2))
theorem k42_open {w : World} {x : S42} {cs : List Value} (h : k42.K w x cs) : ∃ A0 c0 A2 c2, cs = [.slice A0 x.f0.length c0, .bool x.f1, .slice A2 x.f2.length c2] ∧ x.f0.length ≤ c0 ∧ (Kd.int .i64).C w A0 x.f0.length x.f0 ∧ x.f2.length ≤ c2 ∧ (Kd.int .i64).C w A2 x.f2.length x.f2 := by
 obtain ⟨_, _, rfl, ⟨A0, c0, rfl, l0, g0⟩, ⟨_, _, rfl, rfl, ⟨A2, c2, rfl, l2, g2⟩⟩⟩ := h
 exact ⟨A0, c0, A2, c2, rfl, l0, g0, l2, g2⟩
theorem k42_mk (w : World) (x : S42) {A0 : Option Addr} {c0 : Nat} (l0 : x.f0.length ≤ c0) (g0 : (Kd.int .i64).C w A0 x.f0.length x.f0) {A2 : Option Addr} {c2 : Nat} (l2 : x.f2.length ≤ c2) (g2 : (Kd.int .i64).C w A2 x.f2.length x.f2) : k42.K w x [.slice A0 x.f0.length c0, .bool x.f1, .slice A2 x.f2.length c2] := ⟨[.slice A0 x.f0.length c0], [.bool x.f1, .slice A2 x.f2.length c2], rfl, ⟨A0, c0, rfl, l0, g0⟩, ⟨[.bool x.f1], [.slice A2 x.f2.length c2], rfl, rfl, ⟨A2, c2, rfl, l2, g2⟩⟩⟩
theorem k42_mkM (w : World) (base : Nat) (ok : Nat → Prop) (x : S42) {v0 : Value} (g0 : (Kd.int .i64).R 3 w base ok v0 x.f0) {v2 : Value} (g2 : (Kd.int .i64).R 3 w base ok v2 x.f2) : k42.M w base ok x [v0, .bool x.f1, v2] := ⟨[v0], [.bool x.f1, v2], rfl, ⟨v0, rfl, g0⟩, ⟨[.bool x.f1], [v2], rfl, rfl, ⟨v2, rfl, g2⟩⟩⟩
def rd_T42 (xs : List S42) (i : Int) : S42 := xs.getD i.toNat z42
theorem at_T42 {w : World} {A : Option Addr} {n : Nat} {xs : List S42} (h : Kd.C k42 w A n xs) (i : Int) (h0 : 0 ≤ i) (h1 : i < n) : ∃ ad A0 c0 A2 c2, A = some ad ∧ w.cell? (ad.add (i.toNat * 3)) = some (.slice A0 (rd_T42 xs i).f0.length c0) ∧ w.cell? ⟨(ad.add (i.toNat * 3)).block, (ad.add (i.toNat * 3)).off + 1, none⟩ = some (.bool (rd_T42 xs i).f1) ∧ w.cell? ⟨(ad.add (i.toNat * 3)).block, (ad.add (i.toNat * 3)).off + 2, none⟩ = some (.slice A2 (rd_T42 xs i).f2.length c2) ∧ (rd_T42 xs i).f0.length ≤ c0 ∧ (Kd.int .i64).C w A0 (rd_T42 xs i).f0.length (rd_T42 xs i).f0 ∧ (rd_T42 xs i).f2.length ≤ c2 ∧ (Kd.int .i64).C w A2 (rd_T42 xs i).f2.length (rd_T42 xs i).f2 := by
 obtain ⟨ad, c, e, _, hK, hc0⟩ := Kd.C_get h z42 i h0 h1
 have hc : ∀ j u, c[j]? = some u → w.cell? (ad.add (i.toNat * 3 + j)) = some u := hc0
 obtain ⟨A0, c0, A2, c2, rfl, l0, g0, l2, g2⟩ := k42_open hK
 exact ⟨ad, A0, c0, A2, c2, e, hc 0 _ rfl, by rw [← add_field _ _ 1 (by omega)]; exact hc 1 _ rfl, by rw [← add_field _ _ 2 (by omega)]; exact hc 2 _ rfl, l0, g0, l2, g2⟩
end Go.Proofs.YtogicccdngpafaaGreatDoor.PRef
end
section
set_option maxRecDepth 100000
namespace Go.Proofs.YtogicccdngpafaaGreatDoor.PRef
open Go.RowKit QW.PrintWords QW.PrintLast QW.PrintMore
attribute [local go_sem] max2_int min2_int max_two min_two max_three min_three max_four min_four   
def IsS151 (w0 W : World) (g : Nat) (f0 : List (List Int)) (f1 : List Bool) : Prop := ∃ A0 c0, ∃ A1 c1, W.heap[g]? = some (.cells #[.slice A0 f0.length c0, .slice A1 f1.length c1] 151 (0, 0)) ∧ w0.heap.size ≤ g ∧ Kd.C (Kd.slice 3 (Kd.int .i64)) w0 A0 f0.length f0 ∧ Kd.C Kd.bool w0 A1 f1.length f1
theorem IsS151.grown {w0 W : World} {g : Nat} {f0 : List (List Int)} {f1 : List Bool} {W1 : World} {row : Option Nat} (h : IsS151 w0 W g f0 f1) (hw : W.grownBy W1 row) (hne : some g ≠ row) : IsS151 w0 W1 g f0 f1 := by
 obtain ⟨A0, c0, A1, c1, hb, hg, hr0, hr1⟩ := h
 exact ⟨A0, c0, A1, c1, bkg hb hw hne, hg, hr0, hr1⟩
theorem IsS151.kept {w0 W : World} {g : Nat} {f0 : List (List Int)} {f1 : List Bool} {W1 : World} {S : Nat → Prop} (h : IsS151 w0 W g f0 f1) (hk : Kept W W1 S) (hne : ¬ S g) : IsS151 w0 W1 g f0 f1 := by
 obtain ⟨A0, c0, A1, c1, hb, hg, hr0, hr1⟩ := h
 exact ⟨A0, c0, A1, c1, blk_kept hb hk hne, hg, hr0, hr1⟩
theorem IsS151.below {w0 W : World} {g : Nat} {f0 : List (List Int)} {f1 : List Bool} {W1 : World} (h : IsS151 w0 W g f0 f1) (hw : Below W.heap.size W W1) : IsS151 w0 W1 g f0 f1 := h.grown (grown_of_below hw none) (by simp)
theorem IsS151.alloc {w0 W : World} {g : Nat} {f0 : List (List Int)} {f1 : List Bool} (h : IsS151 w0 W g f0 f1) (o : Obj) : IsS151 w0 (W.alloc o) g f0 f1 := h.below (bwa (Below.refl _ _) o)
theorem IsS151.drewN {w0 W : World} {g : Nat} {f0 : List (List Int)} {f1 : List Bool} (h : IsS151 w0 W g f0 f1) (m : Nat) : IsS151 w0 (W.drewN m) g f0 f1 := h
theorem IsS151.drew {w0 W : World} {g : Nat} {f0 : List (List Int)} {f1 : List Bool} (h : IsS151 w0 W g f0 f1) : IsS151 w0 W.drew g f0 f1 := h
theorem IsS151.at_ {w0 W : World} {g : Nat} {f0 : List (List Int)} {f1 : List Bool} {w' : World} {m : Nat} (hq : W.drewN m = w') (h : IsS151 w0 W g f0 f1) : IsS151 w0 w' g f0 f1 := by subst hq; exact IsS151.drewN h m
theorem IsS151.apart {w0 W : World} {g : Nat} {f0 : List (List Int)} {f1 : List Bool} {α : Type} {d : Kd α} {e : Nat} {base : Nat} {ok : Nat → Prop} {v : Value} {xs : List α} (h : IsS151 w0 W g f0 f1) (ho : d.R e W base ok v xs) (ht : ∀ q, q ∈ e :: d.E → q ≠ 151) : d.R e W base (fun k => ok k ∧ k ≠ g) v xs := by
 obtain ⟨A0, c0, A1, c1, hb, hg, hr0, hr1⟩ := h
 exact Kd.R_types ho hb ht
theorem IsS151.own_ne {w0 W : World} {g : Nat} {f0 : List (List Int)} {f1 : List Bool} {α : Type} {d : Kd α} {e : Nat} {base : Nat} {ok : Nat → Prop} {v : Value} {xs : List α} (h : IsS151 w0 W g f0 f1) (ho : d.R e W base ok v xs) (ht : e ≠ 151) : some g ≠ v.ownBlock := by
 obtain ⟨A0, c0, A1, c1, hb, hg, hr0, hr1⟩ := h
 exact Kd.R_ne ho hb ht
theorem IsS151.lt {w0 W : World} {g : Nat} {f0 : List (List Int)} {f1 : List Bool} (h : IsS151 w0 W g f0 f1) : g < W.heap.size := by
 obtain ⟨A0, c0, A1, c1, hb, hg, hr0, hr1⟩ := h
 exact blk_lt hb
theorem IsS151.ge {w0 W : World} {g : Nat} {f0 : List (List Int)} {f1 : List Bool} (h : IsS151 w0 W g f0 f1) : w0.heap.size ≤ g := by
 obtain ⟨A0, c0, A1, c1, hb, hg, hr0, hr1⟩ := h
 exact hg
end Go.Proofs.YtogicccdngpafaaGreatDoor.PRef
end
section
set_option maxRecDepth 100000
namespace Go.Proofs.YtogicccdngpafaaGreatDoor.PEqInts
open Go.RowKit QW.PrintWords QW.PrintLast QW.PrintMore
attribute [local go_sem] max2_int min2_int max_two min_two max_three min_three max_four min_four   
def errW : Option Int → Value
 | none => .nilIface
 | some c => .iface 0 (.int .i64 c)
theorem errW_none : errW none = .nilIface := rfl
theorem errW_some (c : Int) : errW (some c) = .iface 0 (.int .i64 c) := rfl
end Go.Proofs.YtogicccdngpafaaGreatDoor.PEqInts
end
section
set_option maxHeartbeats 8000000
set_option maxRecDepth 100000
namespace Go.Proofs.YtogicccdngpafaaGreatDoor.PEqInts
open Go.RowKit QW.PrintWords QW.PrintLast QW.PrintMore
attribute [local go_sem] max2_int min2_int max_two min_two max_three min_three max_four min_four   
def netlabref32_EqInts.l0 : Nat → List Int → List Int → Int → Option (Bool)
 | 0, _, _, _ => none
 | k + 1, x0, x1, x5 => if x5 < (x0.length : Int) then (if 0 ≤ x5 then (if x5 < (x1.length : Int) then (if (rd x0 x5) = (rd x1 x5) then (netlabref32_EqInts.l0 k x0 x1 (wrap64 (x5 + 1))) else (some false)) else (none)) else (none)) else (some true)
def netlabref32_EqInts.f (k : Nat) (l0 : List Int) (l1 : List Int) : Option (Bool) := if (l0.length : Int) = (l1.length : Int) then (netlabref32_EqInts.l0 k l0 l1 0) else (some false)
theorem netlabref32_EqInts.calls (k : Nat) (A0 : Option Addr) (c0 : Nat) (l0 : List Int) (A1 : Option Addr) (c1 : Nat) (l1 : List Int) (r : Bool) (w : World) (hr0 : Kd.C (Kd.int .i64) w A0 l0.length l0) (hc0 : l0.length ≤ c0) (hr1 : Kd.C (Kd.int .i64) w A1 l1.length l1) (hc1 : l1.length ≤ c1) (h : netlabref32_EqInts.f k l0 l1 = some r) :
  Calls Tryz.prog 17 #[.slice A0 l0.length c0, .slice A1 l1.length c1] w fun e w' => e = .returned (.bool r) ∧ Drawn0 w w' := by
 have HR0 := Az.mk hr0
 have HC0 := Az.mk hc0
 clear hr0 hc0
 have HR1 := Az.mk hr1
 have HC1 := Az.mk hc1
 clear hr1 hc1
 have H : (if (l0.length : Int) = (l1.length : Int) then (netlabref32_EqInts.l0 k l0 l1 0) else (some false)) = some r := h
 clear h
 by_cases c3 : (l0.length : Int) = (l1.length : Int)
 ·rw [if_pos c3] at H
  have c3b0 : ((l0.length : Int) == (l1.length : Int)) = true := beq_iff_eq.mpr c3
  have c3b1 : ((l0.length : Int) != (l1.length : Int)) = false := bne_eq_false_iff_eq.mpr c3
  have c3b2 : (l0.length == l1.length) = true := by first | simpa using c3 | (simp at c3 ⊢; omega)
  clear c3
  have H' := Az.mk H
  clear H
  go_enter Tryz.func17, Tryz.ntmps17
  go_wp2
  repeat (go_quiet (fail); try go_wp2)
  go_loopg [5] k (fun kq v5 w' => ∃ (x5_1 : Int), v5 = .int .i64 x5_1 ∧ Az (netlabref32_EqInts.l0 kq l0 l1 x5_1 = some r) ∧ Az (kq ≤ k) ∧ Drawn0 w w')
  case atStart => exact ⟨(0), (by first | rfl | (simp; done) | (simp [*]; done)), H', ⟨Nat.le_refl _⟩, by repeat (first | exact Drawn0.refl _ | apply Drawn0.step)⟩
  case round =>
   clear H'
   try clear c1
   try clear p2
   try clear c3
   try clear c3b0
   try clear c3b1
   try clear c3b2
   obtain ⟨x5_1, rfl, HA, HK1, ⟨m1, rfl⟩⟩ := hrel
   cases gk with
   | zero => exact absurd HA.out (by simp [netlabref32_EqInts.l0])
   | succ k1 =>
    have H := HA.out
    clear HA
    simp only [netlabref32_EqInts.l0] at H
    by_cases c4 : x5_1 < (l0.length : Int)
    ·rw [if_pos c4] at H
     have c4b0 : decide (x5_1 < (l0.length : Int)) = true := decide_eq_true c4
     clear c4
     by_cases c5 : 0 ≤ x5_1
     ·rw [if_pos c5] at H
      have c5b0 : decide (0 ≤ x5_1) = true := decide_eq_true c5
      clear c5
      by_cases c6 : x5_1 < (l1.length : Int)
      ·rw [if_pos c6] at H
       have c6b0 : decide (x5_1 < (l1.length : Int)) = true := decide_eq_true c6
       clear c6
       by_cases c7 : (rd l0 x5_1) = (rd l1 x5_1)
       ·rw [if_pos c7] at H
        have c7b0 : ((rd l0 x5_1) == (rd l1 x5_1)) = true := beq_iff_eq.mpr c7
        have c7b1 : ((rd l0 x5_1) != (rd l1 x5_1)) = false := bne_eq_false_iff_eq.mpr c7
        clear c7
        have H' := Az.mk H
        clear H
        have p101 : 0 ≤ (x5_1 : Int) := of_decide_eq_true (by assumption)
        have q101 : x5_1 < (l0.length : Int) := of_decide_eq_true (by assumption)
        obtain ⟨ad101, e101, hx101_0⟩ := Kd.at_int HR0.out x5_1 p101 q101
        cases e101
        replace p101 := eq_true p101
        replace q101 := eq_true q101
        have p102 : 0 ≤ (x5_1 : Int) := of_decide_eq_true (by assumption)
        have q102 : x5_1 < (l1.length : Int) := of_decide_eq_true (by assumption)
        obtain ⟨ad102, e102, hx102_0⟩ := Kd.at_int HR1.out x5_1 p102 q102
        cases e102
        replace p102 := eq_true p102
        replace q102 := eq_true q102
        go_wp2
        repeat (go_quiet (fail); try go_wp2)
        go_roundg k1
        case measure => have := HK1.out; omega
        case rel => exact ⟨(wrap64 (x5_1 + 1)), (by first | rfl | (simp; done) | (simp [*]; done)), H', ⟨by have := HK1.out; omega⟩, by repeat (first | exact Drawn0.refl _ | apply Drawn0.step)⟩
       ·rw [if_neg c7] at H
        have c7b0 : ((rd l0 x5_1) == (rd l1 x5_1)) = false := beq_eq_false_iff_ne.mpr c7
        have c7b1 : ((rd l0 x5_1) != (rd l1 x5_1)) = true := bne_iff_ne.mpr c7
        obtain rfl := Option.some.inj H
        have p101 : 0 ≤ (x5_1 : Int) := of_decide_eq_true (by assumption)
        have q101 : x5_1 < (l0.length : Int) := of_decide_eq_true (by assumption)
        obtain ⟨ad101, e101, hx101_0⟩ := Kd.at_int HR0.out x5_1 p101 q101
        cases e101
        replace p101 := eq_true p101
        replace q101 := eq_true q101
        have p102 : 0 ≤ (x5_1 : Int) := of_decide_eq_true (by assumption)
        have q102 : x5_1 < (l1.length : Int) := of_decide_eq_true (by assumption)
        obtain ⟨ad102, e102, hx102_0⟩ := Kd.at_int HR1.out x5_1 p102 q102
        cases e102
        replace p102 := eq_true p102
        replace q102 := eq_true q102
        go_wp2
        repeat (go_quiet (fail); try go_wp2)
        go_ret
        exact ⟨by first | rfl | (simp; done) | (simp [*]; done), by repeat (first | exact Drawn0.refl _ | apply Drawn0.step)⟩
      ·rw [if_neg c6] at H
       exact absurd H (by simp)
     ·rw [if_neg c5] at H
      exact absurd H (by simp)
    ·rw [if_neg c4] at H
     have c4b0 : decide (x5_1 < (l0.length : Int)) = false := decide_eq_false c4
     clear c4
     obtain rfl := Option.some.inj H
     go_wp2
     repeat (go_quiet (fail); try go_wp2)
     go_ret
     exact ⟨by first | rfl | (simp; done) | (simp [*]; done), by repeat (first | exact Drawn0.refl _ | apply Drawn0.step)⟩
 ·rw [if_neg c3] at H
  have c3b0 : ((l0.length : Int) == (l1.length : Int)) = false := beq_eq_false_iff_ne.mpr c3
  have c3b1 : ((l0.length : Int) != (l1.length : Int)) = true := bne_iff_ne.mpr c3
  have c3b2 : (l0.length == l1.length) = false := by first | simpa using c3 | (simp at c3 ⊢; omega)
  obtain rfl := Option.some.inj H
  go_enter Tryz.func17, Tryz.ntmps17
  go_wp2
  repeat (go_quiet (fail); try go_wp2)
  go_ret
  exact ⟨by first | rfl | (simp; done) | (simp [*]; done), by repeat (first | exact Drawn0.refl _ | apply Drawn0.step)⟩
end Go.Proofs.YtogicccdngpafaaGreatDoor.PEqInts
end
section
set_option maxRecDepth 100000
namespace Go.Proofs.YtogicccdngpafaaGreatDoor.PTree
open Go.RowKit QW.PrintWords QW.PrintLast QW.PrintMore
attribute [local go_sem] max2_int min2_int max_two min_two max_three min_three max_four min_four   
def errW : Option Int → Value
 | none => .nilIface
 | some c => .iface 0 (.int .i64 c)
theorem errW_none : errW none = .nilIface := rfl
theorem errW_some (c : Int) : errW (some c) = .iface 0 (.int .i64 c) := rfl
theorem info3 : (Tryz.prog.info? 3).map (fun i => (i.zero, i.size, i.bytes)) = some (some (.int .i64 0), 1, 8) := by kernel_rfl
def rL (xs : List (List Int)) (i : Int) : (List Int) := xs.getD i.toNat ([] : List Int)
theorem at_L1 {w : World} {A : Option Addr} {n : Nat} {xs : List (List Int)} (h : Kd.C (Kd.slice 3 (Kd.int .i64)) w A n xs) (i : Int) (h0 : 0 ≤ i) (h1 : i < n) : ∃ ad A0 c0, A = some ad ∧ w.cell? (ad.add i.toNat) = some (.slice A0 (rL xs i).length c0) ∧ (rL xs i).length ≤ c0 ∧ (Kd.int .i64).C w A0 (rL xs i).length (rL xs i) := by
 obtain ⟨ad, c, e, _, hK, hc0⟩ := Kd.C_get h ([] : List Int) i h0 h1
 have hc : ∀ j u, c[j]? = some u → w.cell? (ad.add (i.toNat * 1 + j)) = some u := hc0
 obtain ⟨A0, c0, rfl, l0, g0⟩ := hK
 exact ⟨ad, A0, c0, e, by have hq := hc 0 _ rfl; rwa [Nat.mul_one, Nat.add_zero] at hq, l0, g0⟩
end Go.Proofs.YtogicccdngpafaaGreatDoor.PTree
end
section
set_option maxRecDepth 100000
namespace Go.Proofs.YtogicccdngpafaaGreatDoor.PRPar
open Go.RowKit QW.PrintWords QW.PrintLast QW.PrintMore
attribute [local go_sem] max2_int min2_int max_two min_two max_three min_three max_four min_four   
def errW : Option Int → Value
 | none => .nilIface
 | some c => .iface 0 (.int .i64 c)
theorem errW_none : errW none = .nilIface := rfl
theorem errW_some (c : Int) : errW (some c) = .iface 0 (.int .i64 c) := rfl
theorem info3 : (Tryz.prog.info? 3).map (fun i => (i.zero, i.size, i.bytes)) = some (some (.int .i64 0), 1, 8) := by kernel_rfl
def rL (xs : List (List Int)) (i : Int) : (List Int) := xs.getD i.toNat ([] : List Int)
theorem at_L1 {w : World} {A : Option Addr} {n : Nat} {xs : List (List Int)} (h : Kd.C (Kd.slice 3 (Kd.int .i64)) w A n xs) (i : Int) (h0 : 0 ≤ i) (h1 : i < n) : ∃ ad A0 c0, A = some ad ∧ w.cell? (ad.add i.toNat) = some (.slice A0 (rL xs i).length c0) ∧ (rL xs i).length ≤ c0 ∧ (Kd.int .i64).C w A0 (rL xs i).length (rL xs i) := by
 obtain ⟨ad, c, e, _, hK, hc0⟩ := Kd.C_get h ([] : List Int) i h0 h1
 have hc : ∀ j u, c[j]? = some u → w.cell? (ad.add (i.toNat * 1 + j)) = some u := hc0
 obtain ⟨A0, c0, rfl, l0, g0⟩ := hK
 exact ⟨ad, A0, c0, e, by have hq := hc 0 _ rfl; rwa [Nat.mul_one, Nat.add_zero] at hq, l0, g0⟩
structure S42 where
 f0 : (List Int)
 f1 : Bool
 f2 : (List Int)
def z42 : S42 := ⟨([] : List Int), false, ([] : List Int)⟩
def k42 : Kd S42 := Kd.iso (Kd.pair (Kd.slice 3 (Kd.int .i64)) (Kd.pair Kd.bool (Kd.slice 3 (Kd.int .i64)))) (fun x : S42 => (x.f0, x.f1, x.f2))
theorem k42_open {w : World} {x : S42} {cs : List Value} (h : k42.K w x cs) : ∃ A0 c0 A2 c2, cs = [.slice A0 x.f0.length c0, .bool x.f1, .slice A2 x.f2.length c2] ∧ x.f0.length ≤ c0 ∧ (Kd.int .i64).C w A0 x.f0.length x.f0 ∧ x.f2.length ≤ c2 ∧ (Kd.int .i64).C w A2 x.f2.length x.f2 := by
 obtain ⟨_, _, rfl, ⟨A0, c0, rfl, l0, g0⟩, ⟨_, _, rfl, rfl, ⟨A2, c2, rfl, l2, g2⟩⟩⟩ := h
 exact ⟨A0, c0, A2, c2, rfl, l0, g0, l2, g2⟩
theorem k42_mk (w : World) (x : S42) {A0 : Option Addr} {c0 : Nat} (l0 : x.f0.length ≤ c0) (g0 : (Kd.int .i64).C w A0 x.f0.length x.f0) {A2 : Option Addr} {c2 : Nat} (l2 : x.f2.length ≤ c2) (g2 : (Kd.int .i64).C w A2 x.f2.length x.f2) : k42.K w x [.slice A0 x.f0.length c0, .bool x.f1, .slice A2 x.f2.length c2] := ⟨[.slice A0 x.f0.length c0], [.bool x.f1, .slice A2 x.f2.length c2], rfl, ⟨A0, c0, rfl, l0, g0⟩, ⟨[.bool x.f1], [.slice A2 x.f2.length c2], rfl, rfl, ⟨A2, c2, rfl, l2, g2⟩⟩⟩
theorem k42_mkM (w : World) (base : Nat) (ok : Nat → Prop) (x : S42) {v0 : Value} (g0 : (Kd.int .i64).R 3 w base ok v0 x.f0) {v2 : Value} (g2 : (Kd.int .i64).R 3 w base ok v2 x.f2) : k42.M w base ok x [v0, .bool x.f1, v2] := ⟨[v0], [.bool x.f1, v2], rfl, ⟨v0, rfl, g0⟩, ⟨[.bool x.f1], [v2], rfl, rfl, ⟨v2, rfl, g2⟩⟩⟩
def rd_T42 (xs : List S42) (i : Int) : S42 := xs.getD i.toNat z42
theorem at_T42 {w : World} {A : Option Addr} {n : Nat} {xs : List S42} (h : Kd.C k42 w A n xs) (i : Int) (h0 : 0 ≤ i) (h1 : i < n) : ∃ ad A0 c0 A2 c2, A = some ad ∧ w.cell? (ad.add (i.toNat * 3)) = some (.slice A0 (rd_T42 xs i).f0.length c0) ∧ w.cell? ⟨(ad.add (i.toNat * 3)).block, (ad.add (i.toNat * 3)).off + 1, none⟩ = some (.bool (rd_T42 xs i).f1) ∧ w.cell? ⟨(ad.add (i.toNat * 3)).block, (ad.add (i.toNat * 3)).off + 2, none⟩ = some (.slice A2 (rd_T42 xs i).f2.length c2) ∧ (rd_T42 xs i).f0.length ≤ c0 ∧ (Kd.int .i64).C w A0 (rd_T42 xs i).f0.length (rd_T42 xs i).f0 ∧ (rd_T42 xs i).f2.length ≤ c2 ∧ (Kd.int .i64).C w A2 (rd_T42 xs i).f2.length (rd_T42 xs i).f2 := by
 obtain ⟨ad, c, e, _, hK, hc0⟩ := Kd.C_get h z42 i h0 h1
 have hc : ∀ j u, c[j]? = some u → w.cell? (ad.add (i.toNat * 3 + j)) = some u := hc0
 obtain ⟨A0, c0, A2, c2, rfl, l0, g0, l2, g2⟩ := k42_open hK
 exact ⟨ad, A0, c0, A2, c2, e, hc 0 _ rfl, by rw [← add_field _ _ 1 (by omega)]; exact hc 1 _ rfl, by rw [← add_field _ _ 2 (by omega)]; exact hc 2 _ rfl, l0, g0, l2, g2⟩
end Go.Proofs.YtogicccdngpafaaGreatDoor.PRPar
end
section
set_option maxHeartbeats 8000000
set_option maxRecDepth 100000
namespace Go.Proofs.YtogicccdngpafaaGreatDoor.PRPar
open Go.RowKit QW.PrintWords QW.PrintLast QW.PrintMore
attribute [local go_sem] max2_int min2_int max_two min_two max_three min_three max_four min_four   
def netlabref32_white.f (a0 : Int) : Option (Bool) := if a0 = 32 then (some true) else (if a0 = 9 then (some true) else (if a0 = 10 then (some true) else (some (a0 == 13))))
theorem netlabref32_white.calls (a0 : Int) (r : Bool) (w : World) (h : netlabref32_white.f a0 = some r) :
  Calls Tryz.prog 106 #[.int .u8 a0] w fun e w' => e = .returned (.bool r) ∧ Drawn0 w w' := by
 have H : (if a0 = 32 then (some true) else (if a0 = 9 then (some true) else (if a0 = 10 then (some true) else (some (a0 == 13))))) = some r := h
 clear h
 by_cases c2 : a0 = 32
 ·rw [if_pos c2] at H
  have c2b0 : (a0 == 32) = true := beq_iff_eq.mpr c2
  have c2b1 : (a0 != 32) = false := bne_eq_false_iff_eq.mpr c2
  clear c2
  obtain rfl := Option.some.inj H
  go_enter Tryz.func106, Tryz.ntmps106
  go_wp2
  go_ret
  exact ⟨by first | rfl | (simp; done) | (simp [*]; done), by repeat (first | exact Drawn0.refl _ | apply Drawn0.step)⟩
 ·rw [if_neg c2] at H
  have c2b0 : (a0 == 32) = false := beq_eq_false_iff_ne.mpr c2
  have c2b1 : (a0 != 32) = true := bne_iff_ne.mpr c2
  by_cases c3 : a0 = 9
  ·rw [if_pos c3] at H
   have c3b0 : (a0 == 9) = true := beq_iff_eq.mpr c3
   have c3b1 : (a0 != 9) = false := bne_eq_false_iff_eq.mpr c3
   clear c3
   obtain rfl := Option.some.inj H
   go_enter Tryz.func106, Tryz.ntmps106
   go_wp2
   go_ret
   exact ⟨by first | rfl | (simp; done) | (simp [*]; done), by repeat (first | exact Drawn0.refl _ | apply Drawn0.step)⟩
  ·rw [if_neg c3] at H
   have c3b0 : (a0 == 9) = false := beq_eq_false_iff_ne.mpr c3
   have c3b1 : (a0 != 9) = true := bne_iff_ne.mpr c3
   by_cases c4 : a0 = 10
   ·rw [if_pos c4] at H
    have c4b0 : (a0 == 10) = true := beq_iff_eq.mpr c4
    have c4b1 : (a0 != 10) = false := bne_eq_false_iff_eq.mpr c4
    clear c4
    obtain rfl := Option.some.inj H
    go_enter Tryz.func106, Tryz.ntmps106
    go_wp2
    go_ret
    exact ⟨by first | rfl | (simp; done) | (simp [*]; done), by repeat (first | exact Drawn0.refl _ | apply Drawn0.step)⟩
   ·rw [if_neg c4] at H
    have c4b0 : (a0 == 10) = false := beq_eq_false_iff_ne.mpr c4
    have c4b1 : (a0 != 10) = true := bne_iff_ne.mpr c4
    obtain rfl := Option.some.inj H
    go_enter Tryz.func106, Tryz.ntmps106
    go_wp2
    go_ret
    exact ⟨by first | rfl | (simp; done) | (simp [*]; done), by repeat (first | exact Drawn0.refl _ | apply Drawn0.step)⟩
def IsS127 (w0 W : World) (g : Nat) (f0 : ByteArray) (f1 : Int) (f2 : Int) (f3 : Int) : Prop := W.heap[g]? = some (.cells #[.string f0, .int .i64 f1, .int .i64 f2, .int .i64 f3] 127 (0, 0)) ∧ w0.heap.size ≤ g
theorem IsS127.grown {w0 W : World} {g : Nat} {f0 : ByteArray} {f1 : Int} {f2 : Int} {f3 : Int} {W1 : World} {row : Option Nat} (h : IsS127 w0 W g f0 f1 f2 f3) (hw : W.grownBy W1 row) (hne : some g ≠ row) : IsS127 w0 W1 g f0 f1 f2 f3 := by
 obtain ⟨hb, hg⟩ := h
 exact ⟨bkg hb hw hne, hg⟩
theorem IsS127.kept {w0 W : World} {g : Nat} {f0 : ByteArray} {f1 : Int} {f2 : Int} {f3 : Int} {W1 : World} {S : Nat → Prop} (h : IsS127 w0 W g f0 f1 f2 f3) (hk : Kept W W1 S) (hne : ¬ S g) : IsS127 w0 W1 g f0 f1 f2 f3 := by
 obtain ⟨hb, hg⟩ := h
 exact ⟨blk_kept hb hk hne, hg⟩
theorem IsS127.below {w0 W : World} {g : Nat} {f0 : ByteArray} {f1 : Int} {f2 : Int} {f3 : Int} {W1 : World} (h : IsS127 w0 W g f0 f1 f2 f3) (hw : Below W.heap.size W W1) : IsS127 w0 W1 g f0 f1 f2 f3 := h.grown (grown_of_below hw none) (by simp)
theorem IsS127.alloc {w0 W : World} {g : Nat} {f0 : ByteArray} {f1 : Int} {f2 : Int} {f3 : Int} (h : IsS127 w0 W g f0 f1 f2 f3) (o : Obj) : IsS127 w0 (W.alloc o) g f0 f1 f2 f3 := h.below (bwa (Below.refl _ _) o)
theorem IsS127.drewN {w0 W : World} {g : Nat} {f0 : ByteArray} {f1 : Int} {f2 : Int} {f3 : Int} (h : IsS127 w0 W g f0 f1 f2 f3) (m : Nat) : IsS127 w0 (W.drewN m) g f0 f1 f2 f3 := h
theorem IsS127.drew {w0 W : World} {g : Nat} {f0 : ByteArray} {f1 : Int} {f2 : Int} {f3 : Int} (h : IsS127 w0 W g f0 f1 f2 f3) : IsS127 w0 W.drew g f0 f1 f2 f3 := h
theorem IsS127.at_ {w0 W : World} {g : Nat} {f0 : ByteArray} {f1 : Int} {f2 : Int} {f3 : Int} {w' : World} {m : Nat} (hq : W.drewN m = w') (h : IsS127 w0 W g f0 f1 f2 f3) : IsS127 w0 w' g f0 f1 f2 f3 := by subst hq; exact IsS127.drewN h m
theorem IsS127.apart {w0 W : World} {g : Nat} {f0 : ByteArray} {f1 : Int} {f2 : Int} {f3 : Int} {α : Type} {d : Kd α} {e : Nat} {base : Nat} {ok : Nat → Prop} {v : Value} {xs : List α} (h : IsS127 w0 W g f0 f1 f2 f3) (ho : d.R e W base ok v xs) (ht : ∀ q, q ∈ e :: d.E → q ≠ 127) : d.R e W base (fun k => ok k ∧ k ≠ g) v xs := by
 obtain ⟨hb, hg⟩ := h
 exact Kd.R_types ho hb ht
theorem IsS127.own_ne {w0 W : World} {g : Nat} {f0 : ByteArray} {f1 : Int} {f2 : Int} {f3 : Int} {α : Type} {d : Kd α} {e : Nat} {base : Nat} {ok : Nat → Prop} {v : Value} {xs : List α} (h : IsS127 w0 W g f0 f1 f2 f3) (ho : d.R e W base ok v xs) (ht : e ≠ 127) : some g ≠ v.ownBlock := by
 obtain ⟨hb, hg⟩ := h
 exact Kd.R_ne ho hb ht
theorem IsS127.lt {w0 W : World} {g : Nat} {f0 : ByteArray} {f1 : Int} {f2 : Int} {f3 : Int} (h : IsS127 w0 W g f0 f1 f2 f3) : g < W.heap.size := by
 obtain ⟨hb, hg⟩ := h
 exact blk_lt hb
theorem IsS127.ge {w0 W : World} {g : Nat} {f0 : ByteArray} {f1 : Int} {f2 : Int} {f3 : Int} (h : IsS127 w0 W g f0 f1 f2 f3) : w0.heap.size ≤ g := by
 obtain ⟨hb, hg⟩ := h
 exact hg
theorem cellS127_0 {W : World} {g : Nat} {f0 : ByteArray} {f1 : Int} {f2 : Int} {f3 : Int} (h : W.heap[g]? = some (.cells #[.string f0, .int .i64 f1, .int .i64 f2, .int .i64 f3] 127 (0, 0))) : W.cell? ⟨g, 0, none⟩ = some (.string f0) := (bkc h 0).trans rfl
theorem IsS127.set_0 {w0 W : World} {g : Nat} {f0 : ByteArray} {f1 : Int} {f2 : Int} {f3 : Int} (h : IsS127 w0 W g f0 f1 f2 f3) (x : ByteArray) : IsS127 w0 (W.setCell ⟨g, 0, none⟩ (.string x)) g x f1 f2 f3 := by
 obtain ⟨hb, hg⟩ := h
 exact ⟨by simpa using blk_set hb 0 (.string x), hg⟩
theorem cellS127_1 {W : World} {g : Nat} {f0 : ByteArray} {f1 : Int} {f2 : Int} {f3 : Int} (h : W.heap[g]? = some (.cells #[.string f0, .int .i64 f1, .int .i64 f2, .int .i64 f3] 127 (0, 0))) : W.cell? ⟨g, 1, none⟩ = some (.int .i64 f1) := (bkc h 1).trans rfl
theorem IsS127.set_1 {w0 W : World} {g : Nat} {f0 : ByteArray} {f1 : Int} {f2 : Int} {f3 : Int} (h : IsS127 w0 W g f0 f1 f2 f3) (x : Int) : IsS127 w0 (W.setCell ⟨g, 1, none⟩ (.int .i64 x)) g f0 x f2 f3 := by
 obtain ⟨hb, hg⟩ := h
 exact ⟨by simpa using blk_set hb 1 (.int .i64 x), hg⟩
theorem cellS127_2 {W : World} {g : Nat} {f0 : ByteArray} {f1 : Int} {f2 : Int} {f3 : Int} (h : W.heap[g]? = some (.cells #[.string f0, .int .i64 f1, .int .i64 f2, .int .i64 f3] 127 (0, 0))) : W.cell? ⟨g, 2, none⟩ = some (.int .i64 f2) := (bkc h 2).trans rfl
theorem IsS127.set_2 {w0 W : World} {g : Nat} {f0 : ByteArray} {f1 : Int} {f2 : Int} {f3 : Int} (h : IsS127 w0 W g f0 f1 f2 f3) (x : Int) : IsS127 w0 (W.setCell ⟨g, 2, none⟩ (.int .i64 x)) g f0 f1 x f3 := by
 obtain ⟨hb, hg⟩ := h
 exact ⟨by simpa using blk_set hb 2 (.int .i64 x), hg⟩
theorem cellS127_3 {W : World} {g : Nat} {f0 : ByteArray} {f1 : Int} {f2 : Int} {f3 : Int} (h : W.heap[g]? = some (.cells #[.string f0, .int .i64 f1, .int .i64 f2, .int .i64 f3] 127 (0, 0))) : W.cell? ⟨g, 3, none⟩ = some (.int .i64 f3) := (bkc h 3).trans rfl
theorem IsS127.set_3 {w0 W : World} {g : Nat} {f0 : ByteArray} {f1 : Int} {f2 : Int} {f3 : Int} (h : IsS127 w0 W g f0 f1 f2 f3) (x : Int) : IsS127 w0 (W.setCell ⟨g, 3, none⟩ (.int .i64 x)) g f0 f1 f2 x := by
 obtain ⟨hb, hg⟩ := h
 exact ⟨by simpa using blk_set hb 3 (.int .i64 x), hg⟩
def netlabref32_Reader_More.l0 : Nat → ByteArray → Int → Int → Int → Option (Bool × ByteArray × Int × Int × Int)
 | 0, _, _, _, _ => none
 | k + 1, x1000, x1001, x1002, x1003 => if x1001 < (x1000.size : Int) then (if 0 ≤ x1001 then ((netlabref32_white.f (bt x1000 x1001)).bind fun t101 => (if t101 = true then (netlabref32_Reader_More.l0 k x1000 (wrap64 (x1001 + 1)) x1002 x1003) else (some (decide (x1001 < (x1000.size : Int)), x1000, x1001, x1002, x1003)))) else (none)) else (some (decide (x1001 < (x1000.size : Int)), x1000, x1001, x1002, x1003))
def netlabref32_Reader_More.f (k : Nat) (s0_0 : ByteArray) (s0_1 : Int) (s0_2 : Int) (s0_3 : Int) : Option (Bool × ByteArray × Int × Int × Int) := netlabref32_Reader_More.l0 k s0_0 s0_1 s0_2 s0_3
theorem netlabref32_Reader_More.calls (k : Nat) (g : Nat) (s0_0 : ByteArray) (s0_1 : Int) (s0_2 : Int) (s0_3 : Int) (r1 : Bool) (r2 : ByteArray) (r3 : Int) (r4 : Int) (r5 : Int) (w0 w : World) (hI : IsS127 w0 w g s0_0 s0_1 s0_2 s0_3) (hB : Below w0.heap.size w0 w) (h : netlabref32_Reader_More.f k s0_0 s0_1 s0_2 s0_3 = some (r1, r2, r3, r4, r5)) :
  Calls Tryz.prog 73 #[.pointer (some ⟨g, 0, none⟩)] w fun e w' => e = .returned (.bool r1) ∧ IsS127 w0 w' g r2 r3 r4 r5 ∧ Below w0.heap.size w0 w' ∧ KeepBut w w' g none := by
 have HI0 := Az.mk hI
 have HK := Az.mk (KeepBut.refl w g none)
 have HL := Az.mk hB.size
 clear hI
 have HW0 := Az.mk hB.size
 have HB := Az.mk hB
 clear hB
 have H : (netlabref32_Reader_More.l0 k s0_0 s0_1 s0_2 s0_3) = some (r1, r2, r3, r4, r5) := h
 clear h
 have H' := Az.mk H
 clear H
 go_enter Tryz.func73, Tryz.ntmps73
 go_wp2
 repeat (go_quiet (fail); try go_wp2)
 go_loopg [] k (fun kq w' => ∃ (x1001_1 : Int), Az (netlabref32_Reader_More.l0 kq s0_0 x1001_1 s0_2 s0_3 = some (r1, r2, r3, r4, r5)) ∧ Az (kq ≤ k) ∧ Az (IsS127 w0 w' g s0_0 x1001_1 s0_2 s0_3) ∧ Az (KeepBut w w' g none) ∧ Az (Below w0.heap.size w0 w'))
 case atStart => exact ⟨(s0_1), H', ⟨Nat.le_refl _⟩, ⟨by repeat (first | (with_reducible first | exact HI0.out | apply IsS127.alloc | apply IsS127.drewN | apply IsS127.drew | apply IsS127.set_0 | apply IsS127.set_1 | apply IsS127.set_2 | apply IsS127.set_3) | exact HI0.out)⟩, ⟨by repeat (first | (with_reducible first | exact HK.out | apply KeepBut.set_ | apply keep_drewN | apply keep_drew | apply keep_alloc) | exact HK.out)⟩, ⟨by repeat (first | (with_reducible first | exact HB.out | apply bwa | apply pwN | apply bw1 | refine bws ?_ (IsS127.ge HI0.out)) | exact HB.out)⟩⟩
 case round =>
  clear H'
  obtain ⟨x1001_1, HA, HK1, HI0, HK, HB⟩ := hrel
  cases gk with
  | zero => exact absurd HA.out (by simp [netlabref32_Reader_More.l0])
  | succ k1 =>
   have H := HA.out
   clear HA
   simp only [netlabref32_Reader_More.l0] at H
   by_cases c2 : x1001_1 < (s0_0.size : Int)
   ·rw [if_pos c2] at H
    have c2b0 : decide (x1001_1 < (s0_0.size : Int)) = true := decide_eq_true c2
    clear c2
    by_cases c3 : 0 ≤ x1001_1
    ·rw [if_pos c3] at H
     have c3b0 : decide (0 ≤ x1001_1) = true := decide_eq_true c3
     clear c3
     replace H := Option.bind_eq_some_iff.mp H
     obtain ⟨t101, A50, H⟩ := H
     replace H : (if t101 = true then (netlabref32_Reader_More.l0 k1 s0_0 (wrap64 (x1001_1 + 1)) s0_2 s0_3) else (some (decide (x1001_1 < (s0_0.size : Int)), s0_0, x1001_1, s0_2, s0_3))) = some (r1, r2, r3, r4, r5) := H
     have A5 := Az.mk A50
     clear A50
     by_cases c6 : t101 = true
     ·subst c6
      have H1 : (netlabref32_Reader_More.l0 k1 s0_0 (wrap64 (x1001_1 + 1)) s0_2 s0_3) = some (r1, r2, r3, r4, r5) := by rw [if_pos rfl] at H; exact H
      clear H
      have H := H1
      clear H1
      have H' := Az.mk H
      clear H
      obtain ⟨HGz7, hgz7⟩ := HI0.out
      have hcz7_0 := cellS127_0 HGz7
      have hcz7_1 := cellS127_1 HGz7
      have hcz7_2 := cellS127_2 HGz7
      have hcz7_3 := cellS127_3 HGz7
      have hfz7_0 := bkf HGz7 0
      have hfz7_1 := bkf HGz7 1
      have hfz7_2 := bkf HGz7 2
      have hfz7_3 := bkf HGz7 3
      clear HGz7 hgz7
      have p4 : 0 ≤ (x1001_1 : Int) := of_decide_eq_true (by assumption)
      have q4 : x1001_1 < (s0_0.size : Int) := of_decide_eq_true (by assumption)
      have hx4 := bt_at s0_0 x1001_1
      replace p4 := eq_true p4
      replace q4 := eq_true q4
      go_wp2_with (first | (go_at_call 106; (with_reducible refine (netlabref32_white.calls (bt s0_0 x1001_1) true _ A5.out).mono ?_); rintro e w' ⟨rfl, ⟨nd, rfl⟩⟩; (try first | exact ⟨rfl, _, World.drewN_drewN _ _ _⟩ | exact ⟨rfl, _, Eq.trans (World.drewN_drewN _ _ _) (congrArg (World.drewN _) (Nat.add_assoc _ _ _))⟩)))
      repeat (go_quiet (first | (go_at_call 106; (with_reducible refine (netlabref32_white.calls (bt s0_0 x1001_1) true _ A5.out).mono ?_); rintro e w' ⟨rfl, ⟨nd, rfl⟩⟩; (try first | exact ⟨rfl, _, World.drewN_drewN _ _ _⟩ | exact ⟨rfl, _, Eq.trans (World.drewN_drewN _ _ _) (congrArg (World.drewN _) (Nat.add_assoc _ _ _))⟩))); try go_wp2_with (first | (go_at_call 106; (with_reducible refine (netlabref32_white.calls (bt s0_0 x1001_1) true _ A5.out).mono ?_); rintro e w' ⟨rfl, ⟨nd, rfl⟩⟩; (try first | exact ⟨rfl, _, World.drewN_drewN _ _ _⟩ | exact ⟨rfl, _, Eq.trans (World.drewN_drewN _ _ _) (congrArg (World.drewN _) (Nat.add_assoc _ _ _))⟩))))
      go_roundg k1
      case measure => have := HK1.out; omega
      case rel => exact ⟨(wrap64 (x1001_1 + 1)), H', ⟨by have := HK1.out; omega⟩, ⟨by repeat (first | (with_reducible first | exact HI0.out | apply IsS127.alloc | apply IsS127.drewN | apply IsS127.drew | apply IsS127.set_0 | apply IsS127.set_1 | apply IsS127.set_2 | apply IsS127.set_3) | exact HI0.out)⟩, ⟨by repeat (first | (with_reducible first | exact HK.out | apply KeepBut.set_ | apply keep_drewN | apply keep_drew | apply keep_alloc) | exact HK.out)⟩, ⟨by repeat (first | (with_reducible first | exact HB.out | apply bwa | apply pwN | apply bw1 | refine bws ?_ (IsS127.ge HI0.out)) | exact HB.out)⟩⟩
     ·replace c6 := Bool.eq_false_iff.mpr c6
      subst c6
      have H1 : (some (decide (x1001_1 < (s0_0.size : Int)), s0_0, x1001_1, s0_2, s0_3)) = some (r1, r2, r3, r4, r5) := by rw [if_neg (show ¬ (false = true) by decide)] at H; exact H
      clear H
      have H := H1
      clear H1
      simp only [Option.some.injEq, Prod.mk.injEq] at H
      obtain ⟨rfl, rfl, rfl, rfl, rfl⟩ := H
      obtain ⟨HGz8, hgz8⟩ := HI0.out
      have hcz8_0 := cellS127_0 HGz8
      have hcz8_1 := cellS127_1 HGz8
      have hcz8_2 := cellS127_2 HGz8
      have hcz8_3 := cellS127_3 HGz8
      have hfz8_0 := bkf HGz8 0
      have hfz8_1 := bkf HGz8 1
      have hfz8_2 := bkf HGz8 2
      have hfz8_3 := bkf HGz8 3
      clear HGz8 hgz8
      have p4 : 0 ≤ (x1001_1 : Int) := of_decide_eq_true (by assumption)
      have q4 : x1001_1 < (s0_0.size : Int) := of_decide_eq_true (by assumption)
      have hx4 := bt_at s0_0 x1001_1
      replace p4 := eq_true p4
      replace q4 := eq_true q4
      go_wp2_with (first | (go_at_call 106; (with_reducible refine (netlabref32_white.calls (bt s0_0 x1001_1) false _ A5.out).mono ?_); rintro e w' ⟨rfl, ⟨nd, rfl⟩⟩; (try first | exact ⟨rfl, _, World.drewN_drewN _ _ _⟩ | exact ⟨rfl, _, Eq.trans (World.drewN_drewN _ _ _) (congrArg (World.drewN _) (Nat.add_assoc _ _ _))⟩)))
      repeat (go_quiet (first | (go_at_call 106; (with_reducible refine (netlabref32_white.calls (bt s0_0 x1001_1) false _ A5.out).mono ?_); rintro e w' ⟨rfl, ⟨nd, rfl⟩⟩; (try first | exact ⟨rfl, _, World.drewN_drewN _ _ _⟩ | exact ⟨rfl, _, Eq.trans (World.drewN_drewN _ _ _) (congrArg (World.drewN _) (Nat.add_assoc _ _ _))⟩))); try go_wp2_with (first | (go_at_call 106; (with_reducible refine (netlabref32_white.calls (bt s0_0 x1001_1) false _ A5.out).mono ?_); rintro e w' ⟨rfl, ⟨nd, rfl⟩⟩; (try first | exact ⟨rfl, _, World.drewN_drewN _ _ _⟩ | exact ⟨rfl, _, Eq.trans (World.drewN_drewN _ _ _) (congrArg (World.drewN _) (Nat.add_assoc _ _ _))⟩))))
      go_ret
      exact ⟨by first | rfl | (simp [errW_none, errW_some] <;> rfl) | (simp [*, errW_none, errW_some] <;> rfl), by repeat (first | (with_reducible first | exact HI0.out | apply IsS127.alloc | apply IsS127.drewN | apply IsS127.drew | apply IsS127.set_0 | apply IsS127.set_1 | apply IsS127.set_2 | apply IsS127.set_3) | exact HI0.out), by repeat (first | (with_reducible first | exact HB.out | apply bwa | apply pwN | apply bw1 | refine bws ?_ (IsS127.ge HI0.out)) | exact HB.out), by repeat (first | (with_reducible first | exact HK.out | apply KeepBut.set_ | apply keep_drewN | apply keep_drew | apply keep_alloc) | exact HK.out)⟩
    ·rw [if_neg c3] at H
     exact absurd H (by simp)
   ·rw [if_neg c2] at H
    have c2b0 : decide (x1001_1 < (s0_0.size : Int)) = false := decide_eq_false c2
    clear c2
    simp only [Option.some.injEq, Prod.mk.injEq] at H
    obtain ⟨rfl, rfl, rfl, rfl, rfl⟩ := H
    obtain ⟨HGz9, hgz9⟩ := HI0.out
    have hcz9_0 := cellS127_0 HGz9
    have hcz9_1 := cellS127_1 HGz9
    have hcz9_2 := cellS127_2 HGz9
    have hcz9_3 := cellS127_3 HGz9
    have hfz9_0 := bkf HGz9 0
    have hfz9_1 := bkf HGz9 1
    have hfz9_2 := bkf HGz9 2
    have hfz9_3 := bkf HGz9 3
    clear HGz9 hgz9
    go_wp2
    repeat (go_quiet (fail); try go_wp2)
    go_ret
    exact ⟨by first | rfl | (simp [errW_none, errW_some] <;> rfl) | (simp [*, errW_none, errW_some] <;> rfl), by repeat (first | (with_reducible first | exact HI0.out | apply IsS127.alloc | apply IsS127.drewN | apply IsS127.drew | apply IsS127.set_0 | apply IsS127.set_1 | apply IsS127.set_2 | apply IsS127.set_3) | exact HI0.out), by repeat (first | (with_reducible first | exact HB.out | apply bwa | apply pwN | apply bw1 | refine bws ?_ (IsS127.ge HI0.out)) | exact HB.out), by repeat (first | (with_reducible first | exact HK.out | apply KeepBut.set_ | apply keep_drewN | apply keep_drew | apply keep_alloc) | exact HK.out)⟩
def netlabref32_Reader_Fail.f (s0_0 : ByteArray) (s0_1 : Int) (s0_2 : Int) (s0_3 : Int) (a1 : Int) (a2 : Int) : Option (ByteArray × Int × Int × Int) := if s0_2 = 0 then (some (s0_0, s0_1, a2, a1)) else (some (s0_0, s0_1, s0_2, s0_3))
theorem netlabref32_Reader_Fail.calls (g : Nat) (s0_0 : ByteArray) (s0_1 : Int) (s0_2 : Int) (s0_3 : Int) (a1 : Int) (a2 : Int) (r1 : ByteArray) (r2 : Int) (r3 : Int) (r4 : Int) (w0 w : World) (hI : IsS127 w0 w g s0_0 s0_1 s0_2 s0_3) (hB : Below w0.heap.size w0 w) (h : netlabref32_Reader_Fail.f s0_0 s0_1 s0_2 s0_3 a1 a2 = some (r1, r2, r3, r4)) :
  Calls Tryz.prog 76 #[.pointer (some ⟨g, 0, none⟩), .int .i64 a1, .int .i64 a2] w fun e w' => e = .returned (.tuple #[]) ∧ IsS127 w0 w' g r1 r2 r3 r4 ∧ Below w0.heap.size w0 w' ∧ KeepBut w w' g none := by
 have HI0 := Az.mk hI
 have HK := Az.mk (KeepBut.refl w g none)
 have HL := Az.mk hB.size
 clear hI
 have HW0 := Az.mk hB.size
 have HB := Az.mk hB
 clear hB
 have H : (if s0_2 = 0 then (some (s0_0, s0_1, a2, a1)) else (some (s0_0, s0_1, s0_2, s0_3))) = some (r1, r2, r3, r4) := h
 clear h
 by_cases c4 : s0_2 = 0
 ·rw [if_pos c4] at H
  have c4b0 : (s0_2 == 0) = true := beq_iff_eq.mpr c4
  have c4b1 : (s0_2 != 0) = false := bne_eq_false_iff_eq.mpr c4
  clear c4
  simp only [Option.some.injEq, Prod.mk.injEq] at H
  obtain ⟨rfl, rfl, rfl, rfl⟩ := H
  obtain ⟨HGz5, hgz5⟩ := HI0.out
  have hcz5_0 := cellS127_0 HGz5
  have hcz5_1 := cellS127_1 HGz5
  have hcz5_2 := cellS127_2 HGz5
  have hcz5_3 := cellS127_3 HGz5
  have hfz5_0 := bkf HGz5 0
  have hfz5_1 := bkf HGz5 1
  have hfz5_2 := bkf HGz5 2
  have hfz5_3 := bkf HGz5 3
  clear HGz5 hgz5
  go_enter Tryz.func76, Tryz.ntmps76
  go_wp2
  first | go_end0 | ((try simp only [Exit.inBlock, Exit.then]); refine bodyPost_ret (results_none rfl _ _ _) rfl ?_)
  exact ⟨by first | rfl | (simp [errW_none, errW_some] <;> rfl) | (simp [*, errW_none, errW_some] <;> rfl), by repeat (first | (with_reducible first | exact HI0.out | apply IsS127.alloc | apply IsS127.drewN | apply IsS127.drew | apply IsS127.set_0 | apply IsS127.set_1 | apply IsS127.set_2 | apply IsS127.set_3) | exact HI0.out), by repeat (first | (with_reducible first | exact HB.out | apply bwa | apply pwN | apply bw1 | refine bws ?_ (IsS127.ge HI0.out)) | exact HB.out), by repeat (first | (with_reducible first | exact HK.out | apply KeepBut.set_ | apply keep_drewN | apply keep_drew | apply keep_alloc) | exact HK.out)⟩
 ·rw [if_neg c4] at H
  have c4b0 : (s0_2 == 0) = false := beq_eq_false_iff_ne.mpr c4
  have c4b1 : (s0_2 != 0) = true := bne_iff_ne.mpr c4
  simp only [Option.some.injEq, Prod.mk.injEq] at H
  obtain ⟨rfl, rfl, rfl, rfl⟩ := H
  obtain ⟨HGz6, hgz6⟩ := HI0.out
  have hcz6_0 := cellS127_0 HGz6
  have hcz6_1 := cellS127_1 HGz6
  have hcz6_2 := cellS127_2 HGz6
  have hcz6_3 := cellS127_3 HGz6
  have hfz6_0 := bkf HGz6 0
  have hfz6_1 := bkf HGz6 1
  have hfz6_2 := bkf HGz6 2
  have hfz6_3 := bkf HGz6 3
  clear HGz6 hgz6
  go_enter Tryz.func76, Tryz.ntmps76
  go_wp2
  first | go_end0 | ((try simp only [Exit.inBlock, Exit.then]); refine bodyPost_ret (results_none rfl _ _ _) rfl ?_)
  exact ⟨by first | rfl | (simp [errW_none, errW_some] <;> rfl) | (simp [*, errW_none, errW_some] <;> rfl), by repeat (first | (with_reducible first | exact HI0.out | apply IsS127.alloc | apply IsS127.drewN | apply IsS127.drew | apply IsS127.set_0 | apply IsS127.set_1 | apply IsS127.set_2 | apply IsS127.set_3) | exact HI0.out), by repeat (first | (with_reducible first | exact HB.out | apply bwa | apply pwN | apply bw1 | refine bws ?_ (IsS127.ge HI0.out)) | exact HB.out), by repeat (first | (with_reducible first | exact HK.out | apply KeepBut.set_ | apply keep_drewN | apply keep_drew | apply keep_alloc) | exact HK.out)⟩
def netlabref32_Reader_Word.l0 : Nat → Int → ByteArray → Int → Int → Int → Option (Int × ByteArray × ByteArray × Int × Int × Int)
 | 0, _, _, _, _, _ => none
 | k + 1, x4, x1000, x1001, x1002, x1003 => if x1001 < (x1000.size : Int) then (if 0 ≤ x1001 then ((netlabref32_white.f (bt x1000 x1001)).bind fun t111 => (if t111 = true then (if 0 ≤ x4 then (if x4 ≤ x1001 then (if x1001 ≤ (x1000.size : Int) then (some (x4, x1000.extract (x4 : Int).toNat (x1001 : Int).toNat, x1000, x1001, x1002, x1003)) else (none)) else (none)) else (none)) else (netlabref32_Reader_Word.l0 k x4 x1000 (wrap64 (x1001 + 1)) x1002 x1003))) else (none)) else (if 0 ≤ x4 then (if x4 ≤ x1001 then (if x1001 ≤ (x1000.size : Int) then (some (x4, x1000.extract (x4 : Int).toNat (x1001 : Int).toNat, x1000, x1001, x1002, x1003)) else (none)) else (none)) else (none))
def netlabref32_Reader_Word.f (k : Nat) (s0_0 : ByteArray) (s0_1 : Int) (s0_2 : Int) (s0_3 : Int) : Option (Int × ByteArray × ByteArray × Int × Int × Int) := if s0_2 = 0 then ((netlabref32_Reader_More.f k s0_0 s0_1 s0_2 s0_3).bind fun bt102 => (if bt102.1 = true then (netlabref32_Reader_Word.l0 k bt102.2.2.1 bt102.2.1 bt102.2.2.1 bt102.2.2.2.1 bt102.2.2.2.2) else ((netlabref32_Reader_Fail.f bt102.2.1 bt102.2.2.1 bt102.2.2.2.1 bt102.2.2.2.2 (bt102.2.1.size : Int) 4).bind fun bt107 => (some (0, (⟨#[]⟩ : ByteArray), bt107.1, bt107.2.1, bt107.2.2.1, bt107.2.2.2))))) else (some (0, (⟨#[]⟩ : ByteArray), s0_0, s0_1, s0_2, s0_3))
theorem netlabref32_Reader_Word.calls (k : Nat) (g : Nat) (s0_0 : ByteArray) (s0_1 : Int) (s0_2 : Int) (s0_3 : Int) (r1 : Int) (r2 : ByteArray) (r3 : ByteArray) (r4 : Int) (r5 : Int) (r6 : Int) (w0 w : World) (hI : IsS127 w0 w g s0_0 s0_1 s0_2 s0_3) (hB : Below w0.heap.size w0 w) (h : netlabref32_Reader_Word.f k s0_0 s0_1 s0_2 s0_3 = some (r1, r2, r3, r4, r5, r6)) :
  Calls Tryz.prog 74 #[.pointer (some ⟨g, 0, none⟩)] w fun e w' => e = .returned (.tuple #[.int .i64 r1, .string r2]) ∧ IsS127 w0 w' g r3 r4 r5 r6 ∧ Below w0.heap.size w0 w' ∧ KeepBut w w' g none := by
 have HI0 := Az.mk hI
 have HK := Az.mk (KeepBut.refl w g none)
 have HL := Az.mk hB.size
 clear hI
 have HW0 := Az.mk hB.size
 have HB := Az.mk hB
 clear hB
 have H : (if s0_2 = 0 then ((netlabref32_Reader_More.f k s0_0 s0_1 s0_2 s0_3).bind fun bt102 => (if bt102.1 = true then (netlabref32_Reader_Word.l0 k bt102.2.2.1 bt102.2.1 bt102.2.2.1 bt102.2.2.2.1 bt102.2.2.2.2) else ((netlabref32_Reader_Fail.f bt102.2.1 bt102.2.2.1 bt102.2.2.2.1 bt102.2.2.2.2 (bt102.2.1.size : Int) 4).bind fun bt107 => (some (0, (⟨#[]⟩ : ByteArray), bt107.1, bt107.2.1, bt107.2.2.1, bt107.2.2.2))))) else (some (0, (⟨#[]⟩ : ByteArray), s0_0, s0_1, s0_2, s0_3))) = some (r1, r2, r3, r4, r5, r6) := h
 clear h
 by_cases c2 : s0_2 = 0
 ·rw [if_pos c2] at H
  have c2b0 : (s0_2 == 0) = true := beq_iff_eq.mpr c2
  have c2b1 : (s0_2 != 0) = false := bne_eq_false_iff_eq.mpr c2
  clear c2
  replace H := Option.bind_eq_some_iff.mp H
  obtain ⟨⟨t102, t103, t104, t105, t106⟩, A30, H⟩ := H
  replace H : (if t102 = true then (netlabref32_Reader_Word.l0 k t104 t103 t104 t105 t106) else ((netlabref32_Reader_Fail.f t103 t104 t105 t106 (t103.size : Int) 4).bind fun bt107 => (some (0, (⟨#[]⟩ : ByteArray), bt107.1, bt107.2.1, bt107.2.2.1, bt107.2.2.2)))) = some (r1, r2, r3, r4, r5, r6) := H
  have A3 := Az.mk A30
  clear A30
  by_cases c4 : t102 = true
  ·subst c4
   have H1 : (netlabref32_Reader_Word.l0 k t104 t103 t104 t105 t106) = some (r1, r2, r3, r4, r5, r6) := by rw [if_pos rfl] at H; exact H
   clear H
   have H := H1
   clear H1
   have H' := Az.mk H
   clear H
   obtain ⟨HGz5, hgz5⟩ := HI0.out
   have hcz5_0 := cellS127_0 HGz5
   have hcz5_1 := cellS127_1 HGz5
   have hcz5_2 := cellS127_2 HGz5
   have hcz5_3 := cellS127_3 HGz5
   have hfz5_0 := bkf HGz5 0
   have hfz5_1 := bkf HGz5 1
   have hfz5_2 := bkf HGz5 2
   have hfz5_3 := bkf HGz5 3
   clear HGz5 hgz5
   go_enter Tryz.func74, Tryz.ntmps74
   go_wp2_with (first | (go_at_call 73; (with_reducible refine (netlabref32_Reader_More.calls k g s0_0 s0_1 s0_2 s0_3 true t103 t104 t105 t106 w0 _ ?side1 ?side2 A3.out).mono ?_); (case side1 => repeat (first | (with_reducible first | exact HI0.out | apply IsS127.alloc | apply IsS127.drewN | apply IsS127.drew | apply IsS127.set_0 | apply IsS127.set_1 | apply IsS127.set_2 | apply IsS127.set_3) | exact HI0.out)); (case side2 => repeat (first | (with_reducible first | exact HB.out | apply bwa | apply pwN | apply bw1 | refine bws ?_ (IsS127.ge HI0.out)) | exact HB.out)); rintro e w6 ⟨rfl, hi, hb, hk⟩; have n0_ := Az.mk (KeepBut.trans (by repeat (first | (with_reducible first | exact HK.out | apply KeepBut.set_ | apply keep_drewN | apply keep_drew | apply keep_alloc) | exact HK.out)) hk (.inl rfl)); have n1_ := Az.mk (hb); have n2_ := Az.mk (hi); clear HK; clear HB; clear HI0; have HK := n0_; have HB := n1_; have HI0 := n2_; clear n0_ n1_ n2_; (try clear hb); (try clear hb2); (try clear hk); (try clear hi); obtain ⟨HGz7, hgz7⟩ := HI0.out; have hcz7_0 := cellS127_0 HGz7; have hcz7_1 := cellS127_1 HGz7; have hcz7_2 := cellS127_2 HGz7; have hcz7_3 := cellS127_3 HGz7; have hfz7_0 := bkf HGz7 0; have hfz7_1 := bkf HGz7 1; have hfz7_2 := bkf HGz7 2; have hfz7_3 := bkf HGz7 3; clear HGz7 hgz7))
   repeat (go_quiet (first | (go_at_call 73; (with_reducible refine (netlabref32_Reader_More.calls k g s0_0 s0_1 s0_2 s0_3 true t103 t104 t105 t106 w0 _ ?side1 ?side2 A3.out).mono ?_); (case side1 => repeat (first | (with_reducible first | exact HI0.out | apply IsS127.alloc | apply IsS127.drewN | apply IsS127.drew | apply IsS127.set_0 | apply IsS127.set_1 | apply IsS127.set_2 | apply IsS127.set_3) | exact HI0.out)); (case side2 => repeat (first | (with_reducible first | exact HB.out | apply bwa | apply pwN | apply bw1 | refine bws ?_ (IsS127.ge HI0.out)) | exact HB.out)); rintro e w6 ⟨rfl, hi, hb, hk⟩; have n0_ := Az.mk (KeepBut.trans (by repeat (first | (with_reducible first | exact HK.out | apply KeepBut.set_ | apply keep_drewN | apply keep_drew | apply keep_alloc) | exact HK.out)) hk (.inl rfl)); have n1_ := Az.mk (hb); have n2_ := Az.mk (hi); clear HK; clear HB; clear HI0; have HK := n0_; have HB := n1_; have HI0 := n2_; clear n0_ n1_ n2_; (try clear hb); (try clear hb2); (try clear hk); (try clear hi); obtain ⟨HGz7, hgz7⟩ := HI0.out; have hcz7_0 := cellS127_0 HGz7; have hcz7_1 := cellS127_1 HGz7; have hcz7_2 := cellS127_2 HGz7; have hcz7_3 := cellS127_3 HGz7; have hfz7_0 := bkf HGz7 0; have hfz7_1 := bkf HGz7 1; have hfz7_2 := bkf HGz7 2; have hfz7_3 := bkf HGz7 3; clear HGz7 hgz7)); try go_wp2_with (first | (go_at_call 73; (with_reducible refine (netlabref32_Reader_More.calls k g s0_0 s0_1 s0_2 s0_3 true t103 t104 t105 t106 w0 _ ?side1 ?side2 A3.out).mono ?_); (case side1 => repeat (first | (with_reducible first | exact HI0.out | apply IsS127.alloc | apply IsS127.drewN | apply IsS127.drew | apply IsS127.set_0 | apply IsS127.set_1 | apply IsS127.set_2 | apply IsS127.set_3) | exact HI0.out)); (case side2 => repeat (first | (with_reducible first | exact HB.out | apply bwa | apply pwN | apply bw1 | refine bws ?_ (IsS127.ge HI0.out)) | exact HB.out)); rintro e w6 ⟨rfl, hi, hb, hk⟩; have n0_ := Az.mk (KeepBut.trans (by repeat (first | (with_reducible first | exact HK.out | apply KeepBut.set_ | apply keep_drewN | apply keep_drew | apply keep_alloc) | exact HK.out)) hk (.inl rfl)); have n1_ := Az.mk (hb); have n2_ := Az.mk (hi); clear HK; clear HB; clear HI0; have HK := n0_; have HB := n1_; have HI0 := n2_; clear n0_ n1_ n2_; (try clear hb); (try clear hb2); (try clear hk); (try clear hi); obtain ⟨HGz7, hgz7⟩ := HI0.out; have hcz7_0 := cellS127_0 HGz7; have hcz7_1 := cellS127_1 HGz7; have hcz7_2 := cellS127_2 HGz7; have hcz7_3 := cellS127_3 HGz7; have hfz7_0 := bkf HGz7 0; have hfz7_1 := bkf HGz7 1; have hfz7_2 := bkf HGz7 2; have hfz7_3 := bkf HGz7 3; clear HGz7 hgz7)))
   go_loopg [] k (fun kq w' => ∃ (x1001_1 : Int), Az (netlabref32_Reader_Word.l0 kq t104 t103 x1001_1 t105 t106 = some (r1, r2, r3, r4, r5, r6)) ∧ Az (kq ≤ k) ∧ Az (IsS127 w0 w' g t103 x1001_1 t105 t106) ∧ Az (KeepBut w w' g none) ∧ Az (Below w0.heap.size w0 w'))
   case atStart => exact ⟨(t104), H', ⟨Nat.le_refl _⟩, ⟨by repeat (first | (with_reducible first | exact HI0.out | apply IsS127.alloc | apply IsS127.drewN | apply IsS127.drew | apply IsS127.set_0 | apply IsS127.set_1 | apply IsS127.set_2 | apply IsS127.set_3) | exact HI0.out)⟩, ⟨by repeat (first | (with_reducible first | exact HK.out | apply KeepBut.set_ | apply keep_drewN | apply keep_drew | apply keep_alloc) | exact HK.out)⟩, ⟨by repeat (first | (with_reducible first | exact HB.out | apply bwa | apply pwN | apply bw1 | refine bws ?_ (IsS127.ge HI0.out)) | exact HB.out)⟩⟩
   case round =>
    clear H'
    try clear c2
    try clear c2b0
    try clear c2b1
    try clear p2
    try clear c4
    try clear c7
    try clear hcz5_0
    try clear hcz5_1
    try clear hcz5_2
    try clear hcz5_3
    try clear hcz7_0
    try clear hcz7_1
    try clear hcz7_2
    try clear hcz7_3
    try clear hfz5_0
    try clear hfz5_1
    try clear hfz5_2
    try clear hfz5_3
    try clear hfz7_0
    try clear hfz7_1
    try clear hfz7_2
    try clear hfz7_3
    obtain ⟨x1001_1, HA, HK1, HI0, HK, HB⟩ := hrel
    cases gk with
    | zero => exact absurd HA.out (by simp [netlabref32_Reader_Word.l0])
    | succ k1 =>
     have H := HA.out
     clear HA
     simp only [netlabref32_Reader_Word.l0] at H
     by_cases c8 : x1001_1 < (t103.size : Int)
     ·rw [if_pos c8] at H
      have c8b0 : decide (x1001_1 < (t103.size : Int)) = true := decide_eq_true c8
      clear c8
      by_cases c9 : 0 ≤ x1001_1
      ·rw [if_pos c9] at H
       have c9b0 : decide (0 ≤ x1001_1) = true := decide_eq_true c9
       clear c9
       replace H := Option.bind_eq_some_iff.mp H
       obtain ⟨t111, A110, H⟩ := H
       replace H : (if t111 = true then (if 0 ≤ t104 then (if t104 ≤ x1001_1 then (if x1001_1 ≤ (t103.size : Int) then (some (t104, t103.extract (t104 : Int).toNat (x1001_1 : Int).toNat, t103, x1001_1, t105, t106)) else (none)) else (none)) else (none)) else (netlabref32_Reader_Word.l0 k1 t104 t103 (wrap64 (x1001_1 + 1)) t105 t106)) = some (r1, r2, r3, r4, r5, r6) := H
       have A11 := Az.mk A110
       clear A110
       by_cases c12 : t111 = true
       ·subst c12
        have H1 : (if 0 ≤ t104 then (if t104 ≤ x1001_1 then (if x1001_1 ≤ (t103.size : Int) then (some (t104, t103.extract (t104 : Int).toNat (x1001_1 : Int).toNat, t103, x1001_1, t105, t106)) else (none)) else (none)) else (none)) = some (r1, r2, r3, r4, r5, r6) := by rw [if_pos rfl] at H; exact H
        clear H
        have H := H1
        clear H1
        by_cases c13 : 0 ≤ t104
        ·rw [if_pos c13] at H
         have c13b0 := eq_true c13
         have c13b1 : decide (0 ≤ t104) = true := decide_eq_true c13
         clear c13
         by_cases c14 : t104 ≤ x1001_1
         ·rw [if_pos c14] at H
          have c14b0 := eq_true c14
          have c14b1 : decide (t104 ≤ x1001_1) = true := decide_eq_true c14
          clear c14
          by_cases c15 : x1001_1 ≤ (t103.size : Int)
          ·rw [if_pos c15] at H
           have c15b0 := eq_true c15
           have c15b1 : decide (x1001_1 ≤ (t103.size : Int)) = true := decide_eq_true c15
           clear c15
           simp only [Option.some.injEq, Prod.mk.injEq] at H
           obtain ⟨rfl, rfl, rfl, rfl, rfl, rfl⟩ := H
           obtain ⟨HGz16, hgz16⟩ := HI0.out
           have hcz16_0 := cellS127_0 HGz16
           have hcz16_1 := cellS127_1 HGz16
           have hcz16_2 := cellS127_2 HGz16
           have hcz16_3 := cellS127_3 HGz16
           have hfz16_0 := bkf HGz16 0
           have hfz16_1 := bkf HGz16 1
           have hfz16_2 := bkf HGz16 2
           have hfz16_3 := bkf HGz16 3
           clear HGz16 hgz16
           have p10 : 0 ≤ (x1001_1 : Int) := of_decide_eq_true (by assumption)
           have q10 : x1001_1 < (t103.size : Int) := of_decide_eq_true (by assumption)
           have hx10 := bt_at t103 x1001_1
           replace p10 := eq_true p10
           replace q10 := eq_true q10
           go_wp2_with (first | (go_at_call 106; (with_reducible refine (netlabref32_white.calls (bt t103 x1001_1) true _ A11.out).mono ?_); rintro e w' ⟨rfl, ⟨nd, rfl⟩⟩; (try first | exact ⟨rfl, _, World.drewN_drewN _ _ _⟩ | exact ⟨rfl, _, Eq.trans (World.drewN_drewN _ _ _) (congrArg (World.drewN _) (Nat.add_assoc _ _ _))⟩)))
           repeat (go_quiet (first | (go_at_call 106; (with_reducible refine (netlabref32_white.calls (bt t103 x1001_1) true _ A11.out).mono ?_); rintro e w' ⟨rfl, ⟨nd, rfl⟩⟩; (try first | exact ⟨rfl, _, World.drewN_drewN _ _ _⟩ | exact ⟨rfl, _, Eq.trans (World.drewN_drewN _ _ _) (congrArg (World.drewN _) (Nat.add_assoc _ _ _))⟩))); try go_wp2_with (first | (go_at_call 106; (with_reducible refine (netlabref32_white.calls (bt t103 x1001_1) true _ A11.out).mono ?_); rintro e w' ⟨rfl, ⟨nd, rfl⟩⟩; (try first | exact ⟨rfl, _, World.drewN_drewN _ _ _⟩ | exact ⟨rfl, _, Eq.trans (World.drewN_drewN _ _ _) (congrArg (World.drewN _) (Nat.add_assoc _ _ _))⟩))))
           go_ret2
           exact ⟨by first | rfl | (simp [errW_none, errW_some] <;> rfl) | (simp [*, errW_none, errW_some] <;> rfl), by repeat (first | (with_reducible first | exact HI0.out | apply IsS127.alloc | apply IsS127.drewN | apply IsS127.drew | apply IsS127.set_0 | apply IsS127.set_1 | apply IsS127.set_2 | apply IsS127.set_3) | exact HI0.out), by repeat (first | (with_reducible first | exact HB.out | apply bwa | apply pwN | apply bw1 | refine bws ?_ (IsS127.ge HI0.out)) | exact HB.out), by repeat (first | (with_reducible first | exact HK.out | apply KeepBut.set_ | apply keep_drewN | apply keep_drew | apply keep_alloc) | exact HK.out)⟩
          ·rw [if_neg c15] at H
           exact absurd H (by simp)
         ·rw [if_neg c14] at H
          exact absurd H (by simp)
        ·rw [if_neg c13] at H
         exact absurd H (by simp)
       ·replace c12 := Bool.eq_false_iff.mpr c12
        subst c12
        have H1 : (netlabref32_Reader_Word.l0 k1 t104 t103 (wrap64 (x1001_1 + 1)) t105 t106) = some (r1, r2, r3, r4, r5, r6) := by rw [if_neg (show ¬ (false = true) by decide)] at H; exact H
        clear H
        have H := H1
        clear H1
        have H' := Az.mk H
        clear H
        obtain ⟨HGz17, hgz17⟩ := HI0.out
        have hcz17_0 := cellS127_0 HGz17
        have hcz17_1 := cellS127_1 HGz17
        have hcz17_2 := cellS127_2 HGz17
        have hcz17_3 := cellS127_3 HGz17
        have hfz17_0 := bkf HGz17 0
        have hfz17_1 := bkf HGz17 1
        have hfz17_2 := bkf HGz17 2
        have hfz17_3 := bkf HGz17 3
        clear HGz17 hgz17
        have p10 : 0 ≤ (x1001_1 : Int) := of_decide_eq_true (by assumption)
        have q10 : x1001_1 < (t103.size : Int) := of_decide_eq_true (by assumption)
        have hx10 := bt_at t103 x1001_1
        replace p10 := eq_true p10
        replace q10 := eq_true q10
        go_wp2_with (first | (go_at_call 106; (with_reducible refine (netlabref32_white.calls (bt t103 x1001_1) false _ A11.out).mono ?_); rintro e w' ⟨rfl, ⟨nd, rfl⟩⟩; (try first | exact ⟨rfl, _, World.drewN_drewN _ _ _⟩ | exact ⟨rfl, _, Eq.trans (World.drewN_drewN _ _ _) (congrArg (World.drewN _) (Nat.add_assoc _ _ _))⟩)))
        repeat (go_quiet (first | (go_at_call 106; (with_reducible refine (netlabref32_white.calls (bt t103 x1001_1) false _ A11.out).mono ?_); rintro e w' ⟨rfl, ⟨nd, rfl⟩⟩; (try first | exact ⟨rfl, _, World.drewN_drewN _ _ _⟩ | exact ⟨rfl, _, Eq.trans (World.drewN_drewN _ _ _) (congrArg (World.drewN _) (Nat.add_assoc _ _ _))⟩))); try go_wp2_with (first | (go_at_call 106; (with_reducible refine (netlabref32_white.calls (bt t103 x1001_1) false _ A11.out).mono ?_); rintro e w' ⟨rfl, ⟨nd, rfl⟩⟩; (try first | exact ⟨rfl, _, World.drewN_drewN _ _ _⟩ | exact ⟨rfl, _, Eq.trans (World.drewN_drewN _ _ _) (congrArg (World.drewN _) (Nat.add_assoc _ _ _))⟩))))
        go_roundg k1
        case measure => have := HK1.out; omega
        case rel => exact ⟨(wrap64 (x1001_1 + 1)), H', ⟨by have := HK1.out; omega⟩, ⟨by repeat (first | (with_reducible first | exact HI0.out | apply IsS127.alloc | apply IsS127.drewN | apply IsS127.drew | apply IsS127.set_0 | apply IsS127.set_1 | apply IsS127.set_2 | apply IsS127.set_3) | exact HI0.out)⟩, ⟨by repeat (first | (with_reducible first | exact HK.out | apply KeepBut.set_ | apply keep_drewN | apply keep_drew | apply keep_alloc) | exact HK.out)⟩, ⟨by repeat (first | (with_reducible first | exact HB.out | apply bwa | apply pwN | apply bw1 | refine bws ?_ (IsS127.ge HI0.out)) | exact HB.out)⟩⟩
      ·rw [if_neg c9] at H
       exact absurd H (by simp)
     ·rw [if_neg c8] at H
      have c8b0 : decide (x1001_1 < (t103.size : Int)) = false := decide_eq_false c8
      clear c8
      by_cases c18 : 0 ≤ t104
      ·rw [if_pos c18] at H
       have c18b0 := eq_true c18
       have c18b1 : decide (0 ≤ t104) = true := decide_eq_true c18
       clear c18
       by_cases c19 : t104 ≤ x1001_1
       ·rw [if_pos c19] at H
        have c19b0 := eq_true c19
        have c19b1 : decide (t104 ≤ x1001_1) = true := decide_eq_true c19
        clear c19
        by_cases c20 : x1001_1 ≤ (t103.size : Int)
        ·rw [if_pos c20] at H
         have c20b0 := eq_true c20
         have c20b1 : decide (x1001_1 ≤ (t103.size : Int)) = true := decide_eq_true c20
         clear c20
         simp only [Option.some.injEq, Prod.mk.injEq] at H
         obtain ⟨rfl, rfl, rfl, rfl, rfl, rfl⟩ := H
         obtain ⟨HGz21, hgz21⟩ := HI0.out
         have hcz21_0 := cellS127_0 HGz21
         have hcz21_1 := cellS127_1 HGz21
         have hcz21_2 := cellS127_2 HGz21
         have hcz21_3 := cellS127_3 HGz21
         have hfz21_0 := bkf HGz21 0
         have hfz21_1 := bkf HGz21 1
         have hfz21_2 := bkf HGz21 2
         have hfz21_3 := bkf HGz21 3
         clear HGz21 hgz21
         go_wp2
         repeat (go_quiet (fail); try go_wp2)
         go_ret2
         exact ⟨by first | rfl | (simp [errW_none, errW_some] <;> rfl) | (simp [*, errW_none, errW_some] <;> rfl), by repeat (first | (with_reducible first | exact HI0.out | apply IsS127.alloc | apply IsS127.drewN | apply IsS127.drew | apply IsS127.set_0 | apply IsS127.set_1 | apply IsS127.set_2 | apply IsS127.set_3) | exact HI0.out), by repeat (first | (with_reducible first | exact HB.out | apply bwa | apply pwN | apply bw1 | refine bws ?_ (IsS127.ge HI0.out)) | exact HB.out), by repeat (first | (with_reducible first | exact HK.out | apply KeepBut.set_ | apply keep_drewN | apply keep_drew | apply keep_alloc) | exact HK.out)⟩
        ·rw [if_neg c20] at H
         exact absurd H (by simp)
       ·rw [if_neg c19] at H
        exact absurd H (by simp)
      ·rw [if_neg c18] at H
       exact absurd H (by simp)
  ·replace c4 := Bool.eq_false_iff.mpr c4
   subst c4
   have H1 : ((netlabref32_Reader_Fail.f t103 t104 t105 t106 (t103.size : Int) 4).bind fun bt107 => (some (0, (⟨#[]⟩ : ByteArray), bt107.1, bt107.2.1, bt107.2.2.1, bt107.2.2.2))) = some (r1, r2, r3, r4, r5, r6) := by rw [if_neg (show ¬ (false = true) by decide)] at H; exact H
   clear H
   have H := H1
   clear H1
   replace H := Option.bind_eq_some_iff.mp H
   obtain ⟨⟨t107, t108, t109, t110⟩, A220, H⟩ := H
   replace H : (some (0, (⟨#[]⟩ : ByteArray), t107, t108, t109, t110)) = some (r1, r2, r3, r4, r5, r6) := H
   have A22 := Az.mk A220
   clear A220
   simp only [Option.some.injEq, Prod.mk.injEq] at H
   obtain ⟨rfl, rfl, rfl, rfl, rfl, rfl⟩ := H
   obtain ⟨HGz23, hgz23⟩ := HI0.out
   have hcz23_0 := cellS127_0 HGz23
   have hcz23_1 := cellS127_1 HGz23
   have hcz23_2 := cellS127_2 HGz23
   have hcz23_3 := cellS127_3 HGz23
   have hfz23_0 := bkf HGz23 0
   have hfz23_1 := bkf HGz23 1
   have hfz23_2 := bkf HGz23 2
   have hfz23_3 := bkf HGz23 3
   clear HGz23 hgz23
   go_enter Tryz.func74, Tryz.ntmps74
   go_wp2_with (first | (go_at_call 73; (with_reducible refine (netlabref32_Reader_More.calls k g s0_0 s0_1 s0_2 s0_3 false t103 t104 t105 t106 w0 _ ?side1 ?side2 A3.out).mono ?_); (case side1 => repeat (first | (with_reducible first | exact HI0.out | apply IsS127.alloc | apply IsS127.drewN | apply IsS127.drew | apply IsS127.set_0 | apply IsS127.set_1 | apply IsS127.set_2 | apply IsS127.set_3) | exact HI0.out)); (case side2 => repeat (first | (with_reducible first | exact HB.out | apply bwa | apply pwN | apply bw1 | refine bws ?_ (IsS127.ge HI0.out)) | exact HB.out)); rintro e w24 ⟨rfl, hi, hb, hk⟩; have n0_ := Az.mk (KeepBut.trans (by repeat (first | (with_reducible first | exact HK.out | apply KeepBut.set_ | apply keep_drewN | apply keep_drew | apply keep_alloc) | exact HK.out)) hk (.inl rfl)); have n1_ := Az.mk (hb); have n2_ := Az.mk (hi); clear HK; clear HB; clear HI0; have HK := n0_; have HB := n1_; have HI0 := n2_; clear n0_ n1_ n2_; (try clear hb); (try clear hb2); (try clear hk); (try clear hi); obtain ⟨HGz25, hgz25⟩ := HI0.out; have hcz25_0 := cellS127_0 HGz25; have hcz25_1 := cellS127_1 HGz25; have hcz25_2 := cellS127_2 HGz25; have hcz25_3 := cellS127_3 HGz25; have hfz25_0 := bkf HGz25 0; have hfz25_1 := bkf HGz25 1; have hfz25_2 := bkf HGz25 2; have hfz25_3 := bkf HGz25 3; clear HGz25 hgz25) | (go_at_call 76; (with_reducible refine (netlabref32_Reader_Fail.calls g t103 t104 t105 t106 (t103.size : Int) 4 t107 t108 t109 t110 w0 _ ?side1 ?side2 A22.out).mono ?_); (case side1 => repeat (first | (with_reducible first | exact HI0.out | apply IsS127.alloc | apply IsS127.drewN | apply IsS127.drew | apply IsS127.set_0 | apply IsS127.set_1 | apply IsS127.set_2 | apply IsS127.set_3) | exact HI0.out)); (case side2 => repeat (first | (with_reducible first | exact HB.out | apply bwa | apply pwN | apply bw1 | refine bws ?_ (IsS127.ge HI0.out)) | exact HB.out)); rintro e w26 ⟨rfl, hi, hb, hk⟩; have n0_ := Az.mk (KeepBut.trans (by repeat (first | (with_reducible first | exact HK.out | apply KeepBut.set_ | apply keep_drewN | apply keep_drew | apply keep_alloc) | exact HK.out)) hk (.inl rfl)); have n1_ := Az.mk (hb); have n2_ := Az.mk (hi); clear HK; clear HB; clear HI0; have HK := n0_; have HB := n1_; have HI0 := n2_; clear n0_ n1_ n2_; (try clear hb); (try clear hb2); (try clear hk); (try clear hi)))
   repeat (go_quiet (first | (go_at_call 73; (with_reducible refine (netlabref32_Reader_More.calls k g s0_0 s0_1 s0_2 s0_3 false t103 t104 t105 t106 w0 _ ?side1 ?side2 A3.out).mono ?_); (case side1 => repeat (first | (with_reducible first | exact HI0.out | apply IsS127.alloc | apply IsS127.drewN | apply IsS127.drew | apply IsS127.set_0 | apply IsS127.set_1 | apply IsS127.set_2 | apply IsS127.set_3) | exact HI0.out)); (case side2 => repeat (first | (with_reducible first | exact HB.out | apply bwa | apply pwN | apply bw1 | refine bws ?_ (IsS127.ge HI0.out)) | exact HB.out)); rintro e w24 ⟨rfl, hi, hb, hk⟩; have n0_ := Az.mk (KeepBut.trans (by repeat (first | (with_reducible first | exact HK.out | apply KeepBut.set_ | apply keep_drewN | apply keep_drew | apply keep_alloc) | exact HK.out)) hk (.inl rfl)); have n1_ := Az.mk (hb); have n2_ := Az.mk (hi); clear HK; clear HB; clear HI0; have HK := n0_; have HB := n1_; have HI0 := n2_; clear n0_ n1_ n2_; (try clear hb); (try clear hb2); (try clear hk); (try clear hi); obtain ⟨HGz25, hgz25⟩ := HI0.out; have hcz25_0 := cellS127_0 HGz25; have hcz25_1 := cellS127_1 HGz25; have hcz25_2 := cellS127_2 HGz25; have hcz25_3 := cellS127_3 HGz25; have hfz25_0 := bkf HGz25 0; have hfz25_1 := bkf HGz25 1; have hfz25_2 := bkf HGz25 2; have hfz25_3 := bkf HGz25 3; clear HGz25 hgz25) | (go_at_call 76; (with_reducible refine (netlabref32_Reader_Fail.calls g t103 t104 t105 t106 (t103.size : Int) 4 t107 t108 t109 t110 w0 _ ?side1 ?side2 A22.out).mono ?_); (case side1 => repeat (first | (with_reducible first | exact HI0.out | apply IsS127.alloc | apply IsS127.drewN | apply IsS127.drew | apply IsS127.set_0 | apply IsS127.set_1 | apply IsS127.set_2 | apply IsS127.set_3) | exact HI0.out)); (case side2 => repeat (first | (with_reducible first | exact HB.out | apply bwa | apply pwN | apply bw1 | refine bws ?_ (IsS127.ge HI0.out)) | exact HB.out)); rintro e w26 ⟨rfl, hi, hb, hk⟩; have n0_ := Az.mk (KeepBut.trans (by repeat (first | (with_reducible first | exact HK.out | apply KeepBut.set_ | apply keep_drewN | apply keep_drew | apply keep_alloc) | exact HK.out)) hk (.inl rfl)); have n1_ := Az.mk (hb); have n2_ := Az.mk (hi); clear HK; clear HB; clear HI0; have HK := n0_; have HB := n1_; have HI0 := n2_; clear n0_ n1_ n2_; (try clear hb); (try clear hb2); (try clear hk); (try clear hi))); try go_wp2_with (first | (go_at_call 73; (with_reducible refine (netlabref32_Reader_More.calls k g s0_0 s0_1 s0_2 s0_3 false t103 t104 t105 t106 w0 _ ?side1 ?side2 A3.out).mono ?_); (case side1 => repeat (first | (with_reducible first | exact HI0.out | apply IsS127.alloc | apply IsS127.drewN | apply IsS127.drew | apply IsS127.set_0 | apply IsS127.set_1 | apply IsS127.set_2 | apply IsS127.set_3) | exact HI0.out)); (case side2 => repeat (first | (with_reducible first | exact HB.out | apply bwa | apply pwN | apply bw1 | refine bws ?_ (IsS127.ge HI0.out)) | exact HB.out)); rintro e w24 ⟨rfl, hi, hb, hk⟩; have n0_ := Az.mk (KeepBut.trans (by repeat (first | (with_reducible first | exact HK.out | apply KeepBut.set_ | apply keep_drewN | apply keep_drew | apply keep_alloc) | exact HK.out)) hk (.inl rfl)); have n1_ := Az.mk (hb); have n2_ := Az.mk (hi); clear HK; clear HB; clear HI0; have HK := n0_; have HB := n1_; have HI0 := n2_; clear n0_ n1_ n2_; (try clear hb); (try clear hb2); (try clear hk); (try clear hi); obtain ⟨HGz25, hgz25⟩ := HI0.out; have hcz25_0 := cellS127_0 HGz25; have hcz25_1 := cellS127_1 HGz25; have hcz25_2 := cellS127_2 HGz25; have hcz25_3 := cellS127_3 HGz25; have hfz25_0 := bkf HGz25 0; have hfz25_1 := bkf HGz25 1; have hfz25_2 := bkf HGz25 2; have hfz25_3 := bkf HGz25 3; clear HGz25 hgz25) | (go_at_call 76; (with_reducible refine (netlabref32_Reader_Fail.calls g t103 t104 t105 t106 (t103.size : Int) 4 t107 t108 t109 t110 w0 _ ?side1 ?side2 A22.out).mono ?_); (case side1 => repeat (first | (with_reducible first | exact HI0.out | apply IsS127.alloc | apply IsS127.drewN | apply IsS127.drew | apply IsS127.set_0 | apply IsS127.set_1 | apply IsS127.set_2 | apply IsS127.set_3) | exact HI0.out)); (case side2 => repeat (first | (with_reducible first | exact HB.out | apply bwa | apply pwN | apply bw1 | refine bws ?_ (IsS127.ge HI0.out)) | exact HB.out)); rintro e w26 ⟨rfl, hi, hb, hk⟩; have n0_ := Az.mk (KeepBut.trans (by repeat (first | (with_reducible first | exact HK.out | apply KeepBut.set_ | apply keep_drewN | apply keep_drew | apply keep_alloc) | exact HK.out)) hk (.inl rfl)); have n1_ := Az.mk (hb); have n2_ := Az.mk (hi); clear HK; clear HB; clear HI0; have HK := n0_; have HB := n1_; have HI0 := n2_; clear n0_ n1_ n2_; (try clear hb); (try clear hb2); (try clear hk); (try clear hi))))
   go_ret2
   exact ⟨by first | rfl | (simp [errW_none, errW_some] <;> rfl) | (simp [*, errW_none, errW_some] <;> rfl), by repeat (first | (with_reducible first | exact HI0.out | apply IsS127.alloc | apply IsS127.drewN | apply IsS127.drew | apply IsS127.set_0 | apply IsS127.set_1 | apply IsS127.set_2 | apply IsS127.set_3) | exact HI0.out), by repeat (first | (with_reducible first | exact HB.out | apply bwa | apply pwN | apply bw1 | refine bws ?_ (IsS127.ge HI0.out)) | exact HB.out), by repeat (first | (with_reducible first | exact HK.out | apply KeepBut.set_ | apply keep_drewN | apply keep_drew | apply keep_alloc) | exact HK.out)⟩
 ·rw [if_neg c2] at H
  have c2b0 : (s0_2 == 0) = false := beq_eq_false_iff_ne.mpr c2
  have c2b1 : (s0_2 != 0) = true := bne_iff_ne.mpr c2
  simp only [Option.some.injEq, Prod.mk.injEq] at H
  obtain ⟨rfl, rfl, rfl, rfl, rfl, rfl⟩ := H
  obtain ⟨HGz27, hgz27⟩ := HI0.out
  have hcz27_0 := cellS127_0 HGz27
  have hcz27_1 := cellS127_1 HGz27
  have hcz27_2 := cellS127_2 HGz27
  have hcz27_3 := cellS127_3 HGz27
  have hfz27_0 := bkf HGz27 0
  have hfz27_1 := bkf HGz27 1
  have hfz27_2 := bkf HGz27 2
  have hfz27_3 := bkf HGz27 3
  clear HGz27 hgz27
  go_enter Tryz.func74, Tryz.ntmps74
  go_wp2
  repeat (go_quiet (fail); try go_wp2)
  go_ret2
  exact ⟨by first | rfl | (simp [errW_none, errW_some] <;> rfl) | (simp [*, errW_none, errW_some] <;> rfl), by repeat (first | (with_reducible first | exact HI0.out | apply IsS127.alloc | apply IsS127.drewN | apply IsS127.drew | apply IsS127.set_0 | apply IsS127.set_1 | apply IsS127.set_2 | apply IsS127.set_3) | exact HI0.out), by repeat (first | (with_reducible first | exact HB.out | apply bwa | apply pwN | apply bw1 | refine bws ?_ (IsS127.ge HI0.out)) | exact HB.out), by repeat (first | (with_reducible first | exact HK.out | apply KeepBut.set_ | apply keep_drewN | apply keep_drew | apply keep_alloc) | exact HK.out)⟩
def netlabref32_Value.l0 : Nat → ByteArray → Int → Int → Option (Int × Bool)
 | 0, _, _, _ => none
 | k + 1, x0, x4, x5 => if x5 < (x0.size : Int) then (if 0 ≤ x5 then (if (bt x0 x5) < 48 then (some (0, false)) else (if (bt x0 x5) > 57 then (some (0, false)) else (if x5 > 8 then (some (0, false)) else (netlabref32_Value.l0 k x0 (wrap64 ((wrap64 (10 * x4)) + (((bt x0 x5) - 48) % 256))) (wrap64 (x5 + 1)))))) else (none)) else (some (x4, decide ((x0.size : Int) > 0)))
def netlabref32_Value.f (k : Nat) (a0 : ByteArray) : Option (Int × Bool) := netlabref32_Value.l0 k a0 0 0
theorem netlabref32_Value.calls (k : Nat) (a0 : ByteArray) (r1 : Int) (r2 : Bool) (w : World) (h : netlabref32_Value.f k a0 = some (r1, r2)) :
  Calls Tryz.prog 75 #[.string a0] w fun e w' => e = .returned (.tuple #[.int .i64 r1, .bool r2]) ∧ Drawn0 w w' := by
 have H : (netlabref32_Value.l0 k a0 0 0) = some (r1, r2) := h
 clear h
 have H' := Az.mk H
 clear H
 go_enter Tryz.func75, Tryz.ntmps75
 go_wp2
 go_loopg [4, 5] k (fun kq v4 v5 w' => ∃ (x4_1 : Int) (x5_1 : Int), v4 = .int .i64 x4_1 ∧ v5 = .int .i64 x5_1 ∧ Az (netlabref32_Value.l0 kq a0 x4_1 x5_1 = some (r1, r2)) ∧ Az (kq ≤ k) ∧ Drawn0 w w')
 case atStart => exact ⟨(0), (0), (by first | rfl | (simp; done) | (simp [*]; done)), (by first | rfl | (simp; done) | (simp [*]; done)), H', ⟨Nat.le_refl _⟩, by repeat (first | exact Drawn0.refl _ | apply Drawn0.step)⟩
 case round =>
  clear H'
  obtain ⟨x4_1, x5_1, rfl, rfl, HA, HK1, ⟨m1, rfl⟩⟩ := hrel
  cases gk with
  | zero => exact absurd HA.out (by simp [netlabref32_Value.l0])
  | succ k1 =>
   have H := HA.out
   clear HA
   simp only [netlabref32_Value.l0] at H
   by_cases c2 : x5_1 < (a0.size : Int)
   ·rw [if_pos c2] at H
    have c2b0 : decide (x5_1 < (a0.size : Int)) = true := decide_eq_true c2
    clear c2
    by_cases c3 : 0 ≤ x5_1
    ·rw [if_pos c3] at H
     have c3b0 : decide (0 ≤ x5_1) = true := decide_eq_true c3
     clear c3
     by_cases c5 : (bt a0 x5_1) < 48
     ·rw [if_pos c5] at H
      have c5b0 : decide ((bt a0 x5_1) < 48) = true := decide_eq_true c5
      clear c5
      simp only [Option.some.injEq, Prod.mk.injEq] at H
      obtain ⟨rfl, rfl⟩ := H
      have p4 : 0 ≤ (x5_1 : Int) := of_decide_eq_true (by assumption)
      have q4 : x5_1 < (a0.size : Int) := of_decide_eq_true (by assumption)
      have hx4 := bt_at a0 x5_1
      replace p4 := eq_true p4
      replace q4 := eq_true q4
      go_wp2
      go_ret2
      exact ⟨by first | rfl | (simp; done) | (simp [*]; done), by repeat (first | exact Drawn0.refl _ | apply Drawn0.step)⟩
     ·rw [if_neg c5] at H
      have c5b0 : decide ((bt a0 x5_1) < 48) = false := decide_eq_false c5
      clear c5
      by_cases c7 : (bt a0 x5_1) > 57
      ·rw [if_pos c7] at H
       have c7b0 : decide (57 < (bt a0 x5_1)) = true := decide_eq_true c7
       clear c7
       simp only [Option.some.injEq, Prod.mk.injEq] at H
       obtain ⟨rfl, rfl⟩ := H
       have p4 : 0 ≤ (x5_1 : Int) := of_decide_eq_true (by assumption)
       have q4 : x5_1 < (a0.size : Int) := of_decide_eq_true (by assumption)
       have hx4 := bt_at a0 x5_1
       replace p4 := eq_true p4
       replace q4 := eq_true q4
       have p6 : 0 ≤ (x5_1 : Int) := of_decide_eq_true (by assumption)
       have q6 : x5_1 < (a0.size : Int) := of_decide_eq_true (by assumption)
       have hx6 := bt_at a0 x5_1
       replace p6 := eq_true p6
       replace q6 := eq_true q6
       go_wp2
       go_ret2
       exact ⟨by first | rfl | (simp; done) | (simp [*]; done), by repeat (first | exact Drawn0.refl _ | apply Drawn0.step)⟩
      ·rw [if_neg c7] at H
       have c7b0 : decide (57 < (bt a0 x5_1)) = false := decide_eq_false c7
       clear c7
       by_cases c8 : x5_1 > 8
       ·rw [if_pos c8] at H
        have c8b0 : decide (8 < x5_1) = true := decide_eq_true c8
        clear c8
        simp only [Option.some.injEq, Prod.mk.injEq] at H
        obtain ⟨rfl, rfl⟩ := H
        have p4 : 0 ≤ (x5_1 : Int) := of_decide_eq_true (by assumption)
        have q4 : x5_1 < (a0.size : Int) := of_decide_eq_true (by assumption)
        have hx4 := bt_at a0 x5_1
        replace p4 := eq_true p4
        replace q4 := eq_true q4
        have p6 : 0 ≤ (x5_1 : Int) := of_decide_eq_true (by assumption)
        have q6 : x5_1 < (a0.size : Int) := of_decide_eq_true (by assumption)
        have hx6 := bt_at a0 x5_1
        replace p6 := eq_true p6
        replace q6 := eq_true q6
        go_wp2
        go_ret2
        exact ⟨by first | rfl | (simp; done) | (simp [*]; done), by repeat (first | exact Drawn0.refl _ | apply Drawn0.step)⟩
       ·rw [if_neg c8] at H
        have c8b0 : decide (8 < x5_1) = false := decide_eq_false c8
        clear c8
        have H' := Az.mk H
        clear H
        have p4 : 0 ≤ (x5_1 : Int) := of_decide_eq_true (by assumption)
        have q4 : x5_1 < (a0.size : Int) := of_decide_eq_true (by assumption)
        have hx4 := bt_at a0 x5_1
        replace p4 := eq_true p4
        replace q4 := eq_true q4
        have p6 : 0 ≤ (x5_1 : Int) := of_decide_eq_true (by assumption)
        have q6 : x5_1 < (a0.size : Int) := of_decide_eq_true (by assumption)
        have hx6 := bt_at a0 x5_1
        replace p6 := eq_true p6
        replace q6 := eq_true q6
        have p9 : 0 ≤ (x5_1 : Int) := of_decide_eq_true (by assumption)
        have q9 : x5_1 < (a0.size : Int) := of_decide_eq_true (by assumption)
        have hx9 := bt_at a0 x5_1
        replace p9 := eq_true p9
        replace q9 := eq_true q9
        go_wp2
        go_roundg k1
        case measure => have := HK1.out; omega
        case rel => exact ⟨(wrap64 ((wrap64 (10 * x4_1)) + (((bt a0 x5_1) - 48) % 256))), (wrap64 (x5_1 + 1)), (by first | rfl | (simp; done) | (simp [*]; done)), (by first | rfl | (simp; done) | (simp [*]; done)), H', ⟨by have := HK1.out; omega⟩, by repeat (first | exact Drawn0.refl _ | apply Drawn0.step)⟩
    ·rw [if_neg c3] at H
     exact absurd H (by simp)
   ·rw [if_neg c2] at H
    have c2b0 : decide (x5_1 < (a0.size : Int)) = false := decide_eq_false c2
    clear c2
    simp only [Option.some.injEq, Prod.mk.injEq] at H
    obtain ⟨rfl, rfl⟩ := H
    go_wp2
    go_ret2
    exact ⟨by first | rfl | (simp; done) | (simp [*]; done), by repeat (first | exact Drawn0.refl _ | apply Drawn0.step)⟩
end Go.Proofs.YtogicccdngpafaaGreatDoor.PRPar
end
section
set_option maxHeartbeats 8000000
set_option maxRecDepth 100000
namespace Go.Proofs.YtogicccdngpafaaGreatDoor.PRPar
open Go.RowKit QW.PrintWords QW.PrintLast QW.PrintMore
attribute [local go_sem] max2_int min2_int max_two min_two max_three min_three max_four min_four   
mutual
def netlabref32_Reader_Literal.j0 : Nat → Int → ByteArray → Int → Bool → ByteArray → Int → Int → Int → Option (Int × ByteArray × Int × Int × Int)
 | 0, _, _, _, _, _, _, _, _ => none
 | k + 1, x3, x4, x5, x20, x1000, x1001, x1002, x1003 => if x20 = true then (if 1 ≤ (x4.size : Int) then (netlabref32_Reader_Literal.j1 k x3 (x4.extract 1 x4.size) (-1) x1000 x1001 x1002 x1003) else (none)) else (netlabref32_Reader_Literal.j1 k x3 x4 x5 x1000 x1001 x1002 x1003)
def netlabref32_Reader_Literal.j1 : Nat → Int → ByteArray → Int → ByteArray → Int → Int → Int → Option (Int × ByteArray × Int × Int × Int)
 | 0, _, _, _, _, _, _, _ => none
 | k + 1, x3, x4, x5, x1000, x1001, x1002, x1003 => (netlabref32_Value.f k x4).bind fun bt118 => (if bt118.2 = true then (some (wrap64 (x5 * bt118.1), x1000, x1001, x1002, x1003)) else ((netlabref32_Reader_Fail.f x1000 x1001 x1002 x1003 x3 3).bind fun bt120 => (some (0, bt120.1, bt120.2.1, bt120.2.2.1, bt120.2.2.2))))
end
def netlabref32_Reader_Literal.f (k : Nat) (s0_0 : ByteArray) (s0_1 : Int) (s0_2 : Int) (s0_3 : Int) : Option (Int × ByteArray × Int × Int × Int) := (netlabref32_Reader_Word.f k s0_0 s0_1 s0_2 s0_3).bind fun bt112 => (if (bt112.2.1.size : Int) > 0 then (if 0 < (bt112.2.1.size : Int) then (netlabref32_Reader_Literal.j0 k bt112.1 bt112.2.1 1 ((bt bt112.2.1 0) == 45) bt112.2.2.1 bt112.2.2.2.1 bt112.2.2.2.2.1 bt112.2.2.2.2.2) else (none)) else (netlabref32_Reader_Literal.j0 k bt112.1 bt112.2.1 1 false bt112.2.2.1 bt112.2.2.2.1 bt112.2.2.2.2.1 bt112.2.2.2.2.2))
theorem netlabref32_Reader_Literal.calls (k : Nat) (g : Nat) (s0_0 : ByteArray) (s0_1 : Int) (s0_2 : Int) (s0_3 : Int) (r1 : Int) (r2 : ByteArray) (r3 : Int) (r4 : Int) (r5 : Int) (w0 w : World) (hI : IsS127 w0 w g s0_0 s0_1 s0_2 s0_3) (hB : Below w0.heap.size w0 w) (h : netlabref32_Reader_Literal.f k s0_0 s0_1 s0_2 s0_3 = some (r1, r2, r3, r4, r5)) :
  Calls Tryz.prog 107 #[.pointer (some ⟨g, 0, none⟩)] w fun e w' => e = .returned (.int .i64 r1) ∧ IsS127 w0 w' g r2 r3 r4 r5 ∧ Below w0.heap.size w0 w' ∧ KeepBut w w' g none := by
 have HI0 := Az.mk hI
 have HK := Az.mk (KeepBut.refl w g none)
 have HL := Az.mk hB.size
 clear hI
 have HW0 := Az.mk hB.size
 have HB := Az.mk hB
 clear hB
 have H : ((netlabref32_Reader_Word.f k s0_0 s0_1 s0_2 s0_3).bind fun bt112 => (if (bt112.2.1.size : Int) > 0 then (if 0 < (bt112.2.1.size : Int) then (netlabref32_Reader_Literal.j0 k bt112.1 bt112.2.1 1 ((bt bt112.2.1 0) == 45) bt112.2.2.1 bt112.2.2.2.1 bt112.2.2.2.2.1 bt112.2.2.2.2.2) else (none)) else (netlabref32_Reader_Literal.j0 k bt112.1 bt112.2.1 1 false bt112.2.2.1 bt112.2.2.2.1 bt112.2.2.2.2.1 bt112.2.2.2.2.2))) = some (r1, r2, r3, r4, r5) := h
 clear h
 replace H := Option.bind_eq_some_iff.mp H
 obtain ⟨⟨t112, t113, t114, t115, t116, t117⟩, A20, H⟩ := H
 replace H : (if (t113.size : Int) > 0 then (if 0 < (t113.size : Int) then (netlabref32_Reader_Literal.j0 k t112 t113 1 ((bt t113 0) == 45) t114 t115 t116 t117) else (none)) else (netlabref32_Reader_Literal.j0 k t112 t113 1 false t114 t115 t116 t117)) = some (r1, r2, r3, r4, r5) := H
 have A2 := Az.mk A20
 clear A20
 have HC3 := Az.mk H
 clear H
 go_enter Tryz.func107, Tryz.ntmps107
 go_upto_region 3 with (first | ((with_reducible refine gate_callee (f := 74) rfl ?_); refine goesL_ (some 10) rfl rfl Tryz.func74 (by kernel_rfl) rfl #[.pointer (some ⟨g, 0, none⟩)] rfl (by (try simp only [List.map_toArray, List.map_cons, List.map_nil]); first | done | rfl | (simp only [List.length_drop, List.length_take]; rfl)) ?_; (with_reducible refine (netlabref32_Reader_Word.calls k g s0_0 s0_1 s0_2 s0_3 t112 t113 t114 t115 t116 t117 w0 _ ?side1 ?side2 A2.out).mono ?_); (case side1 => repeat (first | (with_reducible first | exact HI0.out | apply IsS127.alloc | apply IsS127.drewN | apply IsS127.drew | apply IsS127.set_0 | apply IsS127.set_1 | apply IsS127.set_2 | apply IsS127.set_3) | exact HI0.out)); (case side2 => repeat (first | (with_reducible first | exact HB.out | apply bwa | apply pwN | apply bw1 | refine bws ?_ (IsS127.ge HI0.out)) | exact HB.out)); rintro e w4 ⟨rfl, hi, hb, hk⟩; refine ⟨_, rfl, ?_⟩; have n0_ := Az.mk (KeepBut.trans (by repeat (first | (with_reducible first | exact HK.out | apply KeepBut.set_ | apply keep_drewN | apply keep_drew | apply keep_alloc) | exact HK.out)) hk (.inl rfl)); have n1_ := Az.mk (hb); have n2_ := Az.mk (hi); clear HK; clear HB; clear HI0; have HK := n0_; have HB := n1_; have HI0 := n2_; clear n0_ n1_ n2_; (try clear hb); (try clear hb2); (try clear hk); (try clear hi)))
 (try simp only [Act.put, zq1, zq2, zq3])
 go_cut [20] (fun v20 wc => ∃ (kq : Nat) (x20_2 : Bool), v20 = .bool x20_2 ∧ Az (netlabref32_Reader_Literal.j0 kq t112 t113 1 x20_2 t114 t115 t116 t117 = some (r1, r2, r3, r4, r5)) ∧ Az (kq ≤ k) ∧ Az (IsS127 w0 wc g t114 t115 t116 t117) ∧ Az (KeepBut w wc g none) ∧ Az (Below w0.heap.size w0 wc))
 case first =>
  have H := HC3.out
  clear HC3
  by_cases c5 : (t113.size : Int) > 0
  ·rw [if_pos c5] at H
   have c5b0 : decide (0 < (t113.size : Int)) = true := decide_eq_true c5
   have c5b1 : decide (0 < t113.size) = true := decide_eq_true (by omega)
   clear c5
   (first | rw [c5b0] | (simp only [iw, jw]; rw [c5b0]) | skip)
   by_cases c6 : 0 < (t113.size : Int)
   ·rw [if_pos c6] at H
    have c6b0 : decide (0 < (t113.size : Int)) = true := decide_eq_true c6
    have c6b1 : decide (0 < t113.size) = true := decide_eq_true (by omega)
    clear c6
    have H' := Az.mk H
    clear H
    have p7 : 0 ≤ (0 : Int) := (by omega)
    have q7 : 0 < t113.size := (by have : (0 : Int) < (t113.size : Int) := of_decide_eq_true (by assumption); omega)
    have hx7 : ∀ h : 0 < t113.size, ((t113[0]'h).toNat : Int) = bt t113 0 := bt_at t113 0
    clear p7
    have qi7 : (0 < (t113.size : Int)) = True := eq_true (of_decide_eq_true (by assumption))
    replace q7 := eq_true q7
    go_wp2
    go_meet
    case rel => exact ⟨_, (((bt t113 0) == 45)), (by first | rfl | (simp; done) | (simp [*]; done)), H', ⟨by first | omega | exact Nat.le_refl _⟩, ⟨by repeat (first | (with_reducible first | exact HI0.out | apply IsS127.alloc | apply IsS127.drewN | apply IsS127.drew | apply IsS127.set_0 | apply IsS127.set_1 | apply IsS127.set_2 | apply IsS127.set_3) | exact HI0.out)⟩, ⟨by repeat (first | (with_reducible first | exact HK.out | apply KeepBut.set_ | apply keep_drewN | apply keep_drew | apply keep_alloc) | exact HK.out)⟩, ⟨by repeat (first | (with_reducible first | exact HB.out | apply bwa | apply pwN | apply bw1 | refine bws ?_ (IsS127.ge HI0.out)) | exact HB.out)⟩⟩
   ·rw [if_neg c6] at H
    exact absurd H (by simp)
  ·rw [if_neg c5] at H
   have c5b0 : decide (0 < (t113.size : Int)) = false := decide_eq_false c5
   have c5b1 : decide (0 < t113.size) = false := decide_eq_false (by omega)
   clear c5
   (first | rw [c5b0] | (simp only [iw, jw]; rw [c5b0]) | skip)
   have H' := Az.mk H
   clear H
   go_wp2
   go_meet
   case rel => exact ⟨_, (false), (by first | rfl | (simp; done) | (simp [*]; done)), H', ⟨by first | omega | exact Nat.le_refl _⟩, ⟨by repeat (first | (with_reducible first | exact HI0.out | apply IsS127.alloc | apply IsS127.drewN | apply IsS127.drew | apply IsS127.set_0 | apply IsS127.set_1 | apply IsS127.set_2 | apply IsS127.set_3) | exact HI0.out)⟩, ⟨by repeat (first | (with_reducible first | exact HK.out | apply KeepBut.set_ | apply keep_drewN | apply keep_drew | apply keep_alloc) | exact HK.out)⟩, ⟨by repeat (first | (with_reducible first | exact HB.out | apply bwa | apply pwN | apply bw1 | refine bws ?_ (IsS127.ge HI0.out)) | exact HB.out)⟩⟩
 case rest =>
  clear HC3
  try clear c1
  try clear p2
  try clear c5
  try clear c5b0
  try clear c5b1
  try clear c6
  try clear c6b0
  try clear c6b1
  try clear c7
  try clear p7
  try clear q7
  try clear hx7
  try clear qi7
  try clear p7
  try clear q7
  obtain ⟨kq, x20_2, rfl, HA, HJ2, HI0, HK, HB⟩ := hcut
  cases kq with
  | zero => exact absurd HA.out (by simp [netlabref32_Reader_Literal.j0])
  | succ kj2 =>
   have H := HA.out
   clear HA
   simp only [netlabref32_Reader_Literal.j0] at H
   have HC8 := Az.mk H
   clear H
   go_upto_if 20 with (fail)
   go_cut [4, 5] (fun v4 v5 wc => ∃ (kq : Nat) (x4_7 : ByteArray) (x5_7 : Int), v4 = .string x4_7 ∧ v5 = .int .i64 x5_7 ∧ Az (netlabref32_Reader_Literal.j1 kq t112 x4_7 x5_7 t114 t115 t116 t117 = some (r1, r2, r3, r4, r5)) ∧ Az (kq ≤ kj2) ∧ Az (IsS127 w0 wc g t114 t115 t116 t117) ∧ Az (KeepBut w wc g none) ∧ Az (Below w0.heap.size w0 wc))
   case first =>
    have H := HC8.out
    clear HC8
    by_cases c9 : x20_2 = true
    ·subst c9
     have H1 : (if 1 ≤ (t113.size : Int) then (netlabref32_Reader_Literal.j1 kj2 t112 (t113.extract 1 t113.size) (-1) t114 t115 t116 t117) else (none)) = some (r1, r2, r3, r4, r5) := by rw [if_pos rfl] at H; exact H
     clear H
     have H := H1
     clear H1
     by_cases c10 : 1 ≤ (t113.size : Int)
     ·rw [if_pos c10] at H
      have c10b0 := eq_true c10
      have c10b1 : decide (1 ≤ (t113.size : Int)) = true := decide_eq_true c10
      clear c10
      have H' := Az.mk H
      clear H
      go_wp2
      go_meet
      case rel => exact ⟨_, (t113.extract 1 t113.size), ((-1)), (by first | rfl | (simp; done) | (simp [*]; done)), (by first | rfl | (simp; done) | (simp [*]; done)), H', ⟨by have := HJ2.out; first | omega | exact Nat.le_refl _⟩, ⟨by repeat (first | (with_reducible first | exact HI0.out | apply IsS127.alloc | apply IsS127.drewN | apply IsS127.drew | apply IsS127.set_0 | apply IsS127.set_1 | apply IsS127.set_2 | apply IsS127.set_3) | exact HI0.out)⟩, ⟨by repeat (first | (with_reducible first | exact HK.out | apply KeepBut.set_ | apply keep_drewN | apply keep_drew | apply keep_alloc) | exact HK.out)⟩, ⟨by repeat (first | (with_reducible first | exact HB.out | apply bwa | apply pwN | apply bw1 | refine bws ?_ (IsS127.ge HI0.out)) | exact HB.out)⟩⟩
     ·rw [if_neg c10] at H
      exact absurd H (by simp)
    ·replace c9 := Bool.eq_false_iff.mpr c9
     subst c9
     have H1 : (netlabref32_Reader_Literal.j1 kj2 t112 t113 1 t114 t115 t116 t117) = some (r1, r2, r3, r4, r5) := by rw [if_neg (show ¬ (false = true) by decide)] at H; exact H
     clear H
     have H := H1
     clear H1
     have H' := Az.mk H
     clear H
     go_wp2
     go_meet
     case rel => exact ⟨_, (t113), (1), (by first | rfl | (simp; done) | (simp [*]; done)), (by first | rfl | (simp; done) | (simp [*]; done)), H', ⟨by have := HJ2.out; first | omega | exact Nat.le_refl _⟩, ⟨by repeat (first | (with_reducible first | exact HI0.out | apply IsS127.alloc | apply IsS127.drewN | apply IsS127.drew | apply IsS127.set_0 | apply IsS127.set_1 | apply IsS127.set_2 | apply IsS127.set_3) | exact HI0.out)⟩, ⟨by repeat (first | (with_reducible first | exact HK.out | apply KeepBut.set_ | apply keep_drewN | apply keep_drew | apply keep_alloc) | exact HK.out)⟩, ⟨by repeat (first | (with_reducible first | exact HB.out | apply bwa | apply pwN | apply bw1 | refine bws ?_ (IsS127.ge HI0.out)) | exact HB.out)⟩⟩
   case rest =>
    clear HC8
    try clear c1
    try clear p2
    try clear c5
    try clear c5b0
    try clear c5b1
    try clear c6
    try clear c6b0
    try clear c6b1
    try clear c7
    try clear p7
    try clear q7
    try clear hx7
    try clear qi7
    try clear c9
    try clear c10
    try clear c10b0
    try clear c10b1
    try clear p2
    try clear p7
    try clear q7
    obtain ⟨kq, x4_7, x5_7, rfl, rfl, HA, HJ7, HI0, HK, HB⟩ := hcut
    cases kq with
    | zero => exact absurd HA.out (by simp [netlabref32_Reader_Literal.j1])
    | succ kj7 =>
     have H := HA.out
     clear HA
     simp only [netlabref32_Reader_Literal.j1] at H
     replace H := Option.bind_eq_some_iff.mp H
     obtain ⟨⟨t118, t119⟩, A110, H⟩ := H
     replace H : (if t119 = true then (some (wrap64 (x5_7 * t118), t114, t115, t116, t117)) else ((netlabref32_Reader_Fail.f t114 t115 t116 t117 t112 3).bind fun bt120 => (some (0, bt120.1, bt120.2.1, bt120.2.2.1, bt120.2.2.2)))) = some (r1, r2, r3, r4, r5) := H
     have A11 := Az.mk A110
     clear A110
     by_cases c12 : t119 = true
     ·subst c12
      have H1 : (some (wrap64 (x5_7 * t118), t114, t115, t116, t117)) = some (r1, r2, r3, r4, r5) := by rw [if_pos rfl] at H; exact H
      clear H
      have H := H1
      clear H1
      simp only [Option.some.injEq, Prod.mk.injEq] at H
      obtain ⟨rfl, rfl, rfl, rfl, rfl⟩ := H
      go_wp2_with (first | ((with_reducible refine gate_callee (f := 75) rfl ?_); refine goesL_ (some 25) rfl rfl Tryz.func75 (by kernel_rfl) rfl #[.string x4_7] rfl (by (try simp only [List.map_toArray, List.map_cons, List.map_nil]); first | done | rfl | (simp only [List.length_drop, List.length_take]; rfl)) ?_; (with_reducible refine (netlabref32_Value.calls kj7 x4_7 t118 true _ A11.out).mono ?_); rintro e w' ⟨rfl, ⟨nd, rfl⟩⟩; refine ⟨_, rfl, ?_⟩))
      go_ret
      exact ⟨by first | rfl | (simp [errW_none, errW_some] <;> rfl) | (simp [*, errW_none, errW_some] <;> rfl), by repeat (first | (with_reducible first | exact HI0.out | apply IsS127.alloc | apply IsS127.drewN | apply IsS127.drew | apply IsS127.set_0 | apply IsS127.set_1 | apply IsS127.set_2 | apply IsS127.set_3) | exact HI0.out), by repeat (first | (with_reducible first | exact HB.out | apply bwa | apply pwN | apply bw1 | refine bws ?_ (IsS127.ge HI0.out)) | exact HB.out), by repeat (first | (with_reducible first | exact HK.out | apply KeepBut.set_ | apply keep_drewN | apply keep_drew | apply keep_alloc) | exact HK.out)⟩
     ·replace c12 := Bool.eq_false_iff.mpr c12
      subst c12
      have H1 : ((netlabref32_Reader_Fail.f t114 t115 t116 t117 t112 3).bind fun bt120 => (some (0, bt120.1, bt120.2.1, bt120.2.2.1, bt120.2.2.2))) = some (r1, r2, r3, r4, r5) := by rw [if_neg (show ¬ (false = true) by decide)] at H; exact H
      clear H
      have H := H1
      clear H1
      replace H := Option.bind_eq_some_iff.mp H
      obtain ⟨⟨t120, t121, t122, t123⟩, A130, H⟩ := H
      replace H : (some (0, t120, t121, t122, t123)) = some (r1, r2, r3, r4, r5) := H
      have A13 := Az.mk A130
      clear A130
      simp only [Option.some.injEq, Prod.mk.injEq] at H
      obtain ⟨rfl, rfl, rfl, rfl, rfl⟩ := H
      go_wp2_with (first | ((with_reducible refine gate_callee (f := 75) rfl ?_); refine goesL_ (some 25) rfl rfl Tryz.func75 (by kernel_rfl) rfl #[.string x4_7] rfl (by (try simp only [List.map_toArray, List.map_cons, List.map_nil]); first | done | rfl | (simp only [List.length_drop, List.length_take]; rfl)) ?_; (with_reducible refine (netlabref32_Value.calls kj7 x4_7 t118 false _ A11.out).mono ?_); rintro e w' ⟨rfl, ⟨nd, rfl⟩⟩; refine ⟨_, rfl, ?_⟩) | ((with_reducible refine gate_callee (f := 76) rfl ?_); refine goesL_ (some 32) rfl rfl Tryz.func76 (by kernel_rfl) rfl #[.pointer (some ⟨g, 0, none⟩), .int .i64 t112, .int .i64 3] rfl (by (try simp only [List.map_toArray, List.map_cons, List.map_nil]); first | done | rfl | (simp only [List.length_drop, List.length_take]; rfl)) ?_; (with_reducible refine (netlabref32_Reader_Fail.calls g t114 t115 t116 t117 t112 3 t120 t121 t122 t123 w0 _ ?side1 ?side2 A13.out).mono ?_); (case side1 => repeat (first | (with_reducible first | exact HI0.out | apply IsS127.alloc | apply IsS127.drewN | apply IsS127.drew | apply IsS127.set_0 | apply IsS127.set_1 | apply IsS127.set_2 | apply IsS127.set_3) | exact HI0.out)); (case side2 => repeat (first | (with_reducible first | exact HB.out | apply bwa | apply pwN | apply bw1 | refine bws ?_ (IsS127.ge HI0.out)) | exact HB.out)); rintro e w14 ⟨rfl, hi, hb, hk⟩; refine ⟨_, rfl, ?_⟩; have n0_ := Az.mk (KeepBut.trans (by repeat (first | (with_reducible first | exact HK.out | apply KeepBut.set_ | apply keep_drewN | apply keep_drew | apply keep_alloc) | exact HK.out)) hk (.inl rfl)); have n1_ := Az.mk (hb); have n2_ := Az.mk (hi); clear HK; clear HB; clear HI0; have HK := n0_; have HB := n1_; have HI0 := n2_; clear n0_ n1_ n2_; (try clear hb); (try clear hb2); (try clear hk); (try clear hi)))
      go_ret
      exact ⟨by first | rfl | (simp [errW_none, errW_some] <;> rfl) | (simp [*, errW_none, errW_some] <;> rfl), by repeat (first | (with_reducible first | exact HI0.out | apply IsS127.alloc | apply IsS127.drewN | apply IsS127.drew | apply IsS127.set_0 | apply IsS127.set_1 | apply IsS127.set_2 | apply IsS127.set_3) | exact HI0.out), by repeat (first | (with_reducible first | exact HB.out | apply bwa | apply pwN | apply bw1 | refine bws ?_ (IsS127.ge HI0.out)) | exact HB.out), by repeat (first | (with_reducible first | exact HK.out | apply KeepBut.set_ | apply keep_drewN | apply keep_drew | apply keep_alloc) | exact HK.out)⟩
def netlabref33_literals.l0 : Nat → List Int → Int → ByteArray → Int → Int → Int → Option (List Int × ByteArray × Int × Int × Int)
 | 0, _, _, _, _, _, _ => none
 | k + 1, x3, x4, x1000, x1001, x1002, x1003 => if x4 = 0 then (some (x3, x1000, x1001, x1002, x1003)) else (if x3.length < 17592186044416 then ((netlabref32_Reader_Literal.f k x1000 x1001 x1002 x1003).bind fun bt132 => (netlabref33_literals.l0 k (x3 ++ [x4]) bt132.1 bt132.2.1 bt132.2.2.1 bt132.2.2.2.1 bt132.2.2.2.2)) else (none))
def netlabref33_literals.f (k : Nat) (s0_0 : ByteArray) (s0_1 : Int) (s0_2 : Int) (s0_3 : Int) : Option (List Int × ByteArray × Int × Int × Int) := (netlabref32_Reader_Literal.f k s0_0 s0_1 s0_2 s0_3).bind fun bt124 => (netlabref33_literals.l0 k ([] : List Int) bt124.1 bt124.2.1 bt124.2.2.1 bt124.2.2.2.1 bt124.2.2.2.2)
theorem netlabref33_literals.calls (k : Nat) (g : Nat) (s0_0 : ByteArray) (s0_1 : Int) (s0_2 : Int) (s0_3 : Int) (r1 : List Int) (r2 : ByteArray) (r3 : Int) (r4 : Int) (r5 : Int) (w0 w : World) (hI : IsS127 w0 w g s0_0 s0_1 s0_2 s0_3) (hB : Below w0.heap.size w0 w) (h : netlabref33_literals.f k s0_0 s0_1 s0_2 s0_3 = some (r1, r2, r3, r4, r5)) :
  Calls Tryz.prog 77 #[.pointer (some ⟨g, 0, none⟩)] w fun e w' => ∃ v0_ : Value, e = .returned (v0_) ∧ Kd.R (Kd.int .i64) 3 w' w.heap.size (fun _ => True) v0_ r1 ∧ IsS127 w0 w' g r2 r3 r4 r5 ∧ Below w0.heap.size w0 w' ∧ KeepBut w w' g none := by
 have HI0 := Az.mk hI
 have HK := Az.mk (KeepBut.refl w g none)
 have HL := Az.mk hB.size
 clear hI
 have HW0 := Az.mk hB.size
 have HB := Az.mk hB
 clear hB
 have H : ((netlabref32_Reader_Literal.f k s0_0 s0_1 s0_2 s0_3).bind fun bt124 => (netlabref33_literals.l0 k ([] : List Int) bt124.1 bt124.2.1 bt124.2.2.1 bt124.2.2.2.1 bt124.2.2.2.2)) = some (r1, r2, r3, r4, r5) := h
 clear h
 replace H := Option.bind_eq_some_iff.mp H
 obtain ⟨⟨t124, t125, t126, t127, t128⟩, A20, H⟩ := H
 replace H : (netlabref33_literals.l0 k ([] : List Int) t124 t125 t126 t127 t128) = some (r1, r2, r3, r4, r5) := H
 have A2 := Az.mk A20
 clear A20
 have H' := Az.mk H
 clear H
 go_enter Tryz.func77, Tryz.ntmps77
 go_wp2_with (first | ((with_reducible refine gate_callee (f := 107) rfl ?_); refine goesL_ (some 6) rfl rfl Tryz.func107 (by kernel_rfl) rfl #[.pointer (some ⟨g, 0, none⟩)] rfl (by (try simp only [List.map_toArray, List.map_cons, List.map_nil]); first | done | rfl | (simp only [List.length_drop, List.length_take]; rfl)) ?_; (with_reducible refine (netlabref32_Reader_Literal.calls k g s0_0 s0_1 s0_2 s0_3 t124 t125 t126 t127 t128 w0 _ ?side1 ?side2 A2.out).mono ?_); (case side1 => repeat (first | (with_reducible first | exact HI0.out | apply IsS127.alloc | apply IsS127.drewN | apply IsS127.drew | apply IsS127.set_0 | apply IsS127.set_1 | apply IsS127.set_2 | apply IsS127.set_3) | exact HI0.out)); (case side2 => repeat (first | (with_reducible first | exact HB.out | apply bwa | apply pwN | apply bw1 | refine bws ?_ (IsS127.ge HI0.out)) | exact HB.out)); rintro e w3 ⟨rfl, hi, hb, hk⟩; refine ⟨_, rfl, ?_⟩; have n0_ := Az.mk (KeepBut.trans (by repeat (first | (with_reducible first | exact HK.out | apply KeepBut.set_ | apply keep_drewN | apply keep_drew | apply keep_alloc) | exact HK.out)) hk (.inl rfl)); have n1_ := Az.mk (hb); have n2_ := Az.mk (hi); clear HK; clear HB; clear HI0; have HK := n0_; have HB := n1_; have HI0 := n2_; clear n0_ n1_ n2_; (try clear hb); (try clear hb2); (try clear hk); (try clear hi)))
 go_loopg [3, 4] k (fun kq v3 v4 w' => ∃ (x3_1 : List Int) (x4_1 : Int) (x1000_1 : ByteArray) (x1001_1 : Int) (x1002_1 : Int) (x1003_1 : Int), v4 = .int .i64 x4_1 ∧ Az (netlabref33_literals.l0 kq x3_1 x4_1 x1000_1 x1001_1 x1002_1 x1003_1 = some (r1, r2, r3, r4, r5)) ∧ Az (kq ≤ k) ∧ Az (Kd.R (Kd.int .i64) 3 w' w.heap.size (fun _ => True) v3 x3_1) ∧ Az (IsS127 w0 w' g x1000_1 x1001_1 x1002_1 x1003_1) ∧ Az (KeepBut w w' g none) ∧ Az (Below w0.heap.size w0 w'))
 case atStart => exact ⟨(([] : List Int)), (t124), (t125), (t126), (t127), (t128), (by first | rfl | (simp; done) | (simp [*]; done)), H', ⟨Nat.le_refl _⟩, ⟨by first | exact Kd.R_nil _ _ _ _ _ | exact Kd.N_nil _ _ _ _ _ | exact Kd.V_nil _ _ _ _ _ | exact Kd.Q_nil _ _ _ _ _ | exact Kd.S_nil _ _ _ _ _⟩, ⟨by repeat (first | (with_reducible first | exact HI0.out | apply IsS127.alloc | apply IsS127.drewN | apply IsS127.drew | apply IsS127.set_0 | apply IsS127.set_1 | apply IsS127.set_2 | apply IsS127.set_3) | exact HI0.out)⟩, ⟨by repeat (first | (with_reducible first | exact HK.out | apply KeepBut.set_ | apply keep_drewN | apply keep_drew | apply keep_alloc) | exact HK.out)⟩, ⟨by repeat (first | (with_reducible first | exact HB.out | apply bwa | apply pwN | apply bw1 | refine bws ?_ (IsS127.ge HI0.out)) | exact HB.out)⟩⟩
 case round =>
  clear H'
  try clear c1
  try clear p2
  obtain ⟨x3_1, x4_1, x1000_1, x1001_1, x1002_1, x1003_1, rfl, HA, HK1, HO_3, HI0, HK, HB⟩ := hrel
  cases gk with
  | zero => exact absurd HA.out (by simp [netlabref33_literals.l0])
  | succ k1 =>
   have H := HA.out
   clear HA
   simp only [netlabref33_literals.l0] at H
   by_cases c4 : x4_1 = 0
   ·rw [if_pos c4] at H
    have c4b0 : (x4_1 == 0) = true := beq_iff_eq.mpr c4
    have c4b1 : (x4_1 != 0) = false := bne_eq_false_iff_eq.mpr c4
    clear c4
    simp only [Option.some.injEq, Prod.mk.injEq] at H
    obtain ⟨rfl, rfl, rfl, rfl, rfl⟩ := H
    go_wp2
    go_ret
    exact ⟨_, by first | rfl | (simp [errW_none, errW_some] <;> rfl) | (simp [*, errW_none, errW_some] <;> rfl), by (with_reducible repeat (first | apply Kd.R_alloc | apply Kd.R_drewN | apply Kd.R_drew)); exact HO_3.out, by repeat (first | (with_reducible first | exact HI0.out | apply IsS127.alloc | apply IsS127.drewN | apply IsS127.drew | apply IsS127.set_0 | apply IsS127.set_1 | apply IsS127.set_2 | apply IsS127.set_3) | exact HI0.out), by repeat (first | (with_reducible first | exact HB.out | apply bwa | apply pwN | apply bw1 | refine bws ?_ (IsS127.ge HI0.out)) | exact HB.out), by repeat (first | (with_reducible first | exact HK.out | apply KeepBut.set_ | apply keep_drewN | apply keep_drew | apply keep_alloc) | exact HK.out)⟩
   ·rw [if_neg c4] at H
    have c4b0 : (x4_1 == 0) = false := beq_eq_false_iff_ne.mpr c4
    have c4b1 : (x4_1 != 0) = true := bne_iff_ne.mpr c4
    by_cases c5 : x3_1.length < 17592186044416
    ·rw [if_pos c5] at H
     have LMc5 := Az.mk c5
     clear c5
     obtain ⟨y129, hy129⟩ : ∃ y_ : List Int, y_ = (x3_1 ++ [x4_1]) := ⟨_, rfl⟩
     replace H : ((netlabref32_Reader_Literal.f k1 x1000_1 x1001_1 x1002_1 x1003_1).bind fun bt132 => (netlabref33_literals.l0 k1 y129 bt132.1 bt132.2.1 bt132.2.2.1 bt132.2.2.2.1 bt132.2.2.2.2)) = some (r1, r2, r3, r4, r5) := by first | (rw [hy129]; with_reducible exact H) | (have H2_ := (Option.bind_some _ _).symm.trans H; rw [hy129]; with_reducible exact H2_) | (have H2_ := (Option.bind_some _ _).symm.trans H; with_reducible exact H2_) | with_reducible exact H | (rw [hy129]; exact H) | exact H
     have Ny129 := Az.mk hy129
     clear hy129
     replace H := Option.bind_eq_some_iff.mp H
     obtain ⟨⟨t132, t133, t134, t135, t136⟩, A60, H⟩ := H
     replace H : (netlabref33_literals.l0 k1 y129 t132 t133 t134 t135 t136) = some (r1, r2, r3, r4, r5) := H
     have A6 := Az.mk A60
     clear A60
     have H' := Az.mk H
     clear H
     go_wp2_with (first | ((with_reducible refine gate_builtin (b := .append) (xs := #[.tmp 11, .tmp 13]) rfl ?_); at_builtin; refine Kd.R_append (Kd.int .i64) w.heap.size rfl (.tmp 11) (.tmp 13) 31 3 (.int .i64 0) 8 rfl Tryz.underlying31 info3 rfl (by decide) (by omega) u3 x3_1 x4_1 [.int .i64 x4_1] (fun _ => True) (fun _ => False) rfl rfl ?aP (fun _ hk => hk.elim) ?aF ?aO (Below.refl _ _) ?aS ?aL ?_; (case aP => exact rfl); (case aF => exact (fun _ _ => trivial)); (case aO => exact (by (with_reducible repeat (first | apply Kd.R_alloc | apply Kd.R_drewN | apply Kd.R_drew)); exact HO_3.out)); (case aS => exact (keep_size (w := w) (g := g) (row := none) (by repeat (first | (with_reducible first | exact HK.out | apply KeepBut.set_ | apply keep_drewN | apply keep_drew | apply keep_alloc) | exact HK.out)))); (case aL => have := LMc5.out; omega); intro v130 w7 ho hb hg hat; rw [← Ny129.out] at ho; have n0_ := Az.mk (IsS127.grown (by repeat (first | (with_reducible first | exact HI0.out | apply IsS127.alloc | apply IsS127.drewN | apply IsS127.drew | apply IsS127.set_0 | apply IsS127.set_1 | apply IsS127.set_2 | apply IsS127.set_3) | exact HI0.out)) hg (IsS127.own_ne HI0.out HO_3.out (by decide))); have n1_ := Az.mk (below_weaken (by repeat (first | (with_reducible first | exact HB.out | apply bwa | apply pwN | apply bw1 | refine bws ?_ (IsS127.ge HI0.out)) | exact HB.out)) HL.out hb); have n2_ := Az.mk (KeepBut.trans (by repeat (first | (with_reducible first | exact HK.out | apply KeepBut.set_ | apply keep_drewN | apply keep_drew | apply keep_alloc) | exact HK.out)) (KeepBut.of_grown hg g) (Kd.R_base2 HO_3.out)); have n3_ := Az.mk (ho); clear HI0; clear HB; clear HK; clear HO_3; have HI0 := n0_; have HB := n1_; have HK := n2_; have HO131 := n3_; clear n0_ n1_ n2_ n3_; clear ho hb hg hat) | ((with_reducible refine gate_callee (f := 107) rfl ?_); refine goesL_ (some 10) rfl rfl Tryz.func107 (by kernel_rfl) rfl #[.pointer (some ⟨g, 0, none⟩)] rfl (by (try simp only [List.map_toArray, List.map_cons, List.map_nil]); first | done | rfl | (simp only [List.length_drop, List.length_take]; rfl)) ?_; (with_reducible refine (netlabref32_Reader_Literal.calls k1 g x1000_1 x1001_1 x1002_1 x1003_1 t132 t133 t134 t135 t136 w0 _ ?side1 ?side2 A6.out).mono ?_); (case side1 => repeat (first | (with_reducible first | exact HI0.out | apply IsS127.alloc | apply IsS127.drewN | apply IsS127.drew | apply IsS127.set_0 | apply IsS127.set_1 | apply IsS127.set_2 | apply IsS127.set_3) | exact HI0.out)); (case side2 => repeat (first | (with_reducible first | exact HB.out | apply bwa | apply pwN | apply bw1 | refine bws ?_ (IsS127.ge HI0.out)) | exact HB.out)); rintro e w8 ⟨rfl, hi, hb, hk⟩; refine ⟨_, rfl, ?_⟩; have n0_ := Az.mk (Kd.R_mono (Kd.R_keep (IsS127.apart (show IsS127 w0 _ g x1000_1 x1001_1 x1002_1 x1003_1 from by repeat (first | (with_reducible first | exact HI0.out | apply IsS127.alloc | apply IsS127.drewN | apply IsS127.drew | apply IsS127.set_0 | apply IsS127.set_1 | apply IsS127.set_2 | apply IsS127.set_3) | exact HI0.out)) (by (with_reducible repeat (first | apply Kd.R_alloc | apply Kd.R_drewN | apply Kd.R_drew)); exact HO131.out) (by decide)) hk (fun _ h => h.2)) (fun _ h => h.1)); have n1_ := Az.mk (KeepBut.trans (by repeat (first | (with_reducible first | exact HK.out | apply KeepBut.set_ | apply keep_drewN | apply keep_drew | apply keep_alloc) | exact HK.out)) hk (.inl rfl)); have n2_ := Az.mk (hb); have n3_ := Az.mk (hi); clear HO131; clear HK; clear HB; clear HI0; have HO131 := n0_; have HK := n1_; have HB := n2_; have HI0 := n3_; clear n0_ n1_ n2_ n3_; (try clear hb); (try clear hb2); (try clear hk); (try clear hi)))
     go_roundg k1
     case measure => have := HK1.out; omega
     case rel => exact ⟨(y129), (t132), (t133), (t134), (t135), (t136), (by first | rfl | (simp; done) | (simp [*]; done)), H', ⟨by have := HK1.out; omega⟩, ⟨by (with_reducible repeat (first | apply Kd.R_alloc | apply Kd.R_drewN | apply Kd.R_drew)); exact HO131.out⟩, ⟨by repeat (first | (with_reducible first | exact HI0.out | apply IsS127.alloc | apply IsS127.drewN | apply IsS127.drew | apply IsS127.set_0 | apply IsS127.set_1 | apply IsS127.set_2 | apply IsS127.set_3) | exact HI0.out)⟩, ⟨by repeat (first | (with_reducible first | exact HK.out | apply KeepBut.set_ | apply keep_drewN | apply keep_drew | apply keep_alloc) | exact HK.out)⟩, ⟨by repeat (first | (with_reducible first | exact HB.out | apply bwa | apply pwN | apply bw1 | refine bws ?_ (IsS127.ge HI0.out)) | exact HB.out)⟩⟩
    ·rw [if_neg c5] at H
     exact absurd H (by simp)
end Go.Proofs.YtogicccdngpafaaGreatDoor.PRPar
end
section
set_option maxRecDepth 100000
namespace Go.Proofs.YtogicccdngpafaaGreatDoor.PRFmt
open Go.RowKit QW.PrintWords QW.PrintLast QW.PrintMore
attribute [local go_sem] max2_int min2_int max_two min_two max_three min_three max_four min_four   
def errW : Option Int → Value
 | none => .nilIface
 | some c => .iface 0 (.int .i64 c)
theorem errW_none : errW none = .nilIface := rfl
theorem errW_some (c : Int) : errW (some c) = .iface 0 (.int .i64 c) := rfl
def rL (xs : List (List Int)) (i : Int) : (List Int) := xs.getD i.toNat ([] : List Int)
theorem at_L1 {w : World} {A : Option Addr} {n : Nat} {xs : List (List Int)} (h : Kd.C (Kd.slice 3 (Kd.int .i64)) w A n xs) (i : Int) (h0 : 0 ≤ i) (h1 : i < n) : ∃ ad A0 c0, A = some ad ∧ w.cell? (ad.add i.toNat) = some (.slice A0 (rL xs i).length c0) ∧ (rL xs i).length ≤ c0 ∧ (Kd.int .i64).C w A0 (rL xs i).length (rL xs i) := by
 obtain ⟨ad, c, e, _, hK, hc0⟩ := Kd.C_get h ([] : List Int) i h0 h1
 have hc : ∀ j u, c[j]? = some u → w.cell? (ad.add (i.toNat * 1 + j)) = some u := hc0
 obtain ⟨A0, c0, rfl, l0, g0⟩ := hK
 exact ⟨ad, A0, c0, e, by have hq := hc 0 _ rfl; rwa [Nat.mul_one, Nat.add_zero] at hq, l0, g0⟩
structure S42 where
 f0 : (List Int)
 f1 : Bool
 f2 : (List Int)
def z42 : S42 := ⟨([] : List Int), false, ([] : List Int)⟩
def k42 : Kd S42 := Kd.iso (Kd.pair (Kd.slice 3 (Kd.int .i64)) (Kd.pair Kd.bool (Kd.slice 3 (Kd.int .i64)))) (fun x : S42 => (x.f0, x.f1, x.f2))
theorem k42_open {w : World} {x : S42} {cs : List Value} (h : k42.K w x cs) : ∃ A0 c0 A2 c2, cs = [.slice A0 x.f0.length c0, .bool x.f1, .slice A2 x.f2.length c2] ∧ x.f0.length ≤ c0 ∧ (Kd.int .i64).C w A0 x.f0.length x.f0 ∧ x.f2.length ≤ c2 ∧ (Kd.int .i64).C w A2 x.f2.length x.f2 := by
 obtain ⟨_, _, rfl, ⟨A0, c0, rfl, l0, g0⟩, ⟨_, _, rfl, rfl, ⟨A2, c2, rfl, l2, g2⟩⟩⟩ := h
 exact ⟨A0, c0, A2, c2, rfl, l0, g0, l2, g2⟩
theorem k42_mk (w : World) (x : S42) {A0 : Option Addr} {c0 : Nat} (l0 : x.f0.length ≤ c0) (g0 : (Kd.int .i64).C w A0 x.f0.length x.f0) {A2 : Option Addr} {c2 : Nat} (l2 : x.f2.length ≤ c2) (g2 : (Kd.int .i64).C w A2 x.f2.length x.f2) : k42.K w x [.slice A0 x.f0.length c0, .bool x.f1, .slice A2 x.f2.length c2] := ⟨[.slice A0 x.f0.length c0], [.bool x.f1, .slice A2 x.f2.length c2], rfl, ⟨A0, c0, rfl, l0, g0⟩, ⟨[.bool x.f1], [.slice A2 x.f2.length c2], rfl, rfl, ⟨A2, c2, rfl, l2, g2⟩⟩⟩
theorem k42_mkM (w : World) (base : Nat) (ok : Nat → Prop) (x : S42) {v0 : Value} (g0 : (Kd.int .i64).R 3 w base ok v0 x.f0) {v2 : Value} (g2 : (Kd.int .i64).R 3 w base ok v2 x.f2) : k42.M w base ok x [v0, .bool x.f1, v2] := ⟨[v0], [.bool x.f1, v2], rfl, ⟨v0, rfl, g0⟩, ⟨[.bool x.f1], [v2], rfl, rfl, ⟨v2, rfl, g2⟩⟩⟩
def rd_T42 (xs : List S42) (i : Int) : S42 := xs.getD i.toNat z42
theorem at_T42 {w : World} {A : Option Addr} {n : Nat} {xs : List S42} (h : Kd.C k42 w A n xs) (i : Int) (h0 : 0 ≤ i) (h1 : i < n) : ∃ ad A0 c0 A2 c2, A = some ad ∧ w.cell? (ad.add (i.toNat * 3)) = some (.slice A0 (rd_T42 xs i).f0.length c0) ∧ w.cell? ⟨(ad.add (i.toNat * 3)).block, (ad.add (i.toNat * 3)).off + 1, none⟩ = some (.bool (rd_T42 xs i).f1) ∧ w.cell? ⟨(ad.add (i.toNat * 3)).block, (ad.add (i.toNat * 3)).off + 2, none⟩ = some (.slice A2 (rd_T42 xs i).f2.length c2) ∧ (rd_T42 xs i).f0.length ≤ c0 ∧ (Kd.int .i64).C w A0 (rd_T42 xs i).f0.length (rd_T42 xs i).f0 ∧ (rd_T42 xs i).f2.length ≤ c2 ∧ (Kd.int .i64).C w A2 (rd_T42 xs i).f2.length (rd_T42 xs i).f2 := by
 obtain ⟨ad, c, e, _, hK, hc0⟩ := Kd.C_get h z42 i h0 h1
 have hc : ∀ j u, c[j]? = some u → w.cell? (ad.add (i.toNat * 3 + j)) = some u := hc0
 obtain ⟨A0, c0, A2, c2, rfl, l0, g0, l2, g2⟩ := k42_open hK
 exact ⟨ad, A0, c0, A2, c2, e, hc 0 _ rfl, by rw [← add_field _ _ 1 (by omega)]; exact hc 1 _ rfl, by rw [← add_field _ _ 2 (by omega)]; exact hc 2 _ rfl, l0, g0, l2, g2⟩
end Go.Proofs.YtogicccdngpafaaGreatDoor.PRFmt
end
section
set_option maxHeartbeats 8000000
set_option maxRecDepth 100000
namespace Go.Proofs.YtogicccdngpafaaGreatDoor.PRFmt
open Go.RowKit QW.PrintWords QW.PrintLast QW.PrintMore
attribute [local go_sem] max2_int min2_int max_two min_two max_three min_three max_four min_four   
def netlabref32_long.f : Nat → Int → Option (ByteArray)
 | 0, _ => none
 | k + 1, a0 => if 0 ≤ (Int.tmod a0 10) then (if (Int.tmod a0 10) ≤ (IntKind.u64.wrap ((Int.tmod a0 10) + 1)) then (if (IntKind.u64.wrap ((Int.tmod a0 10) + 1)) ≤ 10 then (if a0 < 10 then (some ((⟨#[48, 49, 50, 51, 52, 53, 54, 55, 56, 57]⟩ : ByteArray).extract ((Int.tmod a0 10) : Int).toNat ((IntKind.u64.wrap ((Int.tmod a0 10) + 1)) : Int).toNat)) else ((netlabref32_long.f k (IntKind.u64.wrap (Int.tdiv a0 10))).bind fun t101 => (if t101.size + ((⟨#[48, 49, 50, 51, 52, 53, 54, 55, 56, 57]⟩ : ByteArray).extract ((Int.tmod a0 10) : Int).toNat ((IntKind.u64.wrap ((Int.tmod a0 10) + 1)) : Int).toNat).size ≤ 9223372036854775807 then (some (t101 ++ ((⟨#[48, 49, 50, 51, 52, 53, 54, 55, 56, 57]⟩ : ByteArray).extract ((Int.tmod a0 10) : Int).toNat ((IntKind.u64.wrap ((Int.tmod a0 10) + 1)) : Int).toNat))) else (none)))) else (none)) else (none)) else (none)
theorem netlabref32_long.calls (k : Nat) : ∀ (a0 : Int) (r : ByteArray) (w : World) (h : netlabref32_long.f k a0 = some r),
  Calls Tryz.prog 128 #[.int .u64 a0] w fun e w' => e = .returned (.string r) ∧ Drawn0 w w' := by
 induction k using Nat.strongRecOn with
 | _ k ih =>
 intro a0 r w h
 cases k with
 | zero => exact absurd h (by simp [netlabref32_long.f])
 | succ k =>
 simp only [netlabref32_long.f] at h
 have H : (if 0 ≤ (Int.tmod a0 10) then (if (Int.tmod a0 10) ≤ (IntKind.u64.wrap ((Int.tmod a0 10) + 1)) then (if (IntKind.u64.wrap ((Int.tmod a0 10) + 1)) ≤ 10 then (if a0 < 10 then (some ((⟨#[48, 49, 50, 51, 52, 53, 54, 55, 56, 57]⟩ : ByteArray).extract ((Int.tmod a0 10) : Int).toNat ((IntKind.u64.wrap ((Int.tmod a0 10) + 1)) : Int).toNat)) else ((netlabref32_long.f k (IntKind.u64.wrap (Int.tdiv a0 10))).bind fun t101 => (if t101.size + ((⟨#[48, 49, 50, 51, 52, 53, 54, 55, 56, 57]⟩ : ByteArray).extract ((Int.tmod a0 10) : Int).toNat ((IntKind.u64.wrap ((Int.tmod a0 10) + 1)) : Int).toNat).size ≤ 9223372036854775807 then (some (t101 ++ ((⟨#[48, 49, 50, 51, 52, 53, 54, 55, 56, 57]⟩ : ByteArray).extract ((Int.tmod a0 10) : Int).toNat ((IntKind.u64.wrap ((Int.tmod a0 10) + 1)) : Int).toNat))) else (none)))) else (none)) else (none)) else (none)) = some r := h
 clear h
 obtain ⟨ji2, hji2⟩ : ∃ j_ : Int, (Int.tmod a0 10) = j_ := ⟨_, rfl⟩
 replace H : (if 0 ≤ (ji2) then (if (ji2) ≤ (IntKind.u64.wrap ((ji2) + 1)) then (if (IntKind.u64.wrap ((ji2) + 1)) ≤ 10 then (if a0 < 10 then (some ((⟨#[48, 49, 50, 51, 52, 53, 54, 55, 56, 57]⟩ : ByteArray).extract ((ji2) : Int).toNat ((IntKind.u64.wrap ((ji2) + 1)) : Int).toNat)) else ((netlabref32_long.f k (IntKind.u64.wrap (Int.tdiv a0 10))).bind fun t101 => (if t101.size + ((⟨#[48, 49, 50, 51, 52, 53, 54, 55, 56, 57]⟩ : ByteArray).extract ((ji2) : Int).toNat ((IntKind.u64.wrap ((ji2) + 1)) : Int).toNat).size ≤ 9223372036854775807 then (some (t101 ++ ((⟨#[48, 49, 50, 51, 52, 53, 54, 55, 56, 57]⟩ : ByteArray).extract ((ji2) : Int).toNat ((IntKind.u64.wrap ((ji2) + 1)) : Int).toNat))) else (none)))) else (none)) else (none)) else (none)) = some r := by first | (rw [hji2] at H; exact H) | (simp only [hji2] at H ⊢; exact H)
 by_cases c3 : 0 ≤ (ji2)
 ·rw [if_pos c3] at H
  have c3b0 := eq_true c3
  have c3b1 : decide (0 ≤ (ji2)) = true := decide_eq_true c3
  clear c3
  by_cases c4 : (ji2) ≤ (IntKind.u64.wrap ((ji2) + 1))
  ·rw [if_pos c4] at H
   have c4b0 := eq_true c4
   have c4b1 : decide ((ji2) ≤ (IntKind.u64.wrap ((ji2) + 1))) = true := decide_eq_true c4
   by_cases c5 : (IntKind.u64.wrap ((ji2) + 1)) ≤ 10
   ·rw [if_pos c5] at H
    have c5b0 := eq_true c5
    have c5b1 : decide ((IntKind.u64.wrap ((ji2) + 1)) ≤ 10) = true := decide_eq_true c5
    by_cases c6 : a0 < 10
    ·rw [if_pos c6] at H
     have c6b0 : decide (a0 < 10) = true := decide_eq_true c6
     clear c6
     obtain rfl := Option.some.inj H
     go_enter Tryz.func128, Tryz.ntmps128
     go_wp2
     go_ret
     exact ⟨by first | rfl | (simp; done) | (simp only [← hji2] <;> (first | rfl | simp)) | (simp [*]; done), by repeat (first | exact Drawn0.refl _ | apply Drawn0.step)⟩
    ·rw [if_neg c6] at H
     have c6b0 : decide (a0 < 10) = false := decide_eq_false c6
     clear c6
     replace H := Option.bind_eq_some_iff.mp H
     obtain ⟨t101, A70, H⟩ := H
     replace H : (if t101.size + ((⟨#[48, 49, 50, 51, 52, 53, 54, 55, 56, 57]⟩ : ByteArray).extract ((ji2) : Int).toNat ((IntKind.u64.wrap ((ji2) + 1)) : Int).toNat).size ≤ 9223372036854775807 then (some (t101 ++ ((⟨#[48, 49, 50, 51, 52, 53, 54, 55, 56, 57]⟩ : ByteArray).extract ((ji2) : Int).toNat ((IntKind.u64.wrap ((ji2) + 1)) : Int).toNat))) else (none)) = some r := H
     have A7 := Az.mk A70
     clear A70
     by_cases c8 : t101.size + ((⟨#[48, 49, 50, 51, 52, 53, 54, 55, 56, 57]⟩ : ByteArray).extract ((ji2) : Int).toNat ((IntKind.u64.wrap ((ji2) + 1)) : Int).toNat).size ≤ 9223372036854775807
     ·rw [if_pos c8] at H
      have c8b0 := eq_true c8
      have c8b1 : decide (t101.size + ((⟨#[48, 49, 50, 51, 52, 53, 54, 55, 56, 57]⟩ : ByteArray).extract ((ji2) : Int).toNat ((IntKind.u64.wrap ((ji2) + 1)) : Int).toNat).size ≤ 9223372036854775807) = true := decide_eq_true c8
      try have c8b2 : (9223372036854775807 < t101.size + ((⟨#[48, 49, 50, 51, 52, 53, 54, 55, 56, 57]⟩ : ByteArray).extract ((ji2) : Int).toNat ((IntKind.u64.wrap ((ji2) + 1)) : Int).toNat).size) = False := eq_false (Nat.not_lt.2 c8)
      obtain rfl := Option.some.inj H
      go_enter Tryz.func128, Tryz.ntmps128
      go_wp2_with (first | ((with_reducible refine gate_callee (f := 128) rfl ?_); refine goesL_ (some 15) rfl rfl Tryz.func128 (by kernel_rfl) rfl #[.int .u64 (IntKind.u64.wrap (Int.tdiv a0 10))] rfl (by (try simp only [List.map_toArray, List.map_cons, List.map_nil]); first | done | rfl | (simp only [List.length_drop, List.length_take]; rfl)) ?_; (with_reducible refine (ih k (by omega) (IntKind.u64.wrap (Int.tdiv a0 10)) t101 _ A7.out).mono ?_); rintro e w' ⟨rfl, ⟨nd, rfl⟩⟩; refine ⟨_, rfl, ?_⟩))
      go_ret
      exact ⟨by first | rfl | (simp; done) | (simp only [← hji2] <;> (first | rfl | simp)) | (simp [*]; done), by repeat (first | exact Drawn0.refl _ | apply Drawn0.step)⟩
     ·rw [if_neg c8] at H
      exact absurd H (by simp)
   ·rw [if_neg c5] at H
    exact absurd H (by simp)
  ·rw [if_neg c4] at H
   exact absurd H (by simp)
 ·rw [if_neg c3] at H
  exact absurd H (by simp)
def netlabref32_Digits.f (k : Nat) (a0 : Int) : Option (ByteArray) := if a0 < 0 then ((netlabref32_long.f k (IntKind.u64.wrap ((IntKind.u64.wrap (wrap64 (-(wrap64 (a0 + 1))))) + 1))).bind fun t102 => (if 1 + t102.size ≤ 9223372036854775807 then (some ((⟨#[45]⟩ : ByteArray) ++ t102)) else (none))) else ((netlabref32_long.f k (IntKind.u64.wrap (a0))).bind fun t103 => (some t103))
theorem netlabref32_Digits.calls (k : Nat) (a0 : Int) (r : ByteArray) (w : World) (h : netlabref32_Digits.f k a0 = some r) :
  Calls Tryz.prog 100 #[.int .i64 a0] w fun e w' => e = .returned (.string r) ∧ Drawn0 w w' := by
 have H : (if a0 < 0 then ((netlabref32_long.f k (IntKind.u64.wrap ((IntKind.u64.wrap (wrap64 (-(wrap64 (a0 + 1))))) + 1))).bind fun t102 => (if 1 + t102.size ≤ 9223372036854775807 then (some ((⟨#[45]⟩ : ByteArray) ++ t102)) else (none))) else ((netlabref32_long.f k (IntKind.u64.wrap (a0))).bind fun t103 => (some t103))) = some r := h
 clear h
 by_cases c2 : a0 < 0
 ·rw [if_pos c2] at H
  have c2b0 : decide (a0 < 0) = true := decide_eq_true c2
  clear c2
  replace H := Option.bind_eq_some_iff.mp H
  obtain ⟨t102, A30, H⟩ := H
  replace H : (if 1 + t102.size ≤ 9223372036854775807 then (some ((⟨#[45]⟩ : ByteArray) ++ t102)) else (none)) = some r := H
  have A3 := Az.mk A30
  clear A30
  by_cases c4 : 1 + t102.size ≤ 9223372036854775807
  ·rw [if_pos c4] at H
   have c4b0 := eq_true c4
   have c4b1 : decide (1 + t102.size ≤ 9223372036854775807) = true := decide_eq_true c4
   try have c4b2 : (9223372036854775807 < 1 + t102.size) = False := eq_false (Nat.not_lt.2 c4)
   obtain rfl := Option.some.inj H
   go_enter Tryz.func100, Tryz.ntmps100
   go_wp2_with (first | ((with_reducible refine gate_callee (f := 128) rfl ?_); refine goesL_ (some 10) rfl rfl Tryz.func128 (by kernel_rfl) rfl #[.int .u64 (IntKind.u64.wrap ((IntKind.u64.wrap (wrap64 (-(wrap64 (a0 + 1))))) + 1))] rfl (by (try simp only [List.map_toArray, List.map_cons, List.map_nil]); first | done | rfl | (simp only [List.length_drop, List.length_take]; rfl)) ?_; (with_reducible refine (netlabref32_long.calls k (IntKind.u64.wrap ((IntKind.u64.wrap (wrap64 (-(wrap64 (a0 + 1))))) + 1)) t102 _ A3.out).mono ?_); rintro e w' ⟨rfl, ⟨nd, rfl⟩⟩; refine ⟨_, rfl, ?_⟩))
   go_ret
   exact ⟨by first | rfl | (simp; done) | (simp [*]; done), by repeat (first | exact Drawn0.refl _ | apply Drawn0.step)⟩
  ·rw [if_neg c4] at H
   exact absurd H (by simp)
 ·rw [if_neg c2] at H
  have c2b0 : decide (a0 < 0) = false := decide_eq_false c2
  clear c2
  replace H := Option.bind_eq_some_iff.mp H
  obtain ⟨t103, A50, H⟩ := H
  replace H : (some t103) = some r := H
  have A5 := Az.mk A50
  clear A50
  obtain rfl := Option.some.inj H
  go_enter Tryz.func100, Tryz.ntmps100
  go_wp2_with (first | ((with_reducible refine gate_callee (f := 128) rfl ?_); refine goesL_ (some 14) rfl rfl Tryz.func128 (by kernel_rfl) rfl #[.int .u64 (IntKind.u64.wrap (a0))] rfl (by (try simp only [List.map_toArray, List.map_cons, List.map_nil]); first | done | rfl | (simp only [List.length_drop, List.length_take]; rfl)) ?_; (with_reducible refine (netlabref32_long.calls k (IntKind.u64.wrap (a0)) t103 _ A5.out).mono ?_); rintro e w' ⟨rfl, ⟨nd, rfl⟩⟩; refine ⟨_, rfl, ?_⟩))
  go_ret
  exact ⟨by first | rfl | (simp; done) | (simp [*]; done), by repeat (first | exact Drawn0.refl _ | apply Drawn0.step)⟩
def netlabref33_words.l0 : Nat → List Int → ByteArray → Int → Option (ByteArray)
 | 0, _, _, _ => none
 | k + 1, x0, x3, x4 => if x4 < (x0.length : Int) then (if 0 ≤ x4 then ((netlabref32_Digits.f k (rd x0 x4)).bind fun t105 => (if x3.size + t105.size ≤ 9223372036854775807 then (if (x3 ++ t105).size + 1 ≤ 9223372036854775807 then (netlabref33_words.l0 k x0 ((x3 ++ t105) ++ (⟨#[32]⟩ : ByteArray)) (wrap64 (x4 + 1))) else (none)) else (none))) else (none)) else (if x3.size + 1 ≤ 9223372036854775807 then (some (x3 ++ (⟨#[48]⟩ : ByteArray))) else (none))
def netlabref33_words.f (k : Nat) (l0 : List Int) : Option (ByteArray) := netlabref33_words.l0 k l0 (⟨#[]⟩ : ByteArray) 0
theorem netlabref33_words.calls (k : Nat) (A0 : Option Addr) (c0 : Nat) (l0 : List Int) (r : ByteArray) (w : World) (hr0 : Kd.C (Kd.int .i64) w A0 l0.length l0) (hc0 : l0.length ≤ c0) (h : netlabref33_words.f k l0 = some r) :
  Calls Tryz.prog 101 #[.slice A0 l0.length c0] w fun e w' => e = .returned (.string r) ∧ Drawn0 w w' := by
 have HR0 := Az.mk hr0
 have HC0 := Az.mk hc0
 clear hr0 hc0
 have H : (netlabref33_words.l0 k l0 (⟨#[]⟩ : ByteArray) 0) = some r := h
 clear h
 have H' := Az.mk H
 clear H
 go_enter Tryz.func101, Tryz.ntmps101
 go_wp2
 go_loopg [3, 4] k (fun kq v3 v4 w' => ∃ (x3_1 : ByteArray) (x4_1 : Int), v3 = .string x3_1 ∧ v4 = .int .i64 x4_1 ∧ Az (netlabref33_words.l0 kq l0 x3_1 x4_1 = some r) ∧ Az (kq ≤ k) ∧ Drawn0 w w')
 case atStart => exact ⟨((⟨#[]⟩ : ByteArray)), (0), (by first | rfl | (simp; done) | (simp [*]; done)), (by first | rfl | (simp; done) | (simp [*]; done)), H', ⟨Nat.le_refl _⟩, by repeat (first | exact Drawn0.refl _ | apply Drawn0.step)⟩
 case round =>
  clear H'
  try clear c1
  obtain ⟨x3_1, x4_1, rfl, rfl, HA, HK1, ⟨m1, rfl⟩⟩ := hrel
  cases gk with
  | zero => exact absurd HA.out (by simp [netlabref33_words.l0])
  | succ k1 =>
   have H := HA.out
   clear HA
   simp only [netlabref33_words.l0] at H
   by_cases c2 : x4_1 < (l0.length : Int)
   ·rw [if_pos c2] at H
    have c2b0 : decide (x4_1 < (l0.length : Int)) = true := decide_eq_true c2
    clear c2
    by_cases c3 : 0 ≤ x4_1
    ·rw [if_pos c3] at H
     have c3b0 : decide (0 ≤ x4_1) = true := decide_eq_true c3
     clear c3
     replace H := Option.bind_eq_some_iff.mp H
     obtain ⟨t105, A40, H⟩ := H
     replace H : (if x3_1.size + t105.size ≤ 9223372036854775807 then (if (x3_1 ++ t105).size + 1 ≤ 9223372036854775807 then (netlabref33_words.l0 k1 l0 ((x3_1 ++ t105) ++ (⟨#[32]⟩ : ByteArray)) (wrap64 (x4_1 + 1))) else (none)) else (none)) = some r := H
     have A4 := Az.mk A40
     clear A40
     by_cases c5 : x3_1.size + t105.size ≤ 9223372036854775807
     ·rw [if_pos c5] at H
      have c5b0 := eq_true c5
      have c5b1 : decide (x3_1.size + t105.size ≤ 9223372036854775807) = true := decide_eq_true c5
      try have c5b2 : (9223372036854775807 < x3_1.size + t105.size) = False := eq_false (Nat.not_lt.2 c5)
      by_cases c6 : (x3_1 ++ t105).size + 1 ≤ 9223372036854775807
      ·rw [if_pos c6] at H
       have c6b0 := eq_true c6
       have c6b7 := c6
       try simp only [ByteArray.size_append] at c6b7
       try have c6b6 := eq_false (Nat.not_lt.2 c6b7)
       try have c6b5 := decide_eq_true c6b7
       have c6b1 : decide ((x3_1 ++ t105).size + 1 ≤ 9223372036854775807) = true := decide_eq_true c6
       try have c6b2 : (9223372036854775807 < (x3_1 ++ t105).size + 1) = False := eq_false (Nat.not_lt.2 c6)
       have H' := Az.mk H
       clear H
       have p104 : 0 ≤ (x4_1 : Int) := of_decide_eq_true (by assumption)
       have q104 : x4_1 < (l0.length : Int) := of_decide_eq_true (by assumption)
       obtain ⟨ad104, e104, hx104_0⟩ := Kd.at_int HR0.out x4_1 p104 q104
       cases e104
       replace p104 := eq_true p104
       replace q104 := eq_true q104
       go_wp2_with (first | ((with_reducible refine gate_callee (f := 100) rfl ?_); refine goesL_ (some 16) rfl rfl Tryz.func100 (by kernel_rfl) rfl #[.int .i64 (rd l0 x4_1)] rfl (by (try simp only [List.map_toArray, List.map_cons, List.map_nil]); first | done | rfl | (simp only [List.length_drop, List.length_take]; rfl)) ?_; (with_reducible refine (netlabref32_Digits.calls k1 (rd l0 x4_1) t105 _ A4.out).mono ?_); rintro e w' ⟨rfl, ⟨nd, rfl⟩⟩; refine ⟨_, rfl, ?_⟩))
       go_roundg k1
       case measure => have := HK1.out; omega
       case rel => exact ⟨((x3_1 ++ t105) ++ (⟨#[32]⟩ : ByteArray)), (wrap64 (x4_1 + 1)), (by first | rfl | (simp; done) | (simp [*]; done)), (by first | rfl | (simp; done) | (simp [*]; done)), H', ⟨by have := HK1.out; omega⟩, by repeat (first | exact Drawn0.refl _ | apply Drawn0.step)⟩
      ·rw [if_neg c6] at H
       exact absurd H (by simp)
     ·rw [if_neg c5] at H
      exact absurd H (by simp)
    ·rw [if_neg c3] at H
     exact absurd H (by simp)
   ·rw [if_neg c2] at H
    have c2b0 : decide (x4_1 < (l0.length : Int)) = false := decide_eq_false c2
    clear c2
    by_cases c7 : x3_1.size + 1 ≤ 9223372036854775807
    ·rw [if_pos c7] at H
     have c7b0 := eq_true c7
     have c7b1 : decide (x3_1.size + 1 ≤ 9223372036854775807) = true := decide_eq_true c7
     try have c7b2 : (9223372036854775807 < x3_1.size + 1) = False := eq_false (Nat.not_lt.2 c7)
     obtain rfl := Option.some.inj H
     go_wp2
     go_ret
     exact ⟨by first | rfl | (simp; done) | (simp [*]; done), by repeat (first | exact Drawn0.refl _ | apply Drawn0.step)⟩
    ·rw [if_neg c7] at H
     exact absurd H (by simp)
def netlabref33_Text.l0 : Nat → Int → List (S42) → ByteArray → Int → Option (ByteArray)
 | 0, _, _, _, _ => none
 | k + 1, x0, x1, x5, x6 => if x6 < (x1.length : Int) then (if 0 ≤ x6 then (if (rd_T42 x1 x6).f1 = true then ((netlabref32_Digits.f k x0).bind fun t107 => (if x5.size + t107.size ≤ 9223372036854775807 then (if (x5 ++ t107).size + 3 ≤ 9223372036854775807 then ((netlabref33_words.f k ((rd_T42 x1 x6).f2)).bind fun t109 => (if ((x5 ++ t107) ++ (⟨#[32, 100, 32]⟩ : ByteArray)).size + t109.size ≤ 9223372036854775807 then (if (((x5 ++ t107) ++ (⟨#[32, 100, 32]⟩ : ByteArray)) ++ t109).size + 1 ≤ 9223372036854775807 then (netlabref33_Text.l0 k x0 x1 ((((x5 ++ t107) ++ (⟨#[32, 100, 32]⟩ : ByteArray)) ++ t109) ++ (⟨#[10]⟩ : ByteArray)) (wrap64 (x6 + 1))) else (none)) else (none))) else (none)) else (none))) else ((netlabref32_Digits.f k (wrap64 (x0 + 1))).bind fun t110 => (if x5.size + t110.size ≤ 9223372036854775807 then (if (x5 ++ t110).size + 1 ≤ 9223372036854775807 then ((netlabref33_words.f k ((rd_T42 x1 x6).f0)).bind fun t112 => (if ((x5 ++ t110) ++ (⟨#[32]⟩ : ByteArray)).size + t112.size ≤ 9223372036854775807 then (if (((x5 ++ t110) ++ (⟨#[32]⟩ : ByteArray)) ++ t112).size + 1 ≤ 9223372036854775807 then ((netlabref33_words.f k ((rd_T42 x1 x6).f2)).bind fun t114 => (if ((((x5 ++ t110) ++ (⟨#[32]⟩ : ByteArray)) ++ t112) ++ (⟨#[32]⟩ : ByteArray)).size + t114.size ≤ 9223372036854775807 then (if (((((x5 ++ t110) ++ (⟨#[32]⟩ : ByteArray)) ++ t112) ++ (⟨#[32]⟩ : ByteArray)) ++ t114).size + 1 ≤ 9223372036854775807 then (netlabref33_Text.l0 k (wrap64 (x0 + 1)) x1 ((((((x5 ++ t110) ++ (⟨#[32]⟩ : ByteArray)) ++ t112) ++ (⟨#[32]⟩ : ByteArray)) ++ t114) ++ (⟨#[10]⟩ : ByteArray)) (wrap64 (x6 + 1))) else (none)) else (none))) else (none)) else (none))) else (none)) else (none)))) else (none)) else (some x5)
def netlabref33_Text.f (k : Nat) (a0 : Int) (l1 : List (S42)) : Option (ByteArray) := netlabref33_Text.l0 k a0 l1 (⟨#[]⟩ : ByteArray) 0
theorem netlabref33_Text.calls (k : Nat) (a0 : Int) (A1 : Option Addr) (c1 : Nat) (l1 : List (S42)) (r : ByteArray) (w : World) (hr1 : Kd.C k42 w A1 l1.length l1) (hc1 : l1.length ≤ c1) (h : netlabref33_Text.f k a0 l1 = some r) :
  Calls Tryz.prog 67 #[.int .i64 a0, .slice A1 l1.length c1] w fun e w' => e = .returned (.string r) ∧ Drawn0 w w' := by
 have HR1 := Az.mk hr1
 have HC1 := Az.mk hc1
 clear hr1 hc1
 have H : (netlabref33_Text.l0 k a0 l1 (⟨#[]⟩ : ByteArray) 0) = some r := h
 clear h
 have H' := Az.mk H
 clear H
 go_enter Tryz.func67, Tryz.ntmps67
 go_wp2
 repeat (go_quiet (fail); try go_wp2)
 go_loopg [0, 5, 6] k (fun kq v0 v5 v6 w' => ∃ (x0_1 : Int) (x5_1 : ByteArray) (x6_1 : Int), v0 = .int .i64 x0_1 ∧ v5 = .string x5_1 ∧ v6 = .int .i64 x6_1 ∧ Az (netlabref33_Text.l0 kq x0_1 l1 x5_1 x6_1 = some r) ∧ Az (kq ≤ k) ∧ Drawn0 w w')
 case atStart => exact ⟨(a0), ((⟨#[]⟩ : ByteArray)), (0), (by first | rfl | (simp; done) | (simp [*]; done)), (by first | rfl | (simp; done) | (simp [*]; done)), (by first | rfl | (simp; done) | (simp [*]; done)), H', ⟨Nat.le_refl _⟩, by repeat (first | exact Drawn0.refl _ | apply Drawn0.step)⟩
 case round =>
  clear H'
  try clear c1
  try clear p2
  obtain ⟨x0_1, x5_1, x6_1, rfl, rfl, rfl, HA, HK1, ⟨m1, rfl⟩⟩ := hrel
  cases gk with
  | zero => exact absurd HA.out (by simp [netlabref33_Text.l0])
  | succ k1 =>
   have H := HA.out
   clear HA
   simp only [netlabref33_Text.l0] at H
   by_cases c3 : x6_1 < (l1.length : Int)
   ·rw [if_pos c3] at H
    have c3b0 : decide (x6_1 < (l1.length : Int)) = true := decide_eq_true c3
    clear c3
    by_cases c4 : 0 ≤ x6_1
    ·rw [if_pos c4] at H
     have c4b0 : decide (0 ≤ x6_1) = true := decide_eq_true c4
     clear c4
     obtain ⟨bq5, hbq5⟩ : ∃ b_ : Bool, b_ = ((rd_T42 l1 x6_1).f1) := ⟨_, rfl⟩
     replace H : (if bq5 = true then ((netlabref32_Digits.f k1 x0_1).bind fun t107 => (if x5_1.size + t107.size ≤ 9223372036854775807 then (if (x5_1 ++ t107).size + 3 ≤ 9223372036854775807 then ((netlabref33_words.f k1 ((rd_T42 l1 x6_1).f2)).bind fun t109 => (if ((x5_1 ++ t107) ++ (⟨#[32, 100, 32]⟩ : ByteArray)).size + t109.size ≤ 9223372036854775807 then (if (((x5_1 ++ t107) ++ (⟨#[32, 100, 32]⟩ : ByteArray)) ++ t109).size + 1 ≤ 9223372036854775807 then (netlabref33_Text.l0 k1 x0_1 l1 ((((x5_1 ++ t107) ++ (⟨#[32, 100, 32]⟩ : ByteArray)) ++ t109) ++ (⟨#[10]⟩ : ByteArray)) (wrap64 (x6_1 + 1))) else (none)) else (none))) else (none)) else (none))) else ((netlabref32_Digits.f k1 (wrap64 (x0_1 + 1))).bind fun t110 => (if x5_1.size + t110.size ≤ 9223372036854775807 then (if (x5_1 ++ t110).size + 1 ≤ 9223372036854775807 then ((netlabref33_words.f k1 ((rd_T42 l1 x6_1).f0)).bind fun t112 => (if ((x5_1 ++ t110) ++ (⟨#[32]⟩ : ByteArray)).size + t112.size ≤ 9223372036854775807 then (if (((x5_1 ++ t110) ++ (⟨#[32]⟩ : ByteArray)) ++ t112).size + 1 ≤ 9223372036854775807 then ((netlabref33_words.f k1 ((rd_T42 l1 x6_1).f2)).bind fun t114 => (if ((((x5_1 ++ t110) ++ (⟨#[32]⟩ : ByteArray)) ++ t112) ++ (⟨#[32]⟩ : ByteArray)).size + t114.size ≤ 9223372036854775807 then (if (((((x5_1 ++ t110) ++ (⟨#[32]⟩ : ByteArray)) ++ t112) ++ (⟨#[32]⟩ : ByteArray)) ++ t114).size + 1 ≤ 9223372036854775807 then (netlabref33_Text.l0 k1 (wrap64 (x0_1 + 1)) l1 ((((((x5_1 ++ t110) ++ (⟨#[32]⟩ : ByteArray)) ++ t112) ++ (⟨#[32]⟩ : ByteArray)) ++ t114) ++ (⟨#[10]⟩ : ByteArray)) (wrap64 (x6_1 + 1))) else (none)) else (none))) else (none)) else (none))) else (none)) else (none)))) = some r := by rw [← hbq5] at H; exact H
     have Nbq5 := Az.mk hbq5
     clear hbq5
     by_cases c6 : bq5 = true
     ·subst c6
      have H1 : ((netlabref32_Digits.f k1 x0_1).bind fun t107 => (if x5_1.size + t107.size ≤ 9223372036854775807 then (if (x5_1 ++ t107).size + 3 ≤ 9223372036854775807 then ((netlabref33_words.f k1 ((rd_T42 l1 x6_1).f2)).bind fun t109 => (if ((x5_1 ++ t107) ++ (⟨#[32, 100, 32]⟩ : ByteArray)).size + t109.size ≤ 9223372036854775807 then (if (((x5_1 ++ t107) ++ (⟨#[32, 100, 32]⟩ : ByteArray)) ++ t109).size + 1 ≤ 9223372036854775807 then (netlabref33_Text.l0 k1 x0_1 l1 ((((x5_1 ++ t107) ++ (⟨#[32, 100, 32]⟩ : ByteArray)) ++ t109) ++ (⟨#[10]⟩ : ByteArray)) (wrap64 (x6_1 + 1))) else (none)) else (none))) else (none)) else (none))) = some r := by rw [if_pos rfl] at H; exact H
      clear H
      have H := H1
      clear H1
      replace H := Option.bind_eq_some_iff.mp H
      obtain ⟨t107, A70, H⟩ := H
      replace H : (if x5_1.size + t107.size ≤ 9223372036854775807 then (if (x5_1 ++ t107).size + 3 ≤ 9223372036854775807 then ((netlabref33_words.f k1 ((rd_T42 l1 x6_1).f2)).bind fun t109 => (if ((x5_1 ++ t107) ++ (⟨#[32, 100, 32]⟩ : ByteArray)).size + t109.size ≤ 9223372036854775807 then (if (((x5_1 ++ t107) ++ (⟨#[32, 100, 32]⟩ : ByteArray)) ++ t109).size + 1 ≤ 9223372036854775807 then (netlabref33_Text.l0 k1 x0_1 l1 ((((x5_1 ++ t107) ++ (⟨#[32, 100, 32]⟩ : ByteArray)) ++ t109) ++ (⟨#[10]⟩ : ByteArray)) (wrap64 (x6_1 + 1))) else (none)) else (none))) else (none)) else (none)) = some r := H
      have A7 := Az.mk A70
      clear A70
      by_cases c8 : x5_1.size + t107.size ≤ 9223372036854775807
      ·rw [if_pos c8] at H
       have c8b0 := eq_true c8
       have c8b1 : decide (x5_1.size + t107.size ≤ 9223372036854775807) = true := decide_eq_true c8
       try have c8b2 : (9223372036854775807 < x5_1.size + t107.size) = False := eq_false (Nat.not_lt.2 c8)
       by_cases c9 : (x5_1 ++ t107).size + 3 ≤ 9223372036854775807
       ·rw [if_pos c9] at H
        have c9b0 := eq_true c9
        have c9b7 := c9
        try simp only [ByteArray.size_append] at c9b7
        try have c9b6 := eq_false (Nat.not_lt.2 c9b7)
        try have c9b5 := decide_eq_true c9b7
        have c9b1 : decide ((x5_1 ++ t107).size + 3 ≤ 9223372036854775807) = true := decide_eq_true c9
        try have c9b2 : (9223372036854775807 < (x5_1 ++ t107).size + 3) = False := eq_false (Nat.not_lt.2 c9)
        replace H := Option.bind_eq_some_iff.mp H
        obtain ⟨t109, A100, H⟩ := H
        replace H : (if ((x5_1 ++ t107) ++ (⟨#[32, 100, 32]⟩ : ByteArray)).size + t109.size ≤ 9223372036854775807 then (if (((x5_1 ++ t107) ++ (⟨#[32, 100, 32]⟩ : ByteArray)) ++ t109).size + 1 ≤ 9223372036854775807 then (netlabref33_Text.l0 k1 x0_1 l1 ((((x5_1 ++ t107) ++ (⟨#[32, 100, 32]⟩ : ByteArray)) ++ t109) ++ (⟨#[10]⟩ : ByteArray)) (wrap64 (x6_1 + 1))) else (none)) else (none)) = some r := H
        have A10 := Az.mk A100
        clear A100
        by_cases c11 : ((x5_1 ++ t107) ++ (⟨#[32, 100, 32]⟩ : ByteArray)).size + t109.size ≤ 9223372036854775807
        ·rw [if_pos c11] at H
         have c11b0 := eq_true c11
         have c11b7 := c11
         try simp only [ByteArray.size_append, show (⟨#[32, 100, 32]⟩ : ByteArray).size = 3 from rfl] at c11b7
         try have c11b6 := eq_false (Nat.not_lt.2 c11b7)
         try have c11b5 := decide_eq_true c11b7
         have c11b1 : decide (((x5_1 ++ t107) ++ (⟨#[32, 100, 32]⟩ : ByteArray)).size + t109.size ≤ 9223372036854775807) = true := decide_eq_true c11
         try have c11b2 : (9223372036854775807 < ((x5_1 ++ t107) ++ (⟨#[32, 100, 32]⟩ : ByteArray)).size + t109.size) = False := eq_false (Nat.not_lt.2 c11)
         by_cases c12 : (((x5_1 ++ t107) ++ (⟨#[32, 100, 32]⟩ : ByteArray)) ++ t109).size + 1 ≤ 9223372036854775807
         ·rw [if_pos c12] at H
          have c12b0 := eq_true c12
          have c12b7 := c12
          try simp only [ByteArray.size_append, show (⟨#[32, 100, 32]⟩ : ByteArray).size = 3 from rfl] at c12b7
          try have c12b6 := eq_false (Nat.not_lt.2 c12b7)
          try have c12b5 := decide_eq_true c12b7
          have c12b1 : decide ((((x5_1 ++ t107) ++ (⟨#[32, 100, 32]⟩ : ByteArray)) ++ t109).size + 1 ≤ 9223372036854775807) = true := decide_eq_true c12
          try have c12b2 : (9223372036854775807 < (((x5_1 ++ t107) ++ (⟨#[32, 100, 32]⟩ : ByteArray)) ++ t109).size + 1) = False := eq_false (Nat.not_lt.2 c12)
          have H' := Az.mk H
          clear H
          have p106 : 0 ≤ (x6_1 : Int) := of_decide_eq_true (by assumption)
          have q106 : x6_1 < (l1.length : Int) := of_decide_eq_true (by assumption)
          obtain ⟨ad106, A106_0, c106_0, A106_2, c106_2, e106, hx106_0, hx106_1, hx106_2, hl106_0, hi106_0, hl106_2, hi106_2⟩ := at_T42 HR1.out x6_1 p106 q106
          (try rw [← Nbq5.out] at hx106_1)
          cases e106
          have HR106_0 := Az.mk hi106_0
          have HC106_0 := Az.mk hl106_0
          clear hi106_0 hl106_0
          have HR106_2 := Az.mk hi106_2
          have HC106_2 := Az.mk hl106_2
          clear hi106_2 hl106_2
          replace p106 := eq_true p106
          replace q106 := eq_true q106
          go_wp2_with (first | (go_at_call 100; (with_reducible refine (netlabref32_Digits.calls k1 x0_1 t107 _ A7.out).mono ?_); rintro e w' ⟨rfl, ⟨nd, rfl⟩⟩; (try first | exact ⟨rfl, _, World.drewN_drewN _ _ _⟩ | exact ⟨rfl, _, Eq.trans (World.drewN_drewN _ _ _) (congrArg (World.drewN _) (Nat.add_assoc _ _ _))⟩); have p108 : 0 ≤ (x6_1 : Int) := of_decide_eq_true (by assumption); have q108 : x6_1 < (l1.length : Int) := of_decide_eq_true (by assumption); obtain ⟨ad108, A108_0, c108_0, A108_2, c108_2, e108, hx108_0, hx108_1, hx108_2, hl108_0, hi108_0, hl108_2, hi108_2⟩ := at_T42 HR1.out x6_1 p108 q108; (try rw [← Nbq5.out] at hx108_1); obtain rfl : ad106 = ad108 := (by injection e108); have HR108_0 := Az.mk hi108_0; have HC108_0 := Az.mk hl108_0; clear hi108_0 hl108_0; have HR108_2 := Az.mk hi108_2; have HC108_2 := Az.mk hl108_2; clear hi108_2 hl108_2; replace p108 := eq_true p108; replace q108 := eq_true q108; have ea_ := Option.some.inj (hx106_0.symm.trans hx108_0); injection ea_ with ea_ en_ ec_; subst ea_; subst ec_; clear en_; have ea_ := Option.some.inj (hx106_2.symm.trans hx108_2); injection ea_ with ea_ en_ ec_; subst ea_; subst ec_; clear en_) | (go_at_call 101; (with_reducible refine (netlabref33_words.calls k1 _ _ ((rd_T42 l1 x6_1).f2) t109 _ ?side1 ?side2 A10.out).mono ?_); (case side1 => repeat (first | exact HR108_2.out | (with_reducible refine Kd.C_alloc ?_ _) | (with_reducible refine Kd.C_drewN ?_ _) | (with_reducible refine Kd.C_drew ?_))); (case side2 => exact HC108_2.out); rintro e w' ⟨rfl, ⟨nd, rfl⟩⟩; (try first | exact ⟨rfl, _, World.drewN_drewN _ _ _⟩ | exact ⟨rfl, _, Eq.trans (World.drewN_drewN _ _ _) (congrArg (World.drewN _) (Nat.add_assoc _ _ _))⟩)))
          repeat (go_quiet (first | (go_at_call 100; (with_reducible refine (netlabref32_Digits.calls k1 x0_1 t107 _ A7.out).mono ?_); rintro e w' ⟨rfl, ⟨nd, rfl⟩⟩; (try first | exact ⟨rfl, _, World.drewN_drewN _ _ _⟩ | exact ⟨rfl, _, Eq.trans (World.drewN_drewN _ _ _) (congrArg (World.drewN _) (Nat.add_assoc _ _ _))⟩); have p108 : 0 ≤ (x6_1 : Int) := of_decide_eq_true (by assumption); have q108 : x6_1 < (l1.length : Int) := of_decide_eq_true (by assumption); obtain ⟨ad108, A108_0, c108_0, A108_2, c108_2, e108, hx108_0, hx108_1, hx108_2, hl108_0, hi108_0, hl108_2, hi108_2⟩ := at_T42 HR1.out x6_1 p108 q108; (try rw [← Nbq5.out] at hx108_1); obtain rfl : ad106 = ad108 := (by injection e108); have HR108_0 := Az.mk hi108_0; have HC108_0 := Az.mk hl108_0; clear hi108_0 hl108_0; have HR108_2 := Az.mk hi108_2; have HC108_2 := Az.mk hl108_2; clear hi108_2 hl108_2; replace p108 := eq_true p108; replace q108 := eq_true q108; have ea_ := Option.some.inj (hx106_0.symm.trans hx108_0); injection ea_ with ea_ en_ ec_; subst ea_; subst ec_; clear en_; have ea_ := Option.some.inj (hx106_2.symm.trans hx108_2); injection ea_ with ea_ en_ ec_; subst ea_; subst ec_; clear en_) | (go_at_call 101; (with_reducible refine (netlabref33_words.calls k1 _ _ ((rd_T42 l1 x6_1).f2) t109 _ ?side1 ?side2 A10.out).mono ?_); (case side1 => repeat (first | exact HR108_2.out | (with_reducible refine Kd.C_alloc ?_ _) | (with_reducible refine Kd.C_drewN ?_ _) | (with_reducible refine Kd.C_drew ?_))); (case side2 => exact HC108_2.out); rintro e w' ⟨rfl, ⟨nd, rfl⟩⟩; (try first | exact ⟨rfl, _, World.drewN_drewN _ _ _⟩ | exact ⟨rfl, _, Eq.trans (World.drewN_drewN _ _ _) (congrArg (World.drewN _) (Nat.add_assoc _ _ _))⟩))); try go_wp2_with (first | (go_at_call 100; (with_reducible refine (netlabref32_Digits.calls k1 x0_1 t107 _ A7.out).mono ?_); rintro e w' ⟨rfl, ⟨nd, rfl⟩⟩; (try first | exact ⟨rfl, _, World.drewN_drewN _ _ _⟩ | exact ⟨rfl, _, Eq.trans (World.drewN_drewN _ _ _) (congrArg (World.drewN _) (Nat.add_assoc _ _ _))⟩); have p108 : 0 ≤ (x6_1 : Int) := of_decide_eq_true (by assumption); have q108 : x6_1 < (l1.length : Int) := of_decide_eq_true (by assumption); obtain ⟨ad108, A108_0, c108_0, A108_2, c108_2, e108, hx108_0, hx108_1, hx108_2, hl108_0, hi108_0, hl108_2, hi108_2⟩ := at_T42 HR1.out x6_1 p108 q108; (try rw [← Nbq5.out] at hx108_1); obtain rfl : ad106 = ad108 := (by injection e108); have HR108_0 := Az.mk hi108_0; have HC108_0 := Az.mk hl108_0; clear hi108_0 hl108_0; have HR108_2 := Az.mk hi108_2; have HC108_2 := Az.mk hl108_2; clear hi108_2 hl108_2; replace p108 := eq_true p108; replace q108 := eq_true q108; have ea_ := Option.some.inj (hx106_0.symm.trans hx108_0); injection ea_ with ea_ en_ ec_; subst ea_; subst ec_; clear en_; have ea_ := Option.some.inj (hx106_2.symm.trans hx108_2); injection ea_ with ea_ en_ ec_; subst ea_; subst ec_; clear en_) | (go_at_call 101; (with_reducible refine (netlabref33_words.calls k1 _ _ ((rd_T42 l1 x6_1).f2) t109 _ ?side1 ?side2 A10.out).mono ?_); (case side1 => repeat (first | exact HR108_2.out | (with_reducible refine Kd.C_alloc ?_ _) | (with_reducible refine Kd.C_drewN ?_ _) | (with_reducible refine Kd.C_drew ?_))); (case side2 => exact HC108_2.out); rintro e w' ⟨rfl, ⟨nd, rfl⟩⟩; (try first | exact ⟨rfl, _, World.drewN_drewN _ _ _⟩ | exact ⟨rfl, _, Eq.trans (World.drewN_drewN _ _ _) (congrArg (World.drewN _) (Nat.add_assoc _ _ _))⟩))))
          go_roundg k1
          case measure => have := HK1.out; omega
          case rel => exact ⟨(x0_1), ((((x5_1 ++ t107) ++ (⟨#[32, 100, 32]⟩ : ByteArray)) ++ t109) ++ (⟨#[10]⟩ : ByteArray)), (wrap64 (x6_1 + 1)), (by first | rfl | (simp; done) | (simp [*]; done)), (by first | rfl | (simp; done) | (simp [*]; done)), (by first | rfl | (simp; done) | (simp [*]; done)), H', ⟨by have := HK1.out; omega⟩, by repeat (first | exact Drawn0.refl _ | apply Drawn0.step)⟩
         ·rw [if_neg c12] at H
          exact absurd H (by simp)
        ·rw [if_neg c11] at H
         exact absurd H (by simp)
       ·rw [if_neg c9] at H
        exact absurd H (by simp)
      ·rw [if_neg c8] at H
       exact absurd H (by simp)
     ·replace c6 := Bool.eq_false_iff.mpr c6
      subst c6
      have H1 : ((netlabref32_Digits.f k1 (wrap64 (x0_1 + 1))).bind fun t110 => (if x5_1.size + t110.size ≤ 9223372036854775807 then (if (x5_1 ++ t110).size + 1 ≤ 9223372036854775807 then ((netlabref33_words.f k1 ((rd_T42 l1 x6_1).f0)).bind fun t112 => (if ((x5_1 ++ t110) ++ (⟨#[32]⟩ : ByteArray)).size + t112.size ≤ 9223372036854775807 then (if (((x5_1 ++ t110) ++ (⟨#[32]⟩ : ByteArray)) ++ t112).size + 1 ≤ 9223372036854775807 then ((netlabref33_words.f k1 ((rd_T42 l1 x6_1).f2)).bind fun t114 => (if ((((x5_1 ++ t110) ++ (⟨#[32]⟩ : ByteArray)) ++ t112) ++ (⟨#[32]⟩ : ByteArray)).size + t114.size ≤ 9223372036854775807 then (if (((((x5_1 ++ t110) ++ (⟨#[32]⟩ : ByteArray)) ++ t112) ++ (⟨#[32]⟩ : ByteArray)) ++ t114).size + 1 ≤ 9223372036854775807 then (netlabref33_Text.l0 k1 (wrap64 (x0_1 + 1)) l1 ((((((x5_1 ++ t110) ++ (⟨#[32]⟩ : ByteArray)) ++ t112) ++ (⟨#[32]⟩ : ByteArray)) ++ t114) ++ (⟨#[10]⟩ : ByteArray)) (wrap64 (x6_1 + 1))) else (none)) else (none))) else (none)) else (none))) else (none)) else (none))) = some r := by rw [if_neg (show ¬ (false = true) by decide)] at H; exact H
      clear H
      have H := H1
      clear H1
      replace H := Option.bind_eq_some_iff.mp H
      obtain ⟨t110, A130, H⟩ := H
      replace H : (if x5_1.size + t110.size ≤ 9223372036854775807 then (if (x5_1 ++ t110).size + 1 ≤ 9223372036854775807 then ((netlabref33_words.f k1 ((rd_T42 l1 x6_1).f0)).bind fun t112 => (if ((x5_1 ++ t110) ++ (⟨#[32]⟩ : ByteArray)).size + t112.size ≤ 9223372036854775807 then (if (((x5_1 ++ t110) ++ (⟨#[32]⟩ : ByteArray)) ++ t112).size + 1 ≤ 9223372036854775807 then ((netlabref33_words.f k1 ((rd_T42 l1 x6_1).f2)).bind fun t114 => (if ((((x5_1 ++ t110) ++ (⟨#[32]⟩ : ByteArray)) ++ t112) ++ (⟨#[32]⟩ : ByteArray)).size + t114.size ≤ 9223372036854775807 then (if (((((x5_1 ++ t110) ++ (⟨#[32]⟩ : ByteArray)) ++ t112) ++ (⟨#[32]⟩ : ByteArray)) ++ t114).size + 1 ≤ 9223372036854775807 then (netlabref33_Text.l0 k1 (wrap64 (x0_1 + 1)) l1 ((((((x5_1 ++ t110) ++ (⟨#[32]⟩ : ByteArray)) ++ t112) ++ (⟨#[32]⟩ : ByteArray)) ++ t114) ++ (⟨#[10]⟩ : ByteArray)) (wrap64 (x6_1 + 1))) else (none)) else (none))) else (none)) else (none))) else (none)) else (none)) = some r := H
      have A13 := Az.mk A130
      clear A130
      by_cases c14 : x5_1.size + t110.size ≤ 9223372036854775807
      ·rw [if_pos c14] at H
       have c14b0 := eq_true c14
       have c14b1 : decide (x5_1.size + t110.size ≤ 9223372036854775807) = true := decide_eq_true c14
       try have c14b2 : (9223372036854775807 < x5_1.size + t110.size) = False := eq_false (Nat.not_lt.2 c14)
       by_cases c15 : (x5_1 ++ t110).size + 1 ≤ 9223372036854775807
       ·rw [if_pos c15] at H
        have c15b0 := eq_true c15
        have c15b7 := c15
        try simp only [ByteArray.size_append] at c15b7
        try have c15b6 := eq_false (Nat.not_lt.2 c15b7)
        try have c15b5 := decide_eq_true c15b7
        have c15b1 : decide ((x5_1 ++ t110).size + 1 ≤ 9223372036854775807) = true := decide_eq_true c15
        try have c15b2 : (9223372036854775807 < (x5_1 ++ t110).size + 1) = False := eq_false (Nat.not_lt.2 c15)
        replace H := Option.bind_eq_some_iff.mp H
        obtain ⟨t112, A160, H⟩ := H
        replace H : (if ((x5_1 ++ t110) ++ (⟨#[32]⟩ : ByteArray)).size + t112.size ≤ 9223372036854775807 then (if (((x5_1 ++ t110) ++ (⟨#[32]⟩ : ByteArray)) ++ t112).size + 1 ≤ 9223372036854775807 then ((netlabref33_words.f k1 ((rd_T42 l1 x6_1).f2)).bind fun t114 => (if ((((x5_1 ++ t110) ++ (⟨#[32]⟩ : ByteArray)) ++ t112) ++ (⟨#[32]⟩ : ByteArray)).size + t114.size ≤ 9223372036854775807 then (if (((((x5_1 ++ t110) ++ (⟨#[32]⟩ : ByteArray)) ++ t112) ++ (⟨#[32]⟩ : ByteArray)) ++ t114).size + 1 ≤ 9223372036854775807 then (netlabref33_Text.l0 k1 (wrap64 (x0_1 + 1)) l1 ((((((x5_1 ++ t110) ++ (⟨#[32]⟩ : ByteArray)) ++ t112) ++ (⟨#[32]⟩ : ByteArray)) ++ t114) ++ (⟨#[10]⟩ : ByteArray)) (wrap64 (x6_1 + 1))) else (none)) else (none))) else (none)) else (none)) = some r := H
        have A16 := Az.mk A160
        clear A160
        by_cases c17 : ((x5_1 ++ t110) ++ (⟨#[32]⟩ : ByteArray)).size + t112.size ≤ 9223372036854775807
        ·rw [if_pos c17] at H
         have c17b0 := eq_true c17
         have c17b7 := c17
         try simp only [ByteArray.size_append, show (⟨#[32]⟩ : ByteArray).size = 1 from rfl] at c17b7
         try have c17b6 := eq_false (Nat.not_lt.2 c17b7)
         try have c17b5 := decide_eq_true c17b7
         have c17b1 : decide (((x5_1 ++ t110) ++ (⟨#[32]⟩ : ByteArray)).size + t112.size ≤ 9223372036854775807) = true := decide_eq_true c17
         try have c17b2 : (9223372036854775807 < ((x5_1 ++ t110) ++ (⟨#[32]⟩ : ByteArray)).size + t112.size) = False := eq_false (Nat.not_lt.2 c17)
         by_cases c18 : (((x5_1 ++ t110) ++ (⟨#[32]⟩ : ByteArray)) ++ t112).size + 1 ≤ 9223372036854775807
         ·rw [if_pos c18] at H
          have c18b0 := eq_true c18
          have c18b7 := c18
          try simp only [ByteArray.size_append, show (⟨#[32]⟩ : ByteArray).size = 1 from rfl] at c18b7
          try have c18b6 := eq_false (Nat.not_lt.2 c18b7)
          try have c18b5 := decide_eq_true c18b7
          have c18b1 : decide ((((x5_1 ++ t110) ++ (⟨#[32]⟩ : ByteArray)) ++ t112).size + 1 ≤ 9223372036854775807) = true := decide_eq_true c18
          try have c18b2 : (9223372036854775807 < (((x5_1 ++ t110) ++ (⟨#[32]⟩ : ByteArray)) ++ t112).size + 1) = False := eq_false (Nat.not_lt.2 c18)
          replace H := Option.bind_eq_some_iff.mp H
          obtain ⟨t114, A190, H⟩ := H
          replace H : (if ((((x5_1 ++ t110) ++ (⟨#[32]⟩ : ByteArray)) ++ t112) ++ (⟨#[32]⟩ : ByteArray)).size + t114.size ≤ 9223372036854775807 then (if (((((x5_1 ++ t110) ++ (⟨#[32]⟩ : ByteArray)) ++ t112) ++ (⟨#[32]⟩ : ByteArray)) ++ t114).size + 1 ≤ 9223372036854775807 then (netlabref33_Text.l0 k1 (wrap64 (x0_1 + 1)) l1 ((((((x5_1 ++ t110) ++ (⟨#[32]⟩ : ByteArray)) ++ t112) ++ (⟨#[32]⟩ : ByteArray)) ++ t114) ++ (⟨#[10]⟩ : ByteArray)) (wrap64 (x6_1 + 1))) else (none)) else (none)) = some r := H
          have A19 := Az.mk A190
          clear A190
          by_cases c20 : ((((x5_1 ++ t110) ++ (⟨#[32]⟩ : ByteArray)) ++ t112) ++ (⟨#[32]⟩ : ByteArray)).size + t114.size ≤ 9223372036854775807
          ·rw [if_pos c20] at H
           have c20b0 := eq_true c20
           have c20b7 := c20
           try simp only [ByteArray.size_append, show (⟨#[32]⟩ : ByteArray).size = 1 from rfl] at c20b7
           try have c20b6 := eq_false (Nat.not_lt.2 c20b7)
           try have c20b5 := decide_eq_true c20b7
           have c20b1 : decide (((((x5_1 ++ t110) ++ (⟨#[32]⟩ : ByteArray)) ++ t112) ++ (⟨#[32]⟩ : ByteArray)).size + t114.size ≤ 9223372036854775807) = true := decide_eq_true c20
           try have c20b2 : (9223372036854775807 < ((((x5_1 ++ t110) ++ (⟨#[32]⟩ : ByteArray)) ++ t112) ++ (⟨#[32]⟩ : ByteArray)).size + t114.size) = False := eq_false (Nat.not_lt.2 c20)
           by_cases c21 : (((((x5_1 ++ t110) ++ (⟨#[32]⟩ : ByteArray)) ++ t112) ++ (⟨#[32]⟩ : ByteArray)) ++ t114).size + 1 ≤ 9223372036854775807
           ·rw [if_pos c21] at H
            have c21b0 := eq_true c21
            have c21b7 := c21
            try simp only [ByteArray.size_append, show (⟨#[32]⟩ : ByteArray).size = 1 from rfl] at c21b7
            try have c21b6 := eq_false (Nat.not_lt.2 c21b7)
            try have c21b5 := decide_eq_true c21b7
            have c21b1 : decide ((((((x5_1 ++ t110) ++ (⟨#[32]⟩ : ByteArray)) ++ t112) ++ (⟨#[32]⟩ : ByteArray)) ++ t114).size + 1 ≤ 9223372036854775807) = true := decide_eq_true c21
            try have c21b2 : (9223372036854775807 < (((((x5_1 ++ t110) ++ (⟨#[32]⟩ : ByteArray)) ++ t112) ++ (⟨#[32]⟩ : ByteArray)) ++ t114).size + 1) = False := eq_false (Nat.not_lt.2 c21)
            have H' := Az.mk H
            clear H
            have p106 : 0 ≤ (x6_1 : Int) := of_decide_eq_true (by assumption)
            have q106 : x6_1 < (l1.length : Int) := of_decide_eq_true (by assumption)
            obtain ⟨ad106, A106_0, c106_0, A106_2, c106_2, e106, hx106_0, hx106_1, hx106_2, hl106_0, hi106_0, hl106_2, hi106_2⟩ := at_T42 HR1.out x6_1 p106 q106
            (try rw [← Nbq5.out] at hx106_1)
            cases e106
            have HR106_0 := Az.mk hi106_0
            have HC106_0 := Az.mk hl106_0
            clear hi106_0 hl106_0
            have HR106_2 := Az.mk hi106_2
            have HC106_2 := Az.mk hl106_2
            clear hi106_2 hl106_2
            replace p106 := eq_true p106
            replace q106 := eq_true q106
            go_wp2_with (first | (go_at_call 100; (with_reducible refine (netlabref32_Digits.calls k1 (wrap64 (x0_1 + 1)) t110 _ A13.out).mono ?_); rintro e w' ⟨rfl, ⟨nd, rfl⟩⟩; (try first | exact ⟨rfl, _, World.drewN_drewN _ _ _⟩ | exact ⟨rfl, _, Eq.trans (World.drewN_drewN _ _ _) (congrArg (World.drewN _) (Nat.add_assoc _ _ _))⟩); have p111 : 0 ≤ (x6_1 : Int) := of_decide_eq_true (by assumption); have q111 : x6_1 < (l1.length : Int) := of_decide_eq_true (by assumption); obtain ⟨ad111, A111_0, c111_0, A111_2, c111_2, e111, hx111_0, hx111_1, hx111_2, hl111_0, hi111_0, hl111_2, hi111_2⟩ := at_T42 HR1.out x6_1 p111 q111; (try rw [← Nbq5.out] at hx111_1); obtain rfl : ad106 = ad111 := (by injection e111); have HR111_0 := Az.mk hi111_0; have HC111_0 := Az.mk hl111_0; clear hi111_0 hl111_0; have HR111_2 := Az.mk hi111_2; have HC111_2 := Az.mk hl111_2; clear hi111_2 hl111_2; replace p111 := eq_true p111; replace q111 := eq_true q111; have ea_ := Option.some.inj (hx106_0.symm.trans hx111_0); injection ea_ with ea_ en_ ec_; subst ea_; subst ec_; clear en_; have ea_ := Option.some.inj (hx106_2.symm.trans hx111_2); injection ea_ with ea_ en_ ec_; subst ea_; subst ec_; clear en_) | (go_at_call 101; (with_reducible refine (netlabref33_words.calls k1 _ _ ((rd_T42 l1 x6_1).f0) t112 _ ?side1 ?side2 A16.out).mono ?_); (case side1 => repeat (first | exact HR111_0.out | (with_reducible refine Kd.C_alloc ?_ _) | (with_reducible refine Kd.C_drewN ?_ _) | (with_reducible refine Kd.C_drew ?_))); (case side2 => exact HC111_0.out); rintro e w' ⟨rfl, ⟨nd, rfl⟩⟩; (try first | exact ⟨rfl, _, World.drewN_drewN _ _ _⟩ | exact ⟨rfl, _, Eq.trans (World.drewN_drewN _ _ _) (congrArg (World.drewN _) (Nat.add_assoc _ _ _))⟩); have p113 : 0 ≤ (x6_1 : Int) := of_decide_eq_true (by assumption); have q113 : x6_1 < (l1.length : Int) := of_decide_eq_true (by assumption); obtain ⟨ad113, A113_0, c113_0, A113_2, c113_2, e113, hx113_0, hx113_1, hx113_2, hl113_0, hi113_0, hl113_2, hi113_2⟩ := at_T42 HR1.out x6_1 p113 q113; (try rw [← Nbq5.out] at hx113_1); obtain rfl : ad106 = ad113 := (by injection e113); have HR113_0 := Az.mk hi113_0; have HC113_0 := Az.mk hl113_0; clear hi113_0 hl113_0; have HR113_2 := Az.mk hi113_2; have HC113_2 := Az.mk hl113_2; clear hi113_2 hl113_2; replace p113 := eq_true p113; replace q113 := eq_true q113; have ea_ := Option.some.inj (hx106_0.symm.trans hx113_0); injection ea_ with ea_ en_ ec_; subst ea_; subst ec_; clear en_; have ea_ := Option.some.inj (hx106_2.symm.trans hx113_2); injection ea_ with ea_ en_ ec_; subst ea_; subst ec_; clear en_) | (go_at_call 101; (with_reducible refine (netlabref33_words.calls k1 _ _ ((rd_T42 l1 x6_1).f2) t114 _ ?side1 ?side2 A19.out).mono ?_); (case side1 => repeat (first | exact HR113_2.out | (with_reducible refine Kd.C_alloc ?_ _) | (with_reducible refine Kd.C_drewN ?_ _) | (with_reducible refine Kd.C_drew ?_))); (case side2 => exact HC113_2.out); rintro e w' ⟨rfl, ⟨nd, rfl⟩⟩; (try first | exact ⟨rfl, _, World.drewN_drewN _ _ _⟩ | exact ⟨rfl, _, Eq.trans (World.drewN_drewN _ _ _) (congrArg (World.drewN _) (Nat.add_assoc _ _ _))⟩)))
            repeat (go_quiet (first | (go_at_call 100; (with_reducible refine (netlabref32_Digits.calls k1 (wrap64 (x0_1 + 1)) t110 _ A13.out).mono ?_); rintro e w' ⟨rfl, ⟨nd, rfl⟩⟩; (try first | exact ⟨rfl, _, World.drewN_drewN _ _ _⟩ | exact ⟨rfl, _, Eq.trans (World.drewN_drewN _ _ _) (congrArg (World.drewN _) (Nat.add_assoc _ _ _))⟩); have p111 : 0 ≤ (x6_1 : Int) := of_decide_eq_true (by assumption); have q111 : x6_1 < (l1.length : Int) := of_decide_eq_true (by assumption); obtain ⟨ad111, A111_0, c111_0, A111_2, c111_2, e111, hx111_0, hx111_1, hx111_2, hl111_0, hi111_0, hl111_2, hi111_2⟩ := at_T42 HR1.out x6_1 p111 q111; (try rw [← Nbq5.out] at hx111_1); obtain rfl : ad106 = ad111 := (by injection e111); have HR111_0 := Az.mk hi111_0; have HC111_0 := Az.mk hl111_0; clear hi111_0 hl111_0; have HR111_2 := Az.mk hi111_2; have HC111_2 := Az.mk hl111_2; clear hi111_2 hl111_2; replace p111 := eq_true p111; replace q111 := eq_true q111; have ea_ := Option.some.inj (hx106_0.symm.trans hx111_0); injection ea_ with ea_ en_ ec_; subst ea_; subst ec_; clear en_; have ea_ := Option.some.inj (hx106_2.symm.trans hx111_2); injection ea_ with ea_ en_ ec_; subst ea_; subst ec_; clear en_) | (go_at_call 101; (with_reducible refine (netlabref33_words.calls k1 _ _ ((rd_T42 l1 x6_1).f0) t112 _ ?side1 ?side2 A16.out).mono ?_); (case side1 => repeat (first | exact HR111_0.out | (with_reducible refine Kd.C_alloc ?_ _) | (with_reducible refine Kd.C_drewN ?_ _) | (with_reducible refine Kd.C_drew ?_))); (case side2 => exact HC111_0.out); rintro e w' ⟨rfl, ⟨nd, rfl⟩⟩; (try first | exact ⟨rfl, _, World.drewN_drewN _ _ _⟩ | exact ⟨rfl, _, Eq.trans (World.drewN_drewN _ _ _) (congrArg (World.drewN _) (Nat.add_assoc _ _ _))⟩); have p113 : 0 ≤ (x6_1 : Int) := of_decide_eq_true (by assumption); have q113 : x6_1 < (l1.length : Int) := of_decide_eq_true (by assumption); obtain ⟨ad113, A113_0, c113_0, A113_2, c113_2, e113, hx113_0, hx113_1, hx113_2, hl113_0, hi113_0, hl113_2, hi113_2⟩ := at_T42 HR1.out x6_1 p113 q113; (try rw [← Nbq5.out] at hx113_1); obtain rfl : ad106 = ad113 := (by injection e113); have HR113_0 := Az.mk hi113_0; have HC113_0 := Az.mk hl113_0; clear hi113_0 hl113_0; have HR113_2 := Az.mk hi113_2; have HC113_2 := Az.mk hl113_2; clear hi113_2 hl113_2; replace p113 := eq_true p113; replace q113 := eq_true q113; have ea_ := Option.some.inj (hx106_0.symm.trans hx113_0); injection ea_ with ea_ en_ ec_; subst ea_; subst ec_; clear en_; have ea_ := Option.some.inj (hx106_2.symm.trans hx113_2); injection ea_ with ea_ en_ ec_; subst ea_; subst ec_; clear en_) | (go_at_call 101; (with_reducible refine (netlabref33_words.calls k1 _ _ ((rd_T42 l1 x6_1).f2) t114 _ ?side1 ?side2 A19.out).mono ?_); (case side1 => repeat (first | exact HR113_2.out | (with_reducible refine Kd.C_alloc ?_ _) | (with_reducible refine Kd.C_drewN ?_ _) | (with_reducible refine Kd.C_drew ?_))); (case side2 => exact HC113_2.out); rintro e w' ⟨rfl, ⟨nd, rfl⟩⟩; (try first | exact ⟨rfl, _, World.drewN_drewN _ _ _⟩ | exact ⟨rfl, _, Eq.trans (World.drewN_drewN _ _ _) (congrArg (World.drewN _) (Nat.add_assoc _ _ _))⟩))); try go_wp2_with (first | (go_at_call 100; (with_reducible refine (netlabref32_Digits.calls k1 (wrap64 (x0_1 + 1)) t110 _ A13.out).mono ?_); rintro e w' ⟨rfl, ⟨nd, rfl⟩⟩; (try first | exact ⟨rfl, _, World.drewN_drewN _ _ _⟩ | exact ⟨rfl, _, Eq.trans (World.drewN_drewN _ _ _) (congrArg (World.drewN _) (Nat.add_assoc _ _ _))⟩); have p111 : 0 ≤ (x6_1 : Int) := of_decide_eq_true (by assumption); have q111 : x6_1 < (l1.length : Int) := of_decide_eq_true (by assumption); obtain ⟨ad111, A111_0, c111_0, A111_2, c111_2, e111, hx111_0, hx111_1, hx111_2, hl111_0, hi111_0, hl111_2, hi111_2⟩ := at_T42 HR1.out x6_1 p111 q111; (try rw [← Nbq5.out] at hx111_1); obtain rfl : ad106 = ad111 := (by injection e111); have HR111_0 := Az.mk hi111_0; have HC111_0 := Az.mk hl111_0; clear hi111_0 hl111_0; have HR111_2 := Az.mk hi111_2; have HC111_2 := Az.mk hl111_2; clear hi111_2 hl111_2; replace p111 := eq_true p111; replace q111 := eq_true q111; have ea_ := Option.some.inj (hx106_0.symm.trans hx111_0); injection ea_ with ea_ en_ ec_; subst ea_; subst ec_; clear en_; have ea_ := Option.some.inj (hx106_2.symm.trans hx111_2); injection ea_ with ea_ en_ ec_; subst ea_; subst ec_; clear en_) | (go_at_call 101; (with_reducible refine (netlabref33_words.calls k1 _ _ ((rd_T42 l1 x6_1).f0) t112 _ ?side1 ?side2 A16.out).mono ?_); (case side1 => repeat (first | exact HR111_0.out | (with_reducible refine Kd.C_alloc ?_ _) | (with_reducible refine Kd.C_drewN ?_ _) | (with_reducible refine Kd.C_drew ?_))); (case side2 => exact HC111_0.out); rintro e w' ⟨rfl, ⟨nd, rfl⟩⟩; (try first | exact ⟨rfl, _, World.drewN_drewN _ _ _⟩ | exact ⟨rfl, _, Eq.trans (World.drewN_drewN _ _ _) (congrArg (World.drewN _) (Nat.add_assoc _ _ _))⟩); have p113 : 0 ≤ (x6_1 : Int) := of_decide_eq_true (by assumption); have q113 : x6_1 < (l1.length : Int) := of_decide_eq_true (by assumption); obtain ⟨ad113, A113_0, c113_0, A113_2, c113_2, e113, hx113_0, hx113_1, hx113_2, hl113_0, hi113_0, hl113_2, hi113_2⟩ := at_T42 HR1.out x6_1 p113 q113; (try rw [← Nbq5.out] at hx113_1); obtain rfl : ad106 = ad113 := (by injection e113); have HR113_0 := Az.mk hi113_0; have HC113_0 := Az.mk hl113_0; clear hi113_0 hl113_0; have HR113_2 := Az.mk hi113_2; have HC113_2 := Az.mk hl113_2; clear hi113_2 hl113_2; replace p113 := eq_true p113; replace q113 := eq_true q113; have ea_ := Option.some.inj (hx106_0.symm.trans hx113_0); injection ea_ with ea_ en_ ec_; subst ea_; subst ec_; clear en_; have ea_ := Option.some.inj (hx106_2.symm.trans hx113_2); injection ea_ with ea_ en_ ec_; subst ea_; subst ec_; clear en_) | (go_at_call 101; (with_reducible refine (netlabref33_words.calls k1 _ _ ((rd_T42 l1 x6_1).f2) t114 _ ?side1 ?side2 A19.out).mono ?_); (case side1 => repeat (first | exact HR113_2.out | (with_reducible refine Kd.C_alloc ?_ _) | (with_reducible refine Kd.C_drewN ?_ _) | (with_reducible refine Kd.C_drew ?_))); (case side2 => exact HC113_2.out); rintro e w' ⟨rfl, ⟨nd, rfl⟩⟩; (try first | exact ⟨rfl, _, World.drewN_drewN _ _ _⟩ | exact ⟨rfl, _, Eq.trans (World.drewN_drewN _ _ _) (congrArg (World.drewN _) (Nat.add_assoc _ _ _))⟩))))
            go_roundg k1
            case measure => have := HK1.out; omega
            case rel => exact ⟨(wrap64 (x0_1 + 1)), ((((((x5_1 ++ t110) ++ (⟨#[32]⟩ : ByteArray)) ++ t112) ++ (⟨#[32]⟩ : ByteArray)) ++ t114) ++ (⟨#[10]⟩ : ByteArray)), (wrap64 (x6_1 + 1)), (by first | rfl | (simp; done) | (simp [*]; done)), (by first | rfl | (simp; done) | (simp [*]; done)), (by first | rfl | (simp; done) | (simp [*]; done)), H', ⟨by have := HK1.out; omega⟩, by repeat (first | exact Drawn0.refl _ | apply Drawn0.step)⟩
           ·rw [if_neg c21] at H
            exact absurd H (by simp)
          ·rw [if_neg c20] at H
           exact absurd H (by simp)
         ·rw [if_neg c18] at H
          exact absurd H (by simp)
        ·rw [if_neg c17] at H
         exact absurd H (by simp)
       ·rw [if_neg c15] at H
        exact absurd H (by simp)
      ·rw [if_neg c14] at H
       exact absurd H (by simp)
    ·rw [if_neg c4] at H
     exact absurd H (by simp)
   ·rw [if_neg c3] at H
    have c3b0 : decide (x6_1 < (l1.length : Int)) = false := decide_eq_false c3
    clear c3
    obtain rfl := Option.some.inj H
    go_wp2
    repeat (go_quiet (fail); try go_wp2)
    go_ret
    exact ⟨by first | rfl | (simp; done) | (simp [*]; done), by repeat (first | exact Drawn0.refl _ | apply Drawn0.step)⟩
def netlabref33_Format.j0 : Nat → Int → List (S42) → Bool → Option (ByteArray × Int)
 | 0, _, _, _ => none
 | k + 1, x0, x1, x12 => if x12 = true then (some ((⟨#[]⟩ : ByteArray), 1)) else ((netlabref33_Text.f k x0 x1).bind fun t115 => (if (t115.size : Int) > 65536 then (some ((⟨#[]⟩ : ByteArray), 5)) else (some (t115, 0))))
def netlabref33_Format.f (k : Nat) (a0 : Int) (l1 : List (S42)) : Option (ByteArray × Int) := if a0 < 0 then (netlabref33_Format.j0 k a0 l1 true) else (netlabref33_Format.j0 k a0 l1 (decide (a0 > 16384)))
theorem netlabref33_Format.calls (k : Nat) (a0 : Int) (A1 : Option Addr) (c1 : Nat) (l1 : List (S42)) (r1 : ByteArray) (r2 : Int) (w : World) (hr1 : Kd.C k42 w A1 l1.length l1) (hc1 : l1.length ≤ c1) (h : netlabref33_Format.f k a0 l1 = some (r1, r2)) :
  Calls Tryz.prog 26 #[.int .i64 a0, .slice A1 l1.length c1] w fun e w' => e = .returned (.tuple #[.string r1, .int .i64 r2]) ∧ Drawn0 w w' := by
 have HR1 := Az.mk hr1
 have HC1 := Az.mk hc1
 clear hr1 hc1
 have H : (if a0 < 0 then (netlabref33_Format.j0 k a0 l1 true) else (netlabref33_Format.j0 k a0 l1 (decide (a0 > 16384)))) = some (r1, r2) := h
 clear h
 have HC3 := Az.mk H
 clear H
 go_enter Tryz.func26, Tryz.ntmps26
 go_upto_region 1 with (fail)
 go_cut [12] (fun v12 wc => ∃ (kq : Nat) (x12_2 : Bool), v12 = .bool x12_2 ∧ Az (netlabref33_Format.j0 kq a0 l1 x12_2 = some (r1, r2)) ∧ Az (kq ≤ k) ∧ Drawn0 w wc)
 case first =>
  have H := HC3.out
  clear HC3
  by_cases c4 : a0 < 0
  ·rw [if_pos c4] at H
   have c4b0 : decide (a0 < 0) = true := decide_eq_true c4
   clear c4
   (first | rw [c4b0] | (simp only [iw, jw]; rw [c4b0]) | skip)
   have H' := Az.mk H
   clear H
   go_wp2
   go_meet
   case rel => exact ⟨_, (true), (by first | rfl | (simp; done) | (simp [*]; done)), H', ⟨by first | omega | exact Nat.le_refl _⟩, by repeat (first | exact Drawn0.refl _ | apply Drawn0.step)⟩
  ·rw [if_neg c4] at H
   have c4b0 : decide (a0 < 0) = false := decide_eq_false c4
   clear c4
   (first | rw [c4b0] | (simp only [iw, jw]; rw [c4b0]) | skip)
   have H' := Az.mk H
   clear H
   go_wp2
   go_meet
   case rel => exact ⟨_, (decide (a0 > 16384)), (by first | rfl | (simp; done) | (simp [*]; done)), H', ⟨by first | omega | exact Nat.le_refl _⟩, by repeat (first | exact Drawn0.refl _ | apply Drawn0.step)⟩
 case rest =>
  clear HC3
  try clear c1
  try clear c2
  try clear p2
  try clear c4
  try clear c4b0
  obtain ⟨kq, x12_2, rfl, HA, HJ2, ⟨mc2, rfl⟩⟩ := hcut
  cases kq with
  | zero => exact absurd HA.out (by simp [netlabref33_Format.j0])
  | succ kj2 =>
   have H := HA.out
   clear HA
   simp only [netlabref33_Format.j0] at H
   by_cases c5 : x12_2 = true
   ·subst c5
    have H1 : (some ((⟨#[]⟩ : ByteArray), 1)) = some (r1, r2) := by rw [if_pos rfl] at H; exact H
    clear H
    have H := H1
    clear H1
    simp only [Option.some.injEq, Prod.mk.injEq] at H
    obtain ⟨rfl, rfl⟩ := H
    go_wp2
    go_ret2
    exact ⟨by first | rfl | (simp; done) | (simp [*]; done), by repeat (first | exact Drawn0.refl _ | apply Drawn0.step)⟩
   ·replace c5 := Bool.eq_false_iff.mpr c5
    subst c5
    have H1 : ((netlabref33_Text.f kj2 a0 l1).bind fun t115 => (if (t115.size : Int) > 65536 then (some ((⟨#[]⟩ : ByteArray), 5)) else (some (t115, 0)))) = some (r1, r2) := by rw [if_neg (show ¬ (false = true) by decide)] at H; exact H
    clear H
    have H := H1
    clear H1
    replace H := Option.bind_eq_some_iff.mp H
    obtain ⟨t115, A60, H⟩ := H
    replace H : (if (t115.size : Int) > 65536 then (some ((⟨#[]⟩ : ByteArray), 5)) else (some (t115, 0))) = some (r1, r2) := H
    have A6 := Az.mk A60
    clear A60
    by_cases c7 : (t115.size : Int) > 65536
    ·rw [if_pos c7] at H
     have c7b0 : decide (65536 < (t115.size : Int)) = true := decide_eq_true c7
     have c7b1 : decide (65536 < t115.size) = true := decide_eq_true (by omega)
     clear c7
     simp only [Option.some.injEq, Prod.mk.injEq] at H
     obtain ⟨rfl, rfl⟩ := H
     go_wp2_with (first | ((with_reducible refine gate_callee (f := 67) rfl ?_); refine goesL_ (some 15) rfl rfl Tryz.func67 (by kernel_rfl) rfl #[.int .i64 a0, .slice A1 l1.length c1] rfl (by (try simp only [List.map_toArray, List.map_cons, List.map_nil]); first | done | rfl | (simp only [List.length_drop, List.length_take]; rfl)) ?_; (with_reducible refine (netlabref33_Text.calls kj2 a0 _ _ l1 t115 _ ?side1 ?side2 A6.out).mono ?_); (case side1 => repeat (first | exact HR1.out | (with_reducible refine Kd.C_alloc ?_ _) | (with_reducible refine Kd.C_drewN ?_ _) | (with_reducible refine Kd.C_drew ?_))); (case side2 => exact HC1.out); rintro e w' ⟨rfl, ⟨nd, rfl⟩⟩; refine ⟨_, rfl, ?_⟩))
     go_ret2
     exact ⟨by first | rfl | (simp; done) | (simp [*]; done), by repeat (first | exact Drawn0.refl _ | apply Drawn0.step)⟩
    ·rw [if_neg c7] at H
     have c7b0 : decide (65536 < (t115.size : Int)) = false := decide_eq_false c7
     have c7b1 : decide (65536 < t115.size) = false := decide_eq_false (by omega)
     clear c7
     simp only [Option.some.injEq, Prod.mk.injEq] at H
     obtain ⟨rfl, rfl⟩ := H
     go_wp2_with (first | ((with_reducible refine gate_callee (f := 67) rfl ?_); refine goesL_ (some 15) rfl rfl Tryz.func67 (by kernel_rfl) rfl #[.int .i64 a0, .slice A1 l1.length c1] rfl (by (try simp only [List.map_toArray, List.map_cons, List.map_nil]); first | done | rfl | (simp only [List.length_drop, List.length_take]; rfl)) ?_; (with_reducible refine (netlabref33_Text.calls kj2 a0 _ _ l1 t115 _ ?side1 ?side2 A6.out).mono ?_); (case side1 => repeat (first | exact HR1.out | (with_reducible refine Kd.C_alloc ?_ _) | (with_reducible refine Kd.C_drewN ?_ _) | (with_reducible refine Kd.C_drew ?_))); (case side2 => exact HC1.out); rintro e w' ⟨rfl, ⟨nd, rfl⟩⟩; refine ⟨_, rfl, ?_⟩))
     go_ret2
     exact ⟨by first | rfl | (simp; done) | (simp [*]; done), by repeat (first | exact Drawn0.refl _ | apply Drawn0.step)⟩
end Go.Proofs.YtogicccdngpafaaGreatDoor.PRFmt
end
section
set_option maxRecDepth 100000
namespace Go.Proofs.YtogicccdngpafaaGreatDoor.PFewT
open Go.RowKit QW.PrintWords QW.PrintLast QW.PrintMore
attribute [local go_sem] max2_int min2_int max_two min_two max_three min_three max_four min_four   
def errW : Option Int → Value
 | none => .nilIface
 | some c => .iface 0 (.int .i64 c)
theorem errW_none : errW none = .nilIface := rfl
theorem errW_some (c : Int) : errW (some c) = .iface 0 (.int .i64 c) := rfl
theorem info3 : (Tryz.prog.info? 3).map (fun i => (i.zero, i.size, i.bytes)) = some (some (.int .i64 0), 1, 8) := by kernel_rfl
theorem info42 : (Tryz.prog.info? 42).map (fun i => (i.zero, i.size, i.bytes)) = some (some (.agg #[(.slice none 0 0), (.bool false), (.slice none 0 0)]), 3, 56) := by kernel_rfl
def rL (xs : List (List Int)) (i : Int) : (List Int) := xs.getD i.toNat ([] : List Int)
theorem at_L1 {w : World} {A : Option Addr} {n : Nat} {xs : List (List Int)} (h : Kd.C (Kd.slice 3 (Kd.int .i64)) w A n xs) (i : Int) (h0 : 0 ≤ i) (h1 : i < n) : ∃ ad A0 c0, A = some ad ∧ w.cell? (ad.add i.toNat) = some (.slice A0 (rL xs i).length c0) ∧ (rL xs i).length ≤ c0 ∧ (Kd.int .i64).C w A0 (rL xs i).length (rL xs i) := by
 obtain ⟨ad, c, e, _, hK, hc0⟩ := Kd.C_get h ([] : List Int) i h0 h1
 have hc : ∀ j u, c[j]? = some u → w.cell? (ad.add (i.toNat * 1 + j)) = some u := hc0
 obtain ⟨A0, c0, rfl, l0, g0⟩ := hK
 exact ⟨ad, A0, c0, e, by have hq := hc 0 _ rfl; rwa [Nat.mul_one, Nat.add_zero] at hq, l0, g0⟩
structure S42 where
 f0 : (List Int)
 f1 : Bool
 f2 : (List Int)
def z42 : S42 := ⟨([] : List Int), false, ([] : List Int)⟩
def k42 : Kd S42 := Kd.iso (Kd.pair (Kd.slice 3 (Kd.int .i64)) (Kd.pair Kd.bool (Kd.slice 3 (Kd.int .i64)))) (fun x : S42 => (x.f0, x.f1, x.f2))
theorem k42_open {w : World} {x : S42} {cs : List Value} (h : k42.K w x cs) : ∃ A0 c0 A2 c2, cs = [.slice A0 x.f0.length c0, .bool x.f1, .slice A2 x.f2.length c2] ∧ x.f0.length ≤ c0 ∧ (Kd.int .i64).C w A0 x.f0.length x.f0 ∧ x.f2.length ≤ c2 ∧ (Kd.int .i64).C w A2 x.f2.length x.f2 := by
 obtain ⟨_, _, rfl, ⟨A0, c0, rfl, l0, g0⟩, ⟨_, _, rfl, rfl, ⟨A2, c2, rfl, l2, g2⟩⟩⟩ := h
 exact ⟨A0, c0, A2, c2, rfl, l0, g0, l2, g2⟩
theorem k42_mk (w : World) (x : S42) {A0 : Option Addr} {c0 : Nat} (l0 : x.f0.length ≤ c0) (g0 : (Kd.int .i64).C w A0 x.f0.length x.f0) {A2 : Option Addr} {c2 : Nat} (l2 : x.f2.length ≤ c2) (g2 : (Kd.int .i64).C w A2 x.f2.length x.f2) : k42.K w x [.slice A0 x.f0.length c0, .bool x.f1, .slice A2 x.f2.length c2] := ⟨[.slice A0 x.f0.length c0], [.bool x.f1, .slice A2 x.f2.length c2], rfl, ⟨A0, c0, rfl, l0, g0⟩, ⟨[.bool x.f1], [.slice A2 x.f2.length c2], rfl, rfl, ⟨A2, c2, rfl, l2, g2⟩⟩⟩
theorem k42_mkM (w : World) (base : Nat) (ok : Nat → Prop) (x : S42) {v0 : Value} (g0 : (Kd.int .i64).R 3 w base ok v0 x.f0) {v2 : Value} (g2 : (Kd.int .i64).R 3 w base ok v2 x.f2) : k42.M w base ok x [v0, .bool x.f1, v2] := ⟨[v0], [.bool x.f1, v2], rfl, ⟨v0, rfl, g0⟩, ⟨[.bool x.f1], [v2], rfl, rfl, ⟨v2, rfl, g2⟩⟩⟩
def rd_T42 (xs : List S42) (i : Int) : S42 := xs.getD i.toNat z42
theorem at_T42 {w : World} {A : Option Addr} {n : Nat} {xs : List S42} (h : Kd.C k42 w A n xs) (i : Int) (h0 : 0 ≤ i) (h1 : i < n) : ∃ ad A0 c0 A2 c2, A = some ad ∧ w.cell? (ad.add (i.toNat * 3)) = some (.slice A0 (rd_T42 xs i).f0.length c0) ∧ w.cell? ⟨(ad.add (i.toNat * 3)).block, (ad.add (i.toNat * 3)).off + 1, none⟩ = some (.bool (rd_T42 xs i).f1) ∧ w.cell? ⟨(ad.add (i.toNat * 3)).block, (ad.add (i.toNat * 3)).off + 2, none⟩ = some (.slice A2 (rd_T42 xs i).f2.length c2) ∧ (rd_T42 xs i).f0.length ≤ c0 ∧ (Kd.int .i64).C w A0 (rd_T42 xs i).f0.length (rd_T42 xs i).f0 ∧ (rd_T42 xs i).f2.length ≤ c2 ∧ (Kd.int .i64).C w A2 (rd_T42 xs i).f2.length (rd_T42 xs i).f2 := by
 obtain ⟨ad, c, e, _, hK, hc0⟩ := Kd.C_get h z42 i h0 h1
 have hc : ∀ j u, c[j]? = some u → w.cell? (ad.add (i.toNat * 3 + j)) = some u := hc0
 obtain ⟨A0, c0, A2, c2, rfl, l0, g0, l2, g2⟩ := k42_open hK
 exact ⟨ad, A0, c0, A2, c2, e, hc 0 _ rfl, by rw [← add_field _ _ 1 (by omega)]; exact hc 1 _ rfl, by rw [← add_field _ _ 2 (by omega)]; exact hc 2 _ rfl, l0, g0, l2, g2⟩
end Go.Proofs.YtogicccdngpafaaGreatDoor.PFewT
end
section
set_option maxHeartbeats 8000000
set_option maxRecDepth 100000
namespace Go.Proofs.YtogicccdngpafaaGreatDoor.PSame
open Go.RowKit QW.PrintWords QW.PrintLast QW.PrintMore
attribute [local go_sem] max2_int min2_int max_two min_two max_three min_three max_four min_four   
def netlabref32_EqInts.l0 : Nat → List Int → List Int → Int → Option (Bool)
 | 0, _, _, _ => none
 | k + 1, x0, x1, x5 => if x5 < (x0.length : Int) then (if 0 ≤ x5 then (if x5 < (x1.length : Int) then (if (rd x0 x5) = (rd x1 x5) then (netlabref32_EqInts.l0 k x0 x1 (wrap64 (x5 + 1))) else (some false)) else (none)) else (none)) else (some true)
def netlabref32_EqInts.f (k : Nat) (l0 : List Int) (l1 : List Int) : Option (Bool) := if (l0.length : Int) = (l1.length : Int) then (netlabref32_EqInts.l0 k l0 l1 0) else (some false)
theorem netlabref32_EqInts.calls (k : Nat) (A0 : Option Addr) (c0 : Nat) (l0 : List Int) (A1 : Option Addr) (c1 : Nat) (l1 : List Int) (r : Bool) (w : World) (hr0 : Kd.C (Kd.int .i64) w A0 l0.length l0) (hc0 : l0.length ≤ c0) (hr1 : Kd.C (Kd.int .i64) w A1 l1.length l1) (hc1 : l1.length ≤ c1) (h : netlabref32_EqInts.f k l0 l1 = some r) :
  Calls Tryz.prog 17 #[.slice A0 l0.length c0, .slice A1 l1.length c1] w fun e w' => e = .returned (.bool r) ∧ Drawn0 w w' := by
 have HR0 := Az.mk hr0
 have HC0 := Az.mk hc0
 clear hr0 hc0
 have HR1 := Az.mk hr1
 have HC1 := Az.mk hc1
 clear hr1 hc1
 have H : (if (l0.length : Int) = (l1.length : Int) then (netlabref32_EqInts.l0 k l0 l1 0) else (some false)) = some r := h
 clear h
 by_cases c3 : (l0.length : Int) = (l1.length : Int)
 ·rw [if_pos c3] at H
  have c3b0 : ((l0.length : Int) == (l1.length : Int)) = true := beq_iff_eq.mpr c3
  have c3b1 : ((l0.length : Int) != (l1.length : Int)) = false := bne_eq_false_iff_eq.mpr c3
  have c3b2 : (l0.length == l1.length) = true := by first | simpa using c3 | (simp at c3 ⊢; omega)
  clear c3
  have H' := Az.mk H
  clear H
  go_enter Tryz.func17, Tryz.ntmps17
  go_wp2
  repeat (go_quiet (fail); try go_wp2)
  go_loopg [5] k (fun kq v5 w' => ∃ (x5_1 : Int), v5 = .int .i64 x5_1 ∧ Az (netlabref32_EqInts.l0 kq l0 l1 x5_1 = some r) ∧ Az (kq ≤ k) ∧ Drawn0 w w')
  case atStart => exact ⟨(0), (by first | rfl | (simp; done) | (simp [*]; done)), H', ⟨Nat.le_refl _⟩, by repeat (first | exact Drawn0.refl _ | apply Drawn0.step)⟩
  case round =>
   clear H'
   try clear c1
   try clear p2
   try clear c3
   try clear c3b0
   try clear c3b1
   try clear c3b2
   obtain ⟨x5_1, rfl, HA, HK1, ⟨m1, rfl⟩⟩ := hrel
   cases gk with
   | zero => exact absurd HA.out (by simp [netlabref32_EqInts.l0])
   | succ k1 =>
    have H := HA.out
    clear HA
    simp only [netlabref32_EqInts.l0] at H
    by_cases c4 : x5_1 < (l0.length : Int)
    ·rw [if_pos c4] at H
     have c4b0 : decide (x5_1 < (l0.length : Int)) = true := decide_eq_true c4
     clear c4
     by_cases c5 : 0 ≤ x5_1
     ·rw [if_pos c5] at H
      have c5b0 : decide (0 ≤ x5_1) = true := decide_eq_true c5
      clear c5
      by_cases c6 : x5_1 < (l1.length : Int)
      ·rw [if_pos c6] at H
       have c6b0 : decide (x5_1 < (l1.length : Int)) = true := decide_eq_true c6
       clear c6
       by_cases c7 : (rd l0 x5_1) = (rd l1 x5_1)
       ·rw [if_pos c7] at H
        have c7b0 : ((rd l0 x5_1) == (rd l1 x5_1)) = true := beq_iff_eq.mpr c7
        have c7b1 : ((rd l0 x5_1) != (rd l1 x5_1)) = false := bne_eq_false_iff_eq.mpr c7
        clear c7
        have H' := Az.mk H
        clear H
        have p101 : 0 ≤ (x5_1 : Int) := of_decide_eq_true (by assumption)
        have q101 : x5_1 < (l0.length : Int) := of_decide_eq_true (by assumption)
        obtain ⟨ad101, e101, hx101_0⟩ := Kd.at_int HR0.out x5_1 p101 q101
        cases e101
        replace p101 := eq_true p101
        replace q101 := eq_true q101
        have p102 : 0 ≤ (x5_1 : Int) := of_decide_eq_true (by assumption)
        have q102 : x5_1 < (l1.length : Int) := of_decide_eq_true (by assumption)
        obtain ⟨ad102, e102, hx102_0⟩ := Kd.at_int HR1.out x5_1 p102 q102
        cases e102
        replace p102 := eq_true p102
        replace q102 := eq_true q102
        go_wp2
        repeat (go_quiet (fail); try go_wp2)
        go_roundg k1
        case measure => have := HK1.out; omega
        case rel => exact ⟨(wrap64 (x5_1 + 1)), (by first | rfl | (simp; done) | (simp [*]; done)), H', ⟨by have := HK1.out; omega⟩, by repeat (first | exact Drawn0.refl _ | apply Drawn0.step)⟩
       ·rw [if_neg c7] at H
        have c7b0 : ((rd l0 x5_1) == (rd l1 x5_1)) = false := beq_eq_false_iff_ne.mpr c7
        have c7b1 : ((rd l0 x5_1) != (rd l1 x5_1)) = true := bne_iff_ne.mpr c7
        obtain rfl := Option.some.inj H
        have p101 : 0 ≤ (x5_1 : Int) := of_decide_eq_true (by assumption)
        have q101 : x5_1 < (l0.length : Int) := of_decide_eq_true (by assumption)
        obtain ⟨ad101, e101, hx101_0⟩ := Kd.at_int HR0.out x5_1 p101 q101
        cases e101
        replace p101 := eq_true p101
        replace q101 := eq_true q101
        have p102 : 0 ≤ (x5_1 : Int) := of_decide_eq_true (by assumption)
        have q102 : x5_1 < (l1.length : Int) := of_decide_eq_true (by assumption)
        obtain ⟨ad102, e102, hx102_0⟩ := Kd.at_int HR1.out x5_1 p102 q102
        cases e102
        replace p102 := eq_true p102
        replace q102 := eq_true q102
        go_wp2
        repeat (go_quiet (fail); try go_wp2)
        go_ret
        exact ⟨by first | rfl | (simp; done) | (simp [*]; done), by repeat (first | exact Drawn0.refl _ | apply Drawn0.step)⟩
      ·rw [if_neg c6] at H
       exact absurd H (by simp)
     ·rw [if_neg c5] at H
      exact absurd H (by simp)
    ·rw [if_neg c4] at H
     have c4b0 : decide (x5_1 < (l0.length : Int)) = false := decide_eq_false c4
     clear c4
     obtain rfl := Option.some.inj H
     go_wp2
     repeat (go_quiet (fail); try go_wp2)
     go_ret
     exact ⟨by first | rfl | (simp; done) | (simp [*]; done), by repeat (first | exact Drawn0.refl _ | apply Drawn0.step)⟩
 ·rw [if_neg c3] at H
  have c3b0 : ((l0.length : Int) == (l1.length : Int)) = false := beq_eq_false_iff_ne.mpr c3
  have c3b1 : ((l0.length : Int) != (l1.length : Int)) = true := bne_iff_ne.mpr c3
  have c3b2 : (l0.length == l1.length) = false := by first | simpa using c3 | (simp at c3 ⊢; omega)
  obtain rfl := Option.some.inj H
  go_enter Tryz.func17, Tryz.ntmps17
  go_wp2
  repeat (go_quiet (fail); try go_wp2)
  go_ret
  exact ⟨by first | rfl | (simp; done) | (simp [*]; done), by repeat (first | exact Drawn0.refl _ | apply Drawn0.step)⟩
end Go.Proofs.YtogicccdngpafaaGreatDoor.PSame
end
