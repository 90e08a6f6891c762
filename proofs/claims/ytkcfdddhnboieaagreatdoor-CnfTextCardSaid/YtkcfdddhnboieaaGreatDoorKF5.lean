/-
  Part 5 of the proof of cnfText_card: walks and lemmas.
-/
import Derived.Test.YtkcfdddhnboieaaGreatDoorProg
import Derived.Below
import Derived.Deep.Draws
import Derived.Deep.AppendLies
import Derived.Maps.AppendAt
import Derived.OwnWalk
import Derived.Laws.BytesArg
import Derived.Laws.MakeOwn
import Derived.Laws.OwnMore
import Derived.Deep.OwnRows
import Derived.Tactics
import Derived.Lib.ConvBytes
import Derived.Laws.Slices
import Derived.WalkKit
import Derived.KernelRfl
import Derived.RowKit3
import Derived.Deep.LoopGhost
import Derived.Deep.QuietTactic
import Derived.BigQuiet
import Derived.WideLaws
import Derived.Deep.DeepCutAuto
import Derived.Deep.CutBlock
import Derived.Deep.RegionHeld3
import Derived.Laws.Rows
import Derived.Lib.AppendStr
import Derived.ArgAppend
import Derived.Laws.IdiomCopy
import Derived.OrdersHeld
import Derived.Laws.BitsLemmas
import Derived.RowKit
import Derived.Test.YtkcfdddhnboieaaGreatDoorKF2
import Derived.Test.YtkcfdddhnboieaaGreatDoorKF3
import Derived.Test.YtkcfdddhnboieaaGreatDoorKF4
import Derived.Laws.StructEq
set_option linter.unusedVariables false
set_option linter.unusedSimpArgs false
section
set_option maxRecDepth 100000
namespace Go.Proofs.YtkcfdddhnboieaaGreatDoor.PCheck
open Go.RowKit QW.PrintWords QW.PrintLast QW.PrintMore
attribute [local go_sem] max2_int min2_int max_two min_two max_three min_three max_four min_four   
def errW : Option Int → Value
 | none => .nilIface
 | some c => .iface 0 (.int .i64 c)
theorem errW_none : errW none = .nilIface := rfl
theorem errW_some (c : Int) : errW (some c) = .iface 0 (.int .i64 c) := rfl
def rL (xs : List (List Int)) (i : Int) : (List Int) := xs.getD i.toNat ([] : List Int)
theorem at_L1 {w : World} {A : Option Addr} {n : Nat} {xs : List (List Int)} (h : Kd.C (Kd.slice 3 (Kd.int .i64)) w A n xs) (i : Int) (h0 : 0 ≤ i) (h1 : i < n) : ∃ ad A0 c0, A = some ad ∧ w.cell? (ad.add i.toNat) = some (.slice A0 (rL xs i).length c0) ∧ (rL xs i).length ≤ c0 ∧ (Kd.int .i64).C w A0 (rL xs i).length (rL xs i) := by
 obtain ⟨ad, c, e, _, hK, hc0⟩ := Kd.C_get h ([] : List Int) i h0 h1
 have hc : ∀ j u, c[j]? = some u → w.cell? (ad.add (i.toNat * 1 + j)) = some u := hc0
 obtain ⟨A0, c0, rfl, l0, g0⟩ := hK
 exact ⟨ad, A0, c0, e, by have hq := hc 0 _ rfl; rwa [Nat.mul_one, Nat.add_zero] at hq, l0, g0⟩
end Go.Proofs.YtkcfdddhnboieaaGreatDoor.PCheck
end
section
set_option maxHeartbeats 8000000
set_option maxRecDepth 100000
namespace Go.Proofs.YtkcfdddhnboieaaGreatDoor.PCheck
open Go.RowKit QW.PrintWords QW.PrintLast QW.PrintMore
attribute [local go_sem] max2_int min2_int max_two min_two max_three min_three max_four min_four   
def cnf_exists.f (a0 : Int) (a1 : Int) : Option (Bool) := if a0 = 0 then (some false) else (if a0 ≥ (wrap64 (-a1)) then (some (decide (a0 ≤ a1))) else (some false))
theorem cnf_exists.calls (a0 : Int) (a1 : Int) (r : Bool) (w : World) (h : cnf_exists.f a0 a1 = some r) :
  Calls Tryz.prog 63 #[.int .i64 a0, .int .i64 a1] w fun e w' => e = .returned (.bool r) ∧ Drawn0 w w' := by
 have H : (if a0 = 0 then (some false) else (if a0 ≥ (wrap64 (-a1)) then (some (decide (a0 ≤ a1))) else (some false))) = some r := h
 clear h
 by_cases c3 : a0 = 0
 ·rw [if_pos c3] at H
  have c3b0 : (a0 == 0) = true := beq_iff_eq.mpr c3
  have c3b1 : (a0 != 0) = false := bne_eq_false_iff_eq.mpr c3
  clear c3
  obtain rfl := Option.some.inj H
  go_enter Tryz.func63, Tryz.ntmps63
  go_wp2
  go_ret
  exact ⟨rfl, by repeat (first | exact Drawn0.refl _ | apply Drawn0.step)⟩
 ·rw [if_neg c3] at H
  have c3b0 : (a0 == 0) = false := beq_eq_false_iff_ne.mpr c3
  have c3b1 : (a0 != 0) = true := bne_iff_ne.mpr c3
  by_cases c4 : a0 ≥ (wrap64 (-a1))
  ·rw [if_pos c4] at H
   have c4b0 : decide ((wrap64 (-a1)) ≤ a0) = true := decide_eq_true c4
   clear c4
   obtain rfl := Option.some.inj H
   go_enter Tryz.func63, Tryz.ntmps63
   go_wp2
   go_ret
   exact ⟨rfl, by repeat (first | exact Drawn0.refl _ | apply Drawn0.step)⟩
  ·rw [if_neg c4] at H
   have c4b0 : decide ((wrap64 (-a1)) ≤ a0) = false := decide_eq_false c4
   clear c4
   obtain rfl := Option.some.inj H
   go_enter Tryz.func63, Tryz.ntmps63
   go_wp2
   go_ret
   exact ⟨rfl, by repeat (first | exact Drawn0.refl _ | apply Drawn0.step)⟩
mutual
def cnf_Check.l0 : Nat → Int → List (List Int) → Int → Int → Int → List (List Int) → Option (Int)
 | 0, _, _, _, _, _, _ => none
 | k + 1, x3, x14, x15, x16, x102000, x102001 => if x16 < x15 then (if 0 ≤ x16 then (if x16 < (x14.length : Int) then (cnf_Check.l0 k (wrap64 (x3 + ((rL x14 x16).length : Int))) x14 x15 (wrap64 (x16 + 1)) x102000 x102001) else (none)) else (none)) else (if x102000 > 4096 then (cnf_Check.j1 k true x102000 x102001) else (if (x102001.length : Int) > 16384 then (cnf_Check.j1 k true x102000 x102001) else (cnf_Check.j1 k (decide (x3 > 65536)) x102000 x102001)))
def cnf_Check.j1 : Nat → Bool → Int → List (List Int) → Option (Int)
 | 0, _, _, _ => none
 | k + 1, x37, x102000, x102001 => if x37 = true then (some 5) else (cnf_Check.l1 k x102001 (x102001.length : Int) 0 x102000 x102001)
def cnf_Check.l1 : Nat → List (List Int) → Int → Int → Int → List (List Int) → Option (Int)
 | 0, _, _, _, _, _ => none
 | k + 1, x39, x40, x41, x102000, x102001 => if x41 < x40 then (if 0 ≤ x41 then (if x41 < (x39.length : Int) then (cnf_Check.l2 k x39 x40 x41 (rL x39 x41) ((rL x39 x41).length : Int) 0 x102000 x102001) else (none)) else (none)) else (some 0)
def cnf_Check.l2 : Nat → List (List Int) → Int → Int → List Int → Int → Int → Int → List (List Int) → Option (Int)
 | 0, _, _, _, _, _, _, _, _ => none
 | k + 1, x39, x40, x41, x45, x46, x47, x102000, x102001 => if x47 < x46 then (if 0 ≤ x47 then (if x47 < (x45.length : Int) then ((cnf_exists.f (rd x45 x47) x102000).bind fun t105 => (if t105 = true then (cnf_Check.l2 k x39 x40 x41 x45 x46 (wrap64 (x47 + 1)) x102000 x102001) else (some 1))) else (none)) else (none)) else (cnf_Check.l1 k x39 x40 (wrap64 (x41 + 1)) x102000 x102001)
end
def cnf_Check.f (k : Nat) (a0_0 : Int) (l0_1 : List (List Int)) : Option (Int) := if a0_0 < 0 then (some 1) else (cnf_Check.l0 k 0 l0_1 (l0_1.length : Int) 0 a0_0 l0_1)
theorem cnf_Check.calls (k : Nat) (a0_0 : Int) (A0_1 : Option Addr) (c0_1 : Nat) (l0_1 : List (List Int)) (r : Int) (w : World) (hr0_1 : Kd.C (Kd.slice 3 (Kd.int .i64)) w A0_1 l0_1.length l0_1) (hc0_1 : l0_1.length ≤ c0_1) (h : cnf_Check.f k a0_0 l0_1 = some r) :
  Calls Tryz.prog 21 #[.agg #[.int .i64 a0_0, .slice A0_1 l0_1.length c0_1]] w fun e w' => e = .returned (.int .i64 r) ∧ Below w.heap.size w w' := by
 have hu24 := Tryz.underlying24
 have HR0_1 := Az.mk hr0_1
 have HC0_1 := Az.mk hc0_1
 clear hr0_1 hc0_1
 have HB := Az.mk (Below.refl w.heap.size w)
 have H : (if a0_0 < 0 then (some 1) else (cnf_Check.l0 k 0 l0_1 (l0_1.length : Int) 0 a0_0 l0_1)) = some r := h
 clear h
 by_cases c2 : a0_0 < 0
 ·rw [if_pos c2] at H
  have c2b0 : decide (a0_0 < 0) = true := decide_eq_true c2
  clear c2
  obtain rfl := Option.some.inj H
  go_enter Tryz.func21, Tryz.ntmps21
  go_wp2_with (first | ((with_reducible refine gate_dst (N := 1) rfl ?_); (try (refine gate_guard (by rfl) ?_; dsimp only)); refine box_event ?hg (N := 1) ?hd (cs := #[.int .i64 a0_0, .slice A0_1 l0_1.length c0_1]) (t := 24) ?hr ?_; (case hd => rfl); (case hg => rfl); (case hr => first | (go_simp; done) | (go_simp; rfl)); intro gb101 hg w3 hbox hb; have n0_ := Az.mk (bwt (HB.out) hb); have n1_ := Az.mk (hbox); have n2_ := Az.mk ((by rw [hg]; exact (below_size (HB.out)) : w.heap.size ≤ gb101)); have n3_ := Az.mk ((by rw [hg]; exact (below_size (HB.out)) : w.heap.size ≤ gb101)); clear HB; have HB := n0_; have BK101 := n1_; have GW101 := n2_; have GE101 := n3_; clear n0_ n1_ n2_ n3_; clear hb hbox hg; have hcz4_0 : w3.cell? ⟨gb101, 0, none⟩ = some (.int .i64 a0_0) := (bkc BK101.out 0).trans rfl; have hcz4_1 : w3.cell? ⟨gb101, 1, none⟩ = some (.slice A0_1 l0_1.length c0_1) := (bkc BK101.out 1).trans rfl; have hfz4_0 := bkf BK101.out 0; have hfz4_1 := bkf BK101.out 1))
  go_ret
  exact ⟨rfl, HB.out⟩
 ·rw [if_neg c2] at H
  have c2b0 : decide (a0_0 < 0) = false := decide_eq_false c2
  clear c2
  have H' := Az.mk H
  clear H
  go_enter Tryz.func21, Tryz.ntmps21
  go_wp2_with (first | ((with_reducible refine gate_dst (N := 1) rfl ?_); (try (refine gate_guard (by rfl) ?_; dsimp only)); refine box_event ?hg (N := 1) ?hd (cs := #[.int .i64 a0_0, .slice A0_1 l0_1.length c0_1]) (t := 24) ?hr ?_; (case hd => rfl); (case hg => rfl); (case hr => first | (go_simp; done) | (go_simp; rfl)); intro gb101 hg w5 hbox hb; have n0_ := Az.mk (bwt (HB.out) hb); have n1_ := Az.mk (hbox); have n2_ := Az.mk ((by rw [hg]; exact (below_size (HB.out)) : w.heap.size ≤ gb101)); have n3_ := Az.mk ((by rw [hg]; exact (below_size (HB.out)) : w.heap.size ≤ gb101)); clear HB; have HB := n0_; have BK101 := n1_; have GW101 := n2_; have GE101 := n3_; clear n0_ n1_ n2_ n3_; clear hb hbox hg; have hcz6_0 : w5.cell? ⟨gb101, 0, none⟩ = some (.int .i64 a0_0) := (bkc BK101.out 0).trans rfl; have hcz6_1 : w5.cell? ⟨gb101, 1, none⟩ = some (.slice A0_1 l0_1.length c0_1) := (bkc BK101.out 1).trans rfl; have hfz6_0 := bkf BK101.out 0; have hfz6_1 := bkf BK101.out 1))
  go_loopg [3, 16] k (fun kq v3 v16 w' => ∃ (x3_1 : Int) (x16_1 : Int), v3 = .int .i64 x3_1 ∧ v16 = .int .i64 x16_1 ∧ Az (cnf_Check.l0 kq x3_1 l0_1 (l0_1.length : Int) x16_1 a0_0 l0_1 = some r) ∧ Az (kq ≤ k) ∧ Az (w'.heap[gb101]? = some (.cells #[.int .i64 a0_0, (.slice A0_1 l0_1.length c0_1)] 24 (0, 0))) ∧ Az (Below w.heap.size w w'))
  case atStart => exact ⟨(0), (0), (rfl), (rfl), H', ⟨Nat.le_refl _⟩, ⟨by (with_reducible repeat (first | refine bkN ?_ _ | refine bkd ?_ | refine bka ?_ _)); exact BK101.out⟩, ⟨HB.out⟩⟩
  case round =>
   clear H'
   obtain ⟨x3_1, x16_1, rfl, rfl, HA, HK1, BK101, HB⟩ := hrel
   cases gk with
   | zero => exact absurd HA.out (by simp [cnf_Check.l0])
   | succ k1 =>
    have H := HA.out
    clear HA
    simp only [cnf_Check.l0] at H
    by_cases c7 : x16_1 < (l0_1.length : Int)
    ·rw [if_pos c7] at H
     have c7b0 : decide (x16_1 < (l0_1.length : Int)) = true := decide_eq_true c7
     clear c7
     by_cases c8 : 0 ≤ x16_1
     ·rw [if_pos c8] at H
      have c8b0 : decide (0 ≤ x16_1) = true := decide_eq_true c8
      clear c8
      by_cases c9 : x16_1 < (l0_1.length : Int)
      ·rw [if_pos c9] at H
       have c9b0 : decide (x16_1 < (l0_1.length : Int)) = true := decide_eq_true c9
       clear c9
       have H' := Az.mk H
       clear H
       have p102 : 0 ≤ (x16_1 : Int) := of_decide_eq_true (by assumption)
       have q102 : x16_1 < (l0_1.length : Int) := of_decide_eq_true (by assumption)
       obtain ⟨ad102, A102_0, c102_0, e102, hx102_0, hl102_0, hi102_0⟩ := at_L1 HR0_1.out x16_1 p102 q102
       cases e102
       replace hx102_0 := (HB.out.cell (World.block_lt_of_cell? w _ hx102_0)).trans hx102_0
       have HR102_0 := Az.mk hi102_0
       have HC102_0 := Az.mk hl102_0
       clear hi102_0 hl102_0
       replace p102 := eq_true p102
       replace q102 := eq_true q102
       go_wp2
       go_roundg k1
       case measure => have := HK1.out; omega
       case rel => exact ⟨(wrap64 (x3_1 + ((rL l0_1 x16_1).length : Int))), (wrap64 (x16_1 + 1)), (rfl), (rfl), H', ⟨by have := HK1.out; omega⟩, ⟨by (with_reducible repeat (first | refine bkN ?_ _ | refine bkd ?_ | refine bka ?_ _)); exact BK101.out⟩, ⟨HB.out⟩⟩
      ·rw [if_neg c9] at H
       exact absurd H (by simp)
     ·rw [if_neg c8] at H
      exact absurd H (by simp)
    ·rw [if_neg c7] at H
     have c7b0 : decide (x16_1 < (l0_1.length : Int)) = false := decide_eq_false c7
     clear c7
     have HC10 := Az.mk H
     clear H
     go_upto_region 9 with (fail)
     go_cut [37] (fun v37 wc => ∃ (kq : Nat) (x37_9 : Bool), v37 = .bool x37_9 ∧ Az (cnf_Check.j1 kq x37_9 a0_0 l0_1 = some r) ∧ Az (kq ≤ k1) ∧ Az (wc.heap[gb101]? = some (.cells #[.int .i64 a0_0, (.slice A0_1 l0_1.length c0_1)] 24 (0, 0))) ∧ Az (Below w.heap.size w wc))
     case first =>
      have H := HC10.out
      clear HC10
      by_cases c11 : a0_0 > 4096
      ·rw [if_pos c11] at H
       have c11b0 : decide (4096 < a0_0) = true := decide_eq_true c11
       clear c11
       (first | rw [c11b0] | (simp only [iw, jw]; rw [c11b0]) | skip)
       have H' := Az.mk H
       clear H
       have hcz12_0 : wr.cell? ⟨gb101, 0, none⟩ = some (.int .i64 a0_0) := (bkc BK101.out 0).trans rfl
       have hcz12_1 : wr.cell? ⟨gb101, 1, none⟩ = some (.slice A0_1 l0_1.length c0_1) := (bkc BK101.out 1).trans rfl
       go_wp2
       go_meet
       case rel => exact ⟨_, (true), (rfl), H', ⟨by have := HK1.out; first | omega | exact Nat.le_refl _⟩, ⟨by (with_reducible repeat (first | refine bkN ?_ _ | refine bkd ?_ | refine bka ?_ _)); exact BK101.out⟩, ⟨HB.out⟩⟩
      ·rw [if_neg c11] at H
       have c11b0 : decide (4096 < a0_0) = false := decide_eq_false c11
       clear c11
       (first | rw [c11b0] | (simp only [iw, jw]; rw [c11b0]) | skip)
       by_cases c13 : (l0_1.length : Int) > 16384
       ·rw [if_pos c13] at H
        have c13b0 : decide (16384 < (l0_1.length : Int)) = true := decide_eq_true c13
        have c13b1 : decide (16384 < l0_1.length) = true := decide_eq_true (by omega)
        clear c13
        have H' := Az.mk H
        clear H
        have hcz14_0 : wr.cell? ⟨gb101, 0, none⟩ = some (.int .i64 a0_0) := (bkc BK101.out 0).trans rfl
        have hcz14_1 : wr.cell? ⟨gb101, 1, none⟩ = some (.slice A0_1 l0_1.length c0_1) := (bkc BK101.out 1).trans rfl
        go_wp2
        go_meet
        case rel => exact ⟨_, (true), (rfl), H', ⟨by have := HK1.out; first | omega | exact Nat.le_refl _⟩, ⟨by (with_reducible repeat (first | refine bkN ?_ _ | refine bkd ?_ | refine bka ?_ _)); exact BK101.out⟩, ⟨HB.out⟩⟩
       ·rw [if_neg c13] at H
        have c13b0 : decide (16384 < (l0_1.length : Int)) = false := decide_eq_false c13
        have c13b1 : decide (16384 < l0_1.length) = false := decide_eq_false (by omega)
        clear c13
        have H' := Az.mk H
        clear H
        have hcz15_0 : wr.cell? ⟨gb101, 0, none⟩ = some (.int .i64 a0_0) := (bkc BK101.out 0).trans rfl
        have hcz15_1 : wr.cell? ⟨gb101, 1, none⟩ = some (.slice A0_1 l0_1.length c0_1) := (bkc BK101.out 1).trans rfl
        go_wp2
        go_meet
        case rel => exact ⟨_, (decide (x3_1 > 65536)), (rfl), H', ⟨by have := HK1.out; first | omega | exact Nat.le_refl _⟩, ⟨by (with_reducible repeat (first | refine bkN ?_ _ | refine bkd ?_ | refine bka ?_ _)); exact BK101.out⟩, ⟨HB.out⟩⟩
     case rest =>
      clear HC10
      obtain ⟨kq, x37_9, rfl, HA, HJ9, BK101, HB⟩ := hcut
      cases kq with
      | zero => exact absurd HA.out (by simp [cnf_Check.j1])
      | succ kj9 =>
       have H := HA.out
       clear HA
       simp only [cnf_Check.j1] at H
       by_cases c16 : x37_9 = true
       ·subst c16
        have H1 : (some 5) = some r := by rw [if_pos rfl] at H; exact H
        clear H
        have H := H1
        clear H1
        obtain rfl := Option.some.inj H
        go_wp2
        go_ret
        exact ⟨rfl, HB.out⟩
       ·replace c16 := Bool.eq_false_iff.mpr c16
        subst c16
        have H1 : (cnf_Check.l1 kj9 l0_1 (l0_1.length : Int) 0 a0_0 l0_1) = some r := by rw [if_neg (show ¬ (false = true) by decide)] at H; exact H
        clear H
        have H := H1
        clear H1
        have H' := Az.mk H
        clear H
        have hcz17_0 : wc.cell? ⟨gb101, 0, none⟩ = some (.int .i64 a0_0) := (bkc BK101.out 0).trans rfl
        have hcz17_1 : wc.cell? ⟨gb101, 1, none⟩ = some (.slice A0_1 l0_1.length c0_1) := (bkc BK101.out 1).trans rfl
        go_wp2
        go_loopg [41] kj9 (fun kq v41 w' => ∃ (x41_3 : Int), v41 = .int .i64 x41_3 ∧ Az (cnf_Check.l1 kq l0_1 (l0_1.length : Int) x41_3 a0_0 l0_1 = some r) ∧ Az (kq ≤ kj9) ∧ Az (w'.heap[gb101]? = some (.cells #[.int .i64 a0_0, (.slice A0_1 l0_1.length c0_1)] 24 (0, 0))) ∧ Az (Below w.heap.size w w'))
        case atStart => exact ⟨(0), (rfl), H', ⟨Nat.le_refl _⟩, ⟨by (with_reducible repeat (first | refine bkN ?_ _ | refine bkd ?_ | refine bka ?_ _)); exact BK101.out⟩, ⟨HB.out⟩⟩
        case round =>
         clear H'
         obtain ⟨x41_3, rfl, HA, HK3, BK101, HB⟩ := hrel
         cases gk with
         | zero => exact absurd HA.out (by simp [cnf_Check.l1])
         | succ k3 =>
          have H := HA.out
          clear HA
          simp only [cnf_Check.l1] at H
          by_cases c18 : x41_3 < (l0_1.length : Int)
          ·rw [if_pos c18] at H
           have c18b0 : decide (x41_3 < (l0_1.length : Int)) = true := decide_eq_true c18
           clear c18
           by_cases c19 : 0 ≤ x41_3
           ·rw [if_pos c19] at H
            have c19b0 : decide (0 ≤ x41_3) = true := decide_eq_true c19
            clear c19
            by_cases c20 : x41_3 < (l0_1.length : Int)
            ·rw [if_pos c20] at H
             have c20b0 : decide (x41_3 < (l0_1.length : Int)) = true := decide_eq_true c20
             clear c20
             have H' := Az.mk H
             clear H
             have p103 : 0 ≤ (x41_3 : Int) := of_decide_eq_true (by assumption)
             have q103 : x41_3 < (l0_1.length : Int) := of_decide_eq_true (by assumption)
             obtain ⟨ad103, A103_0, c103_0, e103, hx103_0, hl103_0, hi103_0⟩ := at_L1 HR0_1.out x41_3 p103 q103
             cases e103
             replace hx103_0 := (HB.out.cell (World.block_lt_of_cell? w _ hx103_0)).trans hx103_0
             have HR103_0 := Az.mk hi103_0
             have HC103_0 := Az.mk hl103_0
             clear hi103_0 hl103_0
             replace p103 := eq_true p103
             replace q103 := eq_true q103
             go_wp2
             go_loopg [47] k3 (fun kq v47 w' => ∃ (x47_4 : Int), v47 = .int .i64 x47_4 ∧ Az (cnf_Check.l2 kq l0_1 (l0_1.length : Int) x41_3 (rL l0_1 x41_3) ((rL l0_1 x41_3).length : Int) x47_4 a0_0 l0_1 = some r) ∧ Az (kq ≤ k3) ∧ Az (w'.heap[gb101]? = some (.cells #[.int .i64 a0_0, (.slice (some ad103) l0_1.length c0_1)] 24 (0, 0))) ∧ Az (Below w.heap.size w w'))
             case atStart => exact ⟨(0), (rfl), H', ⟨Nat.le_refl _⟩, ⟨by (with_reducible repeat (first | refine bkN ?_ _ | refine bkd ?_ | refine bka ?_ _)); exact BK101.out⟩, ⟨HB.out⟩⟩
             case round =>
              clear H'
              obtain ⟨x47_4, rfl, HA, HK4, BK101, HB⟩ := hrel
              cases gk with
              | zero => exact absurd HA.out (by simp [cnf_Check.l2])
              | succ k4 =>
               have H := HA.out
               clear HA
               simp only [cnf_Check.l2] at H
               by_cases c21 : x47_4 < ((rL l0_1 x41_3).length : Int)
               ·rw [if_pos c21] at H
                have c21b0 : decide (x47_4 < ((rL l0_1 x41_3).length : Int)) = true := decide_eq_true c21
                clear c21
                by_cases c22 : 0 ≤ x47_4
                ·rw [if_pos c22] at H
                 have c22b0 : decide (0 ≤ x47_4) = true := decide_eq_true c22
                 clear c22
                 by_cases c23 : x47_4 < ((rL l0_1 x41_3).length : Int)
                 ·rw [if_pos c23] at H
                  have c23b0 : decide (x47_4 < ((rL l0_1 x41_3).length : Int)) = true := decide_eq_true c23
                  clear c23
                  replace H := Option.bind_eq_some_iff.mp H
                  obtain ⟨t105, A240, H⟩ := H
                  replace H : (if t105 = true then (cnf_Check.l2 k4 l0_1 (l0_1.length : Int) x41_3 (rL l0_1 x41_3) ((rL l0_1 x41_3).length : Int) (wrap64 (x47_4 + 1)) a0_0 l0_1) else (some 1)) = some r := H
                  have A24 := Az.mk A240
                  clear A240
                  by_cases c25 : t105 = true
                  ·subst c25
                   have H1 : (cnf_Check.l2 k4 l0_1 (l0_1.length : Int) x41_3 (rL l0_1 x41_3) ((rL l0_1 x41_3).length : Int) (wrap64 (x47_4 + 1)) a0_0 l0_1) = some r := by rw [if_pos rfl] at H; exact H
                   clear H
                   have H := H1
                   clear H1
                   have H' := Az.mk H
                   clear H
                   have p104 : 0 ≤ (x47_4 : Int) := of_decide_eq_true (by assumption)
                   have q104 : x47_4 < ((rL l0_1 x41_3).length : Int) := of_decide_eq_true (by assumption)
                   obtain ⟨ad104, e104, hx104_0⟩ := Kd.at_int HR103_0.out x47_4 p104 q104
                   cases e104
                   replace hx104_0 := (HB.out.cell (World.block_lt_of_cell? w _ hx104_0)).trans hx104_0
                   replace p104 := eq_true p104
                   replace q104 := eq_true q104
                   have hcz26_0 : wr.cell? ⟨gb101, 0, none⟩ = some (.int .i64 a0_0) := (bkc BK101.out 0).trans rfl
                   have hcz26_1 : wr.cell? ⟨gb101, 1, none⟩ = some (.slice (some ad103) l0_1.length c0_1) := (bkc BK101.out 1).trans rfl
                   go_wp2_with (first | ((with_reducible refine gate_callee (f := 63) rfl ?_); refine goesL_ (some 54) rfl rfl Tryz.func63 (by kernel_rfl) rfl #[.int .i64 (rd (rL l0_1 x41_3) x47_4), .int .i64 a0_0] rfl (by (try simp only [List.map_toArray, List.map_cons, List.map_nil]); first | done | rfl | (simp only [List.length_drop, List.length_take]; rfl)) ?_; (with_reducible refine (cnf_exists.calls (rd (rL l0_1 x41_3) x47_4) a0_0 true _ A24.out).mono ?_); rintro e w' ⟨rfl, ⟨nd, rfl⟩⟩; refine ⟨_, rfl, ?_⟩))
                   go_roundg k4
                   case measure => have := HK1.out; have := HJ9.out; have := HK3.out; have := HK4.out; omega
                   case rel => exact ⟨(wrap64 (x47_4 + 1)), (rfl), H', ⟨by have := HK1.out; have := HJ9.out; have := HK3.out; have := HK4.out; omega⟩, ⟨by (with_reducible repeat (first | refine bkN ?_ _ | refine bkd ?_ | refine bka ?_ _)); exact BK101.out⟩, ⟨by repeat (first | (with_reducible first | exact HB.out | apply bwa | apply pwN | apply bw1 | refine bws ?_ GE101.out) | exact HB.out)⟩⟩
                  ·replace c25 := Bool.eq_false_iff.mpr c25
                   subst c25
                   have H1 : (some 1) = some r := by rw [if_neg (show ¬ (false = true) by decide)] at H; exact H
                   clear H
                   have H := H1
                   clear H1
                   obtain rfl := Option.some.inj H
                   have p104 : 0 ≤ (x47_4 : Int) := of_decide_eq_true (by assumption)
                   have q104 : x47_4 < ((rL l0_1 x41_3).length : Int) := of_decide_eq_true (by assumption)
                   obtain ⟨ad104, e104, hx104_0⟩ := Kd.at_int HR103_0.out x47_4 p104 q104
                   cases e104
                   replace hx104_0 := (HB.out.cell (World.block_lt_of_cell? w _ hx104_0)).trans hx104_0
                   replace p104 := eq_true p104
                   replace q104 := eq_true q104
                   have hcz27_0 : wr.cell? ⟨gb101, 0, none⟩ = some (.int .i64 a0_0) := (bkc BK101.out 0).trans rfl
                   have hcz27_1 : wr.cell? ⟨gb101, 1, none⟩ = some (.slice (some ad103) l0_1.length c0_1) := (bkc BK101.out 1).trans rfl
                   go_wp2_with (first | ((with_reducible refine gate_callee (f := 63) rfl ?_); refine goesL_ (some 54) rfl rfl Tryz.func63 (by kernel_rfl) rfl #[.int .i64 (rd (rL l0_1 x41_3) x47_4), .int .i64 a0_0] rfl (by (try simp only [List.map_toArray, List.map_cons, List.map_nil]); first | done | rfl | (simp only [List.length_drop, List.length_take]; rfl)) ?_; (with_reducible refine (cnf_exists.calls (rd (rL l0_1 x41_3) x47_4) a0_0 false _ A24.out).mono ?_); rintro e w' ⟨rfl, ⟨nd, rfl⟩⟩; refine ⟨_, rfl, ?_⟩))
                   go_ret
                   exact ⟨rfl, by repeat (first | (with_reducible first | exact HB.out | apply bwa | apply pwN | apply bw1 | refine bws ?_ GE101.out) | exact HB.out)⟩
                 ·rw [if_neg c23] at H
                  exact absurd H (by simp)
                ·rw [if_neg c22] at H
                 exact absurd H (by simp)
               ·rw [if_neg c21] at H
                have c21b0 : decide (x47_4 < ((rL l0_1 x41_3).length : Int)) = false := decide_eq_false c21
                clear c21
                have H' := Az.mk H
                clear H
                go_wp2
                go_roundg k4
                case measure => have := HK1.out; have := HJ9.out; have := HK3.out; have := HK4.out; omega
                case rel => exact ⟨(wrap64 (x41_3 + 1)), (rfl), H', ⟨by have := HK1.out; have := HJ9.out; have := HK3.out; have := HK4.out; omega⟩, ⟨by (with_reducible repeat (first | refine bkN ?_ _ | refine bkd ?_ | refine bka ?_ _)); exact BK101.out⟩, ⟨HB.out⟩⟩
            ·rw [if_neg c20] at H
             exact absurd H (by simp)
           ·rw [if_neg c19] at H
            exact absurd H (by simp)
          ·rw [if_neg c18] at H
           have c18b0 : decide (x41_3 < (l0_1.length : Int)) = false := decide_eq_false c18
           clear c18
           obtain rfl := Option.some.inj H
           go_wp2
           go_ret
           exact ⟨rfl, HB.out⟩
end Go.Proofs.YtkcfdddhnboieaaGreatDoor.PCheck
end
section
set_option maxRecDepth 100000
namespace Go.Proofs.YtkcfdddhnboieaaGreatDoor.PFit
open Go.RowKit QW.PrintWords QW.PrintLast QW.PrintMore
attribute [local go_sem] max2_int min2_int max_two min_two max_three min_three max_four min_four   
def errW : Option Int → Value
 | none => .nilIface
 | some c => .iface 0 (.int .i64 c)
theorem errW_none : errW none = .nilIface := rfl
theorem errW_some (c : Int) : errW (some c) = .iface 0 (.int .i64 c) := rfl
theorem info3 : (Tryz.prog.info? 3).map (fun i => (i.zero, i.size, i.bytes)) = some (some (.int .i64 0), 1, 8) := by kernel_rfl
theorem info26 : (Tryz.prog.info? 26).map (fun i => (i.zero, i.size, i.bytes)) = some (some (.slice none 0 0), 1, 24) := by kernel_rfl
def rL (xs : List (List Int)) (i : Int) : (List Int) := xs.getD i.toNat ([] : List Int)
theorem at_L1 {w : World} {A : Option Addr} {n : Nat} {xs : List (List Int)} (h : Kd.C (Kd.slice 3 (Kd.int .i64)) w A n xs) (i : Int) (h0 : 0 ≤ i) (h1 : i < n) : ∃ ad A0 c0, A = some ad ∧ w.cell? (ad.add i.toNat) = some (.slice A0 (rL xs i).length c0) ∧ (rL xs i).length ≤ c0 ∧ (Kd.int .i64).C w A0 (rL xs i).length (rL xs i) := by
 obtain ⟨ad, c, e, _, hK, hc0⟩ := Kd.C_get h ([] : List Int) i h0 h1
 have hc : ∀ j u, c[j]? = some u → w.cell? (ad.add (i.toNat * 1 + j)) = some u := hc0
 obtain ⟨A0, c0, rfl, l0, g0⟩ := hK
 exact ⟨ad, A0, c0, e, by have hq := hc 0 _ rfl; rwa [Nat.mul_one, Nat.add_zero] at hq, l0, g0⟩
end Go.Proofs.YtkcfdddhnboieaaGreatDoor.PFit
end
section
set_option maxHeartbeats 8000000
set_option maxRecDepth 100000
namespace Go.Proofs.YtkcfdddhnboieaaGreatDoor.PFit
open Go.RowKit QW.PrintWords QW.PrintLast QW.PrintMore
attribute [local go_sem] max2_int min2_int max_two min_two max_three min_three max_four min_four   
def nfC.l0 : Nat → Int → Int → Int → List (List Int) → Int → List (List Int) → Option (Int × (List (List Int)))
 | 0, _, _, _, _, _, _ => none
 | k + 1, x1, x6, x102000, x102001, x104000, x104001 => if x6 < (x102001.length : Int) then (if x6 < x1 then (if 0 ≤ x6 then (if 0 ≤ (mn ((rL x102001 x6).length : Int) 12) then (if (mn ((rL x102001 x6).length : Int) 12) ≤ ((rL x102001 x6).length : Int) then (if ([] : List Int).length + ((rL x102001 x6).take ((mn ((rL x102001 x6).length : Int) 12) : Int).toNat).length < 17592186044416 then (if x104001.length < 5864062014805 then (nfC.l0 k x1 (wrap64 (x6 + 1)) x102000 x102001 x104000 (x104001 ++ [(([] : List Int) ++ ((rL x102001 x6).take ((mn ((rL x102001 x6).length : Int) 12) : Int).toNat))])) else (none)) else (none)) else (none)) else (none)) else (none)) else (some (x104000, x104001))) else (some (x104000, x104001))
def nfC.f (k : Nat) (a0_0 : Int) (l0_1 : List (List Int)) (a1 : Int) : Option (Int × (List (List Int))) := nfC.l0 k a1 0 a0_0 l0_1 a0_0 ([] : List (List Int))
def nfC.T6 : Bool × List (List Nat × List Nat) := (true, [([], []), ([0], [0]), ([], []), ([], []), ([3], [3]), ([], []), ([4, 5], [4, 5]), ([6], [6]), ([], []), ([8], [8]), ([], []), ([9, 10], [9, 10]), ([11], [11]), ([12], [12]), ([13], [13]), ([7, 14], [7, 14]), ([2, 15], [2, 15]), ([16], [16]), ([1, 17, 16], [1, 17]), ([0, 1, 2, 3, 4, 5, 6, 7, 8, 9, 10, 11, 12, 13, 14, 15, 16, 17, 18], []), ([19, 18, 18, 0, 1, 2, 3, 4, 5, 6, 7, 8, 9, 10, 11, 12, 13, 14, 15, 16, 17, 18], [18, 19])])
def nfC.B6 : List Nat := [0, 1, 0, 0, 8, 0, 56, 120, 0, 256, 0, 1792, 3840, 7936, 16128, 32760, 65532, 131068, 262143, 524287, 1048575]
theorem nfC.tab6 : rtab .any (opsOf Tryz.f14 6) = nfC.T6 := by kernel_rfl
theorem nfC.bits6 : waitsOk nfC.T6.2 nfC.B6 = true := by kernel_rfl
theorem nfC.calls (k : Nat) (a0_0 : Int) (A0_1 : Option Addr) (c0_1 : Nat) (l0_1 : List (List Int)) (a1 : Int) (r1 : Int) (r2 : List (List Int)) (w : World) (hr0_1 : Kd.C (Kd.slice 3 (Kd.int .i64)) w A0_1 l0_1.length l0_1) (hc0_1 : l0_1.length ≤ c0_1) (h : nfC.f k a0_0 l0_1 a1 = some (r1, r2)) :
  Calls Tryz.prog 14 #[.agg #[.int .i64 a0_0, .slice A0_1 l0_1.length c0_1], .int .i64 a1] w fun e w' => ∃ v1_ : Value, e = .returned (.agg #[.int .i64 r1, v1_]) ∧ Kd.S (Kd.slice 3 (Kd.int .i64)) 26 w' w.heap.size (fun _ => True) v1_ r2 ∧ Below w.heap.size w w' := by
 have hu24 := Tryz.underlying24
 have HR0_1 := Az.mk hr0_1
 have HC0_1 := Az.mk hc0_1
 clear hr0_1 hc0_1
 have HB := Az.mk (Below.refl w.heap.size w)
 have H : (nfC.l0 k a1 0 a0_0 l0_1 a0_0 ([] : List (List Int))) = some (r1, r2) := h
 clear h
 have H' := Az.mk H
 clear H
 go_enter Tryz.func14, Tryz.ntmps14
 go_wp2_with (first | ((with_reducible refine gate_dst (N := 2) rfl ?_); refine box_event ?hg (N := 2) ?hd (cs := #[.int .i64 a0_0, .slice A0_1 l0_1.length c0_1]) (t := 24) ?hr ?_; (case hd => rfl); (case hg => rfl); (case hr => first | (go_simp; done) | (go_simp; rfl)); intro gb101 hg w3 hbox hb; have n0_ := Az.mk (bwt (by repeat (first | (with_reducible first | exact HB.out | apply bwa | apply pwN | apply bw1) | exact HB.out)) hb); have n1_ := Az.mk (hbox); have n2_ := Az.mk ((by rw [hg]; exact (below_size (by repeat (first | (with_reducible first | exact HB.out | apply bwa | apply pwN | apply bw1) | exact HB.out))) : w.heap.size ≤ gb101)); have n3_ := Az.mk ((by rw [hg]; exact (below_size (by repeat (first | (with_reducible first | exact HB.out | apply bwa | apply pwN | apply bw1) | exact HB.out))) : w.heap.size ≤ gb101)); clear HB; have HB := n0_; have BK101 := n1_; have GW101 := n2_; have GE101 := n3_; clear n0_ n1_ n2_ n3_; clear hb hbox hg) | ((with_reducible refine gate_dst (N := 4) rfl ?_); refine box_event ?hg (N := 4) ?hd (cs := #[.int .i64 0, .slice none 0 0]) (t := 24) ?hr ?_; (case hd => rfl); (case hg => rfl); (case hr => first | (go_simp; done) | (go_simp; rfl)); intro gb102 hg w4 hbox hb; have n0_ := Az.mk (blk_below (g := gb101) (o := .cells #[.int .i64 a0_0, .slice A0_1 l0_1.length c0_1] 24 (0, 0)) (by (with_reducible repeat (first | refine bkN ?_ _ | refine bkd ?_ | refine bka ?_ _)); exact BK101.out) hb); have n1_ := Az.mk (bwt (by repeat (first | (with_reducible first | exact HB.out | apply bwa | apply pwN | apply bw1 | refine bws ?_ GE101.out) | exact HB.out)) hb); have n2_ := Az.mk (hbox); have n3_ := Az.mk ((by rw [hg]; exact (below_size (by repeat (first | (with_reducible first | exact HB.out | apply bwa | apply pwN | apply bw1 | refine bws ?_ GE101.out) | exact HB.out))) : w.heap.size ≤ gb102)); have n4_ := Az.mk ((by rw [hg]; exact (below_size (by repeat (first | (with_reducible first | exact HB.out | apply bwa | apply pwN | apply bw1 | refine bws ?_ GE101.out) | exact HB.out))) : w.heap.size ≤ gb102)); have n5_ := Az.mk ((by rw [hg]; exact Nat.ne_of_lt (blk_lt (g := gb101) (o := .cells #[.int .i64 a0_0, .slice A0_1 l0_1.length c0_1] 24 (0, 0)) (by (with_reducible repeat (first | refine bkN ?_ _ | refine bkd ?_ | refine bka ?_ _)); exact BK101.out)) : gb101 ≠ gb102)); have n6_ := Az.mk ((by rw [hg]; exact Nat.ne_of_gt (blk_lt (g := gb101) (o := .cells #[.int .i64 a0_0, .slice A0_1 l0_1.length c0_1] 24 (0, 0)) (by (with_reducible repeat (first | refine bkN ?_ _ | refine bkd ?_ | refine bka ?_ _)); exact BK101.out)) : gb102 ≠ gb101)); clear BK101; clear HB; have BK101 := n0_; have HB := n1_; have BK102 := n2_; have GW102 := n3_; have GE102 := n4_; have NB101_102 := n5_; have NB102_101 := n6_; clear n0_ n1_ n2_ n3_ n4_ n5_ n6_; clear hb hbox hg; have hnb5 := NB101_102.out; have hnc5 := NB102_101.out; have hcz6_0 : w4.cell? ⟨gb101, 0, none⟩ = some (.int .i64 a0_0) := (bkc BK101.out 0).trans rfl; have hcz6_1 : w4.cell? ⟨gb101, 1, none⟩ = some (.slice A0_1 l0_1.length c0_1) := (bkc BK101.out 1).trans rfl; have hfz6_0 := bkf BK101.out 0; have hfz6_1 := bkf BK101.out 1) | ((with_reducible refine gate_dst (N := 5) rfl ?_); refine box_event ?hg (N := 5) ?hd (cs := #[.int .i64 0, .slice none 0 0]) (t := 24) ?hr ?_; (case hd => rfl); (case hg => rfl); (case hr => first | (go_simp; done) | (go_simp; rfl)); intro gb103 hg w7 hbox hb; have n0_ := Az.mk (blk_below (g := gb101) (o := .cells #[.int .i64 a0_0, .slice A0_1 l0_1.length c0_1] 24 (0, 0)) (by (with_reducible repeat (first | refine bkN ?_ _ | refine bkd ?_ | refine bka ?_ _)); exact BK101.out) hb); have n1_ := Az.mk (blk_below (g := gb102) (o := .cells #[.int .i64 0, .slice none 0 0] 24 (0, 0)) (by (with_reducible repeat (first | refine bkN ?_ _ | refine bkd ?_ | refine bka ?_ _)); exact BK102.out) hb); have n2_ := Az.mk (bwt (by repeat (first | (with_reducible first | exact HB.out | apply bwa | apply pwN | apply bw1 | refine bws ?_ GE101.out | refine bws ?_ GE102.out) | exact HB.out)) hb); have n3_ := Az.mk (hbox); have n4_ := Az.mk ((by rw [hg]; exact (below_size (by repeat (first | (with_reducible first | exact HB.out | apply bwa | apply pwN | apply bw1 | refine bws ?_ GE101.out | refine bws ?_ GE102.out) | exact HB.out))) : w.heap.size ≤ gb103)); have n5_ := Az.mk ((by rw [hg]; exact (below_size (by repeat (first | (with_reducible first | exact HB.out | apply bwa | apply pwN | apply bw1 | refine bws ?_ GE101.out | refine bws ?_ GE102.out) | exact HB.out))) : w.heap.size ≤ gb103)); have n6_ := Az.mk ((by rw [hg]; exact Nat.ne_of_lt (blk_lt (g := gb101) (o := .cells #[.int .i64 a0_0, .slice A0_1 l0_1.length c0_1] 24 (0, 0)) (by (with_reducible repeat (first | refine bkN ?_ _ | refine bkd ?_ | refine bka ?_ _)); exact BK101.out)) : gb101 ≠ gb103)); have n7_ := Az.mk ((by rw [hg]; exact Nat.ne_of_gt (blk_lt (g := gb101) (o := .cells #[.int .i64 a0_0, .slice A0_1 l0_1.length c0_1] 24 (0, 0)) (by (with_reducible repeat (first | refine bkN ?_ _ | refine bkd ?_ | refine bka ?_ _)); exact BK101.out)) : gb103 ≠ gb101)); have n8_ := Az.mk ((by rw [hg]; exact Nat.ne_of_lt (blk_lt (g := gb102) (o := .cells #[.int .i64 0, .slice none 0 0] 24 (0, 0)) (by (with_reducible repeat (first | refine bkN ?_ _ | refine bkd ?_ | refine bka ?_ _)); exact BK102.out)) : gb102 ≠ gb103)); have n9_ := Az.mk ((by rw [hg]; exact Nat.ne_of_gt (blk_lt (g := gb102) (o := .cells #[.int .i64 0, .slice none 0 0] 24 (0, 0)) (by (with_reducible repeat (first | refine bkN ?_ _ | refine bkd ?_ | refine bka ?_ _)); exact BK102.out)) : gb103 ≠ gb102)); clear BK101; clear BK102; clear HB; have BK101 := n0_; have BK102 := n1_; have HB := n2_; have BK103 := n3_; have GW103 := n4_; have GE103 := n5_; have NB101_103 := n6_; have NB103_101 := n7_; have NB102_103 := n8_; have NB103_102 := n9_; clear n0_ n1_ n2_ n3_ n4_ n5_ n6_ n7_ n8_ n9_; clear hb hbox hg; have hnb8 := NB103_101.out; have hnc8 := NB101_103.out; have hnb9 := NB103_102.out; have hnc9 := NB102_103.out; have hcz10_0 : w7.cell? ⟨gb103, 0, none⟩ = some (.int .i64 0) := (bkc BK103.out 0).trans rfl; have hcz10_1 : w7.cell? ⟨gb103, 1, none⟩ = some (.slice none 0 0) := (bkc BK103.out 1).trans rfl; have hfz10_0 := bkf BK103.out 0; have hfz10_1 := bkf BK103.out 1))
 go_loopg [6] k (fun kq v6 w' => ∃ (x6_1 : Int) (x104001_1 : List (List Int)) (u104001 : Value), v6 = .int .i64 x6_1 ∧ Az (nfC.l0 kq a1 x6_1 a0_0 l0_1 a0_0 x104001_1 = some (r1, r2)) ∧ Az (kq ≤ k) ∧ Az (Kd.S (Kd.slice 3 (Kd.int .i64)) 26 w' w.heap.size (fun _ => True) u104001 x104001_1) ∧ Az (w'.heap[gb101]? = some (.cells #[.int .i64 a0_0, (.slice A0_1 l0_1.length c0_1)] 24 (0, 0))) ∧ Az (w'.heap[gb102]? = some (.cells #[.int .i64 0, (.slice none 0 0)] 24 (0, 0))) ∧ Az (w'.heap[gb103]? = some (.cells #[.int .i64 a0_0, u104001] 24 (0, 0))) ∧ Az (Below w.heap.size w w'))
 case atStart => exact ⟨(0), (([] : List (List Int))), (.slice none 0 0), (by first | rfl | (simp; done) | (simp [*]; done)), H', ⟨Nat.le_refl _⟩, ⟨by first | exact Kd.S_nil _ _ _ _ _ | exact Kd.N_nil _ _ _ _ _ | exact Kd.V_nil _ _ _ _ _ | exact Kd.Q_nil _ _ _ _ _ | exact Kd.R_nil _ _ _ _ _⟩, ⟨by (with_reducible repeat (first | refine bkN ?_ _ | refine bkd ?_ | refine bka ?_ _)); refine blk_far ?_ NB101_103.out _; (with_reducible repeat (first | refine bkN ?_ _ | refine bkd ?_ | refine bka ?_ _)); refine blk_far ?_ NB101_103.out _; (with_reducible repeat (first | refine bkN ?_ _ | refine bkd ?_ | refine bka ?_ _)); exact BK101.out⟩, ⟨by (with_reducible repeat (first | refine bkN ?_ _ | refine bkd ?_ | refine bka ?_ _)); refine blk_far ?_ NB102_103.out _; (with_reducible repeat (first | refine bkN ?_ _ | refine bkd ?_ | refine bka ?_ _)); refine blk_far ?_ NB102_103.out _; (with_reducible repeat (first | refine bkN ?_ _ | refine bkd ?_ | refine bka ?_ _)); exact BK102.out⟩, ⟨by (with_reducible repeat (first | refine bkN ?_ _ | refine bkd ?_ | refine bka ?_ _)); refine blk_put (cs := #[.int .i64 a0_0, .slice none 0 0]) ?_ 1 _ rfl; (with_reducible repeat (first | refine bkN ?_ _ | refine bkd ?_ | refine bka ?_ _)); refine blk_put (cs := #[.int .i64 0, .slice none 0 0]) ?_ 0 _ rfl; (with_reducible repeat (first | refine bkN ?_ _ | refine bkd ?_ | refine bka ?_ _)); exact BK103.out⟩, ⟨by repeat (first | (with_reducible first | exact HB.out | apply bwa | apply pwN | apply bw1 | refine bws ?_ GE101.out | refine bws ?_ GE102.out | refine bws ?_ GE103.out) | exact HB.out)⟩⟩
 case round =>
  clear H'
  try clear c1
  try clear p2
  try clear c5
  try clear c8
  try clear c9
  try clear hcz10_0
  try clear hcz10_1
  try clear hcz6_0
  try clear hcz6_1
  try clear hfz10_0
  try clear hfz10_1
  try clear hfz6_0
  try clear hfz6_1
  obtain ⟨x6_1, x104001_1, u104001, rfl, HA, HK1, HO_104001, BK101, BK102, BK103, HB⟩ := hrel
  cases gk with
  | zero => exact absurd HA.out (by simp [nfC.l0])
  | succ k1 =>
   have H := HA.out
   clear HA
   simp only [nfC.l0] at H
   by_cases c11 : x6_1 < (l0_1.length : Int)
   ·rw [if_pos c11] at H
    have c11b0 : decide (x6_1 < (l0_1.length : Int)) = true := decide_eq_true c11
    clear c11
    by_cases c12 : x6_1 < a1
    ·rw [if_pos c12] at H
     have c12b0 : decide (x6_1 < a1) = true := decide_eq_true c12
     clear c12
     by_cases c13 : 0 ≤ x6_1
     ·rw [if_pos c13] at H
      have c13b0 : decide (0 ≤ x6_1) = true := decide_eq_true c13
      clear c13
      obtain ⟨ji14, hji14⟩ : ∃ j_ : Int, (mn ((rL l0_1 x6_1).length : Int) 12) = j_ := ⟨_, rfl⟩
      replace H : (if 0 ≤ (ji14) then (if (ji14) ≤ ((rL l0_1 x6_1).length : Int) then (if ([] : List Int).length + ((rL l0_1 x6_1).take ((ji14) : Int).toNat).length < 17592186044416 then (if x104001_1.length < 5864062014805 then (nfC.l0 k1 a1 (wrap64 (x6_1 + 1)) a0_0 l0_1 a0_0 (x104001_1 ++ [(([] : List Int) ++ ((rL l0_1 x6_1).take ((ji14) : Int).toNat))])) else (none)) else (none)) else (none)) else (none)) = some (r1, r2) := by first | (rw [hji14] at H; exact H) | (simp only [hji14] at H ⊢; exact H)
      have hji14_ : (if 12 < ((rL l0_1 x6_1).length : Int) then 12 else ((rL l0_1 x6_1).length : Int)) = ji14 := hji14
      by_cases c15 : 0 ≤ (ji14)
      ·rw [if_pos c15] at H
       have c15b0 := eq_true c15
       have c15b1 : decide (0 ≤ (ji14)) = true := decide_eq_true c15
       clear c15
       by_cases c16 : (ji14) ≤ ((rL l0_1 x6_1).length : Int)
       ·rw [if_pos c16] at H
        have c16b0 := eq_true c16
        have c16b1 : decide ((ji14) ≤ ((rL l0_1 x6_1).length : Int)) = true := decide_eq_true c16
        clear c16
        by_cases c17 : ([] : List Int).length + ((rL l0_1 x6_1).take ((ji14) : Int).toNat).length < 17592186044416
        ·rw [if_pos c17] at H
         have LMc17 := Az.mk c17
         clear c17
         obtain ⟨y107, hy107⟩ : ∃ y_ : List Int, y_ = (([] : List Int) ++ ((rL l0_1 x6_1).take ((ji14) : Int).toNat)) := ⟨_, rfl⟩
         replace H : (if x104001_1.length < 5864062014805 then (nfC.l0 k1 a1 (wrap64 (x6_1 + 1)) a0_0 l0_1 a0_0 (x104001_1 ++ [y107])) else (none)) = some (r1, r2) := by first | (rw [hy107]; with_reducible exact H) | (have H2_ := (Option.bind_some _ _).symm.trans H; rw [hy107]; with_reducible exact H2_) | (have H2_ := (Option.bind_some _ _).symm.trans H; with_reducible exact H2_) | with_reducible exact H | (rw [hy107]; exact H) | exact H
         have Ny107 := Az.mk hy107
         clear hy107
         by_cases c18 : x104001_1.length < 5864062014805
         ·rw [if_pos c18] at H
          have LMc18 := Az.mk c18
          clear c18
          obtain ⟨y110, hy110⟩ : ∃ y_ : List (List Int), y_ = (x104001_1 ++ [y107]) := ⟨_, rfl⟩
          replace H : (nfC.l0 k1 a1 (wrap64 (x6_1 + 1)) a0_0 l0_1 a0_0 y110) = some (r1, r2) := by first | (rw [hy110]; with_reducible exact H) | (have H2_ := (Option.bind_some _ _).symm.trans H; rw [hy110]; with_reducible exact H2_) | (have H2_ := (Option.bind_some _ _).symm.trans H; with_reducible exact H2_) | with_reducible exact H | (rw [hy110]; exact H) | exact H
          have Ny110 := Az.mk hy110
          clear hy110
          have H' := Az.mk H
          clear H
          have hnb19 := NB101_102.out
          have hnc19 := NB102_101.out
          have hnb20 := NB101_103.out
          have hnc20 := NB103_101.out
          have hcz21_0 : wr.cell? ⟨gb101, 0, none⟩ = some (.int .i64 a0_0) := (bkc BK101.out 0).trans rfl
          have hcz21_1 : wr.cell? ⟨gb101, 1, none⟩ = some (.slice A0_1 l0_1.length c0_1) := (bkc BK101.out 1).trans rfl
          have hfz21_0 := bkf BK101.out 0
          have hfz21_1 := bkf BK101.out 1
          try go_wp2
          have n0_ := Az.mk (Kd.S_drew HO_104001.out)
          have n1_ := Az.mk (bkd BK101.out)
          have n2_ := Az.mk (bkd BK102.out)
          have n3_ := Az.mk (bkd BK103.out)
          have n4_ := Az.mk (bw1 HB.out)
          clear HO_104001
          clear BK101
          clear BK102
          clear BK103
          clear HB
          have HO_104001 := n0_
          have BK101 := n1_
          have BK102 := n2_
          have BK103 := n3_
          have HB := n4_
          clear n0_ n1_ n2_ n3_ n4_
          have p104 : 0 ≤ (x6_1 : Int) := of_decide_eq_true (by assumption)
          have q104 : x6_1 < (l0_1.length : Int) := of_decide_eq_true (by assumption)
          obtain ⟨ad104, A104_0, c104_0, e104, hx104_0, hl104_0, hi104_0⟩ := at_L1 HR0_1.out x6_1 p104 q104
          have hw104_0 := hx104_0
          cases e104
          replace hx104_0 := (HB.out.cell (World.block_lt_of_cell? w _ hx104_0)).trans hx104_0
          have HR104_0 := Az.mk hi104_0
          have HC104_0 := Az.mk hl104_0
          clear hi104_0 hl104_0
          replace p104 := eq_true p104
          replace q104 := eq_true q104
          have p105 : 0 ≤ (x6_1 : Int) := of_decide_eq_true (by assumption)
          have q105 : x6_1 < (l0_1.length : Int) := of_decide_eq_true (by assumption)
          obtain ⟨ad105, A105_0, c105_0, e105, hx105_0, hl105_0, hi105_0⟩ := at_L1 HR0_1.out x6_1 p105 q105
          have hw105_0 := hx105_0
          obtain rfl : ad104 = ad105 := (by injection e105)
          replace hx105_0 := (HB.out.cell (World.block_lt_of_cell? w _ hx105_0)).trans hx105_0
          have HR105_0 := Az.mk hi105_0
          have HC105_0 := Az.mk hl105_0
          clear hi105_0 hl105_0
          replace p105 := eq_true p105
          replace q105 := eq_true q105
          have ea_ := Option.some.inj (hx104_0.symm.trans hx105_0)
          injection ea_ with ea_ en_ ec_
          subst ea_
          subst ec_
          clear en_
          obtain ⟨i023, hi023, _, hsz23, _⟩ := info_parts info3
          obtain ⟨hcut23, hA23, hC23⟩ := print_take_of (P := Tryz.prog) (Value.int .i64) 0 26 3 .i64 Tryz.underlying26 hi023 hsz23 A104_0 c104_0 (rL l0_1 x6_1) (ji14) (of_decide_eq_true (by assumption)) (of_decide_eq_true (by assumption)) HC104_0.out
          have HR106 := Az.mk (Kd.C_of_reads (h1 := fun _ => rfl) (hA23 _ (Kd.reads_of_C HR104_0.out)))
          have HC106 := Az.mk hC23
          clear hA23 hC23 hi023 hsz23
          refine start_ (n := 21) (S := fun w' => w'.cell? ⟨gb103, 0, none⟩ = some (.int .i64 a0_0) ∧ w'.cell? ⟨gb103, 1, none⟩ = some (u104001) ∧ w'.cell? ⟨gb101, 0, none⟩ = some (.int .i64 a0_0) ∧ w'.cell? ⟨gb101, 1, none⟩ = some (.slice (some ad104) l0_1.length c0_1) ∧ w'.cell? (ad104.add (x6_1).toNat) = some (.slice A104_0 (rL l0_1 x6_1).length c104_0) ∧ w'.cell? (ad104.add (x6_1).toNat) = some (.slice A104_0 (rL l0_1 x6_1).length c104_0)) (ds := [20]) (Array.replicate 21 false) (by kernel_rfl) rfl rfl ⟨(bkc BK103.out 0).trans rfl, (bkc BK103.out 1).trans rfl, (bkc BK101.out 0).trans rfl, (bkc BK101.out 1).trans rfl, (HB.out.zc hw104_0), (HB.out.zc hw105_0)⟩ (fun hHeld => ?_); refine with_tabW nfC.tab6 nfC.bits6 (fun HT_ HW_ => ?_)
          generalize wr.drew = w22 at HO_104001 BK101 BK102 BK103 HB HR104_0 HR105_0 HR106 hx104_0 hx105_0 hHeld ⊢
          refine pA 0 (some 23) (bA 21 1) rfl rfl HT_.out (by intro w'; go_simp; with_reducible rfl) (by simp only [Act.put, zq1, zq2, zq3, iw, jw]; rfl) ?_
          refine pA 2 (some 25) (bA 21 5) rfl rfl HT_.out (by intro w'; go_simp; with_reducible rfl) (by simp only [Act.put, zq1, zq2, zq3, iw, jw]; rfl) ?_
          refine pA 3 (some 26) (bA 21 13) rfl rfl HT_.out (by intro w'; go_simp; with_reducible rfl) (by simp only [Act.put, zq1, zq2, zq3, iw, jw]; rfl) ?_
          refine pA 5 (some 28) (bA 21 45) rfl rfl HT_.out (by intro w'; go_simp; with_reducible rfl) (by simp only [Act.put, zq1, zq2, zq3, iw, jw]; rfl) ?_
          refine pA 8 (some 31) (bA 21 301) rfl rfl HT_.out (by intro w'; go_simp; with_reducible rfl) (by simp only [Act.put, zq1, zq2, zq3, iw, jw]; rfl) ?_
          refine pA 10 (some 33) (bA 21 1325) rfl rfl HT_.out (by intro w'; go_simp; with_reducible rfl) (by simp only [Act.put, zq1, zq2, zq3, iw, jw]; rfl) ?_
          refine pT 1 (some 24) (bA 21 1327) rfl rfl HT_.out HW_.out hHeld (by rintro w' ⟨s0, s1, s2, s3, s4, s5⟩; go_simp; with_reducible rfl) (by simp only [Act.put, zq1, zq2, zq3, iw, jw]; rfl) ?_
          refine pT 4 (some 27) (bA 21 1343) rfl rfl HT_.out HW_.out hHeld (by rintro w' ⟨s0, s1, s2, s3, s4, s5⟩; go_simp; with_reducible rfl) (by simp only [Act.put, zq1, zq2, zq3, iw, jw]; rfl) ?_
          refine pA 6 (some 29) (bA 21 1407) rfl rfl HT_.out (by intro w'; go_simp; with_reducible rfl) (by simp only [Act.put, zq1, zq2, zq3, iw, jw]; rfl) ?_
          refine pT 7 (some 30) (bA 21 1535) rfl rfl HT_.out HW_.out hHeld (by rintro w' ⟨s0, s1, s2, s3, s4, s5⟩; go_simp; with_reducible rfl) (by simp only [Act.put, zq1, zq2, zq3, iw, jw]; rfl) ?_
          refine pT 9 (some 32) (bA 21 2047) rfl rfl HT_.out HW_.out hHeld (by rintro w' ⟨s0, s1, s2, s3, s4, s5⟩; go_simp; with_reducible rfl) (by simp only [Act.put, zq1, zq2, zq3, iw, jw]; rfl) ?_
          refine pA 11 (some 34) (bA 21 4095) rfl rfl HT_.out (by intro w'; go_simp; with_reducible rfl) (by simp only [Act.put, zq1, zq2, zq3, iw, jw]; rfl) ?_
          refine pT 12 (some 35) (bA 21 8191) rfl rfl HT_.out HW_.out hHeld (by rintro w' ⟨s0, s1, s2, s3, s4, s5⟩; go_simp; with_reducible rfl) (by simp only [Act.put, zq1, zq2, zq3, iw, jw]; rfl) ?_
          refine pA 13 (some 36) (bA 21 16383) rfl rfl HT_.out (by intro w'; go_simp; with_reducible rfl) (by simp only [Act.put, zq1, zq2, zq3, iw, jw]; rfl) ?_
          refine pA 14 (some 37) (bA 21 32767) rfl rfl HT_.out (by intro w'; go_simp; with_reducible rfl) (by simp only [Act.put, zq1, zq2, zq3, iw, jw]; rfl) ?_
          refine pA 15 (some 38) (bA 21 65535) rfl rfl HT_.out (by intro w'; go_simp; with_reducible rfl) (by simp only [Act.put, zq1, zq2, zq3, iw, jw]; rfl) ?_
          refine one_ (i := 16) (N := some 39) (bA 21 131071) rfl rfl (one_of HT_.out (by kernel_rfl)) (by decide) (fun K hK => ?_)
          refine Kd.R_append_rows_step (Kd.int .i64) (w0 := w) w.heap.size (by rfl) (.tmp 25) (.tmp 38) 26 3 (.int .i64 0) 8 rfl Tryz.underlying26 info3 rfl (by decide) (by omega) (.slice none 0 0) ([] : List Int) ((rL l0_1 x6_1).take ((ji14) : Int).toNat) _ _ _ (fun _ => True) (fun _ => False) rfl rfl ?aO ?aR (fun _ _ h => h) (fun _ h => h.elim) ?aF ?aB ?aS ?aL ?_
          (case aR => have hq_ := (Kd.C_below HR106.out HB.out); rw [show ((rL l0_1 x6_1).take ((ji14) : Int).toNat).length = (ji14).toNat from (by rw [List.length_take]; have h_ : ((ji14) : Int) ≤ ((rL l0_1 x6_1).length : Int) := of_decide_eq_true (by assumption); omega)] at hq_; exact hq_)
          (case aB => exact (by repeat (first | (with_reducible first | exact HB.out | apply bwa | apply pwN | apply bw1 | refine bws ?_ GE101.out | refine bws ?_ GE102.out | refine bws ?_ GE103.out) | exact HB.out)))
          (case aF => exact (fun _ _ => trivial))
          (case aO => exact ((Kd.R_nil _ _ _ _ (fun _ => True))))
          (case aS => exact (below_size (by repeat (first | (with_reducible first | exact HB.out | apply bwa | apply pwN | apply bw1 | refine bws ?_ GE101.out | refine bws ?_ GE102.out | refine bws ?_ GE103.out) | exact HB.out))))
          (case aL => have := LMc17.out; have hlx_ := (show ((rL l0_1 x6_1).take ((ji14) : Int).toNat).length = (ji14).toNat from (by rw [List.length_take]; have h_ : ((ji14) : Int) ≤ ((rL l0_1 x6_1).length : Int) := of_decide_eq_true (by assumption); omega)); omega)
          intro v108 w24 ho hb hg hat
          rw [← Ny107.out] at ho
          have n0_ := Az.mk (Kd.S_after (Kd.S_apart_nil (by (with_reducible repeat (first | apply Kd.S_alloc | apply Kd.S_drewN | apply Kd.S_drew)); exact HO_104001.out)) hg hat)
          have n1_ := Az.mk (bkg (g := gb101) (o := .cells #[.int .i64 a0_0, .slice (some ad104) l0_1.length c0_1] 24 (0, 0)) (by (with_reducible repeat (first | refine bkN ?_ _ | refine bkd ?_ | refine bka ?_ _)); exact BK101.out) hg (by simp [Value.ownBlock]))
          have n2_ := Az.mk (bkg (g := gb102) (o := .cells #[.int .i64 0, .slice none 0 0] 24 (0, 0)) (by (with_reducible repeat (first | refine bkN ?_ _ | refine bkd ?_ | refine bka ?_ _)); exact BK102.out) hg (by simp [Value.ownBlock]))
          have n3_ := Az.mk (bkg (g := gb103) (o := .cells #[.int .i64 a0_0, u104001] 24 (0, 0)) (by (with_reducible repeat (first | refine bkN ?_ _ | refine bkd ?_ | refine bka ?_ _)); exact BK103.out) hg (by simp [Value.ownBlock]))
          have n4_ := Az.mk (hb)
          have n5_ := Az.mk (ho)
          clear HO_104001
          clear BK101
          clear BK102
          clear BK103
          clear HB
          have HO_104001 := n0_
          have BK101 := n1_
          have BK102 := n2_
          have BK103 := n3_
          have HB := n4_
          have HO109 := n5_
          clear n0_ n1_ n2_ n3_ n4_ n5_
          clear ho hb hg hat
          obtain ⟨Ao26, co26, eo26⟩ := Kd.R_slice HO109.out
          (first | subst eo26 | (injection eo26 with f1_ f2_ f3_; have f4_ := f1_.symm; have f5_ := f3_.symm; clear f1_ f2_ f3_; subst f4_; subst f5_))
          refine hK.out _ _ ⟨(bkc BK103.out 0).trans rfl, (bkc BK103.out 1).trans rfl, (bkc BK101.out 0).trans rfl, (bkc BK101.out 1).trans rfl, (HB.out.zc hw104_0), (HB.out.zc hw105_0)⟩ (fun hHeld => ?_)
          clear hK K
          refine norm_ (by show Act.put _ (some 39) _ = _; simp only [Act.put, zq1, zq2, zq3, iw, jw]; rfl) ?_
          refine one_ (i := 17) (N := some 40) (bA 21 262143) rfl rfl (one_of HT_.out (by kernel_rfl)) (by decide) (fun K hK => ?_)
          refine value_ (w1 := ?_) (v := ?_) (by rfl) rfl ?_ ?_
          rotate_left 2
          ·go_simp
           constructor
           ·rfl
           ·rfl
          refine hK.out _ _ ⟨(bkc (bka BK103.out _) 0).trans rfl, (bkc (bka BK103.out _) 1).trans rfl, (bkc (bka BK101.out _) 0).trans rfl, (bkc (bka BK101.out _) 1).trans rfl, (World.cell?_alloc_lt _ _ _ (World.block_lt_of_cell? _ _ ((HB.out.zc hw104_0)))).trans ((HB.out.zc hw104_0)), (World.cell?_alloc_lt _ _ _ (World.block_lt_of_cell? _ _ ((HB.out.zc hw105_0)))).trans ((HB.out.zc hw105_0))⟩ (fun hHeld => ?_)
          clear hK K
          refine norm_ (by show Act.put _ (some 40) _ = _; simp only [Act.put, zq1, zq2, zq3, iw, jw]; rfl) ?_
          refine one_ (i := 18) (N := some 41) (bA 21 524287) rfl rfl (one_of HT_.out (by kernel_rfl)) (by decide) (fun K hK => ?_)
          refine Kd.S_append_step (Kd.slice 3 (Kd.int .i64)) (w0 := w) w.heap.size (by rfl) (.tmp 24) (.tmp 40) 22 26 (.slice none 0 0) 24 rfl Tryz.underlying22 info26 rfl (by decide) (by omega) u104001 x104001_1 y107 [.slice Ao26 y107.length co26] (fun _ => True) (fun k_ => some k_ = (.slice Ao26 y107.length co26 : Value).ownBlock) rfl rfl ?aP (fun k_ hk_ => ((Kd.R_mono (ok' := fun k_ => ((fun _ => True)) k_ ∧ some k_ ≠ (u104001 : Value).ownBlock) (Kd.R_apart' (HO109.out) (Kd.S_typed HO_104001.out) (by decide)) (fun k_ hk => ⟨trivial, hk.2⟩))).1 k_ hk_.symm) ?aF ?aO ?aB ?aS ?aL ?_
          (case aP => exact Kd.M_row (Kd.R_mono (Kd.R_tight rfl (Kd.R_mono (ok' := fun k_ => ((fun _ => True)) k_ ∧ some k_ ≠ (u104001 : Value).ownBlock) (Kd.R_apart' (HO109.out) (Kd.S_typed HO_104001.out) (by decide)) (fun k_ hk => ⟨trivial, hk.2⟩))) (fun _ h_ => h_)))
          (case aB => exact (by repeat (first | (with_reducible first | exact HB.out | apply bwa | apply pwN | apply bw1 | refine bws ?_ GE101.out | refine bws ?_ GE102.out | refine bws ?_ GE103.out) | exact HB.out)))
          (case aF => exact (fun _ _ => trivial))
          (case aO => exact (by (with_reducible repeat (first | apply Kd.S_alloc | apply Kd.S_drewN | apply Kd.S_drew)); exact Kd.S_mono HO_104001.out (fun k_ hk => ⟨trivial, fun e_ => hk.2 e_⟩)))
          (case aS => exact (below_size (by repeat (first | (with_reducible first | exact HB.out | apply bwa | apply pwN | apply bw1 | refine bws ?_ GE101.out | refine bws ?_ GE102.out | refine bws ?_ GE103.out) | exact HB.out))))
          (case aL => have := LMc18.out; omega)
          intro v111 w25 ho hb hg hat
          rw [← Ny110.out] at ho
          have n0_ := Az.mk (bkg (g := gb101) (o := .cells #[.int .i64 a0_0, .slice (some ad104) l0_1.length c0_1] 24 (0, 0)) (by (with_reducible repeat (first | refine bkN ?_ _ | refine bkd ?_ | refine bka ?_ _)); exact BK101.out) hg (Kd.S_ne HO_104001.out BK101.out (by decide)))
          have n1_ := Az.mk (bkg (g := gb102) (o := .cells #[.int .i64 0, .slice none 0 0] 24 (0, 0)) (by (with_reducible repeat (first | refine bkN ?_ _ | refine bkd ?_ | refine bka ?_ _)); exact BK102.out) hg (Kd.S_ne HO_104001.out BK102.out (by decide)))
          have n2_ := Az.mk (bkg (g := gb103) (o := .cells #[.int .i64 a0_0, u104001] 24 (0, 0)) (by (with_reducible repeat (first | refine bkN ?_ _ | refine bkd ?_ | refine bka ?_ _)); exact BK103.out) hg (Kd.S_ne HO_104001.out BK103.out (by decide)))
          have n3_ := Az.mk (hb)
          have n4_ := Az.mk (ho)
          clear BK101
          clear BK102
          clear BK103
          clear HB
          clear HO_104001
          clear HO109
          have BK101 := n0_
          have BK102 := n1_
          have BK103 := n2_
          have HB := n3_
          have HO112 := n4_
          clear n0_ n1_ n2_ n3_ n4_
          clear ho hb hg hat
          obtain ⟨Ao27, co27, eo27⟩ := Kd.S_slice HO112.out
          (first | subst eo27 | (injection eo27 with f1_ f2_ f3_; have f4_ := f1_.symm; have f5_ := f3_.symm; clear f1_ f2_ f3_; subst f4_; subst f5_))
          refine hK.out _ _ ⟨(bkc BK103.out 0).trans rfl, (bkc BK103.out 1).trans rfl, (bkc BK101.out 0).trans rfl, (bkc BK101.out 1).trans rfl, (HB.out.zc hw104_0), (HB.out.zc hw105_0)⟩ (fun hHeld => ?_)
          clear hK K
          refine norm_ (by show Act.put _ (some 41) _ = _; simp only [Act.put, zq1, zq2, zq3, iw, jw]; rfl) ?_
          refine pA 19 (some 42) (bA 21 1048575) rfl rfl HT_.out (by intro w'; go_simp; with_reducible rfl) (by simp only [Act.put, zq1, zq2, zq3, iw, jw]; rfl) ?_
          refine last_ (i := 20) (N := none) (bA 21 2097151) rfl rfl (one_of HT_.out (by kernel_rfl)) (by decide) (fun K hK => ?_)
          have hs28 : w25.cell? ⟨gb103, 1, none⟩ = some (u104001) := (bkc BK103.out 1).trans rfl
          have hfs28 := bkf BK103.out 1
          have hns28_0 := NB101_103.out
          have hns28_1 := NB102_103.out
          have hms28_0 := NB103_101.out
          have hms28_1 := NB103_102.out
          refine skip_ (w1 := ?_) (by rfl) rfl ?_ ?_
          rotate_left
          ·go_simp
           rfl
          refine hK.out _ _ ?_
          clear hK K
          refine done_ (done_of HT_.out (by kernel_rfl)) ?_
          try go_wp2
          go_roundg k1
          case measure => have := HK1.out; omega
          case rel => exact ⟨(wrap64 (x6_1 + 1)), (y110), (.slice Ao27 y110.length co27), (by first | rfl | (simp; done) | (simp [*]; done)), H', ⟨by have := HK1.out; omega⟩, ⟨by (with_reducible repeat (first | apply Kd.S_alloc | apply Kd.S_drewN | apply Kd.S_drew)); exact Kd.S_mono (Kd.S_far (p := ⟨gb103, 1, none⟩) (Kd.S_types HO112.out BK103.out (by decide)) (fun _ hk => hk.2) (.slice Ao27 y110.length co27)) (fun _ hk => trivial)⟩, ⟨by (with_reducible repeat (first | refine bkN ?_ _ | refine bkd ?_ | refine bka ?_ _)); refine blk_far ?_ NB101_103.out _; (with_reducible repeat (first | refine bkN ?_ _ | refine bkd ?_ | refine bka ?_ _)); exact BK101.out⟩, ⟨by (with_reducible repeat (first | refine bkN ?_ _ | refine bkd ?_ | refine bka ?_ _)); refine blk_far ?_ NB102_103.out _; (with_reducible repeat (first | refine bkN ?_ _ | refine bkd ?_ | refine bka ?_ _)); exact BK102.out⟩, ⟨by (with_reducible repeat (first | refine bkN ?_ _ | refine bkd ?_ | refine bka ?_ _)); refine blk_put (cs := #[.int .i64 a0_0, u104001]) ?_ 1 _ rfl; (with_reducible repeat (first | refine bkN ?_ _ | refine bkd ?_ | refine bka ?_ _)); exact BK103.out⟩, ⟨by repeat (first | (with_reducible first | exact HB.out | apply bwa | apply pwN | apply bw1 | refine bws ?_ GE101.out | refine bws ?_ GE102.out | refine bws ?_ GE103.out) | exact HB.out)⟩⟩
         ·rw [if_neg c18] at H
          exact absurd H (by simp)
        ·rw [if_neg c17] at H
         exact absurd H (by simp)
       ·rw [if_neg c16] at H
        exact absurd H (by simp)
      ·rw [if_neg c15] at H
       exact absurd H (by simp)
     ·rw [if_neg c13] at H
      exact absurd H (by simp)
    ·rw [if_neg c12] at H
     have c12b0 : decide (x6_1 < a1) = false := decide_eq_false c12
     clear c12
     simp only [Option.some.injEq, Prod.mk.injEq] at H
     obtain ⟨rfl, rfl⟩ := H
     have hnb29 := NB101_102.out
     have hnc29 := NB102_101.out
     have hnb30 := NB101_103.out
     have hnc30 := NB103_101.out
     have hcz31_0 : wr.cell? ⟨gb101, 0, none⟩ = some (.int .i64 a0_0) := (bkc BK101.out 0).trans rfl
     have hcz31_1 : wr.cell? ⟨gb101, 1, none⟩ = some (.slice A0_1 l0_1.length c0_1) := (bkc BK101.out 1).trans rfl
     have hfz31_0 := bkf BK101.out 0
     have hfz31_1 := bkf BK101.out 1
     have hnb32 := NB103_102.out
     have hnc32 := NB102_103.out
     have hcz33_0 : wr.cell? ⟨gb103, 0, none⟩ = some (.int .i64 a0_0) := (bkc BK103.out 0).trans rfl
     have hcz33_1 : wr.cell? ⟨gb103, 1, none⟩ = some (u104001) := (bkc BK103.out 1).trans rfl
     have hfz33_0 := bkf BK103.out 0
     have hfz33_1 := bkf BK103.out 1
     have hcz34_0 : wr.cell? ⟨gb102, 0, none⟩ = some (.int .i64 0) := (bkc BK102.out 0).trans rfl
     have hcz34_1 : wr.cell? ⟨gb102, 1, none⟩ = some (.slice none 0 0) := (bkc BK102.out 1).trans rfl
     have hfz34_0 := bkf BK102.out 0
     have hfz34_1 := bkf BK102.out 1
     obtain ⟨Ao35, co35, eo35⟩ := Kd.S_slice HO_104001.out
     subst eo35
     go_wp2
     refine bodyPost_ret (results_cell_row rfl _ _ gb102 24 #[.int .i64 a0_0, .slice Ao35 x104001_1.length co35] (0, 0) _ rfl (by (with_reducible repeat (first | refine bkN ?_ _ | refine bkd ?_ | refine bka ?_ _)); refine blk_put (cs := #[.int .i64 a0_0, .slice none 0 0]) ?_ 1 _ rfl; (with_reducible repeat (first | refine bkN ?_ _ | refine bkd ?_ | refine bka ?_ _)); refine blk_put (cs := #[.int .i64 0, .slice none 0 0]) ?_ 0 _ rfl; (with_reducible repeat (first | refine bkN ?_ _ | refine bkd ?_ | refine bka ?_ _)); exact BK102.out) Tryz.underlying24 rfl (by kernel_rfl)) rfl ?_
     exact ⟨_, by first | rfl | (simp [errW_none, errW_some] <;> rfl) | (simp [*, errW_none, errW_some] <;> rfl), by (with_reducible repeat (first | apply Kd.S_alloc | apply Kd.S_drewN | apply Kd.S_drew)); exact Kd.S_mono (Kd.S_far (p := ⟨gb102, 1, none⟩) (Kd.S_far (p := ⟨gb102, 0, none⟩) (Kd.S_types HO_104001.out BK102.out (by decide)) (fun _ hk => hk.2) (.int .i64 a0_0)) (fun _ hk => hk.2) (.slice Ao35 x104001_1.length co35)) (fun _ hk => trivial), by repeat (first | (with_reducible first | exact HB.out | apply bwa | apply pwN | apply bw1 | refine bws ?_ GE101.out | refine bws ?_ GE102.out | refine bws ?_ GE103.out) | exact HB.out)⟩
   ·rw [if_neg c11] at H
    have c11b0 : decide (x6_1 < (l0_1.length : Int)) = false := decide_eq_false c11
    clear c11
    simp only [Option.some.injEq, Prod.mk.injEq] at H
    obtain ⟨rfl, rfl⟩ := H
    have hnb36 := NB101_102.out
    have hnc36 := NB102_101.out
    have hnb37 := NB101_103.out
    have hnc37 := NB103_101.out
    have hcz38_0 : wr.cell? ⟨gb101, 0, none⟩ = some (.int .i64 a0_0) := (bkc BK101.out 0).trans rfl
    have hcz38_1 : wr.cell? ⟨gb101, 1, none⟩ = some (.slice A0_1 l0_1.length c0_1) := (bkc BK101.out 1).trans rfl
    have hfz38_0 := bkf BK101.out 0
    have hfz38_1 := bkf BK101.out 1
    have hnb39 := NB103_102.out
    have hnc39 := NB102_103.out
    have hcz40_0 : wr.cell? ⟨gb103, 0, none⟩ = some (.int .i64 a0_0) := (bkc BK103.out 0).trans rfl
    have hcz40_1 : wr.cell? ⟨gb103, 1, none⟩ = some (u104001) := (bkc BK103.out 1).trans rfl
    have hfz40_0 := bkf BK103.out 0
    have hfz40_1 := bkf BK103.out 1
    have hcz41_0 : wr.cell? ⟨gb102, 0, none⟩ = some (.int .i64 0) := (bkc BK102.out 0).trans rfl
    have hcz41_1 : wr.cell? ⟨gb102, 1, none⟩ = some (.slice none 0 0) := (bkc BK102.out 1).trans rfl
    have hfz41_0 := bkf BK102.out 0
    have hfz41_1 := bkf BK102.out 1
    obtain ⟨Ao42, co42, eo42⟩ := Kd.S_slice HO_104001.out
    subst eo42
    go_wp2
    refine bodyPost_ret (results_cell_row rfl _ _ gb102 24 #[.int .i64 a0_0, .slice Ao42 x104001_1.length co42] (0, 0) _ rfl (by (with_reducible repeat (first | refine bkN ?_ _ | refine bkd ?_ | refine bka ?_ _)); refine blk_put (cs := #[.int .i64 a0_0, .slice none 0 0]) ?_ 1 _ rfl; (with_reducible repeat (first | refine bkN ?_ _ | refine bkd ?_ | refine bka ?_ _)); refine blk_put (cs := #[.int .i64 0, .slice none 0 0]) ?_ 0 _ rfl; (with_reducible repeat (first | refine bkN ?_ _ | refine bkd ?_ | refine bka ?_ _)); exact BK102.out) Tryz.underlying24 rfl (by kernel_rfl)) rfl ?_
    exact ⟨_, by first | rfl | (simp [errW_none, errW_some] <;> rfl) | (simp [*, errW_none, errW_some] <;> rfl), by (with_reducible repeat (first | apply Kd.S_alloc | apply Kd.S_drewN | apply Kd.S_drew)); exact Kd.S_mono (Kd.S_far (p := ⟨gb102, 1, none⟩) (Kd.S_far (p := ⟨gb102, 0, none⟩) (Kd.S_types HO_104001.out BK102.out (by decide)) (fun _ hk => hk.2) (.int .i64 a0_0)) (fun _ hk => hk.2) (.slice Ao42 x104001_1.length co42)) (fun _ hk => trivial), by repeat (first | (with_reducible first | exact HB.out | apply bwa | apply pwN | apply bw1 | refine bws ?_ GE101.out | refine bws ?_ GE102.out | refine bws ?_ GE103.out) | exact HB.out)⟩
def nBr.f (a0 : Int) (a1 : Int) : Option (Int) := if a1 = 0 then (none) else (some (Int.tmod (wrap64 ((Int.tmod a0 a1) + a1)) a1))
theorem nBr.calls (a0 : Int) (a1 : Int) (r : Int) (w : World) (h : nBr.f a0 a1 = some r) :
  Calls Tryz.prog 34 #[.int .i64 a0, .int .i64 a1] w fun e w' => e = .returned (.int .i64 r) ∧ Drawn0 w w' := by
 have H : (if a1 = 0 then (none) else (some (Int.tmod (wrap64 ((Int.tmod a0 a1) + a1)) a1))) = some r := h
 clear h
 by_cases c3 : a1 = 0
 ·rw [if_pos c3] at H
  exact absurd H (by simp)
 ·rw [if_neg c3] at H
  have c3b0 : (a1 == 0) = false := beq_eq_false_iff_ne.mpr c3
  have c3b1 : (a1 != 0) = true := bne_iff_ne.mpr c3
  obtain rfl := Option.some.inj H
  go_enter Tryz.func34, Tryz.ntmps34
  go_wp2
  go_ret
  exact ⟨by first | rfl | (simp; done) | (simp [*]; done), by repeat (first | exact Drawn0.refl _ | apply Drawn0.step)⟩
end Go.Proofs.YtkcfdddhnboieaaGreatDoor.PFit
end
section
set_option maxHeartbeats 8000000
set_option maxRecDepth 100000
namespace Go.Proofs.YtkcfdddhnboieaaGreatDoor.PFit
open Go.RowKit QW.PrintWords QW.PrintLast QW.PrintMore
attribute [local go_sem] max2_int min2_int max_two min_two max_three min_three max_four min_four   
mutual
def nFt.l0 : Nat → Int → Int → List (List Int) → Option (Int × (List (List Int)))
 | 0, _, _, _ => none
 | k + 1, x8, x120000, x120001 => if x8 < (x120001.length : Int) then (nFt.l1 k x8 0 x120000 x120001) else (some (x120000, x120001))
def nFt.l1 : Nat → Int → Int → Int → List (List Int) → Option (Int × (List (List Int)))
 | 0, _, _, _, _ => none
 | k + 1, x8, x9, x120000, x120001 => if 0 ≤ x8 then (if x8 < (x120001.length : Int) then (if x9 < ((rL x120001 x8).length : Int) then (if x120000 = 0 then (nFt.l0 k (wrap64 (x8 + 1)) x120000 (x120001.set (x8 : Int).toNat ([] : List Int))) else (if 0 ≤ x9 then ((nBr.f (rd (rL x120001 x8) x9) (wrap64 (2 * x120000))).bind fun t125 => ((some (x120001.set (x8 : Int).toNat ((rL x120001 x8).set (x9 : Int).toNat (wrap64 ((wrap64 (Int.tdiv t125 2)) + 1))) : List (List Int))).bind fun y129 => (if (Int.tmod t125 2) = 1 then (if x9 < ((rL y129 x8).length : Int) then (nFt.l1 k x8 (wrap64 (x9 + 1)) x120000 (y129.set (x8 : Int).toNat ((rL y129 x8).set (x9 : Int).toNat (wrap64 (-(wrap64 ((wrap64 (Int.tdiv t125 2)) + 1))))))) else (none)) else (nFt.l1 k x8 (wrap64 (x9 + 1)) x120000 y129)))) else (none))) else (nFt.l0 k (wrap64 (x8 + 1)) x120000 x120001)) else (none)) else (none)
end
def nFt.f (k : Nat) (a0_0 : Int) (l0_1 : List (List Int)) (a1 : Int) (a2 : Int) : Option (Int × (List (List Int))) := (nfC.f k a0_0 l0_1 a2).bind fun bt115 => ((nBr.f a0_0 (wrap64 (a1 + 1))).bind fun t120 => (nFt.l0 k 0 t120 bt115.2))
theorem nFt.calls (k : Nat) (a0_0 : Int) (A0_1 : Option Addr) (c0_1 : Nat) (l0_1 : List (List Int)) (a1 : Int) (a2 : Int) (r1 : Int) (r2 : List (List Int)) (w : World) (hr0_1 : Kd.C (Kd.slice 3 (Kd.int .i64)) w A0_1 l0_1.length l0_1) (hc0_1 : l0_1.length ≤ c0_1) (h : nFt.f k a0_0 l0_1 a1 a2 = some (r1, r2)) :
  Calls Tryz.prog 26 #[.agg #[.int .i64 a0_0, .slice A0_1 l0_1.length c0_1], .int .i64 a1, .int .i64 a2] w fun e w' => ∃ v1_ : Value, e = .returned (.agg #[.int .i64 r1, v1_]) ∧ Kd.S (Kd.slice 3 (Kd.int .i64)) 26 w' w.heap.size (fun _ => True) v1_ r2 ∧ Below w.heap.size w w' := by
 have hu24 := Tryz.underlying24
 have HR0_1 := Az.mk hr0_1
 have HC0_1 := Az.mk hc0_1
 clear hr0_1 hc0_1
 have HB := Az.mk (Below.refl w.heap.size w)
 have H : ((nfC.f k a0_0 l0_1 a2).bind fun bt115 => ((nBr.f a0_0 (wrap64 (a1 + 1))).bind fun t120 => (nFt.l0 k 0 t120 bt115.2))) = some (r1, r2) := h
 clear h
 replace H := Option.bind_eq_some_iff.mp H
 obtain ⟨⟨t115, t116⟩, A40, H⟩ := H
 replace H : ((nBr.f a0_0 (wrap64 (a1 + 1))).bind fun t120 => (nFt.l0 k 0 t120 t116)) = some (r1, r2) := H
 have A4 := Az.mk A40
 clear A40
 replace H := Option.bind_eq_some_iff.mp H
 obtain ⟨t120, A50, H⟩ := H
 replace H : (nFt.l0 k 0 t120 t116) = some (r1, r2) := H
 have A5 := Az.mk A50
 clear A50
 have H' := Az.mk H
 clear H
 go_enter Tryz.func26, Tryz.ntmps26
 go_wp2_with (first | ((with_reducible refine gate_dst (N := 3) rfl ?_); refine box_event ?hg (N := 3) ?hd (cs := #[.int .i64 a0_0, .slice A0_1 l0_1.length c0_1]) (t := 24) ?hr ?_; (case hd => rfl); (case hg => rfl); (case hr => first | (go_simp; done) | (go_simp; rfl)); intro gb113 hg w6 hbox hb; have n0_ := Az.mk (bwt (by repeat (first | (with_reducible first | exact HB.out | apply bwa | apply pwN | apply bw1) | exact HB.out)) hb); have n1_ := Az.mk (hbox); have n2_ := Az.mk ((by rw [hg]; exact (below_size (by repeat (first | (with_reducible first | exact HB.out | apply bwa | apply pwN | apply bw1) | exact HB.out))) : w.heap.size ≤ gb113)); have n3_ := Az.mk ((by rw [hg]; exact (below_size (by repeat (first | (with_reducible first | exact HB.out | apply bwa | apply pwN | apply bw1) | exact HB.out))) : w.heap.size ≤ gb113)); clear HB; have HB := n0_; have BK113 := n1_; have GW113 := n2_; have GE113 := n3_; clear n0_ n1_ n2_ n3_; clear hb hbox hg) | ((with_reducible refine gate_dst (N := 6) rfl ?_); refine box_event ?hg (N := 6) ?hd (cs := #[.int .i64 0, .slice none 0 0]) (t := 24) ?hr ?_; (case hd => rfl); (case hg => rfl); (case hr => first | (go_simp; done) | (go_simp; rfl)); intro gb114 hg w7 hbox hb; have n0_ := Az.mk (blk_below (g := gb113) (o := .cells #[.int .i64 a0_0, .slice A0_1 l0_1.length c0_1] 24 (0, 0)) (by (with_reducible repeat (first | refine bkN ?_ _ | refine bkd ?_ | refine bka ?_ _)); exact BK113.out) hb); have n1_ := Az.mk (bwt (by repeat (first | (with_reducible first | exact HB.out | apply bwa | apply pwN | apply bw1 | refine bws ?_ GE113.out) | exact HB.out)) hb); have n2_ := Az.mk (hbox); have n3_ := Az.mk ((by rw [hg]; exact (below_size (by repeat (first | (with_reducible first | exact HB.out | apply bwa | apply pwN | apply bw1 | refine bws ?_ GE113.out) | exact HB.out))) : w.heap.size ≤ gb114)); have n4_ := Az.mk ((by rw [hg]; exact (below_size (by repeat (first | (with_reducible first | exact HB.out | apply bwa | apply pwN | apply bw1 | refine bws ?_ GE113.out) | exact HB.out))) : w.heap.size ≤ gb114)); have n5_ := Az.mk ((by rw [hg]; exact Nat.ne_of_lt (blk_lt (g := gb113) (o := .cells #[.int .i64 a0_0, .slice A0_1 l0_1.length c0_1] 24 (0, 0)) (by (with_reducible repeat (first | refine bkN ?_ _ | refine bkd ?_ | refine bka ?_ _)); exact BK113.out)) : gb113 ≠ gb114)); have n6_ := Az.mk ((by rw [hg]; exact Nat.ne_of_gt (blk_lt (g := gb113) (o := .cells #[.int .i64 a0_0, .slice A0_1 l0_1.length c0_1] 24 (0, 0)) (by (with_reducible repeat (first | refine bkN ?_ _ | refine bkd ?_ | refine bka ?_ _)); exact BK113.out)) : gb114 ≠ gb113)); clear BK113; clear HB; have BK113 := n0_; have HB := n1_; have BK114 := n2_; have GW114 := n3_; have GE114 := n4_; have NB113_114 := n5_; have NB114_113 := n6_; clear n0_ n1_ n2_ n3_ n4_ n5_ n6_; clear hb hbox hg; have hnb8 := NB113_114.out; have hnc8 := NB114_113.out; have hcz9_0 : w7.cell? ⟨gb113, 0, none⟩ = some (.int .i64 a0_0) := (bkc BK113.out 0).trans rfl; have hcz9_1 : w7.cell? ⟨gb113, 1, none⟩ = some (.slice A0_1 l0_1.length c0_1) := (bkc BK113.out 1).trans rfl; have hfz9_0 := bkf BK113.out 0; have hfz9_1 := bkf BK113.out 1) | (go_at_call 14; (with_reducible refine (nfC.calls k a0_0 _ _ l0_1 a2 t115 t116 _ ?side1 ?side2 A4.out).mono ?_); (case side1 => repeat (first | exact (Kd.C_below HR0_1.out HB.out) | (with_reducible refine Kd.C_alloc ?_ _) | (with_reducible refine Kd.C_drewN ?_ _) | (with_reducible refine Kd.C_drew ?_))); (case side2 => exact HC0_1.out); rintro e w10 ⟨v117, rfl, ho0, hb⟩; have n0_ := Az.mk (Kd.S_lower ho0 (below_size (by repeat (first | (with_reducible first | exact HB.out | apply bwa | apply pwN | apply bw1 | refine bws ?_ GE113.out | refine bws ?_ GE114.out) | exact HB.out)))); have n1_ := Az.mk (blk_below (g := gb113) (o := .cells #[.int .i64 a0_0, .slice A0_1 l0_1.length c0_1] 24 (0, 0)) (by (with_reducible repeat (first | refine bkN ?_ _ | refine bkd ?_ | refine bka ?_ _)); exact BK113.out) hb); have n2_ := Az.mk (blk_below (g := gb114) (o := .cells #[.int .i64 0, .slice none 0 0] 24 (0, 0)) (by (with_reducible repeat (first | refine bkN ?_ _ | refine bkd ?_ | refine bka ?_ _)); exact BK114.out) hb); have n3_ := Az.mk (bwt (by repeat (first | (with_reducible first | exact HB.out | apply bwa | apply pwN | apply bw1 | refine bws ?_ GE113.out | refine bws ?_ GE114.out) | exact HB.out)) hb); clear BK113; clear BK114; clear HB; have HO118 := n0_; have BK113 := n1_; have BK114 := n2_; have HB := n3_; clear n0_ n1_ n2_ n3_; (try clear hb); (try clear hb2); (try clear hk); (try clear hi); (try clear ho0)) | ((with_reducible refine gate_dst (N := 7) rfl ?_); refine box_event ?hg (N := 7) ?hd (cs := #[.int .i64 0, .slice none 0 0]) (t := 24) ?hr ?_; (case hd => rfl); (case hg => rfl); (case hr => first | (go_simp; done) | (go_simp; rfl)); intro gb119 hg w11 hbox hb; have n0_ := Az.mk (Kd.S_below (by (with_reducible repeat (first | apply Kd.S_alloc | apply Kd.S_drewN | apply Kd.S_drew)); exact HO118.out) hb); have n1_ := Az.mk (blk_below (g := gb113) (o := .cells #[.int .i64 a0_0, .slice A0_1 l0_1.length c0_1] 24 (0, 0)) (by (with_reducible repeat (first | refine bkN ?_ _ | refine bkd ?_ | refine bka ?_ _)); exact BK113.out) hb); have n2_ := Az.mk (blk_below (g := gb114) (o := .cells #[.int .i64 0, .slice none 0 0] 24 (0, 0)) (by (with_reducible repeat (first | refine bkN ?_ _ | refine bkd ?_ | refine bka ?_ _)); exact BK114.out) hb); have n3_ := Az.mk (bwt (by repeat (first | (with_reducible first | exact HB.out | apply bwa | apply pwN | apply bw1 | refine bws ?_ GE113.out | refine bws ?_ GE114.out) | exact HB.out)) hb); have n4_ := Az.mk (hbox); have n5_ := Az.mk ((by rw [hg]; exact (below_size (by repeat (first | (with_reducible first | exact HB.out | apply bwa | apply pwN | apply bw1 | refine bws ?_ GE113.out | refine bws ?_ GE114.out) | exact HB.out))) : w.heap.size ≤ gb119)); have n6_ := Az.mk ((by rw [hg]; exact (below_size (by repeat (first | (with_reducible first | exact HB.out | apply bwa | apply pwN | apply bw1 | refine bws ?_ GE113.out | refine bws ?_ GE114.out) | exact HB.out))) : w.heap.size ≤ gb119)); have n7_ := Az.mk ((by rw [hg]; exact Nat.ne_of_lt (blk_lt (g := gb113) (o := .cells #[.int .i64 a0_0, .slice A0_1 l0_1.length c0_1] 24 (0, 0)) (by (with_reducible repeat (first | refine bkN ?_ _ | refine bkd ?_ | refine bka ?_ _)); exact BK113.out)) : gb113 ≠ gb119)); have n8_ := Az.mk ((by rw [hg]; exact Nat.ne_of_gt (blk_lt (g := gb113) (o := .cells #[.int .i64 a0_0, .slice A0_1 l0_1.length c0_1] 24 (0, 0)) (by (with_reducible repeat (first | refine bkN ?_ _ | refine bkd ?_ | refine bka ?_ _)); exact BK113.out)) : gb119 ≠ gb113)); have n9_ := Az.mk ((by rw [hg]; exact Nat.ne_of_lt (blk_lt (g := gb114) (o := .cells #[.int .i64 0, .slice none 0 0] 24 (0, 0)) (by (with_reducible repeat (first | refine bkN ?_ _ | refine bkd ?_ | refine bka ?_ _)); exact BK114.out)) : gb114 ≠ gb119)); have n10_ := Az.mk ((by rw [hg]; exact Nat.ne_of_gt (blk_lt (g := gb114) (o := .cells #[.int .i64 0, .slice none 0 0] 24 (0, 0)) (by (with_reducible repeat (first | refine bkN ?_ _ | refine bkd ?_ | refine bka ?_ _)); exact BK114.out)) : gb119 ≠ gb114)); clear HO118; clear BK113; clear BK114; clear HB; have HO118 := n0_; have BK113 := n1_; have BK114 := n2_; have HB := n3_; have BK119 := n4_; have GW119 := n5_; have GE119 := n6_; have NB113_119 := n7_; have NB119_113 := n8_; have NB114_119 := n9_; have NB119_114 := n10_; clear n0_ n1_ n2_ n3_ n4_ n5_ n6_ n7_ n8_ n9_ n10_; clear hb hbox hg; have hnb12 := NB119_113.out; have hnc12 := NB113_119.out; have hnb13 := NB119_114.out; have hnc13 := NB114_119.out; have hcz14_0 : w11.cell? ⟨gb119, 0, none⟩ = some (.int .i64 0) := (bkc BK119.out 0).trans rfl; have hcz14_1 : w11.cell? ⟨gb119, 1, none⟩ = some (.slice none 0 0) := (bkc BK119.out 1).trans rfl; have hfz14_0 := bkf BK119.out 0; have hfz14_1 := bkf BK119.out 1; obtain ⟨Ao15, co15, eo15⟩ := Kd.S_slice HO118.out; subst eo15; have hcz16_0 : w11.cell? ⟨gb113, 0, none⟩ = some (.int .i64 a0_0) := (bkc BK113.out 0).trans rfl; have hcz16_1 : w11.cell? ⟨gb113, 1, none⟩ = some (.slice A0_1 l0_1.length c0_1) := (bkc BK113.out 1).trans rfl; have hfz16_0 := bkf BK113.out 0; have hfz16_1 := bkf BK113.out 1) | (go_at_call 34; (with_reducible refine (nBr.calls a0_0 (wrap64 (a1 + 1)) t120 _ A5.out).mono ?_); rintro e w' ⟨rfl, ⟨nd, rfl⟩⟩; (try first | exact ⟨rfl, _, World.drewN_drewN _ _ _⟩ | exact ⟨rfl, _, Eq.trans (World.drewN_drewN _ _ _) (congrArg (World.drewN _) (Nat.add_assoc _ _ _))⟩)))
 repeat (go_quiet (first | ((with_reducible refine gate_dst (N := 3) rfl ?_); refine box_event ?hg (N := 3) ?hd (cs := #[.int .i64 a0_0, .slice A0_1 l0_1.length c0_1]) (t := 24) ?hr ?_; (case hd => rfl); (case hg => rfl); (case hr => first | (go_simp; done) | (go_simp; rfl)); intro gb113 hg w6 hbox hb; have n0_ := Az.mk (bwt (by repeat (first | (with_reducible first | exact HB.out | apply bwa | apply pwN | apply bw1) | exact HB.out)) hb); have n1_ := Az.mk (hbox); have n2_ := Az.mk ((by rw [hg]; exact (below_size (by repeat (first | (with_reducible first | exact HB.out | apply bwa | apply pwN | apply bw1) | exact HB.out))) : w.heap.size ≤ gb113)); have n3_ := Az.mk ((by rw [hg]; exact (below_size (by repeat (first | (with_reducible first | exact HB.out | apply bwa | apply pwN | apply bw1) | exact HB.out))) : w.heap.size ≤ gb113)); clear HB; have HB := n0_; have BK113 := n1_; have GW113 := n2_; have GE113 := n3_; clear n0_ n1_ n2_ n3_; clear hb hbox hg) | ((with_reducible refine gate_dst (N := 6) rfl ?_); refine box_event ?hg (N := 6) ?hd (cs := #[.int .i64 0, .slice none 0 0]) (t := 24) ?hr ?_; (case hd => rfl); (case hg => rfl); (case hr => first | (go_simp; done) | (go_simp; rfl)); intro gb114 hg w7 hbox hb; have n0_ := Az.mk (blk_below (g := gb113) (o := .cells #[.int .i64 a0_0, .slice A0_1 l0_1.length c0_1] 24 (0, 0)) (by (with_reducible repeat (first | refine bkN ?_ _ | refine bkd ?_ | refine bka ?_ _)); exact BK113.out) hb); have n1_ := Az.mk (bwt (by repeat (first | (with_reducible first | exact HB.out | apply bwa | apply pwN | apply bw1 | refine bws ?_ GE113.out) | exact HB.out)) hb); have n2_ := Az.mk (hbox); have n3_ := Az.mk ((by rw [hg]; exact (below_size (by repeat (first | (with_reducible first | exact HB.out | apply bwa | apply pwN | apply bw1 | refine bws ?_ GE113.out) | exact HB.out))) : w.heap.size ≤ gb114)); have n4_ := Az.mk ((by rw [hg]; exact (below_size (by repeat (first | (with_reducible first | exact HB.out | apply bwa | apply pwN | apply bw1 | refine bws ?_ GE113.out) | exact HB.out))) : w.heap.size ≤ gb114)); have n5_ := Az.mk ((by rw [hg]; exact Nat.ne_of_lt (blk_lt (g := gb113) (o := .cells #[.int .i64 a0_0, .slice A0_1 l0_1.length c0_1] 24 (0, 0)) (by (with_reducible repeat (first | refine bkN ?_ _ | refine bkd ?_ | refine bka ?_ _)); exact BK113.out)) : gb113 ≠ gb114)); have n6_ := Az.mk ((by rw [hg]; exact Nat.ne_of_gt (blk_lt (g := gb113) (o := .cells #[.int .i64 a0_0, .slice A0_1 l0_1.length c0_1] 24 (0, 0)) (by (with_reducible repeat (first | refine bkN ?_ _ | refine bkd ?_ | refine bka ?_ _)); exact BK113.out)) : gb114 ≠ gb113)); clear BK113; clear HB; have BK113 := n0_; have HB := n1_; have BK114 := n2_; have GW114 := n3_; have GE114 := n4_; have NB113_114 := n5_; have NB114_113 := n6_; clear n0_ n1_ n2_ n3_ n4_ n5_ n6_; clear hb hbox hg; have hnb8 := NB113_114.out; have hnc8 := NB114_113.out; have hcz9_0 : w7.cell? ⟨gb113, 0, none⟩ = some (.int .i64 a0_0) := (bkc BK113.out 0).trans rfl; have hcz9_1 : w7.cell? ⟨gb113, 1, none⟩ = some (.slice A0_1 l0_1.length c0_1) := (bkc BK113.out 1).trans rfl; have hfz9_0 := bkf BK113.out 0; have hfz9_1 := bkf BK113.out 1) | (go_at_call 14; (with_reducible refine (nfC.calls k a0_0 _ _ l0_1 a2 t115 t116 _ ?side1 ?side2 A4.out).mono ?_); (case side1 => repeat (first | exact (Kd.C_below HR0_1.out HB.out) | (with_reducible refine Kd.C_alloc ?_ _) | (with_reducible refine Kd.C_drewN ?_ _) | (with_reducible refine Kd.C_drew ?_))); (case side2 => exact HC0_1.out); rintro e w10 ⟨v117, rfl, ho0, hb⟩; have n0_ := Az.mk (Kd.S_lower ho0 (below_size (by repeat (first | (with_reducible first | exact HB.out | apply bwa | apply pwN | apply bw1 | refine bws ?_ GE113.out | refine bws ?_ GE114.out) | exact HB.out)))); have n1_ := Az.mk (blk_below (g := gb113) (o := .cells #[.int .i64 a0_0, .slice A0_1 l0_1.length c0_1] 24 (0, 0)) (by (with_reducible repeat (first | refine bkN ?_ _ | refine bkd ?_ | refine bka ?_ _)); exact BK113.out) hb); have n2_ := Az.mk (blk_below (g := gb114) (o := .cells #[.int .i64 0, .slice none 0 0] 24 (0, 0)) (by (with_reducible repeat (first | refine bkN ?_ _ | refine bkd ?_ | refine bka ?_ _)); exact BK114.out) hb); have n3_ := Az.mk (bwt (by repeat (first | (with_reducible first | exact HB.out | apply bwa | apply pwN | apply bw1 | refine bws ?_ GE113.out | refine bws ?_ GE114.out) | exact HB.out)) hb); clear BK113; clear BK114; clear HB; have HO118 := n0_; have BK113 := n1_; have BK114 := n2_; have HB := n3_; clear n0_ n1_ n2_ n3_; (try clear hb); (try clear hb2); (try clear hk); (try clear hi); (try clear ho0)) | ((with_reducible refine gate_dst (N := 7) rfl ?_); refine box_event ?hg (N := 7) ?hd (cs := #[.int .i64 0, .slice none 0 0]) (t := 24) ?hr ?_; (case hd => rfl); (case hg => rfl); (case hr => first | (go_simp; done) | (go_simp; rfl)); intro gb119 hg w11 hbox hb; have n0_ := Az.mk (Kd.S_below (by (with_reducible repeat (first | apply Kd.S_alloc | apply Kd.S_drewN | apply Kd.S_drew)); exact HO118.out) hb); have n1_ := Az.mk (blk_below (g := gb113) (o := .cells #[.int .i64 a0_0, .slice A0_1 l0_1.length c0_1] 24 (0, 0)) (by (with_reducible repeat (first | refine bkN ?_ _ | refine bkd ?_ | refine bka ?_ _)); exact BK113.out) hb); have n2_ := Az.mk (blk_below (g := gb114) (o := .cells #[.int .i64 0, .slice none 0 0] 24 (0, 0)) (by (with_reducible repeat (first | refine bkN ?_ _ | refine bkd ?_ | refine bka ?_ _)); exact BK114.out) hb); have n3_ := Az.mk (bwt (by repeat (first | (with_reducible first | exact HB.out | apply bwa | apply pwN | apply bw1 | refine bws ?_ GE113.out | refine bws ?_ GE114.out) | exact HB.out)) hb); have n4_ := Az.mk (hbox); have n5_ := Az.mk ((by rw [hg]; exact (below_size (by repeat (first | (with_reducible first | exact HB.out | apply bwa | apply pwN | apply bw1 | refine bws ?_ GE113.out | refine bws ?_ GE114.out) | exact HB.out))) : w.heap.size ≤ gb119)); have n6_ := Az.mk ((by rw [hg]; exact (below_size (by repeat (first | (with_reducible first | exact HB.out | apply bwa | apply pwN | apply bw1 | refine bws ?_ GE113.out | refine bws ?_ GE114.out) | exact HB.out))) : w.heap.size ≤ gb119)); have n7_ := Az.mk ((by rw [hg]; exact Nat.ne_of_lt (blk_lt (g := gb113) (o := .cells #[.int .i64 a0_0, .slice A0_1 l0_1.length c0_1] 24 (0, 0)) (by (with_reducible repeat (first | refine bkN ?_ _ | refine bkd ?_ | refine bka ?_ _)); exact BK113.out)) : gb113 ≠ gb119)); have n8_ := Az.mk ((by rw [hg]; exact Nat.ne_of_gt (blk_lt (g := gb113) (o := .cells #[.int .i64 a0_0, .slice A0_1 l0_1.length c0_1] 24 (0, 0)) (by (with_reducible repeat (first | refine bkN ?_ _ | refine bkd ?_ | refine bka ?_ _)); exact BK113.out)) : gb119 ≠ gb113)); have n9_ := Az.mk ((by rw [hg]; exact Nat.ne_of_lt (blk_lt (g := gb114) (o := .cells #[.int .i64 0, .slice none 0 0] 24 (0, 0)) (by (with_reducible repeat (first | refine bkN ?_ _ | refine bkd ?_ | refine bka ?_ _)); exact BK114.out)) : gb114 ≠ gb119)); have n10_ := Az.mk ((by rw [hg]; exact Nat.ne_of_gt (blk_lt (g := gb114) (o := .cells #[.int .i64 0, .slice none 0 0] 24 (0, 0)) (by (with_reducible repeat (first | refine bkN ?_ _ | refine bkd ?_ | refine bka ?_ _)); exact BK114.out)) : gb119 ≠ gb114)); clear HO118; clear BK113; clear BK114; clear HB; have HO118 := n0_; have BK113 := n1_; have BK114 := n2_; have HB := n3_; have BK119 := n4_; have GW119 := n5_; have GE119 := n6_; have NB113_119 := n7_; have NB119_113 := n8_; have NB114_119 := n9_; have NB119_114 := n10_; clear n0_ n1_ n2_ n3_ n4_ n5_ n6_ n7_ n8_ n9_ n10_; clear hb hbox hg; have hnb12 := NB119_113.out; have hnc12 := NB113_119.out; have hnb13 := NB119_114.out; have hnc13 := NB114_119.out; have hcz14_0 : w11.cell? ⟨gb119, 0, none⟩ = some (.int .i64 0) := (bkc BK119.out 0).trans rfl; have hcz14_1 : w11.cell? ⟨gb119, 1, none⟩ = some (.slice none 0 0) := (bkc BK119.out 1).trans rfl; have hfz14_0 := bkf BK119.out 0; have hfz14_1 := bkf BK119.out 1; obtain ⟨Ao15, co15, eo15⟩ := Kd.S_slice HO118.out; subst eo15; have hcz16_0 : w11.cell? ⟨gb113, 0, none⟩ = some (.int .i64 a0_0) := (bkc BK113.out 0).trans rfl; have hcz16_1 : w11.cell? ⟨gb113, 1, none⟩ = some (.slice A0_1 l0_1.length c0_1) := (bkc BK113.out 1).trans rfl; have hfz16_0 := bkf BK113.out 0; have hfz16_1 := bkf BK113.out 1) | (go_at_call 34; (with_reducible refine (nBr.calls a0_0 (wrap64 (a1 + 1)) t120 _ A5.out).mono ?_); rintro e w' ⟨rfl, ⟨nd, rfl⟩⟩; (try first | exact ⟨rfl, _, World.drewN_drewN _ _ _⟩ | exact ⟨rfl, _, Eq.trans (World.drewN_drewN _ _ _) (congrArg (World.drewN _) (Nat.add_assoc _ _ _))⟩))); try go_wp2_with (first | ((with_reducible refine gate_dst (N := 3) rfl ?_); refine box_event ?hg (N := 3) ?hd (cs := #[.int .i64 a0_0, .slice A0_1 l0_1.length c0_1]) (t := 24) ?hr ?_; (case hd => rfl); (case hg => rfl); (case hr => first | (go_simp; done) | (go_simp; rfl)); intro gb113 hg w6 hbox hb; have n0_ := Az.mk (bwt (by repeat (first | (with_reducible first | exact HB.out | apply bwa | apply pwN | apply bw1) | exact HB.out)) hb); have n1_ := Az.mk (hbox); have n2_ := Az.mk ((by rw [hg]; exact (below_size (by repeat (first | (with_reducible first | exact HB.out | apply bwa | apply pwN | apply bw1) | exact HB.out))) : w.heap.size ≤ gb113)); have n3_ := Az.mk ((by rw [hg]; exact (below_size (by repeat (first | (with_reducible first | exact HB.out | apply bwa | apply pwN | apply bw1) | exact HB.out))) : w.heap.size ≤ gb113)); clear HB; have HB := n0_; have BK113 := n1_; have GW113 := n2_; have GE113 := n3_; clear n0_ n1_ n2_ n3_; clear hb hbox hg) | ((with_reducible refine gate_dst (N := 6) rfl ?_); refine box_event ?hg (N := 6) ?hd (cs := #[.int .i64 0, .slice none 0 0]) (t := 24) ?hr ?_; (case hd => rfl); (case hg => rfl); (case hr => first | (go_simp; done) | (go_simp; rfl)); intro gb114 hg w7 hbox hb; have n0_ := Az.mk (blk_below (g := gb113) (o := .cells #[.int .i64 a0_0, .slice A0_1 l0_1.length c0_1] 24 (0, 0)) (by (with_reducible repeat (first | refine bkN ?_ _ | refine bkd ?_ | refine bka ?_ _)); exact BK113.out) hb); have n1_ := Az.mk (bwt (by repeat (first | (with_reducible first | exact HB.out | apply bwa | apply pwN | apply bw1 | refine bws ?_ GE113.out) | exact HB.out)) hb); have n2_ := Az.mk (hbox); have n3_ := Az.mk ((by rw [hg]; exact (below_size (by repeat (first | (with_reducible first | exact HB.out | apply bwa | apply pwN | apply bw1 | refine bws ?_ GE113.out) | exact HB.out))) : w.heap.size ≤ gb114)); have n4_ := Az.mk ((by rw [hg]; exact (below_size (by repeat (first | (with_reducible first | exact HB.out | apply bwa | apply pwN | apply bw1 | refine bws ?_ GE113.out) | exact HB.out))) : w.heap.size ≤ gb114)); have n5_ := Az.mk ((by rw [hg]; exact Nat.ne_of_lt (blk_lt (g := gb113) (o := .cells #[.int .i64 a0_0, .slice A0_1 l0_1.length c0_1] 24 (0, 0)) (by (with_reducible repeat (first | refine bkN ?_ _ | refine bkd ?_ | refine bka ?_ _)); exact BK113.out)) : gb113 ≠ gb114)); have n6_ := Az.mk ((by rw [hg]; exact Nat.ne_of_gt (blk_lt (g := gb113) (o := .cells #[.int .i64 a0_0, .slice A0_1 l0_1.length c0_1] 24 (0, 0)) (by (with_reducible repeat (first | refine bkN ?_ _ | refine bkd ?_ | refine bka ?_ _)); exact BK113.out)) : gb114 ≠ gb113)); clear BK113; clear HB; have BK113 := n0_; have HB := n1_; have BK114 := n2_; have GW114 := n3_; have GE114 := n4_; have NB113_114 := n5_; have NB114_113 := n6_; clear n0_ n1_ n2_ n3_ n4_ n5_ n6_; clear hb hbox hg; have hnb8 := NB113_114.out; have hnc8 := NB114_113.out; have hcz9_0 : w7.cell? ⟨gb113, 0, none⟩ = some (.int .i64 a0_0) := (bkc BK113.out 0).trans rfl; have hcz9_1 : w7.cell? ⟨gb113, 1, none⟩ = some (.slice A0_1 l0_1.length c0_1) := (bkc BK113.out 1).trans rfl; have hfz9_0 := bkf BK113.out 0; have hfz9_1 := bkf BK113.out 1) | (go_at_call 14; (with_reducible refine (nfC.calls k a0_0 _ _ l0_1 a2 t115 t116 _ ?side1 ?side2 A4.out).mono ?_); (case side1 => repeat (first | exact (Kd.C_below HR0_1.out HB.out) | (with_reducible refine Kd.C_alloc ?_ _) | (with_reducible refine Kd.C_drewN ?_ _) | (with_reducible refine Kd.C_drew ?_))); (case side2 => exact HC0_1.out); rintro e w10 ⟨v117, rfl, ho0, hb⟩; have n0_ := Az.mk (Kd.S_lower ho0 (below_size (by repeat (first | (with_reducible first | exact HB.out | apply bwa | apply pwN | apply bw1 | refine bws ?_ GE113.out | refine bws ?_ GE114.out) | exact HB.out)))); have n1_ := Az.mk (blk_below (g := gb113) (o := .cells #[.int .i64 a0_0, .slice A0_1 l0_1.length c0_1] 24 (0, 0)) (by (with_reducible repeat (first | refine bkN ?_ _ | refine bkd ?_ | refine bka ?_ _)); exact BK113.out) hb); have n2_ := Az.mk (blk_below (g := gb114) (o := .cells #[.int .i64 0, .slice none 0 0] 24 (0, 0)) (by (with_reducible repeat (first | refine bkN ?_ _ | refine bkd ?_ | refine bka ?_ _)); exact BK114.out) hb); have n3_ := Az.mk (bwt (by repeat (first | (with_reducible first | exact HB.out | apply bwa | apply pwN | apply bw1 | refine bws ?_ GE113.out | refine bws ?_ GE114.out) | exact HB.out)) hb); clear BK113; clear BK114; clear HB; have HO118 := n0_; have BK113 := n1_; have BK114 := n2_; have HB := n3_; clear n0_ n1_ n2_ n3_; (try clear hb); (try clear hb2); (try clear hk); (try clear hi); (try clear ho0)) | ((with_reducible refine gate_dst (N := 7) rfl ?_); refine box_event ?hg (N := 7) ?hd (cs := #[.int .i64 0, .slice none 0 0]) (t := 24) ?hr ?_; (case hd => rfl); (case hg => rfl); (case hr => first | (go_simp; done) | (go_simp; rfl)); intro gb119 hg w11 hbox hb; have n0_ := Az.mk (Kd.S_below (by (with_reducible repeat (first | apply Kd.S_alloc | apply Kd.S_drewN | apply Kd.S_drew)); exact HO118.out) hb); have n1_ := Az.mk (blk_below (g := gb113) (o := .cells #[.int .i64 a0_0, .slice A0_1 l0_1.length c0_1] 24 (0, 0)) (by (with_reducible repeat (first | refine bkN ?_ _ | refine bkd ?_ | refine bka ?_ _)); exact BK113.out) hb); have n2_ := Az.mk (blk_below (g := gb114) (o := .cells #[.int .i64 0, .slice none 0 0] 24 (0, 0)) (by (with_reducible repeat (first | refine bkN ?_ _ | refine bkd ?_ | refine bka ?_ _)); exact BK114.out) hb); have n3_ := Az.mk (bwt (by repeat (first | (with_reducible first | exact HB.out | apply bwa | apply pwN | apply bw1 | refine bws ?_ GE113.out | refine bws ?_ GE114.out) | exact HB.out)) hb); have n4_ := Az.mk (hbox); have n5_ := Az.mk ((by rw [hg]; exact (below_size (by repeat (first | (with_reducible first | exact HB.out | apply bwa | apply pwN | apply bw1 | refine bws ?_ GE113.out | refine bws ?_ GE114.out) | exact HB.out))) : w.heap.size ≤ gb119)); have n6_ := Az.mk ((by rw [hg]; exact (below_size (by repeat (first | (with_reducible first | exact HB.out | apply bwa | apply pwN | apply bw1 | refine bws ?_ GE113.out | refine bws ?_ GE114.out) | exact HB.out))) : w.heap.size ≤ gb119)); have n7_ := Az.mk ((by rw [hg]; exact Nat.ne_of_lt (blk_lt (g := gb113) (o := .cells #[.int .i64 a0_0, .slice A0_1 l0_1.length c0_1] 24 (0, 0)) (by (with_reducible repeat (first | refine bkN ?_ _ | refine bkd ?_ | refine bka ?_ _)); exact BK113.out)) : gb113 ≠ gb119)); have n8_ := Az.mk ((by rw [hg]; exact Nat.ne_of_gt (blk_lt (g := gb113) (o := .cells #[.int .i64 a0_0, .slice A0_1 l0_1.length c0_1] 24 (0, 0)) (by (with_reducible repeat (first | refine bkN ?_ _ | refine bkd ?_ | refine bka ?_ _)); exact BK113.out)) : gb119 ≠ gb113)); have n9_ := Az.mk ((by rw [hg]; exact Nat.ne_of_lt (blk_lt (g := gb114) (o := .cells #[.int .i64 0, .slice none 0 0] 24 (0, 0)) (by (with_reducible repeat (first | refine bkN ?_ _ | refine bkd ?_ | refine bka ?_ _)); exact BK114.out)) : gb114 ≠ gb119)); have n10_ := Az.mk ((by rw [hg]; exact Nat.ne_of_gt (blk_lt (g := gb114) (o := .cells #[.int .i64 0, .slice none 0 0] 24 (0, 0)) (by (with_reducible repeat (first | refine bkN ?_ _ | refine bkd ?_ | refine bka ?_ _)); exact BK114.out)) : gb119 ≠ gb114)); clear HO118; clear BK113; clear BK114; clear HB; have HO118 := n0_; have BK113 := n1_; have BK114 := n2_; have HB := n3_; have BK119 := n4_; have GW119 := n5_; have GE119 := n6_; have NB113_119 := n7_; have NB119_113 := n8_; have NB114_119 := n9_; have NB119_114 := n10_; clear n0_ n1_ n2_ n3_ n4_ n5_ n6_ n7_ n8_ n9_ n10_; clear hb hbox hg; have hnb12 := NB119_113.out; have hnc12 := NB113_119.out; have hnb13 := NB119_114.out; have hnc13 := NB114_119.out; have hcz14_0 : w11.cell? ⟨gb119, 0, none⟩ = some (.int .i64 0) := (bkc BK119.out 0).trans rfl; have hcz14_1 : w11.cell? ⟨gb119, 1, none⟩ = some (.slice none 0 0) := (bkc BK119.out 1).trans rfl; have hfz14_0 := bkf BK119.out 0; have hfz14_1 := bkf BK119.out 1; obtain ⟨Ao15, co15, eo15⟩ := Kd.S_slice HO118.out; subst eo15; have hcz16_0 : w11.cell? ⟨gb113, 0, none⟩ = some (.int .i64 a0_0) := (bkc BK113.out 0).trans rfl; have hcz16_1 : w11.cell? ⟨gb113, 1, none⟩ = some (.slice A0_1 l0_1.length c0_1) := (bkc BK113.out 1).trans rfl; have hfz16_0 := bkf BK113.out 0; have hfz16_1 := bkf BK113.out 1) | (go_at_call 34; (with_reducible refine (nBr.calls a0_0 (wrap64 (a1 + 1)) t120 _ A5.out).mono ?_); rintro e w' ⟨rfl, ⟨nd, rfl⟩⟩; (try first | exact ⟨rfl, _, World.drewN_drewN _ _ _⟩ | exact ⟨rfl, _, Eq.trans (World.drewN_drewN _ _ _) (congrArg (World.drewN _) (Nat.add_assoc _ _ _))⟩))))
 go_loopg [8] k (fun kq v8 w' => ∃ (x8_1 : Int) (x120001_1 : List (List Int)) (u120001 : Value), v8 = .int .i64 x8_1 ∧ Az (nFt.l0 kq x8_1 t120 x120001_1 = some (r1, r2)) ∧ Az (kq ≤ k) ∧ Az (Kd.S (Kd.slice 3 (Kd.int .i64)) 26 w' w.heap.size (fun _ => True) u120001 x120001_1) ∧ Az (w'.heap[gb113]? = some (.cells #[.int .i64 a0_0, (.slice A0_1 l0_1.length c0_1)] 24 (0, 0))) ∧ Az (w'.heap[gb114]? = some (.cells #[.int .i64 0, (.slice none 0 0)] 24 (0, 0))) ∧ Az (w'.heap[gb119]? = some (.cells #[.int .i64 t120, u120001] 24 (0, 0))) ∧ Az (Below w.heap.size w w'))
 case atStart => exact ⟨(0), (t116), (.slice Ao15 t116.length co15), (by first | rfl | (simp; done) | (simp [*]; done)), H', ⟨Nat.le_refl _⟩, ⟨by (with_reducible repeat (first | apply Kd.S_alloc | apply Kd.S_drewN | apply Kd.S_drew)); exact Kd.S_mono (Kd.S_far (p := ⟨gb119, 0, none⟩) (Kd.S_far (p := ⟨gb119, 1, none⟩) (Kd.S_far (p := ⟨gb119, 0, none⟩) (Kd.S_types HO118.out BK119.out (by decide)) (fun _ hk => hk.2) (.int .i64 t115)) (fun _ hk => hk.2) (.slice Ao15 t116.length co15)) (fun _ hk => hk.2) (.int .i64 t120)) (fun _ hk => trivial)⟩, ⟨by (with_reducible repeat (first | refine bkN ?_ _ | refine bkd ?_ | refine bka ?_ _)); refine blk_far ?_ NB113_119.out _; (with_reducible repeat (first | refine bkN ?_ _ | refine bkd ?_ | refine bka ?_ _)); refine blk_far ?_ NB113_119.out _; (with_reducible repeat (first | refine bkN ?_ _ | refine bkd ?_ | refine bka ?_ _)); refine blk_far ?_ NB113_119.out _; (with_reducible repeat (first | refine bkN ?_ _ | refine bkd ?_ | refine bka ?_ _)); exact BK113.out⟩, ⟨by (with_reducible repeat (first | refine bkN ?_ _ | refine bkd ?_ | refine bka ?_ _)); refine blk_far ?_ NB114_119.out _; (with_reducible repeat (first | refine bkN ?_ _ | refine bkd ?_ | refine bka ?_ _)); refine blk_far ?_ NB114_119.out _; (with_reducible repeat (first | refine bkN ?_ _ | refine bkd ?_ | refine bka ?_ _)); refine blk_far ?_ NB114_119.out _; (with_reducible repeat (first | refine bkN ?_ _ | refine bkd ?_ | refine bka ?_ _)); exact BK114.out⟩, ⟨by (with_reducible repeat (first | refine bkN ?_ _ | refine bkd ?_ | refine bka ?_ _)); refine blk_put (cs := #[.int .i64 t115, .slice Ao15 t116.length co15]) ?_ 0 _ rfl; (with_reducible repeat (first | refine bkN ?_ _ | refine bkd ?_ | refine bka ?_ _)); refine blk_put (cs := #[.int .i64 t115, .slice none 0 0]) ?_ 1 _ rfl; (with_reducible repeat (first | refine bkN ?_ _ | refine bkd ?_ | refine bka ?_ _)); refine blk_put (cs := #[.int .i64 0, .slice none 0 0]) ?_ 0 _ rfl; (with_reducible repeat (first | refine bkN ?_ _ | refine bkd ?_ | refine bka ?_ _)); exact BK119.out⟩, ⟨by repeat (first | (with_reducible first | exact HB.out | apply bwa | apply pwN | apply bw1 | refine bws ?_ GE113.out | refine bws ?_ GE114.out | refine bws ?_ GE119.out) | exact HB.out)⟩⟩
 case round =>
  clear H'
  try clear c1
  try clear c2
  try clear p2
  try clear p6
  try clear c8
  try clear c12
  try clear c13
  try clear hcz14_0
  try clear hcz14_1
  try clear hcz16_0
  try clear hcz16_1
  try clear hcz9_0
  try clear hcz9_1
  try clear hfz14_0
  try clear hfz14_1
  try clear hfz16_0
  try clear hfz16_1
  try clear hfz9_0
  try clear hfz9_1
  obtain ⟨x8_1, x120001_1, u120001, rfl, HA, HK1, HO_120001, BK113, BK114, BK119, HB⟩ := hrel
  cases gk with
  | zero => exact absurd HA.out (by simp [nFt.l0])
  | succ k1 =>
   have H := HA.out
   clear HA
   simp only [nFt.l0] at H
   by_cases c17 : x8_1 < (x120001_1.length : Int)
   ·rw [if_pos c17] at H
    have c17b0 : decide (x8_1 < (x120001_1.length : Int)) = true := decide_eq_true c17
    clear c17
    have H' := Az.mk H
    clear H
    have hnb18 := NB119_113.out
    have hnc18 := NB113_119.out
    have hnb19 := NB119_114.out
    have hnc19 := NB114_119.out
    have hcz20_0 : wr.cell? ⟨gb119, 0, none⟩ = some (.int .i64 t120) := (bkc BK119.out 0).trans rfl
    have hcz20_1 : wr.cell? ⟨gb119, 1, none⟩ = some (u120001) := (bkc BK119.out 1).trans rfl
    have hfz20_0 := bkf BK119.out 0
    have hfz20_1 := bkf BK119.out 1
    obtain ⟨Ao21, co21, eo21⟩ := Kd.S_slice HO_120001.out
    subst eo21
    go_wp2
    repeat (go_quiet (fail); try go_wp2)
    go_loopg [9] k1 (fun kq v9 w' => ∃ (x9_2 : Int) (x120001_2 : List (List Int)) (u120001 : Value), v9 = .int .i64 x9_2 ∧ Az (nFt.l1 kq x8_1 x9_2 t120 x120001_2 = some (r1, r2)) ∧ Az (kq ≤ k1) ∧ Az (Kd.S (Kd.slice 3 (Kd.int .i64)) 26 w' w.heap.size (fun _ => True) u120001 x120001_2) ∧ Az (w'.heap[gb113]? = some (.cells #[.int .i64 a0_0, (.slice A0_1 l0_1.length c0_1)] 24 (0, 0))) ∧ Az (w'.heap[gb114]? = some (.cells #[.int .i64 0, (.slice none 0 0)] 24 (0, 0))) ∧ Az (w'.heap[gb119]? = some (.cells #[.int .i64 t120, u120001] 24 (0, 0))) ∧ Az (Below w.heap.size w w'))
    case atStart => exact ⟨(0), (x120001_1), (.slice Ao21 x120001_1.length co21), (by first | rfl | (simp; done) | (simp [*]; done)), H', ⟨Nat.le_refl _⟩, ⟨by (with_reducible repeat (first | apply Kd.S_alloc | apply Kd.S_drewN | apply Kd.S_drew)); exact HO_120001.out⟩, ⟨by (with_reducible repeat (first | refine bkN ?_ _ | refine bkd ?_ | refine bka ?_ _)); exact BK113.out⟩, ⟨by (with_reducible repeat (first | refine bkN ?_ _ | refine bkd ?_ | refine bka ?_ _)); exact BK114.out⟩, ⟨by (with_reducible repeat (first | refine bkN ?_ _ | refine bkd ?_ | refine bka ?_ _)); exact BK119.out⟩, ⟨by repeat (first | (with_reducible first | exact HB.out | apply bwa | apply pwN | apply bw1 | refine bws ?_ GE113.out | refine bws ?_ GE114.out | refine bws ?_ GE119.out) | exact HB.out)⟩⟩
    case round =>
     clear H'
     try clear c1
     try clear c2
     try clear p2
     try clear p6
     try clear c8
     try clear c12
     try clear c13
     try clear c17
     try clear c17b0
     try clear c18
     try clear c19
     try clear hcz14_0
     try clear hcz14_1
     try clear hcz16_0
     try clear hcz16_1
     try clear hcz20_0
     try clear hcz20_1
     try clear hcz9_0
     try clear hcz9_1
     try clear hfz14_0
     try clear hfz14_1
     try clear hfz16_0
     try clear hfz16_1
     try clear hfz20_0
     try clear hfz20_1
     try clear hfz9_0
     try clear hfz9_1
     try clear p2
     try clear p6
     obtain ⟨x9_2, x120001_2, u120001, rfl, HA, HK2, HO_120001, BK113, BK114, BK119, HB⟩ := hrel
     cases gk with
     | zero => exact absurd HA.out (by simp [nFt.l1])
     | succ k2 =>
      have H := HA.out
      clear HA
      simp only [nFt.l1] at H
      by_cases c22 : 0 ≤ x8_1
      ·rw [if_pos c22] at H
       have c22b0 : decide (0 ≤ x8_1) = true := decide_eq_true c22
       clear c22
       by_cases c23 : x8_1 < (x120001_2.length : Int)
       ·rw [if_pos c23] at H
        have c23b0 : decide (x8_1 < (x120001_2.length : Int)) = true := decide_eq_true c23
        clear c23
        by_cases c24 : x9_2 < ((rL x120001_2 x8_1).length : Int)
        ·rw [if_pos c24] at H
         have c24b0 : decide (x9_2 < ((rL x120001_2 x8_1).length : Int)) = true := decide_eq_true c24
         clear c24
         by_cases c25 : t120 = 0
         ·rw [if_pos c25] at H
          have c25b0 : (t120 == 0) = true := beq_iff_eq.mpr c25
          have c25b1 : (t120 != 0) = false := bne_eq_false_iff_eq.mpr c25
          clear c25
          obtain ⟨y122, hy122⟩ : ∃ y_ : List (List Int), y_ = (x120001_2.set (x8_1 : Int).toNat ([] : List Int)) := ⟨_, rfl⟩
          replace H : (nFt.l0 k2 (wrap64 (x8_1 + 1)) t120 y122) = some (r1, r2) := by first | (rw [hy122]; with_reducible exact H) | (have H2_ := (Option.bind_some _ _).symm.trans H; rw [hy122]; with_reducible exact H2_) | (have H2_ := (Option.bind_some _ _).symm.trans H; with_reducible exact H2_) | with_reducible exact H | (rw [hy122]; exact H) | exact H
          have Ny122 := Az.mk hy122
          clear hy122
          have H' := Az.mk H
          clear H
          have hnb27 := NB119_113.out
          have hnc27 := NB113_119.out
          have hnb28 := NB119_114.out
          have hnc28 := NB114_119.out
          have hcz29_0 : wr.cell? ⟨gb119, 0, none⟩ = some (.int .i64 t120) := (bkc BK119.out 0).trans rfl
          have hcz29_1 : wr.cell? ⟨gb119, 1, none⟩ = some (u120001) := (bkc BK119.out 1).trans rfl
          have hfz29_0 := bkf BK119.out 0
          have hfz29_1 := bkf BK119.out 1
          obtain ⟨Ao30, co30, eo30⟩ := Kd.S_slice HO_120001.out
          subst eo30
          have p121 : 0 ≤ (x8_1 : Int) := of_decide_eq_true (by assumption)
          have q121 : x8_1 < (x120001_2.length : Int) := of_decide_eq_true (by assumption)
          obtain ⟨ad121, A121_0, c121_0, e121, hx121_0, hl121_0, hi121_0⟩ := at_L1 (Kd.S_reads' HO_120001.out).2.2 x8_1 p121 q121
          cases e121
          obtain ⟨ce121, hce121, hMe121, hcc121⟩ := Kd.S_get HO_120001.out [] x8_1 p121 (by first | exact q121 | exact of_decide_eq_true (by assumption) | (have e_ := (Kd.S_reads' HO_120001.out).1; omega))
          obtain ⟨ve121_0, rfl, ge121_0⟩ := hMe121
          have hv121_0 := hcc121 0 _ rfl
          rw [Nat.add_zero, show ((Kd.slice 3 (Kd.int .i64))).sz = 1 from rfl, Nat.mul_one] at hv121_0
          replace hv121_0 := Option.some.inj (hv121_0.symm.trans hx121_0)
          rw [hv121_0] at ge121_0
          have HL121_0 := Az.mk (show Kd.R (Kd.int .i64) 3 _ _ _ _ (rL x120001_2 x8_1) from ge121_0)
          clear hv121_0 ge121_0
          have HX121_0 := Az.mk hx121_0
          clear hcc121 hce121
          have HR121_0 := Az.mk hi121_0
          have HC121_0 := Az.mk hl121_0
          clear hi121_0 hl121_0
          replace p121 := eq_true p121
          replace q121 := eq_true q121
          have p26 : 0 ≤ (x8_1 : Int) := of_decide_eq_true (by assumption)
          have q26 : (x8_1 : Int) < ((x120001_2.length : Int) : Int) := of_decide_eq_true (by assumption)
          obtain ⟨go26, co26, eo26, gb26, gl26, cl26, HG26⟩ := Kd.S_form HO_120001.out (by omega)
          (first | cases eo26 | (injection eo26 with ea_ en_ ec_; (first | subst ea_ | (injection ea_ with ea_; subst ea_)); subst ec_; clear en_))
          have GB26 := Az.mk gb26
          have GG26 := Az.mk HG26
          clear gb26 gl26 HG26
          (first | simp only [add_plain] at hx121_0 | skip)
          obtain ⟨_, ce26, hcl26, hM26, hcc26, hfr26, _, _⟩ := Kd.S_elem HO_120001.out [] (x8_1 : Int) p26 q26
          obtain ⟨ve26_0, rfl, ge26_0⟩ := hM26
          have hx26_0 := hcc26 0 _ rfl
          have hf26_0 := hfr26 0
          (try simp only [show ((Kd.slice 3 (Kd.int .i64))).sz = 1 from rfl, Nat.mul_one, Nat.add_zero] at hx26_0)
          (try simp only [show ((Kd.slice 3 (Kd.int .i64))).sz = 1 from rfl, Nat.mul_one, Nat.add_zero] at hf26_0)
          clear hcl26 hcc26 hfr26
          replace p26 := eq_true p26
          replace q26 := eq_true q26
          have HX31 := Az.mk (show Kd.S (Kd.slice 3 (Kd.int .i64)) 26 wr w.heap.size (fun k_ => ((fun _ => True)) k_ ∧ ¬ ((fun _ => False)) k_) (.slice (some ⟨go26, 0, none⟩) x120001_2.length co30) x120001_2 from (by (with_reducible repeat (first | apply Kd.S_alloc | apply Kd.S_drewN | apply Kd.S_drew)); exact Kd.S_mono HO_120001.out (fun k_ hk => ⟨trivial, fun e_ => e_⟩)))
          obtain ⟨oki31, ce31, hcl31, hM31, hcc31, hfr31, hoki31, hH31⟩ := Kd.S_elem HX31.out [] (x8_1 : Int) (of_decide_eq_true (by assumption)) (by have h_ : (x8_1 : Int) < ((x120001_2.length : Int) : Int) := of_decide_eq_true (by assumption); first | exact h_ | (have e_ := (Kd.S_reads' HO_120001.out).1; omega) | simpa using h_)
          obtain ⟨ve31_0, rfl, ge31_0⟩ := hM31
          have HP31 := Kd.S_seg hH31 (of_decide_eq_true (by assumption)) (by have h_ : (x8_1 : Int) < ((x120001_2.length : Int) : Int) := of_decide_eq_true (by assumption); first | exact h_ | (have e_ := (Kd.S_reads' HO_120001.out).1; omega) | simpa using h_) (seg := [.slice none 0 0]) (j := 0) (show 1 ≤ 1 from by decide) (x' := ([] : List Int)) (Kd.M_row (Kd.R_nil _ _ _ _ _)) (fun _ hk => hk) (fun k_ hk_ => hk_.elim)
          have hx31_0 := hcc31 0 _ rfl
          (try simp only [show ((Kd.slice 3 (Kd.int .i64))).sz = 1 from rfl, Nat.mul_one, Nat.add_zero] at hx31_0)
          have hf31_0 := hfr31 0
          (try simp only [show ((Kd.slice 3 (Kd.int .i64))).sz = 1 from rfl, Nat.mul_one, Nat.add_zero] at hf31_0)
          clear hcl31 hcc31 hfr31 hoki31 hH31
          (try simp only [show ((Kd.slice 3 (Kd.int .i64))).sz = 1 from rfl, Nat.mul_one, Nat.add_zero] at HP31)
          go_wp2_with (first | ((with_reducible refine gate_store (t := 26) (p := 43) rfl ?_); (try (rw [drewN_self wr]; generalize hq_ : World.drewN wr _ = wr; have n0_ := Az.mk (Kd.S_at hq_ HO_120001.out); have n1_ := Az.mk (Kd.R_at hq_ HL121_0.out); have n2_ := Az.mk (blk_at hq_ BK113.out); have n3_ := Az.mk (blk_at hq_ BK114.out); have n4_ := Az.mk (blk_at hq_ BK119.out); have n5_ := Az.mk (below_at hq_ HB.out); clear hq_ HO_120001 HL121_0 BK113 BK114 BK119 HB; have HO_120001 := n0_; have HL121_0 := n1_; have BK113 := n2_; have BK114 := n3_; have BK119 := n4_; have HB := n5_; clear n0_ n1_ n2_ n3_ n4_ n5_; (try (have HX31 := Az.mk (show Kd.S (Kd.slice 3 (Kd.int .i64)) 26 wr w.heap.size (fun k_ => ((fun _ => True)) k_ ∧ ¬ ((fun _ => False)) k_) (.slice (some ⟨go26, 0, none⟩) x120001_2.length co30) x120001_2 from (by (with_reducible repeat (first | apply Kd.S_alloc | apply Kd.S_drewN | apply Kd.S_drew)); exact Kd.S_mono HO_120001.out (fun k_ hk => ⟨trivial, fun e_ => e_⟩))))); (try (obtain ⟨oki31, ce31, hcl31, hM31, hcc31, hfr31, hoki31, hH31⟩ := Kd.S_elem HX31.out [] (x8_1 : Int) (of_decide_eq_true (by assumption)) (by have h_ : (x8_1 : Int) < ((x120001_2.length : Int) : Int) := of_decide_eq_true (by assumption); first | exact h_ | (have e_ := (Kd.S_reads' HO_120001.out).1; omega) | simpa using h_))); (try (obtain ⟨ve31_0, rfl, ge31_0⟩ := hM31)); (try (have HP31 := Kd.S_seg hH31 (of_decide_eq_true (by assumption)) (by have h_ : (x8_1 : Int) < ((x120001_2.length : Int) : Int) := of_decide_eq_true (by assumption); first | exact h_ | (have e_ := (Kd.S_reads' HO_120001.out).1; omega) | simpa using h_) (seg := [.slice none 0 0]) (j := 0) (show 1 ≤ 1 from by decide) (x' := ([] : List Int)) (Kd.M_row (Kd.R_nil _ _ _ _ _)) (fun _ hk => hk) (fun k_ hk_ => hk_.elim))); (try (have hx31_0 := hcc31 0 _ rfl)); (try (try simp only [show ((Kd.slice 3 (Kd.int .i64))).sz = 1 from rfl, Nat.mul_one, Nat.add_zero] at hx31_0)); (try (have hf31_0 := hfr31 0)); (try (try simp only [show ((Kd.slice 3 (Kd.int .i64))).sz = 1 from rfl, Nat.mul_one, Nat.add_zero] at hf31_0)); (try (clear hcl31 hcc31 hfr31 hoki31 hH31)); (try (try simp only [show ((Kd.slice 3 (Kd.int .i64))).sz = 1 from rfl, Nat.mul_one, Nat.add_zero] at HP31)))); refine store_event (t := 26) (p := 43) (v := ?vo_w32) (w1 := (wr.setCell ⟨go26, (x8_1 : Int).toNat, none⟩ (.slice none 0 0))) ?hg ?ho ?hn ?hr ?_; (case ho => rfl); (case hg => rfl); (case hn => rfl); (case hr => first | (go_simp; done) | (go_simp; rfl)); intro w32 hw; have hg : wr.grownBy w32 (some go26) := (by rw [hw]; exact HP31.2); have hp_ : Kd.S (Kd.slice 3 (Kd.int .i64)) 26 w32 w.heap.size (fun _ => True) (.slice (some ⟨go26, 0, none⟩) x120001_2.length co30) y122 := (by rw [hw, Ny122.out]; exact HP31.1); clear HP31; have n0_ := Az.mk (hp_); have n1_ := Az.mk (bkg (g := gb113) (o := .cells #[.int .i64 a0_0, .slice A0_1 l0_1.length c0_1] 24 (0, 0)) (by (with_reducible repeat (first | refine bkN ?_ _ | refine bkd ?_ | refine bka ?_ _)); exact BK113.out) hg (Kd.S_ne HO_120001.out BK113.out (by decide))); have n2_ := Az.mk (bkg (g := gb114) (o := .cells #[.int .i64 0, .slice none 0 0] 24 (0, 0)) (by (with_reducible repeat (first | refine bkN ?_ _ | refine bkd ?_ | refine bka ?_ _)); exact BK114.out) hg (Kd.S_ne HO_120001.out BK114.out (by decide))); have n3_ := Az.mk (bkg (g := gb119) (o := .cells #[.int .i64 t120, .slice (some ⟨go26, 0, none⟩) x120001_2.length co30] 24 (0, 0)) (by (with_reducible repeat (first | refine bkN ?_ _ | refine bkd ?_ | refine bka ?_ _)); exact BK119.out) hg (Kd.S_ne HO_120001.out BK119.out (by decide))); have n4_ := Az.mk (Kd.R_after (v := (.slice (some ⟨go26, 0, none⟩) x120001_2.length co30)) (v1 := (.slice (some ⟨go26, 0, none⟩) x120001_2.length co30)) (ok := (fun _ => True)) (by (with_reducible repeat (first | apply Kd.R_alloc | apply Kd.R_drewN | apply Kd.R_drew)); exact HL121_0.out) hg (.inl rfl)); have n5_ := Az.mk ((by rw [hw]; exact bws (HB.out) GB26.out : Below w.heap.size w w32)); clear HO_120001; clear BK113; clear BK114; clear BK119; clear HL121_0; clear HB; have HO_120001 := n0_; have BK113 := n1_; have BK114 := n2_; have BK119 := n3_; have HL121_0 := n4_; have HB := n5_; clear n0_ n1_ n2_ n3_ n4_ n5_; clear hg hw hp_))
          repeat (go_quiet (first | ((with_reducible refine gate_store (t := 26) (p := 43) rfl ?_); (try (rw [drewN_self wr]; generalize hq_ : World.drewN wr _ = wr; have n0_ := Az.mk (Kd.S_at hq_ HO_120001.out); have n1_ := Az.mk (Kd.R_at hq_ HL121_0.out); have n2_ := Az.mk (blk_at hq_ BK113.out); have n3_ := Az.mk (blk_at hq_ BK114.out); have n4_ := Az.mk (blk_at hq_ BK119.out); have n5_ := Az.mk (below_at hq_ HB.out); clear hq_ HO_120001 HL121_0 BK113 BK114 BK119 HB; have HO_120001 := n0_; have HL121_0 := n1_; have BK113 := n2_; have BK114 := n3_; have BK119 := n4_; have HB := n5_; clear n0_ n1_ n2_ n3_ n4_ n5_; (try (have HX31 := Az.mk (show Kd.S (Kd.slice 3 (Kd.int .i64)) 26 wr w.heap.size (fun k_ => ((fun _ => True)) k_ ∧ ¬ ((fun _ => False)) k_) (.slice (some ⟨go26, 0, none⟩) x120001_2.length co30) x120001_2 from (by (with_reducible repeat (first | apply Kd.S_alloc | apply Kd.S_drewN | apply Kd.S_drew)); exact Kd.S_mono HO_120001.out (fun k_ hk => ⟨trivial, fun e_ => e_⟩))))); (try (obtain ⟨oki31, ce31, hcl31, hM31, hcc31, hfr31, hoki31, hH31⟩ := Kd.S_elem HX31.out [] (x8_1 : Int) (of_decide_eq_true (by assumption)) (by have h_ : (x8_1 : Int) < ((x120001_2.length : Int) : Int) := of_decide_eq_true (by assumption); first | exact h_ | (have e_ := (Kd.S_reads' HO_120001.out).1; omega) | simpa using h_))); (try (obtain ⟨ve31_0, rfl, ge31_0⟩ := hM31)); (try (have HP31 := Kd.S_seg hH31 (of_decide_eq_true (by assumption)) (by have h_ : (x8_1 : Int) < ((x120001_2.length : Int) : Int) := of_decide_eq_true (by assumption); first | exact h_ | (have e_ := (Kd.S_reads' HO_120001.out).1; omega) | simpa using h_) (seg := [.slice none 0 0]) (j := 0) (show 1 ≤ 1 from by decide) (x' := ([] : List Int)) (Kd.M_row (Kd.R_nil _ _ _ _ _)) (fun _ hk => hk) (fun k_ hk_ => hk_.elim))); (try (have hx31_0 := hcc31 0 _ rfl)); (try (try simp only [show ((Kd.slice 3 (Kd.int .i64))).sz = 1 from rfl, Nat.mul_one, Nat.add_zero] at hx31_0)); (try (have hf31_0 := hfr31 0)); (try (try simp only [show ((Kd.slice 3 (Kd.int .i64))).sz = 1 from rfl, Nat.mul_one, Nat.add_zero] at hf31_0)); (try (clear hcl31 hcc31 hfr31 hoki31 hH31)); (try (try simp only [show ((Kd.slice 3 (Kd.int .i64))).sz = 1 from rfl, Nat.mul_one, Nat.add_zero] at HP31)))); refine store_event (t := 26) (p := 43) (v := ?vo_w32) (w1 := (wr.setCell ⟨go26, (x8_1 : Int).toNat, none⟩ (.slice none 0 0))) ?hg ?ho ?hn ?hr ?_; (case ho => rfl); (case hg => rfl); (case hn => rfl); (case hr => first | (go_simp; done) | (go_simp; rfl)); intro w32 hw; have hg : wr.grownBy w32 (some go26) := (by rw [hw]; exact HP31.2); have hp_ : Kd.S (Kd.slice 3 (Kd.int .i64)) 26 w32 w.heap.size (fun _ => True) (.slice (some ⟨go26, 0, none⟩) x120001_2.length co30) y122 := (by rw [hw, Ny122.out]; exact HP31.1); clear HP31; have n0_ := Az.mk (hp_); have n1_ := Az.mk (bkg (g := gb113) (o := .cells #[.int .i64 a0_0, .slice A0_1 l0_1.length c0_1] 24 (0, 0)) (by (with_reducible repeat (first | refine bkN ?_ _ | refine bkd ?_ | refine bka ?_ _)); exact BK113.out) hg (Kd.S_ne HO_120001.out BK113.out (by decide))); have n2_ := Az.mk (bkg (g := gb114) (o := .cells #[.int .i64 0, .slice none 0 0] 24 (0, 0)) (by (with_reducible repeat (first | refine bkN ?_ _ | refine bkd ?_ | refine bka ?_ _)); exact BK114.out) hg (Kd.S_ne HO_120001.out BK114.out (by decide))); have n3_ := Az.mk (bkg (g := gb119) (o := .cells #[.int .i64 t120, .slice (some ⟨go26, 0, none⟩) x120001_2.length co30] 24 (0, 0)) (by (with_reducible repeat (first | refine bkN ?_ _ | refine bkd ?_ | refine bka ?_ _)); exact BK119.out) hg (Kd.S_ne HO_120001.out BK119.out (by decide))); have n4_ := Az.mk (Kd.R_after (v := (.slice (some ⟨go26, 0, none⟩) x120001_2.length co30)) (v1 := (.slice (some ⟨go26, 0, none⟩) x120001_2.length co30)) (ok := (fun _ => True)) (by (with_reducible repeat (first | apply Kd.R_alloc | apply Kd.R_drewN | apply Kd.R_drew)); exact HL121_0.out) hg (.inl rfl)); have n5_ := Az.mk ((by rw [hw]; exact bws (HB.out) GB26.out : Below w.heap.size w w32)); clear HO_120001; clear BK113; clear BK114; clear BK119; clear HL121_0; clear HB; have HO_120001 := n0_; have BK113 := n1_; have BK114 := n2_; have BK119 := n3_; have HL121_0 := n4_; have HB := n5_; clear n0_ n1_ n2_ n3_ n4_ n5_; clear hg hw hp_)); try go_wp2_with (first | ((with_reducible refine gate_store (t := 26) (p := 43) rfl ?_); (try (rw [drewN_self wr]; generalize hq_ : World.drewN wr _ = wr; have n0_ := Az.mk (Kd.S_at hq_ HO_120001.out); have n1_ := Az.mk (Kd.R_at hq_ HL121_0.out); have n2_ := Az.mk (blk_at hq_ BK113.out); have n3_ := Az.mk (blk_at hq_ BK114.out); have n4_ := Az.mk (blk_at hq_ BK119.out); have n5_ := Az.mk (below_at hq_ HB.out); clear hq_ HO_120001 HL121_0 BK113 BK114 BK119 HB; have HO_120001 := n0_; have HL121_0 := n1_; have BK113 := n2_; have BK114 := n3_; have BK119 := n4_; have HB := n5_; clear n0_ n1_ n2_ n3_ n4_ n5_; (try (have HX31 := Az.mk (show Kd.S (Kd.slice 3 (Kd.int .i64)) 26 wr w.heap.size (fun k_ => ((fun _ => True)) k_ ∧ ¬ ((fun _ => False)) k_) (.slice (some ⟨go26, 0, none⟩) x120001_2.length co30) x120001_2 from (by (with_reducible repeat (first | apply Kd.S_alloc | apply Kd.S_drewN | apply Kd.S_drew)); exact Kd.S_mono HO_120001.out (fun k_ hk => ⟨trivial, fun e_ => e_⟩))))); (try (obtain ⟨oki31, ce31, hcl31, hM31, hcc31, hfr31, hoki31, hH31⟩ := Kd.S_elem HX31.out [] (x8_1 : Int) (of_decide_eq_true (by assumption)) (by have h_ : (x8_1 : Int) < ((x120001_2.length : Int) : Int) := of_decide_eq_true (by assumption); first | exact h_ | (have e_ := (Kd.S_reads' HO_120001.out).1; omega) | simpa using h_))); (try (obtain ⟨ve31_0, rfl, ge31_0⟩ := hM31)); (try (have HP31 := Kd.S_seg hH31 (of_decide_eq_true (by assumption)) (by have h_ : (x8_1 : Int) < ((x120001_2.length : Int) : Int) := of_decide_eq_true (by assumption); first | exact h_ | (have e_ := (Kd.S_reads' HO_120001.out).1; omega) | simpa using h_) (seg := [.slice none 0 0]) (j := 0) (show 1 ≤ 1 from by decide) (x' := ([] : List Int)) (Kd.M_row (Kd.R_nil _ _ _ _ _)) (fun _ hk => hk) (fun k_ hk_ => hk_.elim))); (try (have hx31_0 := hcc31 0 _ rfl)); (try (try simp only [show ((Kd.slice 3 (Kd.int .i64))).sz = 1 from rfl, Nat.mul_one, Nat.add_zero] at hx31_0)); (try (have hf31_0 := hfr31 0)); (try (try simp only [show ((Kd.slice 3 (Kd.int .i64))).sz = 1 from rfl, Nat.mul_one, Nat.add_zero] at hf31_0)); (try (clear hcl31 hcc31 hfr31 hoki31 hH31)); (try (try simp only [show ((Kd.slice 3 (Kd.int .i64))).sz = 1 from rfl, Nat.mul_one, Nat.add_zero] at HP31)))); refine store_event (t := 26) (p := 43) (v := ?vo_w32) (w1 := (wr.setCell ⟨go26, (x8_1 : Int).toNat, none⟩ (.slice none 0 0))) ?hg ?ho ?hn ?hr ?_; (case ho => rfl); (case hg => rfl); (case hn => rfl); (case hr => first | (go_simp; done) | (go_simp; rfl)); intro w32 hw; have hg : wr.grownBy w32 (some go26) := (by rw [hw]; exact HP31.2); have hp_ : Kd.S (Kd.slice 3 (Kd.int .i64)) 26 w32 w.heap.size (fun _ => True) (.slice (some ⟨go26, 0, none⟩) x120001_2.length co30) y122 := (by rw [hw, Ny122.out]; exact HP31.1); clear HP31; have n0_ := Az.mk (hp_); have n1_ := Az.mk (bkg (g := gb113) (o := .cells #[.int .i64 a0_0, .slice A0_1 l0_1.length c0_1] 24 (0, 0)) (by (with_reducible repeat (first | refine bkN ?_ _ | refine bkd ?_ | refine bka ?_ _)); exact BK113.out) hg (Kd.S_ne HO_120001.out BK113.out (by decide))); have n2_ := Az.mk (bkg (g := gb114) (o := .cells #[.int .i64 0, .slice none 0 0] 24 (0, 0)) (by (with_reducible repeat (first | refine bkN ?_ _ | refine bkd ?_ | refine bka ?_ _)); exact BK114.out) hg (Kd.S_ne HO_120001.out BK114.out (by decide))); have n3_ := Az.mk (bkg (g := gb119) (o := .cells #[.int .i64 t120, .slice (some ⟨go26, 0, none⟩) x120001_2.length co30] 24 (0, 0)) (by (with_reducible repeat (first | refine bkN ?_ _ | refine bkd ?_ | refine bka ?_ _)); exact BK119.out) hg (Kd.S_ne HO_120001.out BK119.out (by decide))); have n4_ := Az.mk (Kd.R_after (v := (.slice (some ⟨go26, 0, none⟩) x120001_2.length co30)) (v1 := (.slice (some ⟨go26, 0, none⟩) x120001_2.length co30)) (ok := (fun _ => True)) (by (with_reducible repeat (first | apply Kd.R_alloc | apply Kd.R_drewN | apply Kd.R_drew)); exact HL121_0.out) hg (.inl rfl)); have n5_ := Az.mk ((by rw [hw]; exact bws (HB.out) GB26.out : Below w.heap.size w w32)); clear HO_120001; clear BK113; clear BK114; clear BK119; clear HL121_0; clear HB; have HO_120001 := n0_; have BK113 := n1_; have BK114 := n2_; have BK119 := n3_; have HL121_0 := n4_; have HB := n5_; clear n0_ n1_ n2_ n3_ n4_ n5_; clear hg hw hp_)))
          go_roundg k2
          case measure => have := HK1.out; have := HK2.out; omega
          case rel => exact ⟨(wrap64 (x8_1 + 1)), (y122), (.slice (some ⟨go26, 0, none⟩) x120001_2.length co30), (by first | rfl | (simp; done) | (simp [*]; done)), H', ⟨by have := HK1.out; have := HK2.out; omega⟩, ⟨by (with_reducible repeat (first | apply Kd.S_alloc | apply Kd.S_drewN | apply Kd.S_drew)); exact HO_120001.out⟩, ⟨by (with_reducible repeat (first | refine bkN ?_ _ | refine bkd ?_ | refine bka ?_ _)); exact BK113.out⟩, ⟨by (with_reducible repeat (first | refine bkN ?_ _ | refine bkd ?_ | refine bka ?_ _)); exact BK114.out⟩, ⟨by (with_reducible repeat (first | refine bkN ?_ _ | refine bkd ?_ | refine bka ?_ _)); exact BK119.out⟩, ⟨by repeat (first | (with_reducible first | exact HB.out | apply bwa | apply pwN | apply bw1 | refine bws ?_ GE113.out | refine bws ?_ GE114.out | refine bws ?_ GE119.out) | exact HB.out)⟩⟩
         ·rw [if_neg c25] at H
          have c25b0 : (t120 == 0) = false := beq_eq_false_iff_ne.mpr c25
          have c25b1 : (t120 != 0) = true := bne_iff_ne.mpr c25
          by_cases c33 : 0 ≤ x9_2
          ·rw [if_pos c33] at H
           have c33b0 : decide (0 ≤ x9_2) = true := decide_eq_true c33
           clear c33
           replace H := Option.bind_eq_some_iff.mp H
           obtain ⟨t125, A340, H⟩ := H
           replace H : ((some (x120001_2.set (x8_1 : Int).toNat ((rL x120001_2 x8_1).set (x9_2 : Int).toNat (wrap64 ((wrap64 (Int.tdiv t125 2)) + 1))) : List (List Int))).bind fun y129 => (if (Int.tmod t125 2) = 1 then (if x9_2 < ((rL y129 x8_1).length : Int) then (nFt.l1 k2 x8_1 (wrap64 (x9_2 + 1)) t120 (y129.set (x8_1 : Int).toNat ((rL y129 x8_1).set (x9_2 : Int).toNat (wrap64 (-(wrap64 ((wrap64 (Int.tdiv t125 2)) + 1))))))) else (none)) else (nFt.l1 k2 x8_1 (wrap64 (x9_2 + 1)) t120 y129))) = some (r1, r2) := H
           have A34 := Az.mk A340
           clear A340
           obtain ⟨y127, hy127⟩ : ∃ y_ : List Int, y_ = ((rL x120001_2 x8_1).set (x9_2 : Int).toNat (wrap64 ((wrap64 (Int.tdiv t125 2)) + 1))) := ⟨_, rfl⟩
           replace H : ((some (x120001_2.set (x8_1 : Int).toNat y127 : List (List Int))).bind fun y129 => (if (Int.tmod t125 2) = 1 then (if x9_2 < ((rL y129 x8_1).length : Int) then (nFt.l1 k2 x8_1 (wrap64 (x9_2 + 1)) t120 (y129.set (x8_1 : Int).toNat ((rL y129 x8_1).set (x9_2 : Int).toNat (wrap64 (-(wrap64 ((wrap64 (Int.tdiv t125 2)) + 1))))))) else (none)) else (nFt.l1 k2 x8_1 (wrap64 (x9_2 + 1)) t120 y129))) = some (r1, r2) := by first | (rw [hy127]; with_reducible exact H) | (have H2_ := (Option.bind_some _ _).symm.trans H; rw [hy127]; with_reducible exact H2_) | (have H2_ := (Option.bind_some _ _).symm.trans H; with_reducible exact H2_) | with_reducible exact H | (rw [hy127]; exact H) | exact H
           have Ny127 := Az.mk hy127
           clear hy127
           obtain ⟨y129, hy129⟩ : ∃ y_ : List (List Int), y_ = (x120001_2.set (x8_1 : Int).toNat y127) := ⟨_, rfl⟩
           replace H : (if (Int.tmod t125 2) = 1 then (if x9_2 < ((rL y129 x8_1).length : Int) then (nFt.l1 k2 x8_1 (wrap64 (x9_2 + 1)) t120 (y129.set (x8_1 : Int).toNat ((rL y129 x8_1).set (x9_2 : Int).toNat (wrap64 (-(wrap64 ((wrap64 (Int.tdiv t125 2)) + 1))))))) else (none)) else (nFt.l1 k2 x8_1 (wrap64 (x9_2 + 1)) t120 y129)) = some (r1, r2) := by first | (rw [hy129]; with_reducible exact H) | (have H2_ := (Option.bind_some _ _).symm.trans H; rw [hy129]; with_reducible exact H2_) | (have H2_ := (Option.bind_some _ _).symm.trans H; with_reducible exact H2_) | with_reducible exact H | (rw [hy129]; exact H) | exact H
           have Ny129 := Az.mk hy129
           clear hy129
           by_cases c36 : (Int.tmod t125 2) = 1
           ·rw [if_pos c36] at H
            have c36b0 : ((Int.tmod t125 2) == 1) = true := beq_iff_eq.mpr c36
            have c36b1 : ((Int.tmod t125 2) != 1) = false := bne_eq_false_iff_eq.mpr c36
            clear c36
            by_cases c37 : x9_2 < ((rL y129 x8_1).length : Int)
            ·rw [if_pos c37] at H
             have c37b0 : decide (x9_2 < ((rL y129 x8_1).length : Int)) = true := decide_eq_true c37
             clear c37
             obtain ⟨y131, hy131⟩ : ∃ y_ : List Int, y_ = ((rL y129 x8_1).set (x9_2 : Int).toNat (wrap64 (-(wrap64 ((wrap64 (Int.tdiv t125 2)) + 1))))) := ⟨_, rfl⟩
             replace H : (nFt.l1 k2 x8_1 (wrap64 (x9_2 + 1)) t120 (y129.set (x8_1 : Int).toNat y131)) = some (r1, r2) := by first | (rw [hy131]; with_reducible exact H) | (have H2_ := (Option.bind_some _ _).symm.trans H; rw [hy131]; with_reducible exact H2_) | (have H2_ := (Option.bind_some _ _).symm.trans H; with_reducible exact H2_) | with_reducible exact H | (rw [hy131]; exact H) | exact H
             have Ny131 := Az.mk hy131
             clear hy131
             obtain ⟨y133, hy133⟩ : ∃ y_ : List (List Int), y_ = (y129.set (x8_1 : Int).toNat y131) := ⟨_, rfl⟩
             replace H : (nFt.l1 k2 x8_1 (wrap64 (x9_2 + 1)) t120 y133) = some (r1, r2) := by first | (rw [hy133]; with_reducible exact H) | (have H2_ := (Option.bind_some _ _).symm.trans H; rw [hy133]; with_reducible exact H2_) | (have H2_ := (Option.bind_some _ _).symm.trans H; with_reducible exact H2_) | with_reducible exact H | (rw [hy133]; exact H) | exact H
             have Ny133 := Az.mk hy133
             clear hy133
             have H' := Az.mk H
             clear H
             have hnb39 := NB119_113.out
             have hnc39 := NB113_119.out
             have hnb40 := NB119_114.out
             have hnc40 := NB114_119.out
             have hcz41_0 : wr.cell? ⟨gb119, 0, none⟩ = some (.int .i64 t120) := (bkc BK119.out 0).trans rfl
             have hcz41_1 : wr.cell? ⟨gb119, 1, none⟩ = some (u120001) := (bkc BK119.out 1).trans rfl
             have hfz41_0 := bkf BK119.out 0
             have hfz41_1 := bkf BK119.out 1
             obtain ⟨Ao42, co42, eo42⟩ := Kd.S_slice HO_120001.out
             subst eo42
             have p121 : 0 ≤ (x8_1 : Int) := of_decide_eq_true (by assumption)
             have q121 : x8_1 < (x120001_2.length : Int) := of_decide_eq_true (by assumption)
             obtain ⟨ad121, A121_0, c121_0, e121, hx121_0, hl121_0, hi121_0⟩ := at_L1 (Kd.S_reads' HO_120001.out).2.2 x8_1 p121 q121
             cases e121
             obtain ⟨ce121, hce121, hMe121, hcc121⟩ := Kd.S_get HO_120001.out [] x8_1 p121 (by first | exact q121 | exact of_decide_eq_true (by assumption) | (have e_ := (Kd.S_reads' HO_120001.out).1; omega))
             obtain ⟨ve121_0, rfl, ge121_0⟩ := hMe121
             have hv121_0 := hcc121 0 _ rfl
             rw [Nat.add_zero, show ((Kd.slice 3 (Kd.int .i64))).sz = 1 from rfl, Nat.mul_one] at hv121_0
             replace hv121_0 := Option.some.inj (hv121_0.symm.trans hx121_0)
             rw [hv121_0] at ge121_0
             have HL121_0 := Az.mk (show Kd.R (Kd.int .i64) 3 _ _ _ _ (rL x120001_2 x8_1) from ge121_0)
             clear hv121_0 ge121_0
             have HX121_0 := Az.mk hx121_0
             clear hcc121 hce121
             have HR121_0 := Az.mk hi121_0
             have HC121_0 := Az.mk hl121_0
             clear hi121_0 hl121_0
             replace p121 := eq_true p121
             replace q121 := eq_true q121
             have p123 : 0 ≤ (x8_1 : Int) := of_decide_eq_true (by assumption)
             have q123 : x8_1 < (x120001_2.length : Int) := of_decide_eq_true (by assumption)
             obtain ⟨ad123, A123_0, c123_0, e123, hx123_0, hl123_0, hi123_0⟩ := at_L1 (Kd.S_reads' HO_120001.out).2.2 x8_1 p123 q123
             obtain rfl : ad121 = ad123 := (by injection e123)
             obtain ⟨ce123, hce123, hMe123, hcc123⟩ := Kd.S_get HO_120001.out [] x8_1 p123 (by first | exact q123 | exact of_decide_eq_true (by assumption) | (have e_ := (Kd.S_reads' HO_120001.out).1; omega))
             obtain ⟨ve123_0, rfl, ge123_0⟩ := hMe123
             have hv123_0 := hcc123 0 _ rfl
             rw [Nat.add_zero, show ((Kd.slice 3 (Kd.int .i64))).sz = 1 from rfl, Nat.mul_one] at hv123_0
             replace hv123_0 := Option.some.inj (hv123_0.symm.trans hx123_0)
             rw [hv123_0] at ge123_0
             have HL123_0 := Az.mk (show Kd.R (Kd.int .i64) 3 _ _ _ _ (rL x120001_2 x8_1) from ge123_0)
             clear hv123_0 ge123_0
             have HX123_0 := Az.mk hx123_0
             clear hcc123 hce123
             have HR123_0 := Az.mk hi123_0
             have HC123_0 := Az.mk hl123_0
             clear hi123_0 hl123_0
             replace p123 := eq_true p123
             replace q123 := eq_true q123
             have ea_ := Option.some.inj (hx121_0.symm.trans hx123_0)
             injection ea_ with ea_ en_ ec_
             subst ea_
             subst ec_
             clear en_
             have p124 : 0 ≤ (x9_2 : Int) := of_decide_eq_true (by assumption)
             have q124 : x9_2 < ((rL x120001_2 x8_1).length : Int) := of_decide_eq_true (by assumption)
             obtain ⟨ad124, e124, hx124_0⟩ := Kd.at_int (by repeat (first | (with_reducible exact HR123_0.out) | (with_reducible refine Kd.C_alloc ?_ _) | (with_reducible refine Kd.C_drewN ?_ _) | (with_reducible refine Kd.C_drew ?_) | exact HR123_0.out)) x9_2 p124 q124
             cases e124
             replace p124 := eq_true p124
             replace q124 := eq_true q124
             go_wp2_with fail
             go_quiet ((go_at_call 34; (refine (nBr.calls (rd (rL x120001_2 x8_1) x9_2) (wrap64 (2 * t120)) t125 _ A34.out).mono ?_); rintro e w' ⟨rfl, ⟨nd, rfl⟩⟩; exact ⟨rfl, _, World.drewN_drewN _ _ _⟩))
             generalize hq_ : World.drewN wr _ = wr
             replace HO_120001 := Az.mk (Kd.S_at hq_ HO_120001.out)
             replace BK113 := Az.mk (blk_at hq_ BK113.out)
             replace BK114 := Az.mk (blk_at hq_ BK114.out)
             replace BK119 := Az.mk (blk_at hq_ BK119.out)
             replace HB := Az.mk (below_at hq_ HB.out)
             replace hx121_0 := cell_at hq_ hx121_0
             replace hx123_0 := cell_at hq_ hx123_0
             replace hx124_0 := cell_at hq_ hx124_0
             try replace hcz41_0 := cell_at hq_ hcz41_0
             try replace hcz41_1 := cell_at hq_ hcz41_1
             clear hq_
             have p126 : 0 ≤ (x8_1 : Int) := of_decide_eq_true (by assumption)
             have q126 : x8_1 < (x120001_2.length : Int) := of_decide_eq_true (by assumption)
             obtain ⟨ad126, A126_0, c126_0, e126, hx126_0, hl126_0, hi126_0⟩ := at_L1 (Kd.S_reads' HO_120001.out).2.2 x8_1 p126 q126
             obtain rfl : ad121 = ad126 := (by injection e126)
             obtain ⟨ce126, hce126, hMe126, hcc126⟩ := Kd.S_get HO_120001.out [] x8_1 p126 (by first | exact q126 | exact of_decide_eq_true (by assumption) | (have e_ := (Kd.S_reads' HO_120001.out).1; omega))
             obtain ⟨ve126_0, rfl, ge126_0⟩ := hMe126
             have hv126_0 := hcc126 0 _ rfl
             rw [Nat.add_zero, show ((Kd.slice 3 (Kd.int .i64))).sz = 1 from rfl, Nat.mul_one] at hv126_0
             replace hv126_0 := Option.some.inj (hv126_0.symm.trans hx126_0)
             rw [hv126_0] at ge126_0
             have HL126_0 := Az.mk (show Kd.R (Kd.int .i64) 3 _ _ _ _ (rL x120001_2 x8_1) from ge126_0)
             clear hv126_0 ge126_0
             have HX126_0 := Az.mk hx126_0
             clear hcc126 hce126
             have HR126_0 := Az.mk hi126_0
             have HC126_0 := Az.mk hl126_0
             clear hi126_0 hl126_0
             replace p126 := eq_true p126
             replace q126 := eq_true q126
             have ea_ := Option.some.inj (hx121_0.symm.trans hx126_0)
             injection ea_ with ea_ en_ ec_
             subst ea_
             subst ec_
             clear en_
             have p35 : 0 ≤ (x9_2 : Int) := of_decide_eq_true (by assumption)
             have q35 : (x9_2 : Int) < (((rL x120001_2 x8_1).length : Int) : Int) := of_decide_eq_true (by assumption)
             obtain ⟨go35, co35, eo35, gb35, gl35, cl35, HG35⟩ := Kd.R_form HL126_0.out (by omega)
             (first | cases eo35 | (injection eo35 with ea_ en_ ec_; (first | subst ea_ | (injection ea_ with ea_; subst ea_)); subst ec_; clear en_))
             have GB35 := Az.mk gb35
             have GG35 := Az.mk HG35
             clear gb35 gl35 HG35
             (first | simp only [add_plain] at hx124_0 | skip)
             obtain ⟨hx35_0, hf35_0⟩ := Kd.R_celln 0 HL126_0.out (x9_2 : Int) p35 q35
             replace p35 := eq_true p35
             replace q35 := eq_true q35
             have hq43 : (x8_1 : Int) < (x120001_2.length : Int) := (by have h_ : (x8_1 : Int) < ((x120001_2.length : Int) : Int) := of_decide_eq_true (by assumption); first | exact h_ | (have e_ := (Kd.S_reads' HO_120001.out).1; omega) | simpa only [List.length_set, List.length_set] using h_)
             obtain ⟨oki43, ce43, hcl43, hM43, hcc43, hok43, hbk43⟩ := Kd.S_borrow HO_120001.out [] (x8_1 : Int) (of_decide_eq_true (by assumption)) (by have e_ := (Kd.S_reads' HO_120001.out).1; have h2_ := hq43; omega)
             obtain ⟨ve43_0, rfl, ge43_0⟩ := hM43
             have hv43 := hcc43 0 _ rfl
             rw [Nat.add_zero, show ((Kd.slice 3 (Kd.int .i64))).sz = 1 from rfl, Nat.mul_one] at hv43
             replace hv43 := Option.some.inj (hv43.symm.trans HX126_0.out)
             subst hv43
             clear hcc43 hcl43
             replace ge43_0 := (show Kd.R (Kd.int .i64) 3 _ _ _ _ (rL x120001_2 x8_1) from ge43_0)
             have HP43 := Kd.R_putg ge43_0 (x9_2 : Int) (wrap64 ((wrap64 (Int.tdiv t125 2)) + 1))
             go_wp2_with (first | ((with_reducible refine gate_store (t := 3) (p := 65) rfl ?_); (try (rw [drewN_self wr]; generalize hq_ : World.drewN wr _ = wr; have n0_ := Az.mk (Kd.S_at hq_ HO_120001.out); have n1_ := Az.mk (Kd.R_at hq_ HL134.out); have n2_ := Az.mk (blk_at hq_ BK113.out); have n3_ := Az.mk (blk_at hq_ BK114.out); have n4_ := Az.mk (blk_at hq_ BK119.out); have n5_ := Az.mk (below_at hq_ HB.out); clear hq_ HO_120001 HL134 BK113 BK114 BK119 HB; have HO_120001 := n0_; have HL134 := n1_; have BK113 := n2_; have BK114 := n3_; have BK119 := n4_; have HB := n5_; clear n0_ n1_ n2_ n3_ n4_ n5_; (try (have hq43 : (x8_1 : Int) < (x120001_2.length : Int) := (by have h_ : (x8_1 : Int) < ((x120001_2.length : Int) : Int) := of_decide_eq_true (by assumption); first | exact h_ | (have e_ := (Kd.S_reads' HO_120001.out).1; omega) | simpa only [List.length_set, List.length_set] using h_))); (try (obtain ⟨oki43, ce43, hcl43, hM43, hcc43, hok43, hbk43⟩ := Kd.S_borrow HO_120001.out [] (x8_1 : Int) (of_decide_eq_true (by assumption)) (by have e_ := (Kd.S_reads' HO_120001.out).1; have h2_ := hq43; omega))); (try (obtain ⟨ve43_0, rfl, ge43_0⟩ := hM43)); (try (have hv43 := hcc43 0 _ rfl)); (try (rw [Nat.add_zero, show ((Kd.slice 3 (Kd.int .i64))).sz = 1 from rfl, Nat.mul_one] at hv43)); (try (replace hv43 := Option.some.inj (hv43.symm.trans HX126_0.out))); (try (subst hv43)); (try (clear hcc43 hcl43)); (try (replace ge43_0 := (show Kd.R (Kd.int .i64) 3 _ _ _ _ (rL x120001_2 x8_1) from ge43_0))); (try (have HP43 := Kd.R_putg ge43_0 (x9_2 : Int) (wrap64 ((wrap64 (Int.tdiv t125 2)) + 1)))))); refine store_event (t := 3) (p := 65) (v := ?vo_w44) (w1 := (wr.setCell ⟨go35, (x9_2 : Int).toNat, none⟩ (.int .i64 (wrap64 ((wrap64 (Int.tdiv t125 2)) + 1))))) ?hg ?ho ?hn ?hr ?_; (case ho => rfl); (case hg => rfl); (case hn => rfl); (case hr => first | (go_simp; done) | (go_simp; rfl)); intro w44 hw; have hg : wr.grownBy w44 (some go35) := (by rw [hw]; exact HP43.2); have hz_ : Kd.R (Kd.int .i64) 3 w44 w.heap.size oki43 (.slice (some ⟨go35, 0, none⟩) (rL x120001_2 x8_1).length c121_0) y127 := (by rw [hw, Ny127.out]; exact HP43.1); have hp_ : Kd.S (Kd.slice 3 (Kd.int .i64)) 26 w44 w.heap.size (fun _ => True) (.slice (some ad121) x120001_2.length co42) y129 := (by rw [Ny129.out]; exact hbk43 hg (fun k_ e_ => by injection e_ with e_; subst e_; exact ge43_0.1 _ rfl) (Kd.M_row hz_)); have hm_ := Kd.R_mono hz_ hok43; clear HP43 hbk43; have n0_ := Az.mk (hp_); have n1_ := Az.mk (bkg (g := gb113) (o := .cells #[.int .i64 a0_0, .slice A0_1 l0_1.length c0_1] 24 (0, 0)) (by (with_reducible repeat (first | refine bkN ?_ _ | refine bkd ?_ | refine bka ?_ _)); exact BK113.out) hg (Kd.R_ne HL126_0.out BK113.out (by decide))); have n2_ := Az.mk (bkg (g := gb114) (o := .cells #[.int .i64 0, .slice none 0 0] 24 (0, 0)) (by (with_reducible repeat (first | refine bkN ?_ _ | refine bkd ?_ | refine bka ?_ _)); exact BK114.out) hg (Kd.R_ne HL126_0.out BK114.out (by decide))); have n3_ := Az.mk (bkg (g := gb119) (o := .cells #[.int .i64 t120, .slice (some ad121) x120001_2.length co42] 24 (0, 0)) (by (with_reducible repeat (first | refine bkN ?_ _ | refine bkd ?_ | refine bka ?_ _)); exact BK119.out) hg (Kd.R_ne HL126_0.out BK119.out (by decide))); have n4_ := Az.mk ((by rw [hw]; exact bws (HB.out) GB35.out : Below w.heap.size w w44)); have n5_ := Az.mk (hm_); have n6_ := Az.mk ((Kd.R_reads' hm_).2.1); clear HO_120001; clear BK113; clear BK114; clear BK119; clear HB; clear HL121_0; clear HL123_0; clear HL126_0; have HO_120001 := n0_; have BK113 := n1_; have BK114 := n2_; have BK119 := n3_; have HB := n4_; have HL134 := n5_; have HC128 := n6_; clear n0_ n1_ n2_ n3_ n4_ n5_ n6_; clear hg hw hp_ hz_ hm_ hok43; have hcz45_0 : w44.cell? ⟨gb119, 0, none⟩ = some (.int .i64 t120) := (bkc BK119.out 0).trans rfl; have hcz45_1 : w44.cell? ⟨gb119, 1, none⟩ = some (.slice (some ad121) x120001_2.length co42) := (bkc BK119.out 1).trans rfl; have hfz45_0 := bkf BK119.out 0; have hfz45_1 := bkf BK119.out 1; have p130 : 0 ≤ (x8_1 : Int) := of_decide_eq_true (by assumption); have q130 : x8_1 < (y129.length : Int) := (by have h_ : (x8_1 : Int) < ((x120001_2.length : Int) : Int) := of_decide_eq_true (by assumption); first | (have e_ := (Kd.S_reads' HO_120001.out).1; omega) | simpa only [Ny129.out, List.length_set] using h_); have ql130 : ((x8_1 : Int) < ((x120001_2.length : Int) : Int)) = True := eq_true (of_decide_eq_true (by assumption)); obtain ⟨ad130, A130_0, c130_0, e130, hx130_0, hl130_0, hi130_0⟩ := at_L1 (Kd.S_reads' HO_120001.out).2.2 x8_1 p130 q130; obtain rfl : ad121 = ad130 := (by injection e130); obtain ⟨ce130, hce130, hMe130, hcc130⟩ := Kd.S_get HO_120001.out [] x8_1 p130 (by first | exact q130 | exact of_decide_eq_true (by assumption) | (have e_ := (Kd.S_reads' HO_120001.out).1; omega)); obtain ⟨ve130_0, rfl, ge130_0⟩ := hMe130; have hv130_0 := hcc130 0 _ rfl; rw [Nat.add_zero, show ((Kd.slice 3 (Kd.int .i64))).sz = 1 from rfl, Nat.mul_one] at hv130_0; replace hv130_0 := Option.some.inj (hv130_0.symm.trans hx130_0); rw [hv130_0] at ge130_0; have HL130_0 := Az.mk (show Kd.R (Kd.int .i64) 3 _ _ _ _ (rL y129 x8_1) from ge130_0); clear hv130_0 ge130_0; have HX130_0 := Az.mk hx130_0; clear hcc130 hce130; have HR130_0 := Az.mk hi130_0; have HC130_0 := Az.mk hl130_0; clear hi130_0 hl130_0; replace p130 := eq_true p130; replace q130 := eq_true q130; have p38 : 0 ≤ (x9_2 : Int) := of_decide_eq_true (by assumption); have q38 : (x9_2 : Int) < (((rL y129 x8_1).length : Int) : Int) := of_decide_eq_true (by assumption); obtain ⟨go38, co38, eo38, gb38, gl38, cl38, HG38⟩ := Kd.R_form HL130_0.out (by omega); (first | cases eo38 | (injection eo38 with ea_ en_ ec_; (first | subst ea_ | (injection ea_ with ea_; subst ea_)); subst ec_; clear en_)); have GB38 := Az.mk gb38; have GG38 := Az.mk HG38; clear gb38 gl38 HG38; obtain ⟨hx38_0, hf38_0⟩ := Kd.R_celln 0 HL130_0.out (x9_2 : Int) p38 q38; replace p38 := eq_true p38; replace q38 := eq_true q38; have hq46 : (x8_1 : Int) < (y129.length : Int) := (by have h_ : (x8_1 : Int) < ((x120001_2.length : Int) : Int) := of_decide_eq_true (by assumption); first | exact h_ | (have e_ := (Kd.S_reads' HO_120001.out).1; omega) | simpa only [Ny129.out, List.length_set] using h_); obtain ⟨oki46, ce46, hcl46, hM46, hcc46, hok46, hbk46⟩ := Kd.S_borrow HO_120001.out [] (x8_1 : Int) (of_decide_eq_true (by assumption)) (by have e_ := (Kd.S_reads' HO_120001.out).1; have h2_ := hq46; omega); obtain ⟨ve46_0, rfl, ge46_0⟩ := hM46; have hv46 := hcc46 0 _ rfl; rw [Nat.add_zero, show ((Kd.slice 3 (Kd.int .i64))).sz = 1 from rfl, Nat.mul_one] at hv46; replace hv46 := Option.some.inj (hv46.symm.trans HX130_0.out); subst hv46; clear hcc46 hcl46; replace ge46_0 := (show Kd.R (Kd.int .i64) 3 _ _ _ _ (rL y129 x8_1) from ge46_0); have HP46 := Kd.R_putg ge46_0 (x9_2 : Int) (wrap64 (-(wrap64 ((wrap64 (Int.tdiv t125 2)) + 1))))) | ((with_reducible refine gate_store (t := 3) (p := 79) rfl ?_); (try (rw [drewN_self w44]; generalize hq_ : World.drewN w44 _ = w44; have n0_ := Az.mk (Kd.S_at hq_ HO_120001.out); have n1_ := Az.mk (Kd.R_at hq_ HL135.out); have n2_ := Az.mk (blk_at hq_ BK113.out); have n3_ := Az.mk (blk_at hq_ BK114.out); have n4_ := Az.mk (blk_at hq_ BK119.out); have n5_ := Az.mk (below_at hq_ HB.out); clear hq_ HO_120001 HL135 BK113 BK114 BK119 HB; have HO_120001 := n0_; have HL135 := n1_; have BK113 := n2_; have BK114 := n3_; have BK119 := n4_; have HB := n5_; clear n0_ n1_ n2_ n3_ n4_ n5_; (try (have hq46 : (x8_1 : Int) < (y129.length : Int) := (by have h_ : (x8_1 : Int) < ((x120001_2.length : Int) : Int) := of_decide_eq_true (by assumption); first | exact h_ | (have e_ := (Kd.S_reads' HO_120001.out).1; omega) | simpa only [Ny129.out, List.length_set] using h_))); (try (obtain ⟨oki46, ce46, hcl46, hM46, hcc46, hok46, hbk46⟩ := Kd.S_borrow HO_120001.out [] (x8_1 : Int) (of_decide_eq_true (by assumption)) (by have e_ := (Kd.S_reads' HO_120001.out).1; have h2_ := hq46; omega))); (try (obtain ⟨ve46_0, rfl, ge46_0⟩ := hM46)); (try (have hv46 := hcc46 0 _ rfl)); (try (rw [Nat.add_zero, show ((Kd.slice 3 (Kd.int .i64))).sz = 1 from rfl, Nat.mul_one] at hv46)); (try (replace hv46 := Option.some.inj (hv46.symm.trans HX130_0.out))); (try (subst hv46)); (try (clear hcc46 hcl46)); (try (replace ge46_0 := (show Kd.R (Kd.int .i64) 3 _ _ _ _ (rL y129 x8_1) from ge46_0))); (try (have HP46 := Kd.R_putg ge46_0 (x9_2 : Int) (wrap64 (-(wrap64 ((wrap64 (Int.tdiv t125 2)) + 1)))))))); refine store_event (t := 3) (p := 79) (v := ?vo_w47) (w1 := (w44.setCell ⟨go38, (x9_2 : Int).toNat, none⟩ (.int .i64 (wrap64 (-(wrap64 ((wrap64 (Int.tdiv t125 2)) + 1))))))) ?hg ?ho ?hn ?hr ?_; (case ho => rfl); (case hg => rfl); (case hn => rfl); (case hr => first | (go_simp; done) | (go_simp; rfl)); intro w47 hw; have hg : w44.grownBy w47 (some go38) := (by rw [hw]; exact HP46.2); have hz_ : Kd.R (Kd.int .i64) 3 w47 w.heap.size oki46 (.slice (some ⟨go38, 0, none⟩) (rL y129 x8_1).length c130_0) y131 := (by rw [hw, Ny131.out]; exact HP46.1); have hp_ : Kd.S (Kd.slice 3 (Kd.int .i64)) 26 w47 w.heap.size (fun _ => True) (.slice (some ad121) x120001_2.length co42) y133 := (by rw [Ny133.out]; exact hbk46 hg (fun k_ e_ => by injection e_ with e_; subst e_; exact ge46_0.1 _ rfl) (Kd.M_row hz_)); have hm_ := Kd.R_mono hz_ hok46; clear HP46 hbk46; have n0_ := Az.mk (hp_); have n1_ := Az.mk (bkg (g := gb113) (o := .cells #[.int .i64 a0_0, .slice A0_1 l0_1.length c0_1] 24 (0, 0)) (by (with_reducible repeat (first | refine bkN ?_ _ | refine bkd ?_ | refine bka ?_ _)); exact BK113.out) hg (Kd.R_ne HL130_0.out BK113.out (by decide))); have n2_ := Az.mk (bkg (g := gb114) (o := .cells #[.int .i64 0, .slice none 0 0] 24 (0, 0)) (by (with_reducible repeat (first | refine bkN ?_ _ | refine bkd ?_ | refine bka ?_ _)); exact BK114.out) hg (Kd.R_ne HL130_0.out BK114.out (by decide))); have n3_ := Az.mk (bkg (g := gb119) (o := .cells #[.int .i64 t120, .slice (some ad121) x120001_2.length co42] 24 (0, 0)) (by (with_reducible repeat (first | refine bkN ?_ _ | refine bkd ?_ | refine bka ?_ _)); exact BK119.out) hg (Kd.R_ne HL130_0.out BK119.out (by decide))); have n4_ := Az.mk ((by rw [hw]; exact bws (HB.out) GB38.out : Below w.heap.size w w47)); have n5_ := Az.mk (hm_); have n6_ := Az.mk ((Kd.R_reads' hm_).2.1); clear HO_120001; clear BK113; clear BK114; clear BK119; clear HB; clear HL134; clear HL130_0; have HO_120001 := n0_; have BK113 := n1_; have BK114 := n2_; have BK119 := n3_; have HB := n4_; have HL135 := n5_; have HC132 := n6_; clear n0_ n1_ n2_ n3_ n4_ n5_ n6_; clear hg hw hp_ hz_ hm_ hok46))
             repeat (go_quiet (first | (go_at_call 34; (with_reducible refine (nBr.calls (rd (rL x120001_2 x8_1) x9_2) (wrap64 (2 * t120)) t125 _ A34.out).mono ?_); rintro e w' ⟨rfl, ⟨nd, rfl⟩⟩; (try first | exact ⟨rfl, _, World.drewN_drewN _ _ _⟩ | exact ⟨rfl, _, Eq.trans (World.drewN_drewN _ _ _) (congrArg (World.drewN _) (Nat.add_assoc _ _ _))⟩); have p126 : 0 ≤ (x8_1 : Int) := of_decide_eq_true (by assumption); have q126 : x8_1 < (x120001_2.length : Int) := of_decide_eq_true (by assumption); obtain ⟨ad126, A126_0, c126_0, e126, hx126_0, hl126_0, hi126_0⟩ := at_L1 (Kd.S_reads' HO_120001.out).2.2 x8_1 p126 q126; obtain rfl : ad121 = ad126 := (by injection e126); obtain ⟨ce126, hce126, hMe126, hcc126⟩ := Kd.S_get HO_120001.out [] x8_1 p126 (by first | exact q126 | exact of_decide_eq_true (by assumption) | (have e_ := (Kd.S_reads' HO_120001.out).1; omega)); obtain ⟨ve126_0, rfl, ge126_0⟩ := hMe126; have hv126_0 := hcc126 0 _ rfl; rw [Nat.add_zero, show ((Kd.slice 3 (Kd.int .i64))).sz = 1 from rfl, Nat.mul_one] at hv126_0; replace hv126_0 := Option.some.inj (hv126_0.symm.trans hx126_0); rw [hv126_0] at ge126_0; have HL126_0 := Az.mk (show Kd.R (Kd.int .i64) 3 _ _ _ _ (rL x120001_2 x8_1) from ge126_0); clear hv126_0 ge126_0; have HX126_0 := Az.mk hx126_0; clear hcc126 hce126; have HR126_0 := Az.mk hi126_0; have HC126_0 := Az.mk hl126_0; clear hi126_0 hl126_0; replace p126 := eq_true p126; replace q126 := eq_true q126; have ea_ := Option.some.inj (hx121_0.symm.trans hx126_0); injection ea_ with ea_ en_ ec_; subst ea_; subst ec_; clear en_; have p35 : 0 ≤ (x9_2 : Int) := of_decide_eq_true (by assumption); have q35 : (x9_2 : Int) < (((rL x120001_2 x8_1).length : Int) : Int) := of_decide_eq_true (by assumption); obtain ⟨go35, co35, eo35, gb35, gl35, cl35, HG35⟩ := Kd.R_form HL126_0.out (by omega); (first | cases eo35 | (injection eo35 with ea_ en_ ec_; (first | subst ea_ | (injection ea_ with ea_; subst ea_)); subst ec_; clear en_)); have GB35 := Az.mk gb35; have GG35 := Az.mk HG35; clear gb35 gl35 HG35; (first | simp only [add_plain] at hx124_0 | skip); obtain ⟨hx35_0, hf35_0⟩ := Kd.R_celln 0 HL126_0.out (x9_2 : Int) p35 q35; replace p35 := eq_true p35; replace q35 := eq_true q35; have hq43 : (x8_1 : Int) < (x120001_2.length : Int) := (by have h_ : (x8_1 : Int) < ((x120001_2.length : Int) : Int) := of_decide_eq_true (by assumption); first | exact h_ | (have e_ := (Kd.S_reads' HO_120001.out).1; omega) | simpa only [List.length_set, List.length_set] using h_); obtain ⟨oki43, ce43, hcl43, hM43, hcc43, hok43, hbk43⟩ := Kd.S_borrow HO_120001.out [] (x8_1 : Int) (of_decide_eq_true (by assumption)) (by have e_ := (Kd.S_reads' HO_120001.out).1; have h2_ := hq43; omega); obtain ⟨ve43_0, rfl, ge43_0⟩ := hM43; have hv43 := hcc43 0 _ rfl; rw [Nat.add_zero, show ((Kd.slice 3 (Kd.int .i64))).sz = 1 from rfl, Nat.mul_one] at hv43; replace hv43 := Option.some.inj (hv43.symm.trans HX126_0.out); subst hv43; clear hcc43 hcl43; replace ge43_0 := (show Kd.R (Kd.int .i64) 3 _ _ _ _ (rL x120001_2 x8_1) from ge43_0); have HP43 := Kd.R_putg ge43_0 (x9_2 : Int) (wrap64 ((wrap64 (Int.tdiv t125 2)) + 1))) | ((with_reducible refine gate_store (t := 3) (p := 65) rfl ?_); (try (rw [drewN_self wr]; generalize hq_ : World.drewN wr _ = wr; have n0_ := Az.mk (Kd.S_at hq_ HO_120001.out); have n1_ := Az.mk (Kd.R_at hq_ HL134.out); have n2_ := Az.mk (blk_at hq_ BK113.out); have n3_ := Az.mk (blk_at hq_ BK114.out); have n4_ := Az.mk (blk_at hq_ BK119.out); have n5_ := Az.mk (below_at hq_ HB.out); clear hq_ HO_120001 HL134 BK113 BK114 BK119 HB; have HO_120001 := n0_; have HL134 := n1_; have BK113 := n2_; have BK114 := n3_; have BK119 := n4_; have HB := n5_; clear n0_ n1_ n2_ n3_ n4_ n5_; (try (have hq43 : (x8_1 : Int) < (x120001_2.length : Int) := (by have h_ : (x8_1 : Int) < ((x120001_2.length : Int) : Int) := of_decide_eq_true (by assumption); first | exact h_ | (have e_ := (Kd.S_reads' HO_120001.out).1; omega) | simpa only [List.length_set, List.length_set] using h_))); (try (obtain ⟨oki43, ce43, hcl43, hM43, hcc43, hok43, hbk43⟩ := Kd.S_borrow HO_120001.out [] (x8_1 : Int) (of_decide_eq_true (by assumption)) (by have e_ := (Kd.S_reads' HO_120001.out).1; have h2_ := hq43; omega))); (try (obtain ⟨ve43_0, rfl, ge43_0⟩ := hM43)); (try (have hv43 := hcc43 0 _ rfl)); (try (rw [Nat.add_zero, show ((Kd.slice 3 (Kd.int .i64))).sz = 1 from rfl, Nat.mul_one] at hv43)); (try (replace hv43 := Option.some.inj (hv43.symm.trans HX126_0.out))); (try (subst hv43)); (try (clear hcc43 hcl43)); (try (replace ge43_0 := (show Kd.R (Kd.int .i64) 3 _ _ _ _ (rL x120001_2 x8_1) from ge43_0))); (try (have HP43 := Kd.R_putg ge43_0 (x9_2 : Int) (wrap64 ((wrap64 (Int.tdiv t125 2)) + 1)))))); refine store_event (t := 3) (p := 65) (v := ?vo_w44) (w1 := (wr.setCell ⟨go35, (x9_2 : Int).toNat, none⟩ (.int .i64 (wrap64 ((wrap64 (Int.tdiv t125 2)) + 1))))) ?hg ?ho ?hn ?hr ?_; (case ho => rfl); (case hg => rfl); (case hn => rfl); (case hr => first | (go_simp; done) | (go_simp; rfl)); intro w44 hw; have hg : wr.grownBy w44 (some go35) := (by rw [hw]; exact HP43.2); have hz_ : Kd.R (Kd.int .i64) 3 w44 w.heap.size oki43 (.slice (some ⟨go35, 0, none⟩) (rL x120001_2 x8_1).length c121_0) y127 := (by rw [hw, Ny127.out]; exact HP43.1); have hp_ : Kd.S (Kd.slice 3 (Kd.int .i64)) 26 w44 w.heap.size (fun _ => True) (.slice (some ad121) x120001_2.length co42) y129 := (by rw [Ny129.out]; exact hbk43 hg (fun k_ e_ => by injection e_ with e_; subst e_; exact ge43_0.1 _ rfl) (Kd.M_row hz_)); have hm_ := Kd.R_mono hz_ hok43; clear HP43 hbk43; have n0_ := Az.mk (hp_); have n1_ := Az.mk (bkg (g := gb113) (o := .cells #[.int .i64 a0_0, .slice A0_1 l0_1.length c0_1] 24 (0, 0)) (by (with_reducible repeat (first | refine bkN ?_ _ | refine bkd ?_ | refine bka ?_ _)); exact BK113.out) hg (Kd.R_ne HL126_0.out BK113.out (by decide))); have n2_ := Az.mk (bkg (g := gb114) (o := .cells #[.int .i64 0, .slice none 0 0] 24 (0, 0)) (by (with_reducible repeat (first | refine bkN ?_ _ | refine bkd ?_ | refine bka ?_ _)); exact BK114.out) hg (Kd.R_ne HL126_0.out BK114.out (by decide))); have n3_ := Az.mk (bkg (g := gb119) (o := .cells #[.int .i64 t120, .slice (some ad121) x120001_2.length co42] 24 (0, 0)) (by (with_reducible repeat (first | refine bkN ?_ _ | refine bkd ?_ | refine bka ?_ _)); exact BK119.out) hg (Kd.R_ne HL126_0.out BK119.out (by decide))); have n4_ := Az.mk ((by rw [hw]; exact bws (HB.out) GB35.out : Below w.heap.size w w44)); have n5_ := Az.mk (hm_); have n6_ := Az.mk ((Kd.R_reads' hm_).2.1); clear HO_120001; clear BK113; clear BK114; clear BK119; clear HB; clear HL121_0; clear HL123_0; clear HL126_0; have HO_120001 := n0_; have BK113 := n1_; have BK114 := n2_; have BK119 := n3_; have HB := n4_; have HL134 := n5_; have HC128 := n6_; clear n0_ n1_ n2_ n3_ n4_ n5_ n6_; clear hg hw hp_ hz_ hm_ hok43; have hcz45_0 : w44.cell? ⟨gb119, 0, none⟩ = some (.int .i64 t120) := (bkc BK119.out 0).trans rfl; have hcz45_1 : w44.cell? ⟨gb119, 1, none⟩ = some (.slice (some ad121) x120001_2.length co42) := (bkc BK119.out 1).trans rfl; have hfz45_0 := bkf BK119.out 0; have hfz45_1 := bkf BK119.out 1; have p130 : 0 ≤ (x8_1 : Int) := of_decide_eq_true (by assumption); have q130 : x8_1 < (y129.length : Int) := (by have h_ : (x8_1 : Int) < ((x120001_2.length : Int) : Int) := of_decide_eq_true (by assumption); first | (have e_ := (Kd.S_reads' HO_120001.out).1; omega) | simpa only [Ny129.out, List.length_set] using h_); have ql130 : ((x8_1 : Int) < ((x120001_2.length : Int) : Int)) = True := eq_true (of_decide_eq_true (by assumption)); obtain ⟨ad130, A130_0, c130_0, e130, hx130_0, hl130_0, hi130_0⟩ := at_L1 (Kd.S_reads' HO_120001.out).2.2 x8_1 p130 q130; obtain rfl : ad121 = ad130 := (by injection e130); obtain ⟨ce130, hce130, hMe130, hcc130⟩ := Kd.S_get HO_120001.out [] x8_1 p130 (by first | exact q130 | exact of_decide_eq_true (by assumption) | (have e_ := (Kd.S_reads' HO_120001.out).1; omega)); obtain ⟨ve130_0, rfl, ge130_0⟩ := hMe130; have hv130_0 := hcc130 0 _ rfl; rw [Nat.add_zero, show ((Kd.slice 3 (Kd.int .i64))).sz = 1 from rfl, Nat.mul_one] at hv130_0; replace hv130_0 := Option.some.inj (hv130_0.symm.trans hx130_0); rw [hv130_0] at ge130_0; have HL130_0 := Az.mk (show Kd.R (Kd.int .i64) 3 _ _ _ _ (rL y129 x8_1) from ge130_0); clear hv130_0 ge130_0; have HX130_0 := Az.mk hx130_0; clear hcc130 hce130; have HR130_0 := Az.mk hi130_0; have HC130_0 := Az.mk hl130_0; clear hi130_0 hl130_0; replace p130 := eq_true p130; replace q130 := eq_true q130; have p38 : 0 ≤ (x9_2 : Int) := of_decide_eq_true (by assumption); have q38 : (x9_2 : Int) < (((rL y129 x8_1).length : Int) : Int) := of_decide_eq_true (by assumption); obtain ⟨go38, co38, eo38, gb38, gl38, cl38, HG38⟩ := Kd.R_form HL130_0.out (by omega); (first | cases eo38 | (injection eo38 with ea_ en_ ec_; (first | subst ea_ | (injection ea_ with ea_; subst ea_)); subst ec_; clear en_)); have GB38 := Az.mk gb38; have GG38 := Az.mk HG38; clear gb38 gl38 HG38; obtain ⟨hx38_0, hf38_0⟩ := Kd.R_celln 0 HL130_0.out (x9_2 : Int) p38 q38; replace p38 := eq_true p38; replace q38 := eq_true q38; have hq46 : (x8_1 : Int) < (y129.length : Int) := (by have h_ : (x8_1 : Int) < ((x120001_2.length : Int) : Int) := of_decide_eq_true (by assumption); first | exact h_ | (have e_ := (Kd.S_reads' HO_120001.out).1; omega) | simpa only [Ny129.out, List.length_set] using h_); obtain ⟨oki46, ce46, hcl46, hM46, hcc46, hok46, hbk46⟩ := Kd.S_borrow HO_120001.out [] (x8_1 : Int) (of_decide_eq_true (by assumption)) (by have e_ := (Kd.S_reads' HO_120001.out).1; have h2_ := hq46; omega); obtain ⟨ve46_0, rfl, ge46_0⟩ := hM46; have hv46 := hcc46 0 _ rfl; rw [Nat.add_zero, show ((Kd.slice 3 (Kd.int .i64))).sz = 1 from rfl, Nat.mul_one] at hv46; replace hv46 := Option.some.inj (hv46.symm.trans HX130_0.out); subst hv46; clear hcc46 hcl46; replace ge46_0 := (show Kd.R (Kd.int .i64) 3 _ _ _ _ (rL y129 x8_1) from ge46_0); have HP46 := Kd.R_putg ge46_0 (x9_2 : Int) (wrap64 (-(wrap64 ((wrap64 (Int.tdiv t125 2)) + 1))))) | ((with_reducible refine gate_store (t := 3) (p := 79) rfl ?_); (try (rw [drewN_self w44]; generalize hq_ : World.drewN w44 _ = w44; have n0_ := Az.mk (Kd.S_at hq_ HO_120001.out); have n1_ := Az.mk (Kd.R_at hq_ HL135.out); have n2_ := Az.mk (blk_at hq_ BK113.out); have n3_ := Az.mk (blk_at hq_ BK114.out); have n4_ := Az.mk (blk_at hq_ BK119.out); have n5_ := Az.mk (below_at hq_ HB.out); clear hq_ HO_120001 HL135 BK113 BK114 BK119 HB; have HO_120001 := n0_; have HL135 := n1_; have BK113 := n2_; have BK114 := n3_; have BK119 := n4_; have HB := n5_; clear n0_ n1_ n2_ n3_ n4_ n5_; (try (have hq46 : (x8_1 : Int) < (y129.length : Int) := (by have h_ : (x8_1 : Int) < ((x120001_2.length : Int) : Int) := of_decide_eq_true (by assumption); first | exact h_ | (have e_ := (Kd.S_reads' HO_120001.out).1; omega) | simpa only [Ny129.out, List.length_set] using h_))); (try (obtain ⟨oki46, ce46, hcl46, hM46, hcc46, hok46, hbk46⟩ := Kd.S_borrow HO_120001.out [] (x8_1 : Int) (of_decide_eq_true (by assumption)) (by have e_ := (Kd.S_reads' HO_120001.out).1; have h2_ := hq46; omega))); (try (obtain ⟨ve46_0, rfl, ge46_0⟩ := hM46)); (try (have hv46 := hcc46 0 _ rfl)); (try (rw [Nat.add_zero, show ((Kd.slice 3 (Kd.int .i64))).sz = 1 from rfl, Nat.mul_one] at hv46)); (try (replace hv46 := Option.some.inj (hv46.symm.trans HX130_0.out))); (try (subst hv46)); (try (clear hcc46 hcl46)); (try (replace ge46_0 := (show Kd.R (Kd.int .i64) 3 _ _ _ _ (rL y129 x8_1) from ge46_0))); (try (have HP46 := Kd.R_putg ge46_0 (x9_2 : Int) (wrap64 (-(wrap64 ((wrap64 (Int.tdiv t125 2)) + 1)))))))); refine store_event (t := 3) (p := 79) (v := ?vo_w47) (w1 := (w44.setCell ⟨go38, (x9_2 : Int).toNat, none⟩ (.int .i64 (wrap64 (-(wrap64 ((wrap64 (Int.tdiv t125 2)) + 1))))))) ?hg ?ho ?hn ?hr ?_; (case ho => rfl); (case hg => rfl); (case hn => rfl); (case hr => first | (go_simp; done) | (go_simp; rfl)); intro w47 hw; have hg : w44.grownBy w47 (some go38) := (by rw [hw]; exact HP46.2); have hz_ : Kd.R (Kd.int .i64) 3 w47 w.heap.size oki46 (.slice (some ⟨go38, 0, none⟩) (rL y129 x8_1).length c130_0) y131 := (by rw [hw, Ny131.out]; exact HP46.1); have hp_ : Kd.S (Kd.slice 3 (Kd.int .i64)) 26 w47 w.heap.size (fun _ => True) (.slice (some ad121) x120001_2.length co42) y133 := (by rw [Ny133.out]; exact hbk46 hg (fun k_ e_ => by injection e_ with e_; subst e_; exact ge46_0.1 _ rfl) (Kd.M_row hz_)); have hm_ := Kd.R_mono hz_ hok46; clear HP46 hbk46; have n0_ := Az.mk (hp_); have n1_ := Az.mk (bkg (g := gb113) (o := .cells #[.int .i64 a0_0, .slice A0_1 l0_1.length c0_1] 24 (0, 0)) (by (with_reducible repeat (first | refine bkN ?_ _ | refine bkd ?_ | refine bka ?_ _)); exact BK113.out) hg (Kd.R_ne HL130_0.out BK113.out (by decide))); have n2_ := Az.mk (bkg (g := gb114) (o := .cells #[.int .i64 0, .slice none 0 0] 24 (0, 0)) (by (with_reducible repeat (first | refine bkN ?_ _ | refine bkd ?_ | refine bka ?_ _)); exact BK114.out) hg (Kd.R_ne HL130_0.out BK114.out (by decide))); have n3_ := Az.mk (bkg (g := gb119) (o := .cells #[.int .i64 t120, .slice (some ad121) x120001_2.length co42] 24 (0, 0)) (by (with_reducible repeat (first | refine bkN ?_ _ | refine bkd ?_ | refine bka ?_ _)); exact BK119.out) hg (Kd.R_ne HL130_0.out BK119.out (by decide))); have n4_ := Az.mk ((by rw [hw]; exact bws (HB.out) GB38.out : Below w.heap.size w w47)); have n5_ := Az.mk (hm_); have n6_ := Az.mk ((Kd.R_reads' hm_).2.1); clear HO_120001; clear BK113; clear BK114; clear BK119; clear HB; clear HL134; clear HL130_0; have HO_120001 := n0_; have BK113 := n1_; have BK114 := n2_; have BK119 := n3_; have HB := n4_; have HL135 := n5_; have HC132 := n6_; clear n0_ n1_ n2_ n3_ n4_ n5_ n6_; clear hg hw hp_ hz_ hm_ hok46)); try go_wp2_with (first | (go_at_call 34; (with_reducible refine (nBr.calls (rd (rL x120001_2 x8_1) x9_2) (wrap64 (2 * t120)) t125 _ A34.out).mono ?_); rintro e w' ⟨rfl, ⟨nd, rfl⟩⟩; (try first | exact ⟨rfl, _, World.drewN_drewN _ _ _⟩ | exact ⟨rfl, _, Eq.trans (World.drewN_drewN _ _ _) (congrArg (World.drewN _) (Nat.add_assoc _ _ _))⟩); have p126 : 0 ≤ (x8_1 : Int) := of_decide_eq_true (by assumption); have q126 : x8_1 < (x120001_2.length : Int) := of_decide_eq_true (by assumption); obtain ⟨ad126, A126_0, c126_0, e126, hx126_0, hl126_0, hi126_0⟩ := at_L1 (Kd.S_reads' HO_120001.out).2.2 x8_1 p126 q126; obtain rfl : ad121 = ad126 := (by injection e126); obtain ⟨ce126, hce126, hMe126, hcc126⟩ := Kd.S_get HO_120001.out [] x8_1 p126 (by first | exact q126 | exact of_decide_eq_true (by assumption) | (have e_ := (Kd.S_reads' HO_120001.out).1; omega)); obtain ⟨ve126_0, rfl, ge126_0⟩ := hMe126; have hv126_0 := hcc126 0 _ rfl; rw [Nat.add_zero, show ((Kd.slice 3 (Kd.int .i64))).sz = 1 from rfl, Nat.mul_one] at hv126_0; replace hv126_0 := Option.some.inj (hv126_0.symm.trans hx126_0); rw [hv126_0] at ge126_0; have HL126_0 := Az.mk (show Kd.R (Kd.int .i64) 3 _ _ _ _ (rL x120001_2 x8_1) from ge126_0); clear hv126_0 ge126_0; have HX126_0 := Az.mk hx126_0; clear hcc126 hce126; have HR126_0 := Az.mk hi126_0; have HC126_0 := Az.mk hl126_0; clear hi126_0 hl126_0; replace p126 := eq_true p126; replace q126 := eq_true q126; have ea_ := Option.some.inj (hx121_0.symm.trans hx126_0); injection ea_ with ea_ en_ ec_; subst ea_; subst ec_; clear en_; have p35 : 0 ≤ (x9_2 : Int) := of_decide_eq_true (by assumption); have q35 : (x9_2 : Int) < (((rL x120001_2 x8_1).length : Int) : Int) := of_decide_eq_true (by assumption); obtain ⟨go35, co35, eo35, gb35, gl35, cl35, HG35⟩ := Kd.R_form HL126_0.out (by omega); (first | cases eo35 | (injection eo35 with ea_ en_ ec_; (first | subst ea_ | (injection ea_ with ea_; subst ea_)); subst ec_; clear en_)); have GB35 := Az.mk gb35; have GG35 := Az.mk HG35; clear gb35 gl35 HG35; (first | simp only [add_plain] at hx124_0 | skip); obtain ⟨hx35_0, hf35_0⟩ := Kd.R_celln 0 HL126_0.out (x9_2 : Int) p35 q35; replace p35 := eq_true p35; replace q35 := eq_true q35; have hq43 : (x8_1 : Int) < (x120001_2.length : Int) := (by have h_ : (x8_1 : Int) < ((x120001_2.length : Int) : Int) := of_decide_eq_true (by assumption); first | exact h_ | (have e_ := (Kd.S_reads' HO_120001.out).1; omega) | simpa only [List.length_set, List.length_set] using h_); obtain ⟨oki43, ce43, hcl43, hM43, hcc43, hok43, hbk43⟩ := Kd.S_borrow HO_120001.out [] (x8_1 : Int) (of_decide_eq_true (by assumption)) (by have e_ := (Kd.S_reads' HO_120001.out).1; have h2_ := hq43; omega); obtain ⟨ve43_0, rfl, ge43_0⟩ := hM43; have hv43 := hcc43 0 _ rfl; rw [Nat.add_zero, show ((Kd.slice 3 (Kd.int .i64))).sz = 1 from rfl, Nat.mul_one] at hv43; replace hv43 := Option.some.inj (hv43.symm.trans HX126_0.out); subst hv43; clear hcc43 hcl43; replace ge43_0 := (show Kd.R (Kd.int .i64) 3 _ _ _ _ (rL x120001_2 x8_1) from ge43_0); have HP43 := Kd.R_putg ge43_0 (x9_2 : Int) (wrap64 ((wrap64 (Int.tdiv t125 2)) + 1))) | ((with_reducible refine gate_store (t := 3) (p := 65) rfl ?_); (try (rw [drewN_self wr]; generalize hq_ : World.drewN wr _ = wr; have n0_ := Az.mk (Kd.S_at hq_ HO_120001.out); have n1_ := Az.mk (Kd.R_at hq_ HL134.out); have n2_ := Az.mk (blk_at hq_ BK113.out); have n3_ := Az.mk (blk_at hq_ BK114.out); have n4_ := Az.mk (blk_at hq_ BK119.out); have n5_ := Az.mk (below_at hq_ HB.out); clear hq_ HO_120001 HL134 BK113 BK114 BK119 HB; have HO_120001 := n0_; have HL134 := n1_; have BK113 := n2_; have BK114 := n3_; have BK119 := n4_; have HB := n5_; clear n0_ n1_ n2_ n3_ n4_ n5_; (try (have hq43 : (x8_1 : Int) < (x120001_2.length : Int) := (by have h_ : (x8_1 : Int) < ((x120001_2.length : Int) : Int) := of_decide_eq_true (by assumption); first | exact h_ | (have e_ := (Kd.S_reads' HO_120001.out).1; omega) | simpa only [List.length_set, List.length_set] using h_))); (try (obtain ⟨oki43, ce43, hcl43, hM43, hcc43, hok43, hbk43⟩ := Kd.S_borrow HO_120001.out [] (x8_1 : Int) (of_decide_eq_true (by assumption)) (by have e_ := (Kd.S_reads' HO_120001.out).1; have h2_ := hq43; omega))); (try (obtain ⟨ve43_0, rfl, ge43_0⟩ := hM43)); (try (have hv43 := hcc43 0 _ rfl)); (try (rw [Nat.add_zero, show ((Kd.slice 3 (Kd.int .i64))).sz = 1 from rfl, Nat.mul_one] at hv43)); (try (replace hv43 := Option.some.inj (hv43.symm.trans HX126_0.out))); (try (subst hv43)); (try (clear hcc43 hcl43)); (try (replace ge43_0 := (show Kd.R (Kd.int .i64) 3 _ _ _ _ (rL x120001_2 x8_1) from ge43_0))); (try (have HP43 := Kd.R_putg ge43_0 (x9_2 : Int) (wrap64 ((wrap64 (Int.tdiv t125 2)) + 1)))))); refine store_event (t := 3) (p := 65) (v := ?vo_w44) (w1 := (wr.setCell ⟨go35, (x9_2 : Int).toNat, none⟩ (.int .i64 (wrap64 ((wrap64 (Int.tdiv t125 2)) + 1))))) ?hg ?ho ?hn ?hr ?_; (case ho => rfl); (case hg => rfl); (case hn => rfl); (case hr => first | (go_simp; done) | (go_simp; rfl)); intro w44 hw; have hg : wr.grownBy w44 (some go35) := (by rw [hw]; exact HP43.2); have hz_ : Kd.R (Kd.int .i64) 3 w44 w.heap.size oki43 (.slice (some ⟨go35, 0, none⟩) (rL x120001_2 x8_1).length c121_0) y127 := (by rw [hw, Ny127.out]; exact HP43.1); have hp_ : Kd.S (Kd.slice 3 (Kd.int .i64)) 26 w44 w.heap.size (fun _ => True) (.slice (some ad121) x120001_2.length co42) y129 := (by rw [Ny129.out]; exact hbk43 hg (fun k_ e_ => by injection e_ with e_; subst e_; exact ge43_0.1 _ rfl) (Kd.M_row hz_)); have hm_ := Kd.R_mono hz_ hok43; clear HP43 hbk43; have n0_ := Az.mk (hp_); have n1_ := Az.mk (bkg (g := gb113) (o := .cells #[.int .i64 a0_0, .slice A0_1 l0_1.length c0_1] 24 (0, 0)) (by (with_reducible repeat (first | refine bkN ?_ _ | refine bkd ?_ | refine bka ?_ _)); exact BK113.out) hg (Kd.R_ne HL126_0.out BK113.out (by decide))); have n2_ := Az.mk (bkg (g := gb114) (o := .cells #[.int .i64 0, .slice none 0 0] 24 (0, 0)) (by (with_reducible repeat (first | refine bkN ?_ _ | refine bkd ?_ | refine bka ?_ _)); exact BK114.out) hg (Kd.R_ne HL126_0.out BK114.out (by decide))); have n3_ := Az.mk (bkg (g := gb119) (o := .cells #[.int .i64 t120, .slice (some ad121) x120001_2.length co42] 24 (0, 0)) (by (with_reducible repeat (first | refine bkN ?_ _ | refine bkd ?_ | refine bka ?_ _)); exact BK119.out) hg (Kd.R_ne HL126_0.out BK119.out (by decide))); have n4_ := Az.mk ((by rw [hw]; exact bws (HB.out) GB35.out : Below w.heap.size w w44)); have n5_ := Az.mk (hm_); have n6_ := Az.mk ((Kd.R_reads' hm_).2.1); clear HO_120001; clear BK113; clear BK114; clear BK119; clear HB; clear HL121_0; clear HL123_0; clear HL126_0; have HO_120001 := n0_; have BK113 := n1_; have BK114 := n2_; have BK119 := n3_; have HB := n4_; have HL134 := n5_; have HC128 := n6_; clear n0_ n1_ n2_ n3_ n4_ n5_ n6_; clear hg hw hp_ hz_ hm_ hok43; have hcz45_0 : w44.cell? ⟨gb119, 0, none⟩ = some (.int .i64 t120) := (bkc BK119.out 0).trans rfl; have hcz45_1 : w44.cell? ⟨gb119, 1, none⟩ = some (.slice (some ad121) x120001_2.length co42) := (bkc BK119.out 1).trans rfl; have hfz45_0 := bkf BK119.out 0; have hfz45_1 := bkf BK119.out 1; have p130 : 0 ≤ (x8_1 : Int) := of_decide_eq_true (by assumption); have q130 : x8_1 < (y129.length : Int) := (by have h_ : (x8_1 : Int) < ((x120001_2.length : Int) : Int) := of_decide_eq_true (by assumption); first | (have e_ := (Kd.S_reads' HO_120001.out).1; omega) | simpa only [Ny129.out, List.length_set] using h_); have ql130 : ((x8_1 : Int) < ((x120001_2.length : Int) : Int)) = True := eq_true (of_decide_eq_true (by assumption)); obtain ⟨ad130, A130_0, c130_0, e130, hx130_0, hl130_0, hi130_0⟩ := at_L1 (Kd.S_reads' HO_120001.out).2.2 x8_1 p130 q130; obtain rfl : ad121 = ad130 := (by injection e130); obtain ⟨ce130, hce130, hMe130, hcc130⟩ := Kd.S_get HO_120001.out [] x8_1 p130 (by first | exact q130 | exact of_decide_eq_true (by assumption) | (have e_ := (Kd.S_reads' HO_120001.out).1; omega)); obtain ⟨ve130_0, rfl, ge130_0⟩ := hMe130; have hv130_0 := hcc130 0 _ rfl; rw [Nat.add_zero, show ((Kd.slice 3 (Kd.int .i64))).sz = 1 from rfl, Nat.mul_one] at hv130_0; replace hv130_0 := Option.some.inj (hv130_0.symm.trans hx130_0); rw [hv130_0] at ge130_0; have HL130_0 := Az.mk (show Kd.R (Kd.int .i64) 3 _ _ _ _ (rL y129 x8_1) from ge130_0); clear hv130_0 ge130_0; have HX130_0 := Az.mk hx130_0; clear hcc130 hce130; have HR130_0 := Az.mk hi130_0; have HC130_0 := Az.mk hl130_0; clear hi130_0 hl130_0; replace p130 := eq_true p130; replace q130 := eq_true q130; have p38 : 0 ≤ (x9_2 : Int) := of_decide_eq_true (by assumption); have q38 : (x9_2 : Int) < (((rL y129 x8_1).length : Int) : Int) := of_decide_eq_true (by assumption); obtain ⟨go38, co38, eo38, gb38, gl38, cl38, HG38⟩ := Kd.R_form HL130_0.out (by omega); (first | cases eo38 | (injection eo38 with ea_ en_ ec_; (first | subst ea_ | (injection ea_ with ea_; subst ea_)); subst ec_; clear en_)); have GB38 := Az.mk gb38; have GG38 := Az.mk HG38; clear gb38 gl38 HG38; obtain ⟨hx38_0, hf38_0⟩ := Kd.R_celln 0 HL130_0.out (x9_2 : Int) p38 q38; replace p38 := eq_true p38; replace q38 := eq_true q38; have hq46 : (x8_1 : Int) < (y129.length : Int) := (by have h_ : (x8_1 : Int) < ((x120001_2.length : Int) : Int) := of_decide_eq_true (by assumption); first | exact h_ | (have e_ := (Kd.S_reads' HO_120001.out).1; omega) | simpa only [Ny129.out, List.length_set] using h_); obtain ⟨oki46, ce46, hcl46, hM46, hcc46, hok46, hbk46⟩ := Kd.S_borrow HO_120001.out [] (x8_1 : Int) (of_decide_eq_true (by assumption)) (by have e_ := (Kd.S_reads' HO_120001.out).1; have h2_ := hq46; omega); obtain ⟨ve46_0, rfl, ge46_0⟩ := hM46; have hv46 := hcc46 0 _ rfl; rw [Nat.add_zero, show ((Kd.slice 3 (Kd.int .i64))).sz = 1 from rfl, Nat.mul_one] at hv46; replace hv46 := Option.some.inj (hv46.symm.trans HX130_0.out); subst hv46; clear hcc46 hcl46; replace ge46_0 := (show Kd.R (Kd.int .i64) 3 _ _ _ _ (rL y129 x8_1) from ge46_0); have HP46 := Kd.R_putg ge46_0 (x9_2 : Int) (wrap64 (-(wrap64 ((wrap64 (Int.tdiv t125 2)) + 1))))) | ((with_reducible refine gate_store (t := 3) (p := 79) rfl ?_); (try (rw [drewN_self w44]; generalize hq_ : World.drewN w44 _ = w44; have n0_ := Az.mk (Kd.S_at hq_ HO_120001.out); have n1_ := Az.mk (Kd.R_at hq_ HL135.out); have n2_ := Az.mk (blk_at hq_ BK113.out); have n3_ := Az.mk (blk_at hq_ BK114.out); have n4_ := Az.mk (blk_at hq_ BK119.out); have n5_ := Az.mk (below_at hq_ HB.out); clear hq_ HO_120001 HL135 BK113 BK114 BK119 HB; have HO_120001 := n0_; have HL135 := n1_; have BK113 := n2_; have BK114 := n3_; have BK119 := n4_; have HB := n5_; clear n0_ n1_ n2_ n3_ n4_ n5_; (try (have hq46 : (x8_1 : Int) < (y129.length : Int) := (by have h_ : (x8_1 : Int) < ((x120001_2.length : Int) : Int) := of_decide_eq_true (by assumption); first | exact h_ | (have e_ := (Kd.S_reads' HO_120001.out).1; omega) | simpa only [Ny129.out, List.length_set] using h_))); (try (obtain ⟨oki46, ce46, hcl46, hM46, hcc46, hok46, hbk46⟩ := Kd.S_borrow HO_120001.out [] (x8_1 : Int) (of_decide_eq_true (by assumption)) (by have e_ := (Kd.S_reads' HO_120001.out).1; have h2_ := hq46; omega))); (try (obtain ⟨ve46_0, rfl, ge46_0⟩ := hM46)); (try (have hv46 := hcc46 0 _ rfl)); (try (rw [Nat.add_zero, show ((Kd.slice 3 (Kd.int .i64))).sz = 1 from rfl, Nat.mul_one] at hv46)); (try (replace hv46 := Option.some.inj (hv46.symm.trans HX130_0.out))); (try (subst hv46)); (try (clear hcc46 hcl46)); (try (replace ge46_0 := (show Kd.R (Kd.int .i64) 3 _ _ _ _ (rL y129 x8_1) from ge46_0))); (try (have HP46 := Kd.R_putg ge46_0 (x9_2 : Int) (wrap64 (-(wrap64 ((wrap64 (Int.tdiv t125 2)) + 1)))))))); refine store_event (t := 3) (p := 79) (v := ?vo_w47) (w1 := (w44.setCell ⟨go38, (x9_2 : Int).toNat, none⟩ (.int .i64 (wrap64 (-(wrap64 ((wrap64 (Int.tdiv t125 2)) + 1))))))) ?hg ?ho ?hn ?hr ?_; (case ho => rfl); (case hg => rfl); (case hn => rfl); (case hr => first | (go_simp; done) | (go_simp; rfl)); intro w47 hw; have hg : w44.grownBy w47 (some go38) := (by rw [hw]; exact HP46.2); have hz_ : Kd.R (Kd.int .i64) 3 w47 w.heap.size oki46 (.slice (some ⟨go38, 0, none⟩) (rL y129 x8_1).length c130_0) y131 := (by rw [hw, Ny131.out]; exact HP46.1); have hp_ : Kd.S (Kd.slice 3 (Kd.int .i64)) 26 w47 w.heap.size (fun _ => True) (.slice (some ad121) x120001_2.length co42) y133 := (by rw [Ny133.out]; exact hbk46 hg (fun k_ e_ => by injection e_ with e_; subst e_; exact ge46_0.1 _ rfl) (Kd.M_row hz_)); have hm_ := Kd.R_mono hz_ hok46; clear HP46 hbk46; have n0_ := Az.mk (hp_); have n1_ := Az.mk (bkg (g := gb113) (o := .cells #[.int .i64 a0_0, .slice A0_1 l0_1.length c0_1] 24 (0, 0)) (by (with_reducible repeat (first | refine bkN ?_ _ | refine bkd ?_ | refine bka ?_ _)); exact BK113.out) hg (Kd.R_ne HL130_0.out BK113.out (by decide))); have n2_ := Az.mk (bkg (g := gb114) (o := .cells #[.int .i64 0, .slice none 0 0] 24 (0, 0)) (by (with_reducible repeat (first | refine bkN ?_ _ | refine bkd ?_ | refine bka ?_ _)); exact BK114.out) hg (Kd.R_ne HL130_0.out BK114.out (by decide))); have n3_ := Az.mk (bkg (g := gb119) (o := .cells #[.int .i64 t120, .slice (some ad121) x120001_2.length co42] 24 (0, 0)) (by (with_reducible repeat (first | refine bkN ?_ _ | refine bkd ?_ | refine bka ?_ _)); exact BK119.out) hg (Kd.R_ne HL130_0.out BK119.out (by decide))); have n4_ := Az.mk ((by rw [hw]; exact bws (HB.out) GB38.out : Below w.heap.size w w47)); have n5_ := Az.mk (hm_); have n6_ := Az.mk ((Kd.R_reads' hm_).2.1); clear HO_120001; clear BK113; clear BK114; clear BK119; clear HB; clear HL134; clear HL130_0; have HO_120001 := n0_; have BK113 := n1_; have BK114 := n2_; have BK119 := n3_; have HB := n4_; have HL135 := n5_; have HC132 := n6_; clear n0_ n1_ n2_ n3_ n4_ n5_ n6_; clear hg hw hp_ hz_ hm_ hok46)))
             go_roundg k2
             case measure => have := HK1.out; have := HK2.out; omega
             case rel => exact ⟨(wrap64 (x9_2 + 1)), (y133), (.slice (some ad121) x120001_2.length co42), (by first | rfl | (simp; done) | (simp [*]; done)), H', ⟨by have := HK1.out; have := HK2.out; omega⟩, ⟨by (with_reducible repeat (first | apply Kd.S_alloc | apply Kd.S_drewN | apply Kd.S_drew)); exact HO_120001.out⟩, ⟨by (with_reducible repeat (first | refine bkN ?_ _ | refine bkd ?_ | refine bka ?_ _)); exact BK113.out⟩, ⟨by (with_reducible repeat (first | refine bkN ?_ _ | refine bkd ?_ | refine bka ?_ _)); exact BK114.out⟩, ⟨by (with_reducible repeat (first | refine bkN ?_ _ | refine bkd ?_ | refine bka ?_ _)); exact BK119.out⟩, ⟨by repeat (first | (with_reducible first | exact HB.out | apply bwa | apply pwN | apply bw1 | refine bws ?_ GE113.out | refine bws ?_ GE114.out | refine bws ?_ GE119.out) | exact HB.out)⟩⟩
            ·rw [if_neg c37] at H
             exact absurd H (by simp)
           ·rw [if_neg c36] at H
            have c36b0 : ((Int.tmod t125 2) == 1) = false := beq_eq_false_iff_ne.mpr c36
            have c36b1 : ((Int.tmod t125 2) != 1) = true := bne_iff_ne.mpr c36
            have H' := Az.mk H
            clear H
            have hnb48 := NB119_113.out
            have hnc48 := NB113_119.out
            have hnb49 := NB119_114.out
            have hnc49 := NB114_119.out
            have hcz50_0 : wr.cell? ⟨gb119, 0, none⟩ = some (.int .i64 t120) := (bkc BK119.out 0).trans rfl
            have hcz50_1 : wr.cell? ⟨gb119, 1, none⟩ = some (u120001) := (bkc BK119.out 1).trans rfl
            have hfz50_0 := bkf BK119.out 0
            have hfz50_1 := bkf BK119.out 1
            obtain ⟨Ao51, co51, eo51⟩ := Kd.S_slice HO_120001.out
            subst eo51
            have p121 : 0 ≤ (x8_1 : Int) := of_decide_eq_true (by assumption)
            have q121 : x8_1 < (x120001_2.length : Int) := of_decide_eq_true (by assumption)
            obtain ⟨ad121, A121_0, c121_0, e121, hx121_0, hl121_0, hi121_0⟩ := at_L1 (Kd.S_reads' HO_120001.out).2.2 x8_1 p121 q121
            cases e121
            obtain ⟨ce121, hce121, hMe121, hcc121⟩ := Kd.S_get HO_120001.out [] x8_1 p121 (by first | exact q121 | exact of_decide_eq_true (by assumption) | (have e_ := (Kd.S_reads' HO_120001.out).1; omega))
            obtain ⟨ve121_0, rfl, ge121_0⟩ := hMe121
            have hv121_0 := hcc121 0 _ rfl
            rw [Nat.add_zero, show ((Kd.slice 3 (Kd.int .i64))).sz = 1 from rfl, Nat.mul_one] at hv121_0
            replace hv121_0 := Option.some.inj (hv121_0.symm.trans hx121_0)
            rw [hv121_0] at ge121_0
            have HL121_0 := Az.mk (show Kd.R (Kd.int .i64) 3 _ _ _ _ (rL x120001_2 x8_1) from ge121_0)
            clear hv121_0 ge121_0
            have HX121_0 := Az.mk hx121_0
            clear hcc121 hce121
            have HR121_0 := Az.mk hi121_0
            have HC121_0 := Az.mk hl121_0
            clear hi121_0 hl121_0
            replace p121 := eq_true p121
            replace q121 := eq_true q121
            have p123 : 0 ≤ (x8_1 : Int) := of_decide_eq_true (by assumption)
            have q123 : x8_1 < (x120001_2.length : Int) := of_decide_eq_true (by assumption)
            obtain ⟨ad123, A123_0, c123_0, e123, hx123_0, hl123_0, hi123_0⟩ := at_L1 (Kd.S_reads' HO_120001.out).2.2 x8_1 p123 q123
            obtain rfl : ad121 = ad123 := (by injection e123)
            obtain ⟨ce123, hce123, hMe123, hcc123⟩ := Kd.S_get HO_120001.out [] x8_1 p123 (by first | exact q123 | exact of_decide_eq_true (by assumption) | (have e_ := (Kd.S_reads' HO_120001.out).1; omega))
            obtain ⟨ve123_0, rfl, ge123_0⟩ := hMe123
            have hv123_0 := hcc123 0 _ rfl
            rw [Nat.add_zero, show ((Kd.slice 3 (Kd.int .i64))).sz = 1 from rfl, Nat.mul_one] at hv123_0
            replace hv123_0 := Option.some.inj (hv123_0.symm.trans hx123_0)
            rw [hv123_0] at ge123_0
            have HL123_0 := Az.mk (show Kd.R (Kd.int .i64) 3 _ _ _ _ (rL x120001_2 x8_1) from ge123_0)
            clear hv123_0 ge123_0
            have HX123_0 := Az.mk hx123_0
            clear hcc123 hce123
            have HR123_0 := Az.mk hi123_0
            have HC123_0 := Az.mk hl123_0
            clear hi123_0 hl123_0
            replace p123 := eq_true p123
            replace q123 := eq_true q123
            have ea_ := Option.some.inj (hx121_0.symm.trans hx123_0)
            injection ea_ with ea_ en_ ec_
            subst ea_
            subst ec_
            clear en_
            have p124 : 0 ≤ (x9_2 : Int) := of_decide_eq_true (by assumption)
            have q124 : x9_2 < ((rL x120001_2 x8_1).length : Int) := of_decide_eq_true (by assumption)
            obtain ⟨ad124, e124, hx124_0⟩ := Kd.at_int (by repeat (first | (with_reducible exact HR123_0.out) | (with_reducible refine Kd.C_alloc ?_ _) | (with_reducible refine Kd.C_drewN ?_ _) | (with_reducible refine Kd.C_drew ?_) | exact HR123_0.out)) x9_2 p124 q124
            cases e124
            replace p124 := eq_true p124
            replace q124 := eq_true q124
            go_wp2_with fail
            go_quiet ((go_at_call 34; (refine (nBr.calls (rd (rL x120001_2 x8_1) x9_2) (wrap64 (2 * t120)) t125 _ A34.out).mono ?_); rintro e w' ⟨rfl, ⟨nd, rfl⟩⟩; exact ⟨rfl, _, World.drewN_drewN _ _ _⟩))
            generalize hq_ : World.drewN wr _ = wr
            replace HO_120001 := Az.mk (Kd.S_at hq_ HO_120001.out)
            replace BK113 := Az.mk (blk_at hq_ BK113.out)
            replace BK114 := Az.mk (blk_at hq_ BK114.out)
            replace BK119 := Az.mk (blk_at hq_ BK119.out)
            replace HB := Az.mk (below_at hq_ HB.out)
            replace hx121_0 := cell_at hq_ hx121_0
            replace hx123_0 := cell_at hq_ hx123_0
            replace hx124_0 := cell_at hq_ hx124_0
            try replace hcz45_0 := cell_at hq_ hcz45_0
            try replace hcz45_1 := cell_at hq_ hcz45_1
            try replace hcz50_0 := cell_at hq_ hcz50_0
            try replace hcz50_1 := cell_at hq_ hcz50_1
            clear hq_
            have p126 : 0 ≤ (x8_1 : Int) := of_decide_eq_true (by assumption)
            have q126 : x8_1 < (x120001_2.length : Int) := of_decide_eq_true (by assumption)
            obtain ⟨ad126, A126_0, c126_0, e126, hx126_0, hl126_0, hi126_0⟩ := at_L1 (Kd.S_reads' HO_120001.out).2.2 x8_1 p126 q126
            obtain rfl : ad121 = ad126 := (by injection e126)
            obtain ⟨ce126, hce126, hMe126, hcc126⟩ := Kd.S_get HO_120001.out [] x8_1 p126 (by first | exact q126 | exact of_decide_eq_true (by assumption) | (have e_ := (Kd.S_reads' HO_120001.out).1; omega))
            obtain ⟨ve126_0, rfl, ge126_0⟩ := hMe126
            have hv126_0 := hcc126 0 _ rfl
            rw [Nat.add_zero, show ((Kd.slice 3 (Kd.int .i64))).sz = 1 from rfl, Nat.mul_one] at hv126_0
            replace hv126_0 := Option.some.inj (hv126_0.symm.trans hx126_0)
            rw [hv126_0] at ge126_0
            have HL126_0 := Az.mk (show Kd.R (Kd.int .i64) 3 _ _ _ _ (rL x120001_2 x8_1) from ge126_0)
            clear hv126_0 ge126_0
            have HX126_0 := Az.mk hx126_0
            clear hcc126 hce126
            have HR126_0 := Az.mk hi126_0
            have HC126_0 := Az.mk hl126_0
            clear hi126_0 hl126_0
            replace p126 := eq_true p126
            replace q126 := eq_true q126
            have ea_ := Option.some.inj (hx121_0.symm.trans hx126_0)
            injection ea_ with ea_ en_ ec_
            subst ea_
            subst ec_
            clear en_
            have p35 : 0 ≤ (x9_2 : Int) := of_decide_eq_true (by assumption)
            have q35 : (x9_2 : Int) < (((rL x120001_2 x8_1).length : Int) : Int) := of_decide_eq_true (by assumption)
            obtain ⟨go35, co35, eo35, gb35, gl35, cl35, HG35⟩ := Kd.R_form HL126_0.out (by omega)
            (first | cases eo35 | (injection eo35 with ea_ en_ ec_; (first | subst ea_ | (injection ea_ with ea_; subst ea_)); subst ec_; clear en_))
            have GB35 := Az.mk gb35
            have GG35 := Az.mk HG35
            clear gb35 gl35 HG35
            (first | simp only [add_plain] at hx124_0 | skip)
            obtain ⟨hx35_0, hf35_0⟩ := Kd.R_celln 0 HL126_0.out (x9_2 : Int) p35 q35
            replace p35 := eq_true p35
            replace q35 := eq_true q35
            have hq52 : (x8_1 : Int) < (x120001_2.length : Int) := (by have h_ : (x8_1 : Int) < ((x120001_2.length : Int) : Int) := of_decide_eq_true (by assumption); first | exact h_ | (have e_ := (Kd.S_reads' HO_120001.out).1; omega) | simpa only [List.length_set, List.length_set] using h_)
            obtain ⟨oki52, ce52, hcl52, hM52, hcc52, hok52, hbk52⟩ := Kd.S_borrow HO_120001.out [] (x8_1 : Int) (of_decide_eq_true (by assumption)) (by have e_ := (Kd.S_reads' HO_120001.out).1; have h2_ := hq52; omega)
            obtain ⟨ve52_0, rfl, ge52_0⟩ := hM52
            have hv52 := hcc52 0 _ rfl
            rw [Nat.add_zero, show ((Kd.slice 3 (Kd.int .i64))).sz = 1 from rfl, Nat.mul_one] at hv52
            replace hv52 := Option.some.inj (hv52.symm.trans HX126_0.out)
            subst hv52
            clear hcc52 hcl52
            replace ge52_0 := (show Kd.R (Kd.int .i64) 3 _ _ _ _ (rL x120001_2 x8_1) from ge52_0)
            have HP52 := Kd.R_putg ge52_0 (x9_2 : Int) (wrap64 ((wrap64 (Int.tdiv t125 2)) + 1))
            go_wp2_with (first | ((with_reducible refine gate_store (t := 3) (p := 65) rfl ?_); (try (rw [drewN_self wr]; generalize hq_ : World.drewN wr _ = wr; have n0_ := Az.mk (Kd.S_at hq_ HO_120001.out); have n1_ := Az.mk (Kd.R_at hq_ HL136.out); have n2_ := Az.mk (blk_at hq_ BK113.out); have n3_ := Az.mk (blk_at hq_ BK114.out); have n4_ := Az.mk (blk_at hq_ BK119.out); have n5_ := Az.mk (below_at hq_ HB.out); clear hq_ HO_120001 HL136 BK113 BK114 BK119 HB; have HO_120001 := n0_; have HL136 := n1_; have BK113 := n2_; have BK114 := n3_; have BK119 := n4_; have HB := n5_; clear n0_ n1_ n2_ n3_ n4_ n5_; (try (have hq52 : (x8_1 : Int) < (x120001_2.length : Int) := (by have h_ : (x8_1 : Int) < ((x120001_2.length : Int) : Int) := of_decide_eq_true (by assumption); first | exact h_ | (have e_ := (Kd.S_reads' HO_120001.out).1; omega) | simpa only [List.length_set, List.length_set] using h_))); (try (obtain ⟨oki52, ce52, hcl52, hM52, hcc52, hok52, hbk52⟩ := Kd.S_borrow HO_120001.out [] (x8_1 : Int) (of_decide_eq_true (by assumption)) (by have e_ := (Kd.S_reads' HO_120001.out).1; have h2_ := hq52; omega))); (try (obtain ⟨ve52_0, rfl, ge52_0⟩ := hM52)); (try (have hv52 := hcc52 0 _ rfl)); (try (rw [Nat.add_zero, show ((Kd.slice 3 (Kd.int .i64))).sz = 1 from rfl, Nat.mul_one] at hv52)); (try (replace hv52 := Option.some.inj (hv52.symm.trans HX126_0.out))); (try (subst hv52)); (try (clear hcc52 hcl52)); (try (replace ge52_0 := (show Kd.R (Kd.int .i64) 3 _ _ _ _ (rL x120001_2 x8_1) from ge52_0))); (try (have HP52 := Kd.R_putg ge52_0 (x9_2 : Int) (wrap64 ((wrap64 (Int.tdiv t125 2)) + 1)))))); refine store_event (t := 3) (p := 65) (v := ?vo_w53) (w1 := (wr.setCell ⟨go35, (x9_2 : Int).toNat, none⟩ (.int .i64 (wrap64 ((wrap64 (Int.tdiv t125 2)) + 1))))) ?hg ?ho ?hn ?hr ?_; (case ho => rfl); (case hg => rfl); (case hn => rfl); (case hr => first | (go_simp; done) | (go_simp; rfl)); intro w53 hw; have hg : wr.grownBy w53 (some go35) := (by rw [hw]; exact HP52.2); have hz_ : Kd.R (Kd.int .i64) 3 w53 w.heap.size oki52 (.slice (some ⟨go35, 0, none⟩) (rL x120001_2 x8_1).length c121_0) y127 := (by rw [hw, Ny127.out]; exact HP52.1); have hp_ : Kd.S (Kd.slice 3 (Kd.int .i64)) 26 w53 w.heap.size (fun _ => True) (.slice (some ad121) x120001_2.length co51) y129 := (by rw [Ny129.out]; exact hbk52 hg (fun k_ e_ => by injection e_ with e_; subst e_; exact ge52_0.1 _ rfl) (Kd.M_row hz_)); have hm_ := Kd.R_mono hz_ hok52; clear HP52 hbk52; have n0_ := Az.mk (hp_); have n1_ := Az.mk (bkg (g := gb113) (o := .cells #[.int .i64 a0_0, .slice A0_1 l0_1.length c0_1] 24 (0, 0)) (by (with_reducible repeat (first | refine bkN ?_ _ | refine bkd ?_ | refine bka ?_ _)); exact BK113.out) hg (Kd.R_ne HL126_0.out BK113.out (by decide))); have n2_ := Az.mk (bkg (g := gb114) (o := .cells #[.int .i64 0, .slice none 0 0] 24 (0, 0)) (by (with_reducible repeat (first | refine bkN ?_ _ | refine bkd ?_ | refine bka ?_ _)); exact BK114.out) hg (Kd.R_ne HL126_0.out BK114.out (by decide))); have n3_ := Az.mk (bkg (g := gb119) (o := .cells #[.int .i64 t120, .slice (some ad121) x120001_2.length co51] 24 (0, 0)) (by (with_reducible repeat (first | refine bkN ?_ _ | refine bkd ?_ | refine bka ?_ _)); exact BK119.out) hg (Kd.R_ne HL126_0.out BK119.out (by decide))); have n4_ := Az.mk ((by rw [hw]; exact bws (HB.out) GB35.out : Below w.heap.size w w53)); have n5_ := Az.mk (hm_); have n6_ := Az.mk ((Kd.R_reads' hm_).2.1); clear HO_120001; clear BK113; clear BK114; clear BK119; clear HB; clear HL121_0; clear HL123_0; clear HL126_0; have HO_120001 := n0_; have BK113 := n1_; have BK114 := n2_; have BK119 := n3_; have HB := n4_; have HL136 := n5_; have HC128 := n6_; clear n0_ n1_ n2_ n3_ n4_ n5_ n6_; clear hg hw hp_ hz_ hm_ hok52))
            repeat (go_quiet (first | (go_at_call 34; (with_reducible refine (nBr.calls (rd (rL x120001_2 x8_1) x9_2) (wrap64 (2 * t120)) t125 _ A34.out).mono ?_); rintro e w' ⟨rfl, ⟨nd, rfl⟩⟩; (try first | exact ⟨rfl, _, World.drewN_drewN _ _ _⟩ | exact ⟨rfl, _, Eq.trans (World.drewN_drewN _ _ _) (congrArg (World.drewN _) (Nat.add_assoc _ _ _))⟩); have p126 : 0 ≤ (x8_1 : Int) := of_decide_eq_true (by assumption); have q126 : x8_1 < (x120001_2.length : Int) := of_decide_eq_true (by assumption); obtain ⟨ad126, A126_0, c126_0, e126, hx126_0, hl126_0, hi126_0⟩ := at_L1 (Kd.S_reads' HO_120001.out).2.2 x8_1 p126 q126; obtain rfl : ad121 = ad126 := (by injection e126); obtain ⟨ce126, hce126, hMe126, hcc126⟩ := Kd.S_get HO_120001.out [] x8_1 p126 (by first | exact q126 | exact of_decide_eq_true (by assumption) | (have e_ := (Kd.S_reads' HO_120001.out).1; omega)); obtain ⟨ve126_0, rfl, ge126_0⟩ := hMe126; have hv126_0 := hcc126 0 _ rfl; rw [Nat.add_zero, show ((Kd.slice 3 (Kd.int .i64))).sz = 1 from rfl, Nat.mul_one] at hv126_0; replace hv126_0 := Option.some.inj (hv126_0.symm.trans hx126_0); rw [hv126_0] at ge126_0; have HL126_0 := Az.mk (show Kd.R (Kd.int .i64) 3 _ _ _ _ (rL x120001_2 x8_1) from ge126_0); clear hv126_0 ge126_0; have HX126_0 := Az.mk hx126_0; clear hcc126 hce126; have HR126_0 := Az.mk hi126_0; have HC126_0 := Az.mk hl126_0; clear hi126_0 hl126_0; replace p126 := eq_true p126; replace q126 := eq_true q126; have ea_ := Option.some.inj (hx121_0.symm.trans hx126_0); injection ea_ with ea_ en_ ec_; subst ea_; subst ec_; clear en_; have p35 : 0 ≤ (x9_2 : Int) := of_decide_eq_true (by assumption); have q35 : (x9_2 : Int) < (((rL x120001_2 x8_1).length : Int) : Int) := of_decide_eq_true (by assumption); obtain ⟨go35, co35, eo35, gb35, gl35, cl35, HG35⟩ := Kd.R_form HL126_0.out (by omega); (first | cases eo35 | (injection eo35 with ea_ en_ ec_; (first | subst ea_ | (injection ea_ with ea_; subst ea_)); subst ec_; clear en_)); have GB35 := Az.mk gb35; have GG35 := Az.mk HG35; clear gb35 gl35 HG35; (first | simp only [add_plain] at hx124_0 | skip); obtain ⟨hx35_0, hf35_0⟩ := Kd.R_celln 0 HL126_0.out (x9_2 : Int) p35 q35; replace p35 := eq_true p35; replace q35 := eq_true q35; have hq52 : (x8_1 : Int) < (x120001_2.length : Int) := (by have h_ : (x8_1 : Int) < ((x120001_2.length : Int) : Int) := of_decide_eq_true (by assumption); first | exact h_ | (have e_ := (Kd.S_reads' HO_120001.out).1; omega) | simpa only [List.length_set, List.length_set] using h_); obtain ⟨oki52, ce52, hcl52, hM52, hcc52, hok52, hbk52⟩ := Kd.S_borrow HO_120001.out [] (x8_1 : Int) (of_decide_eq_true (by assumption)) (by have e_ := (Kd.S_reads' HO_120001.out).1; have h2_ := hq52; omega); obtain ⟨ve52_0, rfl, ge52_0⟩ := hM52; have hv52 := hcc52 0 _ rfl; rw [Nat.add_zero, show ((Kd.slice 3 (Kd.int .i64))).sz = 1 from rfl, Nat.mul_one] at hv52; replace hv52 := Option.some.inj (hv52.symm.trans HX126_0.out); subst hv52; clear hcc52 hcl52; replace ge52_0 := (show Kd.R (Kd.int .i64) 3 _ _ _ _ (rL x120001_2 x8_1) from ge52_0); have HP52 := Kd.R_putg ge52_0 (x9_2 : Int) (wrap64 ((wrap64 (Int.tdiv t125 2)) + 1))) | ((with_reducible refine gate_store (t := 3) (p := 65) rfl ?_); (try (rw [drewN_self wr]; generalize hq_ : World.drewN wr _ = wr; have n0_ := Az.mk (Kd.S_at hq_ HO_120001.out); have n1_ := Az.mk (Kd.R_at hq_ HL136.out); have n2_ := Az.mk (blk_at hq_ BK113.out); have n3_ := Az.mk (blk_at hq_ BK114.out); have n4_ := Az.mk (blk_at hq_ BK119.out); have n5_ := Az.mk (below_at hq_ HB.out); clear hq_ HO_120001 HL136 BK113 BK114 BK119 HB; have HO_120001 := n0_; have HL136 := n1_; have BK113 := n2_; have BK114 := n3_; have BK119 := n4_; have HB := n5_; clear n0_ n1_ n2_ n3_ n4_ n5_; (try (have hq52 : (x8_1 : Int) < (x120001_2.length : Int) := (by have h_ : (x8_1 : Int) < ((x120001_2.length : Int) : Int) := of_decide_eq_true (by assumption); first | exact h_ | (have e_ := (Kd.S_reads' HO_120001.out).1; omega) | simpa only [List.length_set, List.length_set] using h_))); (try (obtain ⟨oki52, ce52, hcl52, hM52, hcc52, hok52, hbk52⟩ := Kd.S_borrow HO_120001.out [] (x8_1 : Int) (of_decide_eq_true (by assumption)) (by have e_ := (Kd.S_reads' HO_120001.out).1; have h2_ := hq52; omega))); (try (obtain ⟨ve52_0, rfl, ge52_0⟩ := hM52)); (try (have hv52 := hcc52 0 _ rfl)); (try (rw [Nat.add_zero, show ((Kd.slice 3 (Kd.int .i64))).sz = 1 from rfl, Nat.mul_one] at hv52)); (try (replace hv52 := Option.some.inj (hv52.symm.trans HX126_0.out))); (try (subst hv52)); (try (clear hcc52 hcl52)); (try (replace ge52_0 := (show Kd.R (Kd.int .i64) 3 _ _ _ _ (rL x120001_2 x8_1) from ge52_0))); (try (have HP52 := Kd.R_putg ge52_0 (x9_2 : Int) (wrap64 ((wrap64 (Int.tdiv t125 2)) + 1)))))); refine store_event (t := 3) (p := 65) (v := ?vo_w53) (w1 := (wr.setCell ⟨go35, (x9_2 : Int).toNat, none⟩ (.int .i64 (wrap64 ((wrap64 (Int.tdiv t125 2)) + 1))))) ?hg ?ho ?hn ?hr ?_; (case ho => rfl); (case hg => rfl); (case hn => rfl); (case hr => first | (go_simp; done) | (go_simp; rfl)); intro w53 hw; have hg : wr.grownBy w53 (some go35) := (by rw [hw]; exact HP52.2); have hz_ : Kd.R (Kd.int .i64) 3 w53 w.heap.size oki52 (.slice (some ⟨go35, 0, none⟩) (rL x120001_2 x8_1).length c121_0) y127 := (by rw [hw, Ny127.out]; exact HP52.1); have hp_ : Kd.S (Kd.slice 3 (Kd.int .i64)) 26 w53 w.heap.size (fun _ => True) (.slice (some ad121) x120001_2.length co51) y129 := (by rw [Ny129.out]; exact hbk52 hg (fun k_ e_ => by injection e_ with e_; subst e_; exact ge52_0.1 _ rfl) (Kd.M_row hz_)); have hm_ := Kd.R_mono hz_ hok52; clear HP52 hbk52; have n0_ := Az.mk (hp_); have n1_ := Az.mk (bkg (g := gb113) (o := .cells #[.int .i64 a0_0, .slice A0_1 l0_1.length c0_1] 24 (0, 0)) (by (with_reducible repeat (first | refine bkN ?_ _ | refine bkd ?_ | refine bka ?_ _)); exact BK113.out) hg (Kd.R_ne HL126_0.out BK113.out (by decide))); have n2_ := Az.mk (bkg (g := gb114) (o := .cells #[.int .i64 0, .slice none 0 0] 24 (0, 0)) (by (with_reducible repeat (first | refine bkN ?_ _ | refine bkd ?_ | refine bka ?_ _)); exact BK114.out) hg (Kd.R_ne HL126_0.out BK114.out (by decide))); have n3_ := Az.mk (bkg (g := gb119) (o := .cells #[.int .i64 t120, .slice (some ad121) x120001_2.length co51] 24 (0, 0)) (by (with_reducible repeat (first | refine bkN ?_ _ | refine bkd ?_ | refine bka ?_ _)); exact BK119.out) hg (Kd.R_ne HL126_0.out BK119.out (by decide))); have n4_ := Az.mk ((by rw [hw]; exact bws (HB.out) GB35.out : Below w.heap.size w w53)); have n5_ := Az.mk (hm_); have n6_ := Az.mk ((Kd.R_reads' hm_).2.1); clear HO_120001; clear BK113; clear BK114; clear BK119; clear HB; clear HL121_0; clear HL123_0; clear HL126_0; have HO_120001 := n0_; have BK113 := n1_; have BK114 := n2_; have BK119 := n3_; have HB := n4_; have HL136 := n5_; have HC128 := n6_; clear n0_ n1_ n2_ n3_ n4_ n5_ n6_; clear hg hw hp_ hz_ hm_ hok52)); try go_wp2_with (first | (go_at_call 34; (with_reducible refine (nBr.calls (rd (rL x120001_2 x8_1) x9_2) (wrap64 (2 * t120)) t125 _ A34.out).mono ?_); rintro e w' ⟨rfl, ⟨nd, rfl⟩⟩; (try first | exact ⟨rfl, _, World.drewN_drewN _ _ _⟩ | exact ⟨rfl, _, Eq.trans (World.drewN_drewN _ _ _) (congrArg (World.drewN _) (Nat.add_assoc _ _ _))⟩); have p126 : 0 ≤ (x8_1 : Int) := of_decide_eq_true (by assumption); have q126 : x8_1 < (x120001_2.length : Int) := of_decide_eq_true (by assumption); obtain ⟨ad126, A126_0, c126_0, e126, hx126_0, hl126_0, hi126_0⟩ := at_L1 (Kd.S_reads' HO_120001.out).2.2 x8_1 p126 q126; obtain rfl : ad121 = ad126 := (by injection e126); obtain ⟨ce126, hce126, hMe126, hcc126⟩ := Kd.S_get HO_120001.out [] x8_1 p126 (by first | exact q126 | exact of_decide_eq_true (by assumption) | (have e_ := (Kd.S_reads' HO_120001.out).1; omega)); obtain ⟨ve126_0, rfl, ge126_0⟩ := hMe126; have hv126_0 := hcc126 0 _ rfl; rw [Nat.add_zero, show ((Kd.slice 3 (Kd.int .i64))).sz = 1 from rfl, Nat.mul_one] at hv126_0; replace hv126_0 := Option.some.inj (hv126_0.symm.trans hx126_0); rw [hv126_0] at ge126_0; have HL126_0 := Az.mk (show Kd.R (Kd.int .i64) 3 _ _ _ _ (rL x120001_2 x8_1) from ge126_0); clear hv126_0 ge126_0; have HX126_0 := Az.mk hx126_0; clear hcc126 hce126; have HR126_0 := Az.mk hi126_0; have HC126_0 := Az.mk hl126_0; clear hi126_0 hl126_0; replace p126 := eq_true p126; replace q126 := eq_true q126; have ea_ := Option.some.inj (hx121_0.symm.trans hx126_0); injection ea_ with ea_ en_ ec_; subst ea_; subst ec_; clear en_; have p35 : 0 ≤ (x9_2 : Int) := of_decide_eq_true (by assumption); have q35 : (x9_2 : Int) < (((rL x120001_2 x8_1).length : Int) : Int) := of_decide_eq_true (by assumption); obtain ⟨go35, co35, eo35, gb35, gl35, cl35, HG35⟩ := Kd.R_form HL126_0.out (by omega); (first | cases eo35 | (injection eo35 with ea_ en_ ec_; (first | subst ea_ | (injection ea_ with ea_; subst ea_)); subst ec_; clear en_)); have GB35 := Az.mk gb35; have GG35 := Az.mk HG35; clear gb35 gl35 HG35; (first | simp only [add_plain] at hx124_0 | skip); obtain ⟨hx35_0, hf35_0⟩ := Kd.R_celln 0 HL126_0.out (x9_2 : Int) p35 q35; replace p35 := eq_true p35; replace q35 := eq_true q35; have hq52 : (x8_1 : Int) < (x120001_2.length : Int) := (by have h_ : (x8_1 : Int) < ((x120001_2.length : Int) : Int) := of_decide_eq_true (by assumption); first | exact h_ | (have e_ := (Kd.S_reads' HO_120001.out).1; omega) | simpa only [List.length_set, List.length_set] using h_); obtain ⟨oki52, ce52, hcl52, hM52, hcc52, hok52, hbk52⟩ := Kd.S_borrow HO_120001.out [] (x8_1 : Int) (of_decide_eq_true (by assumption)) (by have e_ := (Kd.S_reads' HO_120001.out).1; have h2_ := hq52; omega); obtain ⟨ve52_0, rfl, ge52_0⟩ := hM52; have hv52 := hcc52 0 _ rfl; rw [Nat.add_zero, show ((Kd.slice 3 (Kd.int .i64))).sz = 1 from rfl, Nat.mul_one] at hv52; replace hv52 := Option.some.inj (hv52.symm.trans HX126_0.out); subst hv52; clear hcc52 hcl52; replace ge52_0 := (show Kd.R (Kd.int .i64) 3 _ _ _ _ (rL x120001_2 x8_1) from ge52_0); have HP52 := Kd.R_putg ge52_0 (x9_2 : Int) (wrap64 ((wrap64 (Int.tdiv t125 2)) + 1))) | ((with_reducible refine gate_store (t := 3) (p := 65) rfl ?_); (try (rw [drewN_self wr]; generalize hq_ : World.drewN wr _ = wr; have n0_ := Az.mk (Kd.S_at hq_ HO_120001.out); have n1_ := Az.mk (Kd.R_at hq_ HL136.out); have n2_ := Az.mk (blk_at hq_ BK113.out); have n3_ := Az.mk (blk_at hq_ BK114.out); have n4_ := Az.mk (blk_at hq_ BK119.out); have n5_ := Az.mk (below_at hq_ HB.out); clear hq_ HO_120001 HL136 BK113 BK114 BK119 HB; have HO_120001 := n0_; have HL136 := n1_; have BK113 := n2_; have BK114 := n3_; have BK119 := n4_; have HB := n5_; clear n0_ n1_ n2_ n3_ n4_ n5_; (try (have hq52 : (x8_1 : Int) < (x120001_2.length : Int) := (by have h_ : (x8_1 : Int) < ((x120001_2.length : Int) : Int) := of_decide_eq_true (by assumption); first | exact h_ | (have e_ := (Kd.S_reads' HO_120001.out).1; omega) | simpa only [List.length_set, List.length_set] using h_))); (try (obtain ⟨oki52, ce52, hcl52, hM52, hcc52, hok52, hbk52⟩ := Kd.S_borrow HO_120001.out [] (x8_1 : Int) (of_decide_eq_true (by assumption)) (by have e_ := (Kd.S_reads' HO_120001.out).1; have h2_ := hq52; omega))); (try (obtain ⟨ve52_0, rfl, ge52_0⟩ := hM52)); (try (have hv52 := hcc52 0 _ rfl)); (try (rw [Nat.add_zero, show ((Kd.slice 3 (Kd.int .i64))).sz = 1 from rfl, Nat.mul_one] at hv52)); (try (replace hv52 := Option.some.inj (hv52.symm.trans HX126_0.out))); (try (subst hv52)); (try (clear hcc52 hcl52)); (try (replace ge52_0 := (show Kd.R (Kd.int .i64) 3 _ _ _ _ (rL x120001_2 x8_1) from ge52_0))); (try (have HP52 := Kd.R_putg ge52_0 (x9_2 : Int) (wrap64 ((wrap64 (Int.tdiv t125 2)) + 1)))))); refine store_event (t := 3) (p := 65) (v := ?vo_w53) (w1 := (wr.setCell ⟨go35, (x9_2 : Int).toNat, none⟩ (.int .i64 (wrap64 ((wrap64 (Int.tdiv t125 2)) + 1))))) ?hg ?ho ?hn ?hr ?_; (case ho => rfl); (case hg => rfl); (case hn => rfl); (case hr => first | (go_simp; done) | (go_simp; rfl)); intro w53 hw; have hg : wr.grownBy w53 (some go35) := (by rw [hw]; exact HP52.2); have hz_ : Kd.R (Kd.int .i64) 3 w53 w.heap.size oki52 (.slice (some ⟨go35, 0, none⟩) (rL x120001_2 x8_1).length c121_0) y127 := (by rw [hw, Ny127.out]; exact HP52.1); have hp_ : Kd.S (Kd.slice 3 (Kd.int .i64)) 26 w53 w.heap.size (fun _ => True) (.slice (some ad121) x120001_2.length co51) y129 := (by rw [Ny129.out]; exact hbk52 hg (fun k_ e_ => by injection e_ with e_; subst e_; exact ge52_0.1 _ rfl) (Kd.M_row hz_)); have hm_ := Kd.R_mono hz_ hok52; clear HP52 hbk52; have n0_ := Az.mk (hp_); have n1_ := Az.mk (bkg (g := gb113) (o := .cells #[.int .i64 a0_0, .slice A0_1 l0_1.length c0_1] 24 (0, 0)) (by (with_reducible repeat (first | refine bkN ?_ _ | refine bkd ?_ | refine bka ?_ _)); exact BK113.out) hg (Kd.R_ne HL126_0.out BK113.out (by decide))); have n2_ := Az.mk (bkg (g := gb114) (o := .cells #[.int .i64 0, .slice none 0 0] 24 (0, 0)) (by (with_reducible repeat (first | refine bkN ?_ _ | refine bkd ?_ | refine bka ?_ _)); exact BK114.out) hg (Kd.R_ne HL126_0.out BK114.out (by decide))); have n3_ := Az.mk (bkg (g := gb119) (o := .cells #[.int .i64 t120, .slice (some ad121) x120001_2.length co51] 24 (0, 0)) (by (with_reducible repeat (first | refine bkN ?_ _ | refine bkd ?_ | refine bka ?_ _)); exact BK119.out) hg (Kd.R_ne HL126_0.out BK119.out (by decide))); have n4_ := Az.mk ((by rw [hw]; exact bws (HB.out) GB35.out : Below w.heap.size w w53)); have n5_ := Az.mk (hm_); have n6_ := Az.mk ((Kd.R_reads' hm_).2.1); clear HO_120001; clear BK113; clear BK114; clear BK119; clear HB; clear HL121_0; clear HL123_0; clear HL126_0; have HO_120001 := n0_; have BK113 := n1_; have BK114 := n2_; have BK119 := n3_; have HB := n4_; have HL136 := n5_; have HC128 := n6_; clear n0_ n1_ n2_ n3_ n4_ n5_ n6_; clear hg hw hp_ hz_ hm_ hok52)))
            go_roundg k2
            case measure => have := HK1.out; have := HK2.out; omega
            case rel => exact ⟨(wrap64 (x9_2 + 1)), (y129), (.slice (some ad121) x120001_2.length co51), (by first | rfl | (simp; done) | (simp [*]; done)), H', ⟨by have := HK1.out; have := HK2.out; omega⟩, ⟨by (with_reducible repeat (first | apply Kd.S_alloc | apply Kd.S_drewN | apply Kd.S_drew)); exact HO_120001.out⟩, ⟨by (with_reducible repeat (first | refine bkN ?_ _ | refine bkd ?_ | refine bka ?_ _)); exact BK113.out⟩, ⟨by (with_reducible repeat (first | refine bkN ?_ _ | refine bkd ?_ | refine bka ?_ _)); exact BK114.out⟩, ⟨by (with_reducible repeat (first | refine bkN ?_ _ | refine bkd ?_ | refine bka ?_ _)); exact BK119.out⟩, ⟨by repeat (first | (with_reducible first | exact HB.out | apply bwa | apply pwN | apply bw1 | refine bws ?_ GE113.out | refine bws ?_ GE114.out | refine bws ?_ GE119.out) | exact HB.out)⟩⟩
          ·rw [if_neg c33] at H
           exact absurd H (by simp)
        ·rw [if_neg c24] at H
         have c24b0 : decide (x9_2 < ((rL x120001_2 x8_1).length : Int)) = false := decide_eq_false c24
         clear c24
         have H' := Az.mk H
         clear H
         have hnb54 := NB119_113.out
         have hnc54 := NB113_119.out
         have hnb55 := NB119_114.out
         have hnc55 := NB114_119.out
         have hcz56_0 : wr.cell? ⟨gb119, 0, none⟩ = some (.int .i64 t120) := (bkc BK119.out 0).trans rfl
         have hcz56_1 : wr.cell? ⟨gb119, 1, none⟩ = some (u120001) := (bkc BK119.out 1).trans rfl
         have hfz56_0 := bkf BK119.out 0
         have hfz56_1 := bkf BK119.out 1
         obtain ⟨Ao57, co57, eo57⟩ := Kd.S_slice HO_120001.out
         subst eo57
         have p121 : 0 ≤ (x8_1 : Int) := of_decide_eq_true (by assumption)
         have q121 : x8_1 < (x120001_2.length : Int) := of_decide_eq_true (by assumption)
         obtain ⟨ad121, A121_0, c121_0, e121, hx121_0, hl121_0, hi121_0⟩ := at_L1 (Kd.S_reads' HO_120001.out).2.2 x8_1 p121 q121
         cases e121
         obtain ⟨ce121, hce121, hMe121, hcc121⟩ := Kd.S_get HO_120001.out [] x8_1 p121 (by first | exact q121 | exact of_decide_eq_true (by assumption) | (have e_ := (Kd.S_reads' HO_120001.out).1; omega))
         obtain ⟨ve121_0, rfl, ge121_0⟩ := hMe121
         have hv121_0 := hcc121 0 _ rfl
         rw [Nat.add_zero, show ((Kd.slice 3 (Kd.int .i64))).sz = 1 from rfl, Nat.mul_one] at hv121_0
         replace hv121_0 := Option.some.inj (hv121_0.symm.trans hx121_0)
         rw [hv121_0] at ge121_0
         have HL121_0 := Az.mk (show Kd.R (Kd.int .i64) 3 _ _ _ _ (rL x120001_2 x8_1) from ge121_0)
         clear hv121_0 ge121_0
         have HX121_0 := Az.mk hx121_0
         clear hcc121 hce121
         have HR121_0 := Az.mk hi121_0
         have HC121_0 := Az.mk hl121_0
         clear hi121_0 hl121_0
         replace p121 := eq_true p121
         replace q121 := eq_true q121
         go_wp2
         repeat (go_quiet (fail); try go_wp2)
         go_roundg k2
         case measure => have := HK1.out; have := HK2.out; omega
         case rel => exact ⟨(wrap64 (x8_1 + 1)), (x120001_2), (.slice (some ad121) x120001_2.length co57), (by first | rfl | (simp; done) | (simp [*]; done)), H', ⟨by have := HK1.out; have := HK2.out; omega⟩, ⟨by (with_reducible repeat (first | apply Kd.S_alloc | apply Kd.S_drewN | apply Kd.S_drew)); exact HO_120001.out⟩, ⟨by (with_reducible repeat (first | refine bkN ?_ _ | refine bkd ?_ | refine bka ?_ _)); exact BK113.out⟩, ⟨by (with_reducible repeat (first | refine bkN ?_ _ | refine bkd ?_ | refine bka ?_ _)); exact BK114.out⟩, ⟨by (with_reducible repeat (first | refine bkN ?_ _ | refine bkd ?_ | refine bka ?_ _)); exact BK119.out⟩, ⟨by repeat (first | (with_reducible first | exact HB.out | apply bwa | apply pwN | apply bw1 | refine bws ?_ GE113.out | refine bws ?_ GE114.out | refine bws ?_ GE119.out) | exact HB.out)⟩⟩
       ·rw [if_neg c23] at H
        exact absurd H (by simp)
      ·rw [if_neg c22] at H
       exact absurd H (by simp)
   ·rw [if_neg c17] at H
    have c17b0 : decide (x8_1 < (x120001_1.length : Int)) = false := decide_eq_false c17
    clear c17
    simp only [Option.some.injEq, Prod.mk.injEq] at H
    obtain ⟨rfl, rfl⟩ := H
    have hnb58 := NB119_113.out
    have hnc58 := NB113_119.out
    have hnb59 := NB119_114.out
    have hnc59 := NB114_119.out
    have hcz60_0 : wr.cell? ⟨gb119, 0, none⟩ = some (.int .i64 t120) := (bkc BK119.out 0).trans rfl
    have hcz60_1 : wr.cell? ⟨gb119, 1, none⟩ = some (u120001) := (bkc BK119.out 1).trans rfl
    have hfz60_0 := bkf BK119.out 0
    have hfz60_1 := bkf BK119.out 1
    obtain ⟨Ao61, co61, eo61⟩ := Kd.S_slice HO_120001.out
    subst eo61
    have hnb62 := NB114_113.out
    have hnc62 := NB113_114.out
    have hcz63_0 : wr.cell? ⟨gb114, 0, none⟩ = some (.int .i64 0) := (bkc BK114.out 0).trans rfl
    have hcz63_1 : wr.cell? ⟨gb114, 1, none⟩ = some (.slice none 0 0) := (bkc BK114.out 1).trans rfl
    have hfz63_0 := bkf BK114.out 0
    have hfz63_1 := bkf BK114.out 1
    go_wp2
    repeat (go_quiet (fail); try go_wp2)
    refine bodyPost_ret (results_cell_row rfl _ _ gb114 24 #[.int .i64 t120, .slice Ao61 x120001_1.length co61] (0, 0) _ rfl (by (with_reducible repeat (first | refine bkN ?_ _ | refine bkd ?_ | refine bka ?_ _)); refine blk_put (cs := #[.int .i64 t120, .slice none 0 0]) ?_ 1 _ rfl; (with_reducible repeat (first | refine bkN ?_ _ | refine bkd ?_ | refine bka ?_ _)); refine blk_put (cs := #[.int .i64 0, .slice none 0 0]) ?_ 0 _ rfl; (with_reducible repeat (first | refine bkN ?_ _ | refine bkd ?_ | refine bka ?_ _)); exact BK114.out) Tryz.underlying24 rfl (by kernel_rfl)) rfl ?_
    exact ⟨_, by first | rfl | (simp [errW_none, errW_some] <;> rfl) | (simp [*, errW_none, errW_some] <;> rfl), by (with_reducible repeat (first | apply Kd.S_alloc | apply Kd.S_drewN | apply Kd.S_drew)); exact Kd.S_mono (Kd.S_far (p := ⟨gb114, 1, none⟩) (Kd.S_far (p := ⟨gb114, 0, none⟩) (Kd.S_types HO_120001.out BK114.out (by decide)) (fun _ hk => hk.2) (.int .i64 t120)) (fun _ hk => hk.2) (.slice Ao61 x120001_1.length co61)) (fun _ hk => trivial), by repeat (first | (with_reducible first | exact HB.out | apply bwa | apply pwN | apply bw1 | refine bws ?_ GE113.out | refine bws ?_ GE114.out | refine bws ?_ GE119.out) | exact HB.out)⟩
end Go.Proofs.YtkcfdddhnboieaaGreatDoor.PFit
end
section
set_option maxRecDepth 100000
namespace Go.Proofs.YtkcfdddhnboieaaGreatDoor.PPropagate
open Go.RowKit QW.PrintWords QW.PrintLast QW.PrintMore
attribute [local go_sem] max2_int min2_int max_two min_two max_three min_three max_four min_four   
def errW : Option Int → Value
 | none => .nilIface
 | some c => .iface 0 (.int .i64 c)
theorem errW_none : errW none = .nilIface := rfl
theorem errW_some (c : Int) : errW (some c) = .iface 0 (.int .i64 c) := rfl
def rL (xs : List (List Int)) (i : Int) : (List Int) := xs.getD i.toNat ([] : List Int)
theorem at_L1 {w : World} {A : Option Addr} {n : Nat} {xs : List (List Int)} (h : Kd.C (Kd.slice 3 (Kd.int .i64)) w A n xs) (i : Int) (h0 : 0 ≤ i) (h1 : i < n) : ∃ ad A0 c0, A = some ad ∧ w.cell? (ad.add i.toNat) = some (.slice A0 (rL xs i).length c0) ∧ (rL xs i).length ≤ c0 ∧ (Kd.int .i64).C w A0 (rL xs i).length (rL xs i) := by
 obtain ⟨ad, c, e, _, hK, hc0⟩ := Kd.C_get h ([] : List Int) i h0 h1
 have hc : ∀ j u, c[j]? = some u → w.cell? (ad.add (i.toNat * 1 + j)) = some u := hc0
 obtain ⟨A0, c0, rfl, l0, g0⟩ := hK
 exact ⟨ad, A0, c0, e, by have hq := hc 0 _ rfl; rwa [Nat.mul_one, Nat.add_zero] at hq, l0, g0⟩
end Go.Proofs.YtkcfdddhnboieaaGreatDoor.PPropagate
end
section
set_option maxRecDepth 100000
namespace Go.Proofs.YtkcfdddhnboieaaGreatDoor.PLCmp
open Go.RowKit QW.PrintWords QW.PrintLast QW.PrintMore
attribute [local go_sem] max2_int min2_int max_two min_two max_three min_three max_four min_four   
def errW : Option Int → Value
 | none => .nilIface
 | some c => .iface 0 (.int .i64 c)
theorem errW_none : errW none = .nilIface := rfl
theorem errW_some (c : Int) : errW (some c) = .iface 0 (.int .i64 c) := rfl
theorem info3 : (Tryz.prog.info? 3).map (fun i => (i.zero, i.size, i.bytes)) = some (some (.int .i64 0), 1, 8) := by kernel_rfl
end Go.Proofs.YtkcfdddhnboieaaGreatDoor.PLCmp
end
section
set_option maxHeartbeats 8000000
set_option maxRecDepth 100000
namespace Go.Proofs.YtkcfdddhnboieaaGreatDoor.PLCmp
open Go.RowKit QW.PrintWords QW.PrintLast QW.PrintMore
attribute [local go_sem] max2_int min2_int max_two min_two max_three min_three max_four min_four   
def cmp_Or_int.l0 : Nat → Int → List Int → Int → Int → Option (Int)
 | 0, _, _, _, _ => none
 | k + 1, x3, x6, x7, x8 => if x8 < x7 then (if 0 ≤ x8 then (if x8 < (x6.length : Int) then (if (rd x6 x8) = x3 then (cmp_Or_int.l0 k x3 x6 x7 (wrap64 (x8 + 1))) else (some (rd x6 x8))) else (none)) else (none)) else (some x3)
def cmp_Or_int.f (k : Nat) (l0 : List Int) : Option (Int) := cmp_Or_int.l0 k 0 l0 (l0.length : Int) 0
theorem cmp_Or_int.calls (k : Nat) (A0 : Option Addr) (c0 : Nat) (l0 : List Int) (r : Int) (w : World) (hr0 : Kd.C (Kd.int .i64) w A0 l0.length l0) (hc0 : l0.length ≤ c0) (h : cmp_Or_int.f k l0 = some r) :
  Calls Tryz.prog 139 #[.slice A0 l0.length c0] w fun e w' => e = .returned (.int .i64 r) ∧ Drawn0 w w' := by
 have HR0 := Az.mk hr0
 have HC0 := Az.mk hc0
 clear hr0 hc0
 have H : (cmp_Or_int.l0 k 0 l0 (l0.length : Int) 0) = some r := h
 clear h
 have H' := Az.mk H
 clear H
 go_enter Tryz.func139, Tryz.ntmps139
 go_wp2
 go_loopg [8] k (fun kq v8 w' => ∃ (x8_1 : Int), v8 = .int .i64 x8_1 ∧ Az (cmp_Or_int.l0 kq 0 l0 (l0.length : Int) x8_1 = some r) ∧ Az (kq ≤ k) ∧ Drawn0 w w')
 case atStart => exact ⟨(0), (by first | rfl | (simp; done) | (simp [*]; done)), H', ⟨Nat.le_refl _⟩, by repeat (first | exact Drawn0.refl _ | apply Drawn0.step)⟩
 case round =>
  clear H'
  try clear c1
  obtain ⟨x8_1, rfl, HA, HK1, ⟨m1, rfl⟩⟩ := hrel
  cases gk with
  | zero => exact absurd HA.out (by simp [cmp_Or_int.l0])
  | succ k1 =>
   have H := HA.out
   clear HA
   simp only [cmp_Or_int.l0] at H
   by_cases c2 : x8_1 < (l0.length : Int)
   ·rw [if_pos c2] at H
    have c2b0 : decide (x8_1 < (l0.length : Int)) = true := decide_eq_true c2
    clear c2
    by_cases c3 : 0 ≤ x8_1
    ·rw [if_pos c3] at H
     have c3b0 : decide (0 ≤ x8_1) = true := decide_eq_true c3
     clear c3
     by_cases c4 : x8_1 < (l0.length : Int)
     ·rw [if_pos c4] at H
      have c4b0 : decide (x8_1 < (l0.length : Int)) = true := decide_eq_true c4
      clear c4
      by_cases c5 : (rd l0 x8_1) = 0
      ·rw [if_pos c5] at H
       have c5b0 : ((rd l0 x8_1) == 0) = true := beq_iff_eq.mpr c5
       have c5b1 : ((rd l0 x8_1) != 0) = false := bne_eq_false_iff_eq.mpr c5
       clear c5
       have H' := Az.mk H
       clear H
       have p101 : 0 ≤ (x8_1 : Int) := of_decide_eq_true (by assumption)
       have q101 : x8_1 < (l0.length : Int) := of_decide_eq_true (by assumption)
       obtain ⟨ad101, e101, hx101_0⟩ := Kd.at_int HR0.out x8_1 p101 q101
       cases e101
       replace p101 := eq_true p101
       replace q101 := eq_true q101
       go_wp2
       go_roundg k1
       case measure => have := HK1.out; omega
       case rel => exact ⟨(wrap64 (x8_1 + 1)), (by first | rfl | (simp; done) | (simp [*]; done)), H', ⟨by have := HK1.out; omega⟩, by repeat (first | exact Drawn0.refl _ | apply Drawn0.step)⟩
      ·rw [if_neg c5] at H
       have c5b0 : ((rd l0 x8_1) == 0) = false := beq_eq_false_iff_ne.mpr c5
       have c5b1 : ((rd l0 x8_1) != 0) = true := bne_iff_ne.mpr c5
       obtain rfl := Option.some.inj H
       have p101 : 0 ≤ (x8_1 : Int) := of_decide_eq_true (by assumption)
       have q101 : x8_1 < (l0.length : Int) := of_decide_eq_true (by assumption)
       obtain ⟨ad101, e101, hx101_0⟩ := Kd.at_int HR0.out x8_1 p101 q101
       cases e101
       replace p101 := eq_true p101
       replace q101 := eq_true q101
       go_wp2
       go_ret
       exact ⟨by first | rfl | (simp; done) | (simp [*]; done), by repeat (first | exact Drawn0.refl _ | apply Drawn0.step)⟩
     ·rw [if_neg c4] at H
      exact absurd H (by simp)
    ·rw [if_neg c3] at H
     exact absurd H (by simp)
   ·rw [if_neg c2] at H
    have c2b0 : decide (x8_1 < (l0.length : Int)) = false := decide_eq_false c2
    clear c2
    obtain rfl := Option.some.inj H
    go_wp2
    go_ret
    exact ⟨by first | rfl | (simp; done) | (simp [*]; done), by repeat (first | exact Drawn0.refl _ | apply Drawn0.step)⟩
def cmp_isNaN_int.f (a0 : Int) : Option (Bool) := some (a0 != a0)
theorem cmp_isNaN_int.calls (a0 : Int) (r : Bool) (w : World) (h : cmp_isNaN_int.f a0 = some r) :
  Calls Tryz.prog 165 #[.int .i64 a0] w fun e w' => e = .returned (.bool r) ∧ Drawn0 w w' := by
 have H : (some (a0 != a0)) = some r := h
 clear h
 obtain rfl := Option.some.inj H
 go_enter Tryz.func165, Tryz.ntmps165
 go_wp2
 go_ret
 exact ⟨by first | rfl | (simp; done) | (simp [*]; done), by repeat (first | exact Drawn0.refl _ | apply Drawn0.step)⟩
def cmp_Compare_int.f (a0 : Int) (a1 : Int) : Option (Int) := (cmp_isNaN_int.f a0).bind fun t102 => ((cmp_isNaN_int.f a1).bind fun t103 => (if t102 = true then (if t103 = true then (some 0) else (some (-1))) else (if t103 = true then (some 1) else (if a0 < a1 then (some (-1)) else (if a0 > a1 then (some 1) else (some 0))))))
theorem cmp_Compare_int.calls (a0 : Int) (a1 : Int) (r : Int) (w : World) (h : cmp_Compare_int.f a0 a1 = some r) :
  Calls Tryz.prog 140 #[.int .i64 a0, .int .i64 a1] w fun e w' => e = .returned (.int .i64 r) ∧ Drawn0 w w' := by
 have H : ((cmp_isNaN_int.f a0).bind fun t102 => ((cmp_isNaN_int.f a1).bind fun t103 => (if t102 = true then (if t103 = true then (some 0) else (some (-1))) else (if t103 = true then (some 1) else (if a0 < a1 then (some (-1)) else (if a0 > a1 then (some 1) else (some 0))))))) = some r := h
 clear h
 replace H := Option.bind_eq_some_iff.mp H
 obtain ⟨t102, A30, H⟩ := H
 replace H : ((cmp_isNaN_int.f a1).bind fun t103 => (if t102 = true then (if t103 = true then (some 0) else (some (-1))) else (if t103 = true then (some 1) else (if a0 < a1 then (some (-1)) else (if a0 > a1 then (some 1) else (some 0)))))) = some r := H
 have A3 := Az.mk A30
 clear A30
 replace H := Option.bind_eq_some_iff.mp H
 obtain ⟨t103, A40, H⟩ := H
 replace H : (if t102 = true then (if t103 = true then (some 0) else (some (-1))) else (if t103 = true then (some 1) else (if a0 < a1 then (some (-1)) else (if a0 > a1 then (some 1) else (some 0))))) = some r := H
 have A4 := Az.mk A40
 clear A40
 by_cases c5 : t102 = true
 ·subst c5
  have H1 : (if t103 = true then (some 0) else (some (-1))) = some r := by rw [if_pos rfl] at H; exact H
  clear H
  have H := H1
  clear H1
  by_cases c6 : t103 = true
  ·subst c6
   have H1 : (some 0) = some r := by rw [if_pos rfl] at H; exact H
   clear H
   have H := H1
   clear H1
   obtain rfl := Option.some.inj H
   go_enter Tryz.func140, Tryz.ntmps140
   go_wp2_with (first | ((with_reducible refine gate_callee (f := 165) rfl ?_); refine goesL_ (some 8) rfl rfl Tryz.func165 (by kernel_rfl) rfl #[.int .i64 a0] rfl (by (try simp only [List.map_toArray, List.map_cons, List.map_nil]); first | done | rfl | (simp only [List.length_drop, List.length_take]; rfl)) ?_; (with_reducible refine (cmp_isNaN_int.calls a0 true _ A3.out).mono ?_); rintro e w' ⟨rfl, ⟨nd, rfl⟩⟩; refine ⟨_, rfl, ?_⟩) | ((with_reducible refine gate_callee (f := 165) rfl ?_); refine goesL_ (some 10) rfl rfl Tryz.func165 (by kernel_rfl) rfl #[.int .i64 a1] rfl (by (try simp only [List.map_toArray, List.map_cons, List.map_nil]); first | done | rfl | (simp only [List.length_drop, List.length_take]; rfl)) ?_; (with_reducible refine (cmp_isNaN_int.calls a1 true _ A4.out).mono ?_); rintro e w' ⟨rfl, ⟨nd, rfl⟩⟩; refine ⟨_, rfl, ?_⟩))
   go_ret
   exact ⟨by first | rfl | (simp; done) | (simp [*]; done), by repeat (first | exact Drawn0.refl _ | apply Drawn0.step)⟩
  ·replace c6 := Bool.eq_false_iff.mpr c6
   subst c6
   have H1 : (some (-1)) = some r := by rw [if_neg (show ¬ (false = true) by decide)] at H; exact H
   clear H
   have H := H1
   clear H1
   obtain rfl := Option.some.inj H
   go_enter Tryz.func140, Tryz.ntmps140
   go_wp2_with (first | ((with_reducible refine gate_callee (f := 165) rfl ?_); refine goesL_ (some 8) rfl rfl Tryz.func165 (by kernel_rfl) rfl #[.int .i64 a0] rfl (by (try simp only [List.map_toArray, List.map_cons, List.map_nil]); first | done | rfl | (simp only [List.length_drop, List.length_take]; rfl)) ?_; (with_reducible refine (cmp_isNaN_int.calls a0 true _ A3.out).mono ?_); rintro e w' ⟨rfl, ⟨nd, rfl⟩⟩; refine ⟨_, rfl, ?_⟩) | ((with_reducible refine gate_callee (f := 165) rfl ?_); refine goesL_ (some 10) rfl rfl Tryz.func165 (by kernel_rfl) rfl #[.int .i64 a1] rfl (by (try simp only [List.map_toArray, List.map_cons, List.map_nil]); first | done | rfl | (simp only [List.length_drop, List.length_take]; rfl)) ?_; (with_reducible refine (cmp_isNaN_int.calls a1 false _ A4.out).mono ?_); rintro e w' ⟨rfl, ⟨nd, rfl⟩⟩; refine ⟨_, rfl, ?_⟩))
   go_ret
   exact ⟨by first | rfl | (simp; done) | (simp [*]; done), by repeat (first | exact Drawn0.refl _ | apply Drawn0.step)⟩
 ·replace c5 := Bool.eq_false_iff.mpr c5
  subst c5
  have H1 : (if t103 = true then (some 1) else (if a0 < a1 then (some (-1)) else (if a0 > a1 then (some 1) else (some 0)))) = some r := by rw [if_neg (show ¬ (false = true) by decide)] at H; exact H
  clear H
  have H := H1
  clear H1
  by_cases c7 : t103 = true
  ·subst c7
   have H1 : (some 1) = some r := by rw [if_pos rfl] at H; exact H
   clear H
   have H := H1
   clear H1
   obtain rfl := Option.some.inj H
   go_enter Tryz.func140, Tryz.ntmps140
   go_wp2_with (first | ((with_reducible refine gate_callee (f := 165) rfl ?_); refine goesL_ (some 8) rfl rfl Tryz.func165 (by kernel_rfl) rfl #[.int .i64 a0] rfl (by (try simp only [List.map_toArray, List.map_cons, List.map_nil]); first | done | rfl | (simp only [List.length_drop, List.length_take]; rfl)) ?_; (with_reducible refine (cmp_isNaN_int.calls a0 false _ A3.out).mono ?_); rintro e w' ⟨rfl, ⟨nd, rfl⟩⟩; refine ⟨_, rfl, ?_⟩) | ((with_reducible refine gate_callee (f := 165) rfl ?_); refine goesL_ (some 10) rfl rfl Tryz.func165 (by kernel_rfl) rfl #[.int .i64 a1] rfl (by (try simp only [List.map_toArray, List.map_cons, List.map_nil]); first | done | rfl | (simp only [List.length_drop, List.length_take]; rfl)) ?_; (with_reducible refine (cmp_isNaN_int.calls a1 true _ A4.out).mono ?_); rintro e w' ⟨rfl, ⟨nd, rfl⟩⟩; refine ⟨_, rfl, ?_⟩))
   go_ret
   exact ⟨by first | rfl | (simp; done) | (simp [*]; done), by repeat (first | exact Drawn0.refl _ | apply Drawn0.step)⟩
  ·replace c7 := Bool.eq_false_iff.mpr c7
   subst c7
   have H1 : (if a0 < a1 then (some (-1)) else (if a0 > a1 then (some 1) else (some 0))) = some r := by rw [if_neg (show ¬ (false = true) by decide)] at H; exact H
   clear H
   have H := H1
   clear H1
   by_cases c8 : a0 < a1
   ·rw [if_pos c8] at H
    have c8b0 : decide (a0 < a1) = true := decide_eq_true c8
    clear c8
    obtain rfl := Option.some.inj H
    go_enter Tryz.func140, Tryz.ntmps140
    go_wp2_with (first | ((with_reducible refine gate_callee (f := 165) rfl ?_); refine goesL_ (some 8) rfl rfl Tryz.func165 (by kernel_rfl) rfl #[.int .i64 a0] rfl (by (try simp only [List.map_toArray, List.map_cons, List.map_nil]); first | done | rfl | (simp only [List.length_drop, List.length_take]; rfl)) ?_; (with_reducible refine (cmp_isNaN_int.calls a0 false _ A3.out).mono ?_); rintro e w' ⟨rfl, ⟨nd, rfl⟩⟩; refine ⟨_, rfl, ?_⟩) | ((with_reducible refine gate_callee (f := 165) rfl ?_); refine goesL_ (some 10) rfl rfl Tryz.func165 (by kernel_rfl) rfl #[.int .i64 a1] rfl (by (try simp only [List.map_toArray, List.map_cons, List.map_nil]); first | done | rfl | (simp only [List.length_drop, List.length_take]; rfl)) ?_; (with_reducible refine (cmp_isNaN_int.calls a1 false _ A4.out).mono ?_); rintro e w' ⟨rfl, ⟨nd, rfl⟩⟩; refine ⟨_, rfl, ?_⟩))
    go_ret
    exact ⟨by first | rfl | (simp; done) | (simp [*]; done), by repeat (first | exact Drawn0.refl _ | apply Drawn0.step)⟩
   ·rw [if_neg c8] at H
    have c8b0 : decide (a0 < a1) = false := decide_eq_false c8
    clear c8
    by_cases c9 : a0 > a1
    ·rw [if_pos c9] at H
     have c9b0 : decide (a1 < a0) = true := decide_eq_true c9
     clear c9
     obtain rfl := Option.some.inj H
     go_enter Tryz.func140, Tryz.ntmps140
     go_wp2_with (first | ((with_reducible refine gate_callee (f := 165) rfl ?_); refine goesL_ (some 8) rfl rfl Tryz.func165 (by kernel_rfl) rfl #[.int .i64 a0] rfl (by (try simp only [List.map_toArray, List.map_cons, List.map_nil]); first | done | rfl | (simp only [List.length_drop, List.length_take]; rfl)) ?_; (with_reducible refine (cmp_isNaN_int.calls a0 false _ A3.out).mono ?_); rintro e w' ⟨rfl, ⟨nd, rfl⟩⟩; refine ⟨_, rfl, ?_⟩) | ((with_reducible refine gate_callee (f := 165) rfl ?_); refine goesL_ (some 10) rfl rfl Tryz.func165 (by kernel_rfl) rfl #[.int .i64 a1] rfl (by (try simp only [List.map_toArray, List.map_cons, List.map_nil]); first | done | rfl | (simp only [List.length_drop, List.length_take]; rfl)) ?_; (with_reducible refine (cmp_isNaN_int.calls a1 false _ A4.out).mono ?_); rintro e w' ⟨rfl, ⟨nd, rfl⟩⟩; refine ⟨_, rfl, ?_⟩))
     go_ret
     exact ⟨by first | rfl | (simp; done) | (simp [*]; done), by repeat (first | exact Drawn0.refl _ | apply Drawn0.step)⟩
    ·rw [if_neg c9] at H
     have c9b0 : decide (a1 < a0) = false := decide_eq_false c9
     clear c9
     obtain rfl := Option.some.inj H
     go_enter Tryz.func140, Tryz.ntmps140
     go_wp2_with (first | ((with_reducible refine gate_callee (f := 165) rfl ?_); refine goesL_ (some 8) rfl rfl Tryz.func165 (by kernel_rfl) rfl #[.int .i64 a0] rfl (by (try simp only [List.map_toArray, List.map_cons, List.map_nil]); first | done | rfl | (simp only [List.length_drop, List.length_take]; rfl)) ?_; (with_reducible refine (cmp_isNaN_int.calls a0 false _ A3.out).mono ?_); rintro e w' ⟨rfl, ⟨nd, rfl⟩⟩; refine ⟨_, rfl, ?_⟩) | ((with_reducible refine gate_callee (f := 165) rfl ?_); refine goesL_ (some 10) rfl rfl Tryz.func165 (by kernel_rfl) rfl #[.int .i64 a1] rfl (by (try simp only [List.map_toArray, List.map_cons, List.map_nil]); first | done | rfl | (simp only [List.length_drop, List.length_take]; rfl)) ?_; (with_reducible refine (cmp_isNaN_int.calls a1 false _ A4.out).mono ?_); rintro e w' ⟨rfl, ⟨nd, rfl⟩⟩; refine ⟨_, rfl, ?_⟩))
     go_ret
     exact ⟨by first | rfl | (simp; done) | (simp [*]; done), by repeat (first | exact Drawn0.refl _ | apply Drawn0.step)⟩
def cnf_literal_166.f (a0 : Int) : Option (Bool) := some (a0 != a0)
theorem cnf_literal_166.calls (a0 : Int) (r : Bool) (w : World) (h : cnf_literal_166.f a0 = some r) :
  Calls Tryz.prog 166 #[.int .i64 a0] w fun e w' => e = .returned (.bool r) ∧ Drawn0 w w' := by
 have H : (some (a0 != a0)) = some r := h
 clear h
 obtain rfl := Option.some.inj H
 go_enter Tryz.func166, Tryz.ntmps166
 go_wp2
 go_ret
 exact ⟨by first | rfl | (simp; done) | (simp [*]; done), by repeat (first | exact Drawn0.refl _ | apply Drawn0.step)⟩
def cnf_literal_141.f (a0 : Int) (a1 : Int) : Option (Int) := (cnf_literal_166.f a0).bind fun t104 => ((cnf_literal_166.f a1).bind fun t105 => (if t104 = true then (if t105 = true then (some 0) else (some (-1))) else (if t105 = true then (some 1) else (if a0 < a1 then (some (-1)) else (if a0 > a1 then (some 1) else (some 0))))))
theorem cnf_literal_141.calls (a0 : Int) (a1 : Int) (r : Int) (w : World) (h : cnf_literal_141.f a0 a1 = some r) :
  Calls Tryz.prog 141 #[.int .i64 a0, .int .i64 a1] w fun e w' => e = .returned (.int .i64 r) ∧ Drawn0 w w' := by
 have H : ((cnf_literal_166.f a0).bind fun t104 => ((cnf_literal_166.f a1).bind fun t105 => (if t104 = true then (if t105 = true then (some 0) else (some (-1))) else (if t105 = true then (some 1) else (if a0 < a1 then (some (-1)) else (if a0 > a1 then (some 1) else (some 0))))))) = some r := h
 clear h
 replace H := Option.bind_eq_some_iff.mp H
 obtain ⟨t104, A30, H⟩ := H
 replace H : ((cnf_literal_166.f a1).bind fun t105 => (if t104 = true then (if t105 = true then (some 0) else (some (-1))) else (if t105 = true then (some 1) else (if a0 < a1 then (some (-1)) else (if a0 > a1 then (some 1) else (some 0)))))) = some r := H
 have A3 := Az.mk A30
 clear A30
 replace H := Option.bind_eq_some_iff.mp H
 obtain ⟨t105, A40, H⟩ := H
 replace H : (if t104 = true then (if t105 = true then (some 0) else (some (-1))) else (if t105 = true then (some 1) else (if a0 < a1 then (some (-1)) else (if a0 > a1 then (some 1) else (some 0))))) = some r := H
 have A4 := Az.mk A40
 clear A40
 by_cases c5 : t104 = true
 ·subst c5
  have H1 : (if t105 = true then (some 0) else (some (-1))) = some r := by rw [if_pos rfl] at H; exact H
  clear H
  have H := H1
  clear H1
  by_cases c6 : t105 = true
  ·subst c6
   have H1 : (some 0) = some r := by rw [if_pos rfl] at H; exact H
   clear H
   have H := H1
   clear H1
   obtain rfl := Option.some.inj H
   go_enter Tryz.func141, Tryz.ntmps141
   go_wp2_with (first | ((with_reducible refine gate_callee (f := 166) rfl ?_); refine goesL_ (some 8) rfl rfl Tryz.func166 (by kernel_rfl) rfl #[.int .i64 a0] rfl (by (try simp only [List.map_toArray, List.map_cons, List.map_nil]); first | done | rfl | (simp only [List.length_drop, List.length_take]; rfl)) ?_; (with_reducible refine (cnf_literal_166.calls a0 true _ A3.out).mono ?_); rintro e w' ⟨rfl, ⟨nd, rfl⟩⟩; refine ⟨_, rfl, ?_⟩) | ((with_reducible refine gate_callee (f := 166) rfl ?_); refine goesL_ (some 10) rfl rfl Tryz.func166 (by kernel_rfl) rfl #[.int .i64 a1] rfl (by (try simp only [List.map_toArray, List.map_cons, List.map_nil]); first | done | rfl | (simp only [List.length_drop, List.length_take]; rfl)) ?_; (with_reducible refine (cnf_literal_166.calls a1 true _ A4.out).mono ?_); rintro e w' ⟨rfl, ⟨nd, rfl⟩⟩; refine ⟨_, rfl, ?_⟩))
   go_ret
   exact ⟨by first | rfl | (simp; done) | (simp [*]; done), by repeat (first | exact Drawn0.refl _ | apply Drawn0.step)⟩
  ·replace c6 := Bool.eq_false_iff.mpr c6
   subst c6
   have H1 : (some (-1)) = some r := by rw [if_neg (show ¬ (false = true) by decide)] at H; exact H
   clear H
   have H := H1
   clear H1
   obtain rfl := Option.some.inj H
   go_enter Tryz.func141, Tryz.ntmps141
   go_wp2_with (first | ((with_reducible refine gate_callee (f := 166) rfl ?_); refine goesL_ (some 8) rfl rfl Tryz.func166 (by kernel_rfl) rfl #[.int .i64 a0] rfl (by (try simp only [List.map_toArray, List.map_cons, List.map_nil]); first | done | rfl | (simp only [List.length_drop, List.length_take]; rfl)) ?_; (with_reducible refine (cnf_literal_166.calls a0 true _ A3.out).mono ?_); rintro e w' ⟨rfl, ⟨nd, rfl⟩⟩; refine ⟨_, rfl, ?_⟩) | ((with_reducible refine gate_callee (f := 166) rfl ?_); refine goesL_ (some 10) rfl rfl Tryz.func166 (by kernel_rfl) rfl #[.int .i64 a1] rfl (by (try simp only [List.map_toArray, List.map_cons, List.map_nil]); first | done | rfl | (simp only [List.length_drop, List.length_take]; rfl)) ?_; (with_reducible refine (cnf_literal_166.calls a1 false _ A4.out).mono ?_); rintro e w' ⟨rfl, ⟨nd, rfl⟩⟩; refine ⟨_, rfl, ?_⟩))
   go_ret
   exact ⟨by first | rfl | (simp; done) | (simp [*]; done), by repeat (first | exact Drawn0.refl _ | apply Drawn0.step)⟩
 ·replace c5 := Bool.eq_false_iff.mpr c5
  subst c5
  have H1 : (if t105 = true then (some 1) else (if a0 < a1 then (some (-1)) else (if a0 > a1 then (some 1) else (some 0)))) = some r := by rw [if_neg (show ¬ (false = true) by decide)] at H; exact H
  clear H
  have H := H1
  clear H1
  by_cases c7 : t105 = true
  ·subst c7
   have H1 : (some 1) = some r := by rw [if_pos rfl] at H; exact H
   clear H
   have H := H1
   clear H1
   obtain rfl := Option.some.inj H
   go_enter Tryz.func141, Tryz.ntmps141
   go_wp2_with (first | ((with_reducible refine gate_callee (f := 166) rfl ?_); refine goesL_ (some 8) rfl rfl Tryz.func166 (by kernel_rfl) rfl #[.int .i64 a0] rfl (by (try simp only [List.map_toArray, List.map_cons, List.map_nil]); first | done | rfl | (simp only [List.length_drop, List.length_take]; rfl)) ?_; (with_reducible refine (cnf_literal_166.calls a0 false _ A3.out).mono ?_); rintro e w' ⟨rfl, ⟨nd, rfl⟩⟩; refine ⟨_, rfl, ?_⟩) | ((with_reducible refine gate_callee (f := 166) rfl ?_); refine goesL_ (some 10) rfl rfl Tryz.func166 (by kernel_rfl) rfl #[.int .i64 a1] rfl (by (try simp only [List.map_toArray, List.map_cons, List.map_nil]); first | done | rfl | (simp only [List.length_drop, List.length_take]; rfl)) ?_; (with_reducible refine (cnf_literal_166.calls a1 true _ A4.out).mono ?_); rintro e w' ⟨rfl, ⟨nd, rfl⟩⟩; refine ⟨_, rfl, ?_⟩))
   go_ret
   exact ⟨by first | rfl | (simp; done) | (simp [*]; done), by repeat (first | exact Drawn0.refl _ | apply Drawn0.step)⟩
  ·replace c7 := Bool.eq_false_iff.mpr c7
   subst c7
   have H1 : (if a0 < a1 then (some (-1)) else (if a0 > a1 then (some 1) else (some 0))) = some r := by rw [if_neg (show ¬ (false = true) by decide)] at H; exact H
   clear H
   have H := H1
   clear H1
   by_cases c8 : a0 < a1
   ·rw [if_pos c8] at H
    have c8b0 : decide (a0 < a1) = true := decide_eq_true c8
    clear c8
    obtain rfl := Option.some.inj H
    go_enter Tryz.func141, Tryz.ntmps141
    go_wp2_with (first | ((with_reducible refine gate_callee (f := 166) rfl ?_); refine goesL_ (some 8) rfl rfl Tryz.func166 (by kernel_rfl) rfl #[.int .i64 a0] rfl (by (try simp only [List.map_toArray, List.map_cons, List.map_nil]); first | done | rfl | (simp only [List.length_drop, List.length_take]; rfl)) ?_; (with_reducible refine (cnf_literal_166.calls a0 false _ A3.out).mono ?_); rintro e w' ⟨rfl, ⟨nd, rfl⟩⟩; refine ⟨_, rfl, ?_⟩) | ((with_reducible refine gate_callee (f := 166) rfl ?_); refine goesL_ (some 10) rfl rfl Tryz.func166 (by kernel_rfl) rfl #[.int .i64 a1] rfl (by (try simp only [List.map_toArray, List.map_cons, List.map_nil]); first | done | rfl | (simp only [List.length_drop, List.length_take]; rfl)) ?_; (with_reducible refine (cnf_literal_166.calls a1 false _ A4.out).mono ?_); rintro e w' ⟨rfl, ⟨nd, rfl⟩⟩; refine ⟨_, rfl, ?_⟩))
    go_ret
    exact ⟨by first | rfl | (simp; done) | (simp [*]; done), by repeat (first | exact Drawn0.refl _ | apply Drawn0.step)⟩
   ·rw [if_neg c8] at H
    have c8b0 : decide (a0 < a1) = false := decide_eq_false c8
    clear c8
    by_cases c9 : a0 > a1
    ·rw [if_pos c9] at H
     have c9b0 : decide (a1 < a0) = true := decide_eq_true c9
     clear c9
     obtain rfl := Option.some.inj H
     go_enter Tryz.func141, Tryz.ntmps141
     go_wp2_with (first | ((with_reducible refine gate_callee (f := 166) rfl ?_); refine goesL_ (some 8) rfl rfl Tryz.func166 (by kernel_rfl) rfl #[.int .i64 a0] rfl (by (try simp only [List.map_toArray, List.map_cons, List.map_nil]); first | done | rfl | (simp only [List.length_drop, List.length_take]; rfl)) ?_; (with_reducible refine (cnf_literal_166.calls a0 false _ A3.out).mono ?_); rintro e w' ⟨rfl, ⟨nd, rfl⟩⟩; refine ⟨_, rfl, ?_⟩) | ((with_reducible refine gate_callee (f := 166) rfl ?_); refine goesL_ (some 10) rfl rfl Tryz.func166 (by kernel_rfl) rfl #[.int .i64 a1] rfl (by (try simp only [List.map_toArray, List.map_cons, List.map_nil]); first | done | rfl | (simp only [List.length_drop, List.length_take]; rfl)) ?_; (with_reducible refine (cnf_literal_166.calls a1 false _ A4.out).mono ?_); rintro e w' ⟨rfl, ⟨nd, rfl⟩⟩; refine ⟨_, rfl, ?_⟩))
     go_ret
     exact ⟨by first | rfl | (simp; done) | (simp [*]; done), by repeat (first | exact Drawn0.refl _ | apply Drawn0.step)⟩
    ·rw [if_neg c9] at H
     have c9b0 : decide (a1 < a0) = false := decide_eq_false c9
     clear c9
     obtain rfl := Option.some.inj H
     go_enter Tryz.func141, Tryz.ntmps141
     go_wp2_with (first | ((with_reducible refine gate_callee (f := 166) rfl ?_); refine goesL_ (some 8) rfl rfl Tryz.func166 (by kernel_rfl) rfl #[.int .i64 a0] rfl (by (try simp only [List.map_toArray, List.map_cons, List.map_nil]); first | done | rfl | (simp only [List.length_drop, List.length_take]; rfl)) ?_; (with_reducible refine (cnf_literal_166.calls a0 false _ A3.out).mono ?_); rintro e w' ⟨rfl, ⟨nd, rfl⟩⟩; refine ⟨_, rfl, ?_⟩) | ((with_reducible refine gate_callee (f := 166) rfl ?_); refine goesL_ (some 10) rfl rfl Tryz.func166 (by kernel_rfl) rfl #[.int .i64 a1] rfl (by (try simp only [List.map_toArray, List.map_cons, List.map_nil]); first | done | rfl | (simp only [List.length_drop, List.length_take]; rfl)) ?_; (with_reducible refine (cnf_literal_166.calls a1 false _ A4.out).mono ?_); rintro e w' ⟨rfl, ⟨nd, rfl⟩⟩; refine ⟨_, rfl, ?_⟩))
     go_ret
     exact ⟨by first | rfl | (simp; done) | (simp [*]; done), by repeat (first | exact Drawn0.refl _ | apply Drawn0.step)⟩
end Go.Proofs.YtkcfdddhnboieaaGreatDoor.PLCmp
end
section
set_option maxRecDepth 100000
namespace Go.Proofs.YtkcfdddhnboieaaGreatDoor.PTriv
open Go.RowKit QW.PrintWords QW.PrintLast QW.PrintMore
attribute [local go_sem] max2_int min2_int max_two min_two max_three min_three max_four min_four   
def errW : Option Int → Value
 | none => .nilIface
 | some c => .iface 0 (.int .i64 c)
theorem errW_none : errW none = .nilIface := rfl
theorem errW_some (c : Int) : errW (some c) = .iface 0 (.int .i64 c) := rfl
end Go.Proofs.YtkcfdddhnboieaaGreatDoor.PTriv
end
section
set_option maxHeartbeats 8000000
set_option maxRecDepth 100000
namespace Go.Proofs.YtkcfdddhnboieaaGreatDoor.PTriv
open Go.RowKit QW.PrintWords QW.PrintLast QW.PrintMore
attribute [local go_sem] max2_int min2_int max_two min_two max_three min_three max_four min_four   
def cnf_clause_trivial.l0 : Nat → List Int → Int → Option (Bool)
 | 0, _, _ => none
 | k + 1, x0, x3 => if x3 < (x0.length : Int) then (if 0 ≤ x3 then (if 0 ≤ (wrap64 (x3 - 1)) then (if (wrap64 (x3 - 1)) < (x0.length : Int) then (if (rd x0 x3) = (wrap64 (-(rd x0 (wrap64 (x3 - 1))))) then (some true) else (cnf_clause_trivial.l0 k x0 (wrap64 (x3 + 1)))) else (none)) else (none)) else (none)) else (some false)
def cnf_clause_trivial.f (k : Nat) (l0 : List Int) : Option (Bool) := cnf_clause_trivial.l0 k l0 1
theorem cnf_clause_trivial.calls (k : Nat) (A0 : Option Addr) (c0 : Nat) (l0 : List Int) (r : Bool) (w : World) (hr0 : Kd.C (Kd.int .i64) w A0 l0.length l0) (hc0 : l0.length ≤ c0) (h : cnf_clause_trivial.f k l0 = some r) :
  Calls Tryz.prog 52 #[.slice A0 l0.length c0] w fun e w' => e = .returned (.bool r) ∧ Drawn0 w w' := by
 have HR0 := Az.mk hr0
 have HC0 := Az.mk hc0
 clear hr0 hc0
 have H : (cnf_clause_trivial.l0 k l0 1) = some r := h
 clear h
 have H' := Az.mk H
 clear H
 go_enter Tryz.func52, Tryz.ntmps52
 go_wp2
 repeat (go_quiet (fail); try go_wp2)
 go_loopg [3] k (fun kq v3 w' => ∃ (x3_1 : Int), v3 = .int .i64 x3_1 ∧ Az (cnf_clause_trivial.l0 kq l0 x3_1 = some r) ∧ Az (kq ≤ k) ∧ Drawn0 w w')
 case atStart => exact ⟨(1), (by first | rfl | (simp; done) | (simp [*]; done)), H', ⟨Nat.le_refl _⟩, by repeat (first | exact Drawn0.refl _ | apply Drawn0.step)⟩
 case round =>
  clear H'
  obtain ⟨x3_1, rfl, HA, HK1, ⟨m1, rfl⟩⟩ := hrel
  cases gk with
  | zero => exact absurd HA.out (by simp [cnf_clause_trivial.l0])
  | succ k1 =>
   have H := HA.out
   clear HA
   simp only [cnf_clause_trivial.l0] at H
   by_cases c2 : x3_1 < (l0.length : Int)
   ·rw [if_pos c2] at H
    have c2b0 : decide (x3_1 < (l0.length : Int)) = true := decide_eq_true c2
    clear c2
    by_cases c3 : 0 ≤ x3_1
    ·rw [if_pos c3] at H
     have c3b0 : decide (0 ≤ x3_1) = true := decide_eq_true c3
     clear c3
     obtain ⟨ji4, hji4⟩ : ∃ j_ : Int, (wrap64 (x3_1 - 1)) = j_ := ⟨_, rfl⟩
     replace H : (if 0 ≤ (ji4) then (if (ji4) < (l0.length : Int) then (if (rd l0 x3_1) = (wrap64 (-(rd l0 (ji4)))) then (some true) else (cnf_clause_trivial.l0 k1 l0 (wrap64 (x3_1 + 1)))) else (none)) else (none)) = some r := by first | (rw [hji4] at H; exact H) | (simp only [hji4] at H ⊢; exact H)
     have hji4w : (IntKind.i64.wrap (x3_1 - 1)) = ji4 := (iw _).trans hji4
     by_cases c5 : 0 ≤ (ji4)
     ·rw [if_pos c5] at H
      have c5b0 : decide (0 ≤ (ji4)) = true := decide_eq_true c5
      clear c5
      by_cases c6 : (ji4) < (l0.length : Int)
      ·rw [if_pos c6] at H
       have c6b0 : decide ((ji4) < (l0.length : Int)) = true := decide_eq_true c6
       clear c6
       by_cases c7 : (rd l0 x3_1) = (wrap64 (-(rd l0 (ji4))))
       ·rw [if_pos c7] at H
        have c7b0 : ((rd l0 x3_1) == (wrap64 (-(rd l0 (ji4))))) = true := beq_iff_eq.mpr c7
        have c7b1 : ((rd l0 x3_1) != (wrap64 (-(rd l0 (ji4))))) = false := bne_eq_false_iff_eq.mpr c7
        clear c7
        obtain rfl := Option.some.inj H
        have p101 : 0 ≤ (x3_1 : Int) := of_decide_eq_true (by assumption)
        have q101 : x3_1 < (l0.length : Int) := of_decide_eq_true (by assumption)
        obtain ⟨ad101, e101, hx101_0⟩ := Kd.at_int HR0.out x3_1 p101 q101
        cases e101
        replace p101 := eq_true p101
        replace q101 := eq_true q101
        have p102 : 0 ≤ ((ji4) : Int) := of_decide_eq_true (by assumption)
        have q102 : (ji4) < (l0.length : Int) := of_decide_eq_true (by assumption)
        obtain ⟨ad102, e102, hx102_0⟩ := Kd.at_int HR0.out (ji4) p102 q102
        obtain rfl : ad101 = ad102 := (by injection e102)
        replace p102 := eq_true p102
        replace q102 := eq_true q102
        go_wp2
        repeat (go_quiet (fail); try go_wp2)
        go_ret
        exact ⟨by first | rfl | (simp; done) | (simp only [← hji4] <;> (first | rfl | simp)) | (simp [*]; done), by repeat (first | exact Drawn0.refl _ | apply Drawn0.step)⟩
       ·rw [if_neg c7] at H
        have c7b0 : ((rd l0 x3_1) == (wrap64 (-(rd l0 (ji4))))) = false := beq_eq_false_iff_ne.mpr c7
        have c7b1 : ((rd l0 x3_1) != (wrap64 (-(rd l0 (ji4))))) = true := bne_iff_ne.mpr c7
        have H' := Az.mk H
        clear H
        have p101 : 0 ≤ (x3_1 : Int) := of_decide_eq_true (by assumption)
        have q101 : x3_1 < (l0.length : Int) := of_decide_eq_true (by assumption)
        obtain ⟨ad101, e101, hx101_0⟩ := Kd.at_int HR0.out x3_1 p101 q101
        cases e101
        replace p101 := eq_true p101
        replace q101 := eq_true q101
        have p102 : 0 ≤ ((ji4) : Int) := of_decide_eq_true (by assumption)
        have q102 : (ji4) < (l0.length : Int) := of_decide_eq_true (by assumption)
        obtain ⟨ad102, e102, hx102_0⟩ := Kd.at_int HR0.out (ji4) p102 q102
        obtain rfl : ad101 = ad102 := (by injection e102)
        replace p102 := eq_true p102
        replace q102 := eq_true q102
        go_wp2
        repeat (go_quiet (fail); try go_wp2)
        go_roundg k1
        case measure => have := HK1.out; omega
        case rel => exact ⟨(wrap64 (x3_1 + 1)), (by first | rfl | (simp; done) | (simp [*]; done)), H', ⟨by have := HK1.out; omega⟩, by repeat (first | exact Drawn0.refl _ | apply Drawn0.step)⟩
      ·rw [if_neg c6] at H
       exact absurd H (by simp)
     ·rw [if_neg c5] at H
      exact absurd H (by simp)
    ·rw [if_neg c3] at H
     exact absurd H (by simp)
   ·rw [if_neg c2] at H
    have c2b0 : decide (x3_1 < (l0.length : Int)) = false := decide_eq_false c2
    clear c2
    obtain rfl := Option.some.inj H
    go_wp2
    repeat (go_quiet (fail); try go_wp2)
    go_ret
    exact ⟨by first | rfl | (simp; done) | (simp [*]; done), by repeat (first | exact Drawn0.refl _ | apply Drawn0.step)⟩
end Go.Proofs.YtkcfdddhnboieaaGreatDoor.PTriv
end
section
set_option maxRecDepth 100000
namespace Go.Proofs.YtkcfdddhnboieaaGreatDoor.PCInts
open Go.RowKit QW.PrintWords QW.PrintLast QW.PrintMore
attribute [local go_sem] max2_int min2_int max_two min_two max_three min_three max_four min_four   
def errW : Option Int → Value
 | none => .nilIface
 | some c => .iface 0 (.int .i64 c)
theorem errW_none : errW none = .nilIface := rfl
theorem errW_some (c : Int) : errW (some c) = .iface 0 (.int .i64 c) := rfl
theorem info3 : (Tryz.prog.info? 3).map (fun i => (i.zero, i.size, i.bytes)) = some (some (.int .i64 0), 1, 8) := by kernel_rfl
end Go.Proofs.YtkcfdddhnboieaaGreatDoor.PCInts
end
section
set_option maxRecDepth 100000
namespace Go.Proofs.YtkcfdddhnboieaaGreatDoor.PSameC
open Go.RowKit QW.PrintWords QW.PrintLast QW.PrintMore
attribute [local go_sem] max2_int min2_int max_two min_two max_three min_three max_four min_four   
def errW : Option Int → Value
 | none => .nilIface
 | some c => .iface 0 (.int .i64 c)
theorem errW_none : errW none = .nilIface := rfl
theorem errW_some (c : Int) : errW (some c) = .iface 0 (.int .i64 c) := rfl
def rL (xs : List (List Int)) (i : Int) : (List Int) := xs.getD i.toNat ([] : List Int)
theorem at_L1 {w : World} {A : Option Addr} {n : Nat} {xs : List (List Int)} (h : Kd.C (Kd.slice 3 (Kd.int .i64)) w A n xs) (i : Int) (h0 : 0 ≤ i) (h1 : i < n) : ∃ ad A0 c0, A = some ad ∧ w.cell? (ad.add i.toNat) = some (.slice A0 (rL xs i).length c0) ∧ (rL xs i).length ≤ c0 ∧ (Kd.int .i64).C w A0 (rL xs i).length (rL xs i) := by
 obtain ⟨ad, c, e, _, hK, hc0⟩ := Kd.C_get h ([] : List Int) i h0 h1
 have hc : ∀ j u, c[j]? = some u → w.cell? (ad.add (i.toNat * 1 + j)) = some u := hc0
 obtain ⟨A0, c0, rfl, l0, g0⟩ := hK
 exact ⟨ad, A0, c0, e, by have hq := hc 0 _ rfl; rwa [Nat.mul_one, Nat.add_zero] at hq, l0, g0⟩
end Go.Proofs.YtkcfdddhnboieaaGreatDoor.PSameC
end
section
set_option maxRecDepth 100000
namespace Go.Proofs.YtkcfdddhnboieaaGreatDoor.PModels
open Go.RowKit QW.PrintWords QW.PrintLast QW.PrintMore
attribute [local go_sem] max2_int min2_int max_two min_two max_three min_three max_four min_four   
def errW : Option Int → Value
 | none => .nilIface
 | some c => .iface 0 (.int .i64 c)
theorem errW_none : errW none = .nilIface := rfl
theorem errW_some (c : Int) : errW (some c) = .iface 0 (.int .i64 c) := rfl
end Go.Proofs.YtkcfdddhnboieaaGreatDoor.PModels
end
