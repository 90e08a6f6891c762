/-
  Part 23 of the proof of proofTextMatches_card: walks and lemmas, packed by the session's own wip/pack.py out of its texts and of what the kit's print.sh printed.
-/
import Derived.Test.YtogicccdngpafaaGreatDoorTX8
set_option linter.unusedVariables false
set_option linter.unusedSimpArgs false
section
set_option maxHeartbeats 8000000
set_option maxRecDepth 100000
namespace Go.Proofs.YtogicccdngpafaaGreatDoor.PFewT
open Go.RowKit QW.PrintWords QW.PrintLast QW.PrintMore
attribute [local go_sem] max2_int min2_int max_two min_two max_three min_three max_four min_four   
def nfT.l0 : Nat → List (S42) → Int → List (S42) → Int → Option ((List (S42)))
 | 0, _, _, _, _ => none
 | k + 1, x0, x1, x5, x6 => if x6 < (x0.length : Int) then (if x6 < x1 then (if 0 ≤ x6 then (if 0 ≤ (mn (((rd_T42 x0 x6).f0).length : Int) 12) then (if (mn (((rd_T42 x0 x6).f0).length : Int) 12) ≤ (((rd_T42 x0 x6).f0).length : Int) then (if ([] : List Int).length + (((rd_T42 x0 x6).f0).take ((mn (((rd_T42 x0 x6).f0).length : Int) 12) : Int).toNat).length < 17592186044416 then (if 0 ≤ (mn (((rd_T42 x0 x6).f2).length : Int) 40) then (if (mn (((rd_T42 x0 x6).f2).length : Int) 40) ≤ (((rd_T42 x0 x6).f2).length : Int) then (if ([] : List Int).length + (((rd_T42 x0 x6).f2).take ((mn (((rd_T42 x0 x6).f2).length : Int) 40) : Int).toNat).length < 17592186044416 then (if x5.length < 2513169434916 then (nfT.l0 k x0 x1 (x5 ++ [(⟨(([] : List Int) ++ (((rd_T42 x0 x6).f0).take ((mn (((rd_T42 x0 x6).f0).length : Int) 12) : Int).toNat)), (rd_T42 x0 x6).f1, (([] : List Int) ++ (((rd_T42 x0 x6).f2).take ((mn (((rd_T42 x0 x6).f2).length : Int) 40) : Int).toNat))⟩ : S42)]) (wrap64 (x6 + 1))) else (none)) else (none)) else (none)) else (none)) else (none)) else (none)) else (none)) else (none)) else (some x5)) else (some x5)
def nfT.f (k : Nat) (l0 : List (S42)) (a1 : Int) : Option ((List (S42))) := nfT.l0 k l0 a1 ([] : List (S42)) 0
def nfT.T6 : Bool × List (List Nat × List Nat) := (true, [([], []), ([0], [0]), ([], []), ([], []), ([2, 3], [2, 3]), ([4], [4]), ([5], [5]), ([], []), ([], []), ([7, 8], [7, 8]), ([9], [9]), ([10], [10]), ([11], [11]), ([12], [12]), ([6, 13], [6, 13]), ([1, 14], [1, 14]), ([0, 1, 2, 3, 4, 5, 6, 7, 8, 9, 10, 11, 12, 13, 14, 15], []), ([16, 15, 15, 0, 1, 2, 3, 4, 5, 6, 7, 8, 9, 10, 11, 12, 13, 14, 15], [15, 16])])
def nfT.B6 : List Nat := [0, 1, 0, 0, 12, 28, 60, 0, 0, 384, 896, 1920, 3968, 8064, 16380, 32767, 65535, 131071]
theorem nfT.tab6 : rtab .any (opsOf Tryz.f10 6) = nfT.T6 := by kernel_rfl
theorem nfT.bits6 : waitsOk nfT.T6.2 nfT.B6 = true := by kernel_rfl
def nfT.T7 : Bool × List (List Nat × List Nat) := (true, [([], []), ([0], [0]), ([], []), ([], []), ([2, 3], [2, 3]), ([4], [4]), ([5], [5]), ([], []), ([], []), ([7, 8], [7, 8]), ([9], [9]), ([10], [10]), ([11], [11]), ([12], [12]), ([6, 13], [6, 13]), ([1, 14], [1, 14]), ([0, 1, 2, 3, 4, 5, 6, 7, 8, 9, 10, 11, 12, 13, 14, 15], []), ([16, 15, 15, 0, 1, 2, 3, 4, 5, 6, 7, 8, 9, 10, 11, 12, 13, 14, 15], [15, 16])])
def nfT.B7 : List Nat := [0, 1, 0, 0, 12, 28, 60, 0, 0, 384, 896, 1920, 3968, 8064, 16380, 32767, 65535, 131071]
theorem nfT.tab7 : rtab .any (opsOf Tryz.f10 7) = nfT.T7 := by kernel_rfl
theorem nfT.bits7 : waitsOk nfT.T7.2 nfT.B7 = true := by kernel_rfl
theorem nfT.calls (k : Nat) (A0 : Option Addr) (c0 : Nat) (l0 : List (S42)) (a1 : Int) (r : List (S42)) (w : World) (hr0 : Kd.C k42 w A0 l0.length l0) (hc0 : l0.length ≤ c0) (h : nfT.f k l0 a1 = some r) :
  Calls Tryz.prog 10 #[.slice A0 l0.length c0, .int .i64 a1] w fun e w' => ∃ v0_ : Value, e = .returned (v0_) ∧ Kd.S k42 42 w' w.heap.size (fun _ => True) v0_ r ∧ Below w.heap.size w w' := by
 have hu42 := Tryz.underlying42
 have HR0 := Az.mk hr0
 have HC0 := Az.mk hc0
 clear hr0 hc0
 have HB := Az.mk (Below.refl w.heap.size w)
 have H : (nfT.l0 k l0 a1 ([] : List (S42)) 0) = some r := h
 clear h
 have H' := Az.mk H
 clear H
 go_enter Tryz.func10, Tryz.ntmps10
 go_wp2
 go_loopg [5, 6] k (fun kq v5 v6 w' => ∃ (x5_1 : List (S42)) (x6_1 : Int), v6 = .int .i64 x6_1 ∧ Az (nfT.l0 kq l0 a1 x5_1 x6_1 = some r) ∧ Az (kq ≤ k) ∧ Az (Kd.S k42 42 w' w.heap.size (fun _ => True) v5 x5_1) ∧ Az (Below w.heap.size w w'))
 case atStart => exact ⟨(([] : List (S42))), (0), (by first | rfl | (simp; done) | (simp [*]; done)), H', ⟨Nat.le_refl _⟩, ⟨by first | exact Kd.S_nil _ _ _ _ _ | exact Kd.N_nil _ _ _ _ _ | exact Kd.V_nil _ _ _ _ _ | exact Kd.Q_nil _ _ _ _ _ | exact Kd.R_nil _ _ _ _ _⟩, ⟨by repeat (first | (with_reducible first | exact HB.out | apply bwa | apply pwN | apply bw1) | exact HB.out)⟩⟩
 case round =>
  clear H'
  try clear c1
  try clear p2
  obtain ⟨x5_1, x6_1, rfl, HA, HK1, HO_5, HB⟩ := hrel
  cases gk with
  | zero => exact absurd HA.out (by simp [nfT.l0])
  | succ k1 =>
   have H := HA.out
   clear HA
   simp only [nfT.l0] at H
   by_cases c3 : x6_1 < (l0.length : Int)
   ·rw [if_pos c3] at H
    have c3b0 : decide (x6_1 < (l0.length : Int)) = true := decide_eq_true c3
    clear c3
    by_cases c4 : x6_1 < a1
    ·rw [if_pos c4] at H
     have c4b0 : decide (x6_1 < a1) = true := decide_eq_true c4
     clear c4
     by_cases c5 : 0 ≤ x6_1
     ·rw [if_pos c5] at H
      have c5b0 : decide (0 ≤ x6_1) = true := decide_eq_true c5
      clear c5
      obtain ⟨ji6, hji6⟩ : ∃ j_ : Int, (mn (((rd_T42 l0 x6_1).f0).length : Int) 12) = j_ := ⟨_, rfl⟩
      replace H : (if 0 ≤ (ji6) then (if (ji6) ≤ (((rd_T42 l0 x6_1).f0).length : Int) then (if ([] : List Int).length + (((rd_T42 l0 x6_1).f0).take ((ji6) : Int).toNat).length < 17592186044416 then (if 0 ≤ (mn (((rd_T42 l0 x6_1).f2).length : Int) 40) then (if (mn (((rd_T42 l0 x6_1).f2).length : Int) 40) ≤ (((rd_T42 l0 x6_1).f2).length : Int) then (if ([] : List Int).length + (((rd_T42 l0 x6_1).f2).take ((mn (((rd_T42 l0 x6_1).f2).length : Int) 40) : Int).toNat).length < 17592186044416 then (if x5_1.length < 2513169434916 then (nfT.l0 k1 l0 a1 (x5_1 ++ [(⟨(([] : List Int) ++ (((rd_T42 l0 x6_1).f0).take ((ji6) : Int).toNat)), (rd_T42 l0 x6_1).f1, (([] : List Int) ++ (((rd_T42 l0 x6_1).f2).take ((mn (((rd_T42 l0 x6_1).f2).length : Int) 40) : Int).toNat))⟩ : S42)]) (wrap64 (x6_1 + 1))) else (none)) else (none)) else (none)) else (none)) else (none)) else (none)) else (none)) = some r := by first | (rw [hji6] at H; exact H) | (simp only [hji6] at H ⊢; exact H)
      have hji6_ : (if 12 < (((rd_T42 l0 x6_1).f0).length : Int) then 12 else (((rd_T42 l0 x6_1).f0).length : Int)) = ji6 := hji6
      by_cases c7 : 0 ≤ (ji6)
      ·rw [if_pos c7] at H
       have c7b0 := eq_true c7
       have c7b1 : decide (0 ≤ (ji6)) = true := decide_eq_true c7
       clear c7
       by_cases c8 : (ji6) ≤ (((rd_T42 l0 x6_1).f0).length : Int)
       ·rw [if_pos c8] at H
        have c8b0 := eq_true c8
        have c8b1 : decide ((ji6) ≤ (((rd_T42 l0 x6_1).f0).length : Int)) = true := decide_eq_true c8
        clear c8
        by_cases c9 : ([] : List Int).length + (((rd_T42 l0 x6_1).f0).take ((ji6) : Int).toNat).length < 17592186044416
        ·rw [if_pos c9] at H
         have LMc9 := Az.mk c9
         clear c9
         obtain ⟨y106, hy106⟩ : ∃ y_ : List Int, y_ = (([] : List Int) ++ (((rd_T42 l0 x6_1).f0).take ((ji6) : Int).toNat)) := ⟨_, rfl⟩
         replace H : (if 0 ≤ (mn (((rd_T42 l0 x6_1).f2).length : Int) 40) then (if (mn (((rd_T42 l0 x6_1).f2).length : Int) 40) ≤ (((rd_T42 l0 x6_1).f2).length : Int) then (if ([] : List Int).length + (((rd_T42 l0 x6_1).f2).take ((mn (((rd_T42 l0 x6_1).f2).length : Int) 40) : Int).toNat).length < 17592186044416 then (if x5_1.length < 2513169434916 then (nfT.l0 k1 l0 a1 (x5_1 ++ [(⟨y106, (rd_T42 l0 x6_1).f1, (([] : List Int) ++ (((rd_T42 l0 x6_1).f2).take ((mn (((rd_T42 l0 x6_1).f2).length : Int) 40) : Int).toNat))⟩ : S42)]) (wrap64 (x6_1 + 1))) else (none)) else (none)) else (none)) else (none)) = some r := by first | (rw [hy106]; with_reducible exact H) | (have H2_ := (Option.bind_some _ _).symm.trans H; rw [hy106]; with_reducible exact H2_) | (have H2_ := (Option.bind_some _ _).symm.trans H; with_reducible exact H2_) | with_reducible exact H | (rw [hy106]; exact H) | exact H
         have Ny106 := Az.mk hy106
         clear hy106
         obtain ⟨ji10, hji10⟩ : ∃ j_ : Int, (mn (((rd_T42 l0 x6_1).f2).length : Int) 40) = j_ := ⟨_, rfl⟩
         replace H : (if 0 ≤ (ji10) then (if (ji10) ≤ (((rd_T42 l0 x6_1).f2).length : Int) then (if ([] : List Int).length + (((rd_T42 l0 x6_1).f2).take ((ji10) : Int).toNat).length < 17592186044416 then (if x5_1.length < 2513169434916 then (nfT.l0 k1 l0 a1 (x5_1 ++ [(⟨y106, (rd_T42 l0 x6_1).f1, (([] : List Int) ++ (((rd_T42 l0 x6_1).f2).take ((ji10) : Int).toNat))⟩ : S42)]) (wrap64 (x6_1 + 1))) else (none)) else (none)) else (none)) else (none)) = some r := by first | (rw [hji10] at H; exact H) | (simp only [hji10] at H ⊢; exact H)
         have hji10_ : (if 40 < (((rd_T42 l0 x6_1).f2).length : Int) then 40 else (((rd_T42 l0 x6_1).f2).length : Int)) = ji10 := hji10
         by_cases c11 : 0 ≤ (ji10)
         ·rw [if_pos c11] at H
          have c11b0 := eq_true c11
          have c11b1 : decide (0 ≤ (ji10)) = true := decide_eq_true c11
          clear c11
          by_cases c12 : (ji10) ≤ (((rd_T42 l0 x6_1).f2).length : Int)
          ·rw [if_pos c12] at H
           have c12b0 := eq_true c12
           have c12b1 : decide ((ji10) ≤ (((rd_T42 l0 x6_1).f2).length : Int)) = true := decide_eq_true c12
           clear c12
           by_cases c13 : ([] : List Int).length + (((rd_T42 l0 x6_1).f2).take ((ji10) : Int).toNat).length < 17592186044416
           ·rw [if_pos c13] at H
            have LMc13 := Az.mk c13
            clear c13
            obtain ⟨y112, hy112⟩ : ∃ y_ : List Int, y_ = (([] : List Int) ++ (((rd_T42 l0 x6_1).f2).take ((ji10) : Int).toNat)) := ⟨_, rfl⟩
            replace H : (if x5_1.length < 2513169434916 then (nfT.l0 k1 l0 a1 (x5_1 ++ [(⟨y106, (rd_T42 l0 x6_1).f1, y112⟩ : S42)]) (wrap64 (x6_1 + 1))) else (none)) = some r := by first | (rw [hy112]; with_reducible exact H) | (have H2_ := (Option.bind_some _ _).symm.trans H; rw [hy112]; with_reducible exact H2_) | (have H2_ := (Option.bind_some _ _).symm.trans H; with_reducible exact H2_) | with_reducible exact H | (rw [hy112]; exact H) | exact H
            have Ny112 := Az.mk hy112
            clear hy112
            by_cases c14 : x5_1.length < 2513169434916
            ·rw [if_pos c14] at H
             have LMc14 := Az.mk c14
             clear c14
             obtain ⟨y115, hy115⟩ : ∃ y_ : List (S42), y_ = (x5_1 ++ [(⟨y106, (rd_T42 l0 x6_1).f1, y112⟩ : S42)]) := ⟨_, rfl⟩
             replace H : (nfT.l0 k1 l0 a1 y115 (wrap64 (x6_1 + 1))) = some r := by first | (rw [hy115]; with_reducible exact H) | (have H2_ := (Option.bind_some _ _).symm.trans H; rw [hy115]; with_reducible exact H2_) | (have H2_ := (Option.bind_some _ _).symm.trans H; with_reducible exact H2_) | with_reducible exact H | (rw [hy115]; exact H) | exact H
             have Ny115 := Az.mk hy115
             clear hy115
             have H' := Az.mk H
             clear H
             have p101 : 0 ≤ (x6_1 : Int) := of_decide_eq_true (by assumption)
             have q101 : x6_1 < (l0.length : Int) := of_decide_eq_true (by assumption)
             obtain ⟨ad101, A101_0, c101_0, A101_2, c101_2, e101, hx101_0, hx101_1, hx101_2, hl101_0, hi101_0, hl101_2, hi101_2⟩ := at_T42 HR0.out x6_1 p101 q101
             cases e101
             replace hx101_0 := (HB.out.cell (World.block_lt_of_cell? w _ hx101_0)).trans hx101_0
             replace hx101_1 := (HB.out.cell (World.block_lt_of_cell? w _ hx101_1)).trans hx101_1
             replace hx101_2 := (HB.out.cell (World.block_lt_of_cell? w _ hx101_2)).trans hx101_2
             have HR101_0 := Az.mk hi101_0
             have HC101_0 := Az.mk hl101_0
             clear hi101_0 hl101_0
             have HR101_2 := Az.mk hi101_2
             have HC101_2 := Az.mk hl101_2
             clear hi101_2 hl101_2
             replace p101 := eq_true p101
             replace q101 := eq_true q101
             try go_wp2_with (first | ((with_reducible refine gate_dst (N := 7) rfl ?_); refine box_event ?hg (N := 7) ?hd (cs := #[.slice none 0 0, .bool false, .slice none 0 0]) (t := 42) ?hr ?_; (case hd => rfl); (case hg => rfl); (case hr => first | (go_simp; done) | (go_simp; rfl)); intro gb102 hg w15 hbox hb; have n0_ := Az.mk (Kd.S_below (Kd.S_elderB (by (with_reducible repeat (first | apply Kd.S_alloc | apply Kd.S_drewN | apply Kd.S_drew)); exact HO_5.out) gb102 (Nat.le_of_eq hg.symm)) hb); have n1_ := Az.mk (bwt (by repeat (first | exact HB.out)) hb); have n2_ := Az.mk (hbox); have n3_ := Az.mk ((by rw [hg]; exact (below_size (by repeat (first | exact HB.out))) : w.heap.size ≤ gb102)); have n4_ := Az.mk ((by rw [hg]; exact (below_size (by repeat (first | exact HB.out))) : w.heap.size ≤ gb102)); clear HO_5; clear HB; have HO_5 := n0_; have HB := n1_; have BK102 := n2_; have GW102 := n3_; have GE102 := n4_; clear n0_ n1_ n2_ n3_ n4_; clear hb hbox hg; have hcz16_0 : w15.cell? ⟨gb102, 0, none⟩ = some (.slice none 0 0) := (bkc BK102.out 0).trans rfl; have hcz16_1 : w15.cell? ⟨gb102, 1, none⟩ = some (.bool false) := (bkc BK102.out 1).trans rfl; have hcz16_2 : w15.cell? ⟨gb102, 2, none⟩ = some (.slice none 0 0) := (bkc BK102.out 2).trans rfl; have hfz16_0 := bkf BK102.out 0; have hfz16_1 := bkf BK102.out 1; have hfz16_2 := bkf BK102.out 2))
             have n0_ : Az (Kd.S k42 42 (((w15.setCell ⟨gb102, 0, none⟩ (.slice none 0 0)).setCell ⟨gb102, 1, none⟩ (.bool ((rd_T42 l0 x6_1).f1))).setCell ⟨gb102, 2, none⟩ (.slice none 0 0)) w.heap.size (fun k_ => k_ ≠ gb102) u5 x5_1) := ⟨by (with_reducible repeat (first | apply Kd.S_alloc | apply Kd.S_drewN | apply Kd.S_drew)); exact Kd.S_mono (Kd.S_far (p := ⟨gb102, 2, none⟩) (Kd.S_far (p := ⟨gb102, 1, none⟩) (Kd.S_far (p := ⟨gb102, 0, none⟩) (Kd.S_mono HO_5.out (fun k_ hk => (⟨hk, hk.2⟩ : _ ∧ k_ ≠ gb102))) (fun _ hk => hk.2) (.slice none 0 0)) (fun _ hk => hk.2) (.bool ((rd_T42 l0 x6_1).f1))) (fun _ hk => hk.2) (.slice none 0 0)) (fun _ hk => hk.1.2)⟩
             have n1_ : Az ((((w15.setCell ⟨gb102, 0, none⟩ (.slice none 0 0)).setCell ⟨gb102, 1, none⟩ (.bool ((rd_T42 l0 x6_1).f1))).setCell ⟨gb102, 2, none⟩ (.slice none 0 0)).heap[gb102]? = some (.cells #[.slice none 0 0, .bool ((rd_T42 l0 x6_1).f1), .slice none 0 0] 42 (0, 0))) := ⟨by (with_reducible repeat (first | refine bkN ?_ _ | refine bkd ?_ | refine bka ?_ _)); refine blk_put (cs := #[.slice none 0 0, .bool ((rd_T42 l0 x6_1).f1), .slice none 0 0]) ?_ 2 _ rfl; (with_reducible repeat (first | refine bkN ?_ _ | refine bkd ?_ | refine bka ?_ _)); refine blk_put (cs := #[.slice none 0 0, .bool false, .slice none 0 0]) ?_ 1 _ rfl; (with_reducible repeat (first | refine bkN ?_ _ | refine bkd ?_ | refine bka ?_ _)); refine blk_put (cs := #[.slice none 0 0, .bool false, .slice none 0 0]) ?_ 0 _ rfl; (with_reducible repeat (first | refine bkN ?_ _ | refine bkd ?_ | refine bka ?_ _)); exact BK102.out⟩
             have n2_ : Az (Below w.heap.size w (((w15.setCell ⟨gb102, 0, none⟩ (.slice none 0 0)).setCell ⟨gb102, 1, none⟩ (.bool ((rd_T42 l0 x6_1).f1))).setCell ⟨gb102, 2, none⟩ (.slice none 0 0))) := ⟨by repeat (first | (with_reducible first | exact HB.out | apply bwa | apply pwN | apply bw1 | refine bws ?_ GE102.out) | exact HB.out)⟩
             (try clear HO_5)
             (try clear BK102)
             (try clear HB)
             generalize (((w15.setCell ⟨gb102, 0, none⟩ (.slice none 0 0)).setCell ⟨gb102, 1, none⟩ (.bool ((rd_T42 l0 x6_1).f1))).setCell ⟨gb102, 2, none⟩ (.slice none 0 0)) = w17 at n0_ n1_ n2_ ⊢
             have HO_5 := n0_
             have BK102 := n1_
             have HB := n2_
             clear n0_ n1_ n2_
             have n0_ := Az.mk (Kd.S_drew HO_5.out)
             have n1_ := Az.mk (bkd BK102.out)
             have n2_ := Az.mk (bw1 HB.out)
             clear HO_5
             clear BK102
             clear HB
             have HO_5 := n0_
             have BK102 := n1_
             have HB := n2_
             clear n0_ n1_ n2_
             have p103 : 0 ≤ (x6_1 : Int) := of_decide_eq_true (by assumption)
             have q103 : x6_1 < (l0.length : Int) := of_decide_eq_true (by assumption)
             obtain ⟨ad103, A103_0, c103_0, A103_2, c103_2, e103, hx103_0, hx103_1, hx103_2, hl103_0, hi103_0, hl103_2, hi103_2⟩ := at_T42 HR0.out x6_1 p103 q103
             have hw103_2 := hx103_2
             have hw103_1 := hx103_1
             have hw103_0 := hx103_0
             obtain rfl : ad101 = ad103 := (by injection e103)
             replace hx103_0 := (HB.out.cell (World.block_lt_of_cell? w _ hx103_0)).trans hx103_0
             replace hx103_1 := (HB.out.cell (World.block_lt_of_cell? w _ hx103_1)).trans hx103_1
             replace hx103_2 := (HB.out.cell (World.block_lt_of_cell? w _ hx103_2)).trans hx103_2
             have HR103_0 := Az.mk hi103_0
             have HC103_0 := Az.mk hl103_0
             clear hi103_0 hl103_0
             have HR103_2 := Az.mk hi103_2
             have HC103_2 := Az.mk hl103_2
             clear hi103_2 hl103_2
             replace p103 := eq_true p103
             replace q103 := eq_true q103
             have p104 : 0 ≤ (x6_1 : Int) := of_decide_eq_true (by assumption)
             have q104 : x6_1 < (l0.length : Int) := of_decide_eq_true (by assumption)
             obtain ⟨ad104, A104_0, c104_0, A104_2, c104_2, e104, hx104_0, hx104_1, hx104_2, hl104_0, hi104_0, hl104_2, hi104_2⟩ := at_T42 HR0.out x6_1 p104 q104
             have hw104_2 := hx104_2
             have hw104_1 := hx104_1
             have hw104_0 := hx104_0
             obtain rfl : ad101 = ad104 := (by injection e104)
             replace hx104_0 := (HB.out.cell (World.block_lt_of_cell? w _ hx104_0)).trans hx104_0
             replace hx104_1 := (HB.out.cell (World.block_lt_of_cell? w _ hx104_1)).trans hx104_1
             replace hx104_2 := (HB.out.cell (World.block_lt_of_cell? w _ hx104_2)).trans hx104_2
             have HR104_0 := Az.mk hi104_0
             have HC104_0 := Az.mk hl104_0
             clear hi104_0 hl104_0
             have HR104_2 := Az.mk hi104_2
             have HC104_2 := Az.mk hl104_2
             clear hi104_2 hl104_2
             replace p104 := eq_true p104
             replace q104 := eq_true q104
             have ea_ := Option.some.inj (hx103_0.symm.trans hx104_0)
             injection ea_ with ea_ en_ ec_
             subst ea_
             subst ec_
             clear en_
             have ea_ := Option.some.inj (hx103_2.symm.trans hx104_2)
             injection ea_ with ea_ en_ ec_
             subst ea_
             subst ec_
             clear en_
             obtain ⟨i019, hi019, _, hsz19, _⟩ := info_parts info3
             obtain ⟨hcut19, hA19, hC19⟩ := print_take_of (P := Tryz.prog) (Value.int .i64) 0 31 3 .i64 Tryz.underlying31 hi019 hsz19 A103_0 c103_0 ((rd_T42 l0 x6_1).f0) (ji6) (of_decide_eq_true (by assumption)) (of_decide_eq_true (by assumption)) HC103_0.out
             have HR105 := Az.mk (Kd.C_of_reads (h1 := fun _ => rfl) (hA19 _ (Kd.reads_of_C HR103_0.out)))
             have HC105 := Az.mk hC19
             clear hA19 hC19 hi019 hsz19
             refine start_ (n := 18) (S := fun w' => w'.cell? ⟨gb102, 0, none⟩ = some (.slice none 0 0) ∧ w'.cell? ⟨gb102, 1, none⟩ = some (.bool ((rd_T42 l0 x6_1).f1)) ∧ w'.cell? ⟨gb102, 2, none⟩ = some (.slice none 0 0) ∧ w'.cell? (ad101.add ((x6_1).toNat * 3)) = some (.slice A103_0 ((rd_T42 l0 x6_1).f0).length c103_0) ∧ w'.cell? ⟨(ad101.add ((x6_1).toNat * 3)).block, (ad101.add ((x6_1).toNat * 3)).off + 1, none⟩ = some (.bool ((rd_T42 l0 x6_1).f1)) ∧ w'.cell? ⟨(ad101.add ((x6_1).toNat * 3)).block, (ad101.add ((x6_1).toNat * 3)).off + 2, none⟩ = some (.slice A103_2 ((rd_T42 l0 x6_1).f2).length c103_2) ∧ w'.cell? (ad101.add ((x6_1).toNat * 3)) = some (.slice A103_0 ((rd_T42 l0 x6_1).f0).length c103_0) ∧ w'.cell? ⟨(ad101.add ((x6_1).toNat * 3)).block, (ad101.add ((x6_1).toNat * 3)).off + 1, none⟩ = some (.bool ((rd_T42 l0 x6_1).f1)) ∧ w'.cell? ⟨(ad101.add ((x6_1).toNat * 3)).block, (ad101.add ((x6_1).toNat * 3)).off + 2, none⟩ = some (.slice A103_2 ((rd_T42 l0 x6_1).f2).length c103_2)) (ds := [17]) #[false, false, false, false, false, false, false, false, false, false, false, false, false, false, false, false, false, false] (by kernel_rfl) rfl rfl ⟨(bkc BK102.out 0).trans rfl, (bkc BK102.out 1).trans rfl, (bkc BK102.out 2).trans rfl, (HB.out.zc hw103_0), (HB.out.zc hw103_1), (HB.out.zc hw103_2), (HB.out.zc hw104_0), (HB.out.zc hw104_1), (HB.out.zc hw104_2)⟩ (fun hHeld => ?_); refine with_tabW nfT.tab6 nfT.bits6 (fun HT_ HW_ => ?_)
             generalize w17.drew = w18 at HO_5 BK102 HB HR103_0 HR103_2 HR104_0 HR104_2 HR105 hx103_0 hx103_1 hx103_2 hx104_0 hx104_1 hx104_2 hHeld ⊢
             refine pure_ (i := 0) (N := some 25) (v := ?_) (a' := ?_) (bA 18 1) rfl rfl (aof HT_.out (by kernel_rfl)) (fun _ _ _ h => h) (Or.inl ⟨by rfl, ?_⟩) ?_ ?_
             rotate_left
             ·intro w'
              go_simp
              with_reducible rfl
             rotate_left
             ·simp only [Act.put, zq1, zq2, zq3, iw, jw]
              rfl
             refine pure_ (i := 2) (N := some 27) (v := ?_) (a' := ?_) (bA 18 5) rfl rfl (aof HT_.out (by kernel_rfl)) (fun _ _ _ h => h) (Or.inl ⟨by rfl, ?_⟩) ?_ ?_
             rotate_left
             ·intro w'
              go_simp
              with_reducible rfl
             rotate_left
             ·simp only [Act.put, zq1, zq2, zq3, iw, jw]
              rfl
             refine pure_ (i := 3) (N := some 28) (v := ?_) (a' := ?_) (bA 18 13) rfl rfl (aof HT_.out (by kernel_rfl)) (fun _ _ _ h => h) (Or.inl ⟨by rfl, ?_⟩) ?_ ?_
             rotate_left
             ·intro w'
              go_simp
              with_reducible rfl
             rotate_left
             ·simp only [Act.put, zq1, zq2, zq3, iw, jw]
              rfl
             refine pure_ (i := 4) (N := some 29) (v := ?_) (a' := ?_) (bA 18 29) rfl rfl (aof HT_.out (by kernel_rfl)) (fun _ _ _ h => h) (Or.inl ⟨by rfl, ?_⟩) ?_ ?_
             rotate_left
             ·intro w'
              go_simp
              with_reducible rfl
             rotate_left
             ·simp only [Act.put, zq1, zq2, zq3, iw, jw]
              rfl
             refine pure_ (i := 5) (N := some 30) (v := ?_) (a' := ?_) (bA 18 61) rfl rfl (aof HT_.out (by kernel_rfl)) (fun _ _ _ h => h) (Or.inl ⟨by rfl, ?_⟩) ?_ ?_
             rotate_left
             ·intro w'
              go_simp
              with_reducible rfl
             rotate_left
             ·simp only [Act.put, zq1, zq2, zq3, iw, jw]
              rfl
             refine pure_ (i := 7) (N := some 32) (v := ?_) (a' := ?_) (bA 18 189) rfl rfl (aof HT_.out (by kernel_rfl)) (fun _ _ _ h => h) (Or.inl ⟨by rfl, ?_⟩) ?_ ?_
             rotate_left
             ·intro w'
              go_simp
              with_reducible rfl
             rotate_left
             ·simp only [Act.put, zq1, zq2, zq3, iw, jw]
              rfl
             refine pure_ (i := 8) (N := some 33) (v := ?_) (a' := ?_) (bA 18 445) rfl rfl (aof HT_.out (by kernel_rfl)) (fun _ _ _ h => h) (Or.inl ⟨by rfl, ?_⟩) ?_ ?_
             rotate_left
             ·intro w'
              go_simp
              with_reducible rfl
             rotate_left
             ·simp only [Act.put, zq1, zq2, zq3, iw, jw]
              rfl
             refine pure_ (i := 9) (N := some 34) (v := ?_) (a' := ?_) (bA 18 957) rfl rfl (aof HT_.out (by kernel_rfl)) (fun _ _ _ h => h) (Or.inl ⟨by rfl, ?_⟩) ?_ ?_
             rotate_left
             ·intro w'
              go_simp
              with_reducible rfl
             rotate_left
             ·simp only [Act.put, zq1, zq2, zq3, iw, jw]
              rfl
             refine pure_ (i := 10) (N := some 35) (v := ?_) (a' := ?_) (bA 18 1981) rfl rfl (aof HT_.out (by kernel_rfl)) (fun _ _ _ h => h) (Or.inl ⟨by rfl, ?_⟩) ?_ ?_
             rotate_left
             ·intro w'
              go_simp
              with_reducible rfl
             rotate_left
             ·simp only [Act.put, zq1, zq2, zq3, iw, jw]
              rfl
             refine take_ (i := 1) (N := some 26) (v := ?_) (a' := ?_) (bA 18 1983) rfl rfl (tof HT_.out HW_.out (by kernel_rfl)) (fun _ _ _ h => h) (Or.inl ⟨by rfl, ?_⟩) hHeld ?_ ?_
             rotate_left
             ·rintro w' ⟨s0, s1, s2, s3, s4, s5, s6, s7, s8⟩
              go_simp
              with_reducible rfl
             rotate_left
             ·simp only [Act.put, zq1, zq2, zq3, iw, jw]
              rfl
             refine take_ (i := 6) (N := some 31) (v := ?_) (a' := ?_) (bA 18 2047) rfl rfl (tof HT_.out HW_.out (by kernel_rfl)) (fun _ _ _ h => h) (Or.inl ⟨by rfl, ?_⟩) hHeld ?_ ?_
             rotate_left
             ·rintro w' ⟨s0, s1, s2, s3, s4, s5, s6, s7, s8⟩
              go_simp
              with_reducible rfl
             rotate_left
             ·simp only [Act.put, zq1, zq2, zq3, iw, jw]
              rfl
             refine take_ (i := 11) (N := some 36) (v := ?_) (a' := ?_) (bA 18 4095) rfl rfl (tof HT_.out HW_.out (by kernel_rfl)) (fun _ _ _ h => h) (Or.inl ⟨by rfl, ?_⟩) hHeld ?_ ?_
             rotate_left
             ·rintro w' ⟨s0, s1, s2, s3, s4, s5, s6, s7, s8⟩
              go_simp
              with_reducible rfl
             rotate_left
             ·simp only [Act.put, zq1, zq2, zq3, iw, jw]
              rfl
             refine pure_ (i := 12) (N := some 37) (v := ?_) (a' := ?_) (bA 18 8191) rfl rfl (aof HT_.out (by kernel_rfl)) (fun _ _ _ h => h) (Or.inl ⟨by rfl, ?_⟩) ?_ ?_
             rotate_left
             ·intro w'
              go_simp
              with_reducible rfl
             rotate_left
             ·simp only [Act.put, zq1, zq2, zq3, iw, jw]
              rfl
             refine pure_ (i := 13) (N := some 38) (v := ?_) (a' := ?_) (bA 18 16383) rfl rfl (aof HT_.out (by kernel_rfl)) (fun _ _ _ h => h) (Or.inl ⟨by rfl, ?_⟩) ?_ ?_
             rotate_left
             ·intro w'
              go_simp
              with_reducible rfl
             rotate_left
             ·simp only [Act.put, zq1, zq2, zq3, iw, jw]
              rfl
             refine pure_ (i := 14) (N := some 39) (v := ?_) (a' := ?_) (bA 18 32767) rfl rfl (aof HT_.out (by kernel_rfl)) (fun _ _ _ h => h) (Or.inl ⟨by rfl, ?_⟩) ?_ ?_
             rotate_left
             ·intro w'
              go_simp
              with_reducible rfl
             rotate_left
             ·simp only [Act.put, zq1, zq2, zq3, iw, jw]
              rfl
             refine one_ (i := 15) (N := some 40) (bA 18 65535) rfl rfl (one_of HT_.out (by kernel_rfl)) (by decide) (fun K hK => ?_)
             refine Kd.R_append_rows_step (Kd.int .i64) (w0 := w) w.heap.size (by rfl) (.tmp 26) (.tmp 39) 31 3 (.int .i64 0) 8 rfl Tryz.underlying31 info3 rfl (by decide) (by omega) (.slice none 0 0) ([] : List Int) (((rd_T42 l0 x6_1).f0).take ((ji6) : Int).toNat) _ _ _ (fun _ => True) (fun _ => False) rfl rfl ?aO ?aR (fun _ _ h => h) (fun _ h => h.elim) ?aF ?aB ?aS ?aL ?_
             (case aR => have hq_ := (Kd.C_below HR105.out HB.out); rw [show (((rd_T42 l0 x6_1).f0).take ((ji6) : Int).toNat).length = (ji6).toNat from (by rw [List.length_take]; have h_ : ((ji6) : Int) ≤ (((rd_T42 l0 x6_1).f0).length : Int) := of_decide_eq_true (by assumption); omega)] at hq_; exact hq_)
             (case aB => exact (by repeat (first | (with_reducible first | exact HB.out | apply bwa | apply pwN | apply bw1 | refine bws ?_ GE102.out) | exact HB.out)))
             (case aF => exact (fun _ _ => trivial))
             (case aO => exact ((Kd.R_nil _ _ _ _ (fun _ => True))))
             (case aS => exact (below_size (by repeat (first | (with_reducible first | exact HB.out | apply bwa | apply pwN | apply bw1 | refine bws ?_ GE102.out) | exact HB.out))))
             (case aL => have := LMc9.out; have hlx_ := (show (((rd_T42 l0 x6_1).f0).take ((ji6) : Int).toNat).length = (ji6).toNat from (by rw [List.length_take]; have h_ : ((ji6) : Int) ≤ (((rd_T42 l0 x6_1).f0).length : Int) := of_decide_eq_true (by assumption); omega)); omega)
             intro v107 w20 ho hb hg hat
             rw [← Ny106.out] at ho
             have n0_ := Az.mk (Kd.S_after (Kd.S_apart_nil (by (with_reducible repeat (first | apply Kd.S_alloc | apply Kd.S_drewN | apply Kd.S_drew)); exact HO_5.out)) hg hat)
             have n1_ := Az.mk (bkg (g := gb102) (o := .cells #[.slice none 0 0, .bool ((rd_T42 l0 x6_1).f1), .slice none 0 0] 42 (0, 0)) (by (with_reducible repeat (first | refine bkN ?_ _ | refine bkd ?_ | refine bka ?_ _)); exact BK102.out) hg (by simp [Value.ownBlock]))
             have n2_ := Az.mk (hb)
             have n3_ := Az.mk (ho)
             clear HO_5
             clear BK102
             clear HB
             have HO_5 := n0_
             have BK102 := n1_
             have HB := n2_
             have HO108 := n3_
             clear n0_ n1_ n2_ n3_
             clear ho hb hg hat
             obtain ⟨Ao21, co21, eo21⟩ := Kd.R_slice HO108.out
             (first | subst eo21 | (injection eo21 with f1_ f2_ f3_; have f4_ := f1_.symm; have f5_ := f3_.symm; clear f1_ f2_ f3_; subst f4_; subst f5_))
             refine hK.out _ _ ⟨(bkc BK102.out 0).trans rfl, (bkc BK102.out 1).trans rfl, (bkc BK102.out 2).trans rfl, (HB.out.zc hw103_0), (HB.out.zc hw103_1), (HB.out.zc hw103_2), (HB.out.zc hw104_0), (HB.out.zc hw104_1), (HB.out.zc hw104_2)⟩ (fun hHeld => ?_)
             clear hK K
             refine norm_ (a' := ?_) ?_ ?_
             rotate_left
             ·show Act.put _ (some 40) _ = _
              simp only [Act.put, zq1, zq2, zq3, iw, jw]
              rfl
             refine pure_ (i := 16) (N := some 41) (v := ?_) (a' := ?_) (bA 18 131071) rfl rfl (aof HT_.out (by kernel_rfl)) (fun _ _ _ h => h) (Or.inl ⟨by rfl, ?_⟩) ?_ ?_
             rotate_left
             ·intro w'
              go_simp
              with_reducible rfl
             rotate_left
             ·simp only [Act.put, zq1, zq2, zq3, iw, jw]
              rfl
             refine last_ (i := 17) (N := none) (bA 18 262143) rfl rfl (one_of HT_.out (by kernel_rfl)) (by decide) (fun K hK => ?_)
             have hs22 : w20.cell? ⟨gb102, 0, none⟩ = some (.slice none 0 0) := (bkc BK102.out 0).trans rfl
             have hfs22 := bkf BK102.out 0
             refine skip_ (w1 := ?_) (by rfl) rfl ?_ ?_
             rotate_left
             ·go_simp
              rfl
             refine hK.out _ _ ?_
             clear hK K
             refine done_ (done_of HT_.out (by kernel_rfl)) ?_
             try go_wp2
             have n0_ : Az (Kd.S k42 42 (w20.setCell ⟨gb102, 0, none⟩ (.slice Ao21 y106.length co21)) w.heap.size (fun k_ => some k_ ≠ (.slice Ao21 y106.length co21 : Value).ownBlock ∧ k_ ≠ gb102) u5 x5_1) := ⟨by (with_reducible repeat (first | apply Kd.S_alloc | apply Kd.S_drewN | apply Kd.S_drew)); exact Kd.S_mono (Kd.S_far (p := ⟨gb102, 0, none⟩) (Kd.S_mono HO_5.out (fun k_ hk => (⟨hk, hk.1⟩ : _ ∧ k_ ≠ gb102))) (fun _ hk => hk.2) (.slice Ao21 y106.length co21)) (fun _ hk => ⟨hk.1.2, hk.1.1⟩)⟩
             have n1_ : Az (Kd.R (Kd.int .i64) 3 (w20.setCell ⟨gb102, 0, none⟩ (.slice Ao21 y106.length co21)) w.heap.size (fun _ => True) (.slice Ao21 y106.length co21) y106) := ⟨by (with_reducible repeat (first | apply Kd.R_alloc | apply Kd.R_drewN | apply Kd.R_drew)); exact Kd.R_mono (Kd.R_far (p := ⟨gb102, 0, none⟩) (Kd.R_types HO108.out BK102.out (by decide)) (fun _ hk => hk.2) (.slice Ao21 y106.length co21)) (fun _ hk => trivial)⟩
             have n2_ : Az ((w20.setCell ⟨gb102, 0, none⟩ (.slice Ao21 y106.length co21)).heap[gb102]? = some (.cells #[.slice Ao21 y106.length co21, .bool ((rd_T42 l0 x6_1).f1), .slice none 0 0] 42 (0, 0))) := ⟨by (with_reducible repeat (first | refine bkN ?_ _ | refine bkd ?_ | refine bka ?_ _)); refine blk_put (cs := #[.slice none 0 0, .bool ((rd_T42 l0 x6_1).f1), .slice none 0 0]) ?_ 0 _ rfl; (with_reducible repeat (first | refine bkN ?_ _ | refine bkd ?_ | refine bka ?_ _)); exact BK102.out⟩
             have n3_ : Az (Below w.heap.size w (w20.setCell ⟨gb102, 0, none⟩ (.slice Ao21 y106.length co21))) := ⟨by repeat (first | (with_reducible first | exact HB.out | apply bwa | apply pwN | apply bw1 | refine bws ?_ GE102.out) | exact HB.out)⟩
             (try clear HO_5)
             (try clear HO108)
             (try clear BK102)
             (try clear HB)
             generalize (w20.setCell ⟨gb102, 0, none⟩ (.slice Ao21 y106.length co21)) = w23 at n0_ n1_ n2_ n3_ ⊢
             have HO_5 := n0_
             have HO108 := n1_
             have BK102 := n2_
             have HB := n3_
             clear n0_ n1_ n2_ n3_
             have n0_ := Az.mk (Kd.S_drew HO_5.out)
             have n1_ := Az.mk (Kd.R_drew HO108.out)
             have n2_ := Az.mk (bkd BK102.out)
             have n3_ := Az.mk (bw1 HB.out)
             clear HO_5
             clear HO108
             clear BK102
             clear HB
             have HO_5 := n0_
             have HO108 := n1_
             have BK102 := n2_
             have HB := n3_
             clear n0_ n1_ n2_ n3_
             have p109 : 0 ≤ (x6_1 : Int) := of_decide_eq_true (by assumption)
             have q109 : x6_1 < (l0.length : Int) := of_decide_eq_true (by assumption)
             obtain ⟨ad109, A109_0, c109_0, A109_2, c109_2, e109, hx109_0, hx109_1, hx109_2, hl109_0, hi109_0, hl109_2, hi109_2⟩ := at_T42 HR0.out x6_1 p109 q109
             have hw109_2 := hx109_2
             have hw109_1 := hx109_1
             have hw109_0 := hx109_0
             obtain rfl : ad101 = ad109 := (by injection e109)
             replace hx109_0 := (HB.out.cell (World.block_lt_of_cell? w _ hx109_0)).trans hx109_0
             replace hx109_1 := (HB.out.cell (World.block_lt_of_cell? w _ hx109_1)).trans hx109_1
             replace hx109_2 := (HB.out.cell (World.block_lt_of_cell? w _ hx109_2)).trans hx109_2
             have HR109_0 := Az.mk hi109_0
             have HC109_0 := Az.mk hl109_0
             clear hi109_0 hl109_0
             have HR109_2 := Az.mk hi109_2
             have HC109_2 := Az.mk hl109_2
             clear hi109_2 hl109_2
             replace p109 := eq_true p109
             replace q109 := eq_true q109
             have p110 : 0 ≤ (x6_1 : Int) := of_decide_eq_true (by assumption)
             have q110 : x6_1 < (l0.length : Int) := of_decide_eq_true (by assumption)
             obtain ⟨ad110, A110_0, c110_0, A110_2, c110_2, e110, hx110_0, hx110_1, hx110_2, hl110_0, hi110_0, hl110_2, hi110_2⟩ := at_T42 HR0.out x6_1 p110 q110
             have hw110_2 := hx110_2
             have hw110_1 := hx110_1
             have hw110_0 := hx110_0
             obtain rfl : ad101 = ad110 := (by injection e110)
             replace hx110_0 := (HB.out.cell (World.block_lt_of_cell? w _ hx110_0)).trans hx110_0
             replace hx110_1 := (HB.out.cell (World.block_lt_of_cell? w _ hx110_1)).trans hx110_1
             replace hx110_2 := (HB.out.cell (World.block_lt_of_cell? w _ hx110_2)).trans hx110_2
             have HR110_0 := Az.mk hi110_0
             have HC110_0 := Az.mk hl110_0
             clear hi110_0 hl110_0
             have HR110_2 := Az.mk hi110_2
             have HC110_2 := Az.mk hl110_2
             clear hi110_2 hl110_2
             replace p110 := eq_true p110
             replace q110 := eq_true q110
             have ea_ := Option.some.inj (hx109_0.symm.trans hx110_0)
             injection ea_ with ea_ en_ ec_
             subst ea_
             subst ec_
             clear en_
             have ea_ := Option.some.inj (hx109_2.symm.trans hx110_2)
             injection ea_ with ea_ en_ ec_
             subst ea_
             subst ec_
             clear en_
             obtain ⟨i025, hi025, _, hsz25, _⟩ := info_parts info3
             obtain ⟨hcut25, hA25, hC25⟩ := print_take_of (P := Tryz.prog) (Value.int .i64) 0 31 3 .i64 Tryz.underlying31 hi025 hsz25 A109_2 c109_2 ((rd_T42 l0 x6_1).f2) (ji10) (of_decide_eq_true (by assumption)) (of_decide_eq_true (by assumption)) HC109_2.out
             have HR111 := Az.mk (Kd.C_of_reads (h1 := fun _ => rfl) (hA25 _ (Kd.reads_of_C HR109_2.out)))
             have HC111 := Az.mk hC25
             clear hA25 hC25 hi025 hsz25
             refine start_ (n := 18) (S := fun w' => w'.cell? ⟨gb102, 0, none⟩ = some (.slice Ao21 y106.length co21) ∧ w'.cell? ⟨gb102, 1, none⟩ = some (.bool ((rd_T42 l0 x6_1).f1)) ∧ w'.cell? ⟨gb102, 2, none⟩ = some (.slice none 0 0) ∧ w'.cell? (ad101.add ((x6_1).toNat * 3)) = some (.slice A109_0 ((rd_T42 l0 x6_1).f0).length c109_0) ∧ w'.cell? ⟨(ad101.add ((x6_1).toNat * 3)).block, (ad101.add ((x6_1).toNat * 3)).off + 1, none⟩ = some (.bool ((rd_T42 l0 x6_1).f1)) ∧ w'.cell? ⟨(ad101.add ((x6_1).toNat * 3)).block, (ad101.add ((x6_1).toNat * 3)).off + 2, none⟩ = some (.slice A109_2 ((rd_T42 l0 x6_1).f2).length c109_2) ∧ w'.cell? (ad101.add ((x6_1).toNat * 3)) = some (.slice A109_0 ((rd_T42 l0 x6_1).f0).length c109_0) ∧ w'.cell? ⟨(ad101.add ((x6_1).toNat * 3)).block, (ad101.add ((x6_1).toNat * 3)).off + 1, none⟩ = some (.bool ((rd_T42 l0 x6_1).f1)) ∧ w'.cell? ⟨(ad101.add ((x6_1).toNat * 3)).block, (ad101.add ((x6_1).toNat * 3)).off + 2, none⟩ = some (.slice A109_2 ((rd_T42 l0 x6_1).f2).length c109_2)) (ds := [17]) #[false, false, false, false, false, false, false, false, false, false, false, false, false, false, false, false, false, false] (by kernel_rfl) rfl rfl ⟨(bkc BK102.out 0).trans rfl, (bkc BK102.out 1).trans rfl, (bkc BK102.out 2).trans rfl, (HB.out.zc hw109_0), (HB.out.zc hw109_1), (HB.out.zc hw109_2), (HB.out.zc hw110_0), (HB.out.zc hw110_1), (HB.out.zc hw110_2)⟩ (fun hHeld => ?_); refine with_tabW nfT.tab7 nfT.bits7 (fun HT_ HW_ => ?_)
             generalize w23.drew = w24 at HO_5 HO108 BK102 HB HR109_0 HR109_2 HR110_0 HR110_2 HR111 hx109_0 hx109_1 hx109_2 hx110_0 hx110_1 hx110_2 hHeld ⊢
             refine pure_ (i := 0) (N := some 42) (v := ?_) (a' := ?_) (bA 18 1) rfl rfl (aof HT_.out (by kernel_rfl)) (fun _ _ _ h => h) (Or.inl ⟨by rfl, ?_⟩) ?_ ?_
             rotate_left
             ·intro w'
              go_simp
              with_reducible rfl
             rotate_left
             ·simp only [Act.put, zq1, zq2, zq3, iw, jw]
              rfl
             refine pure_ (i := 2) (N := some 44) (v := ?_) (a' := ?_) (bA 18 5) rfl rfl (aof HT_.out (by kernel_rfl)) (fun _ _ _ h => h) (Or.inl ⟨by rfl, ?_⟩) ?_ ?_
             rotate_left
             ·intro w'
              go_simp
              with_reducible rfl
             rotate_left
             ·simp only [Act.put, zq1, zq2, zq3, iw, jw]
              rfl
             refine pure_ (i := 3) (N := some 45) (v := ?_) (a' := ?_) (bA 18 13) rfl rfl (aof HT_.out (by kernel_rfl)) (fun _ _ _ h => h) (Or.inl ⟨by rfl, ?_⟩) ?_ ?_
             rotate_left
             ·intro w'
              go_simp
              with_reducible rfl
             rotate_left
             ·simp only [Act.put, zq1, zq2, zq3, iw, jw]
              rfl
             refine pure_ (i := 4) (N := some 46) (v := ?_) (a' := ?_) (bA 18 29) rfl rfl (aof HT_.out (by kernel_rfl)) (fun _ _ _ h => h) (Or.inl ⟨by rfl, ?_⟩) ?_ ?_
             rotate_left
             ·intro w'
              go_simp
              with_reducible rfl
             rotate_left
             ·simp only [Act.put, zq1, zq2, zq3, iw, jw]
              rfl
             refine pure_ (i := 5) (N := some 47) (v := ?_) (a' := ?_) (bA 18 61) rfl rfl (aof HT_.out (by kernel_rfl)) (fun _ _ _ h => h) (Or.inl ⟨by rfl, ?_⟩) ?_ ?_
             rotate_left
             ·intro w'
              go_simp
              with_reducible rfl
             rotate_left
             ·simp only [Act.put, zq1, zq2, zq3, iw, jw]
              rfl
             refine pure_ (i := 7) (N := some 49) (v := ?_) (a' := ?_) (bA 18 189) rfl rfl (aof HT_.out (by kernel_rfl)) (fun _ _ _ h => h) (Or.inl ⟨by rfl, ?_⟩) ?_ ?_
             rotate_left
             ·intro w'
              go_simp
              with_reducible rfl
             rotate_left
             ·simp only [Act.put, zq1, zq2, zq3, iw, jw]
              rfl
             refine pure_ (i := 8) (N := some 50) (v := ?_) (a' := ?_) (bA 18 445) rfl rfl (aof HT_.out (by kernel_rfl)) (fun _ _ _ h => h) (Or.inl ⟨by rfl, ?_⟩) ?_ ?_
             rotate_left
             ·intro w'
              go_simp
              with_reducible rfl
             rotate_left
             ·simp only [Act.put, zq1, zq2, zq3, iw, jw]
              rfl
             refine pure_ (i := 9) (N := some 51) (v := ?_) (a' := ?_) (bA 18 957) rfl rfl (aof HT_.out (by kernel_rfl)) (fun _ _ _ h => h) (Or.inl ⟨by rfl, ?_⟩) ?_ ?_
             rotate_left
             ·intro w'
              go_simp
              with_reducible rfl
             rotate_left
             ·simp only [Act.put, zq1, zq2, zq3, iw, jw]
              rfl
             refine pure_ (i := 10) (N := some 52) (v := ?_) (a' := ?_) (bA 18 1981) rfl rfl (aof HT_.out (by kernel_rfl)) (fun _ _ _ h => h) (Or.inl ⟨by rfl, ?_⟩) ?_ ?_
             rotate_left
             ·intro w'
              go_simp
              with_reducible rfl
             rotate_left
             ·simp only [Act.put, zq1, zq2, zq3, iw, jw]
              rfl
             refine take_ (i := 1) (N := some 43) (v := ?_) (a' := ?_) (bA 18 1983) rfl rfl (tof HT_.out HW_.out (by kernel_rfl)) (fun _ _ _ h => h) (Or.inl ⟨by rfl, ?_⟩) hHeld ?_ ?_
             rotate_left
             ·rintro w' ⟨s0, s1, s2, s3, s4, s5, s6, s7, s8⟩
              go_simp
              with_reducible rfl
             rotate_left
             ·simp only [Act.put, zq1, zq2, zq3, iw, jw]
              rfl
             refine take_ (i := 6) (N := some 48) (v := ?_) (a' := ?_) (bA 18 2047) rfl rfl (tof HT_.out HW_.out (by kernel_rfl)) (fun _ _ _ h => h) (Or.inl ⟨by rfl, ?_⟩) hHeld ?_ ?_
             rotate_left
             ·rintro w' ⟨s0, s1, s2, s3, s4, s5, s6, s7, s8⟩
              go_simp
              with_reducible rfl
             rotate_left
             ·simp only [Act.put, zq1, zq2, zq3, iw, jw]
              rfl
             refine take_ (i := 11) (N := some 53) (v := ?_) (a' := ?_) (bA 18 4095) rfl rfl (tof HT_.out HW_.out (by kernel_rfl)) (fun _ _ _ h => h) (Or.inl ⟨by rfl, ?_⟩) hHeld ?_ ?_
             rotate_left
             ·rintro w' ⟨s0, s1, s2, s3, s4, s5, s6, s7, s8⟩
              go_simp
              with_reducible rfl
             rotate_left
             ·simp only [Act.put, zq1, zq2, zq3, iw, jw]
              rfl
             refine pure_ (i := 12) (N := some 54) (v := ?_) (a' := ?_) (bA 18 8191) rfl rfl (aof HT_.out (by kernel_rfl)) (fun _ _ _ h => h) (Or.inl ⟨by rfl, ?_⟩) ?_ ?_
             rotate_left
             ·intro w'
              go_simp
              with_reducible rfl
             rotate_left
             ·simp only [Act.put, zq1, zq2, zq3, iw, jw]
              rfl
             refine pure_ (i := 13) (N := some 55) (v := ?_) (a' := ?_) (bA 18 16383) rfl rfl (aof HT_.out (by kernel_rfl)) (fun _ _ _ h => h) (Or.inl ⟨by rfl, ?_⟩) ?_ ?_
             rotate_left
             ·intro w'
              go_simp
              with_reducible rfl
             rotate_left
             ·simp only [Act.put, zq1, zq2, zq3, iw, jw]
              rfl
             refine pure_ (i := 14) (N := some 56) (v := ?_) (a' := ?_) (bA 18 32767) rfl rfl (aof HT_.out (by kernel_rfl)) (fun _ _ _ h => h) (Or.inl ⟨by rfl, ?_⟩) ?_ ?_
             rotate_left
             ·intro w'
              go_simp
              with_reducible rfl
             rotate_left
             ·simp only [Act.put, zq1, zq2, zq3, iw, jw]
              rfl
             refine one_ (i := 15) (N := some 57) (bA 18 65535) rfl rfl (one_of HT_.out (by kernel_rfl)) (by decide) (fun K hK => ?_)
             refine Kd.R_append_rows_step (Kd.int .i64) (w0 := w) w.heap.size (by rfl) (.tmp 43) (.tmp 56) 31 3 (.int .i64 0) 8 rfl Tryz.underlying31 info3 rfl (by decide) (by omega) (.slice none 0 0) ([] : List Int) (((rd_T42 l0 x6_1).f2).take ((ji10) : Int).toNat) _ _ _ (fun k_ => some k_ ≠ (.slice Ao21 y106.length co21 : Value).ownBlock) (fun _ => False) rfl rfl ?aO ?aR (fun _ _ h => h) (fun _ h => h.elim) ?aF ?aB ?aS ?aL ?_
             (case aR => have hq_ := (Kd.C_below HR111.out HB.out); rw [show (((rd_T42 l0 x6_1).f2).take ((ji10) : Int).toNat).length = (ji10).toNat from (by rw [List.length_take]; have h_ : ((ji10) : Int) ≤ (((rd_T42 l0 x6_1).f2).length : Int) := of_decide_eq_true (by assumption); omega)] at hq_; exact hq_)
             (case aB => exact (by repeat (first | (with_reducible first | exact HB.out | apply bwa | apply pwN | apply bw1 | refine bws ?_ GE102.out) | exact HB.out)))
             (case aF => exact (fun k_ hk => Kd.fresh' (Kd.R_lt (by (with_reducible repeat (first | apply Kd.R_alloc | apply Kd.R_drewN | apply Kd.R_drew)); exact HO108.out)) k_ hk))
             (case aO => exact ((Kd.R_nil _ _ _ _ (fun k_ => some k_ ≠ (.slice Ao21 y106.length co21 : Value).ownBlock))))
             (case aS => exact (below_size (by repeat (first | (with_reducible first | exact HB.out | apply bwa | apply pwN | apply bw1 | refine bws ?_ GE102.out) | exact HB.out))))
             (case aL => have := LMc13.out; have hlx_ := (show (((rd_T42 l0 x6_1).f2).take ((ji10) : Int).toNat).length = (ji10).toNat from (by rw [List.length_take]; have h_ : ((ji10) : Int) ≤ (((rd_T42 l0 x6_1).f2).length : Int) := of_decide_eq_true (by assumption); omega)); omega)
             intro v113 w26 ho hb hg hat
             rw [← Ny112.out] at ho
             have n0_ := Az.mk (Kd.S_after (Kd.S_apart_nil (by (with_reducible repeat (first | apply Kd.S_alloc | apply Kd.S_drewN | apply Kd.S_drew)); exact HO_5.out)) hg hat)
             have n1_ := Az.mk (bkg (g := gb102) (o := .cells #[.slice Ao21 y106.length co21, .bool ((rd_T42 l0 x6_1).f1), .slice none 0 0] 42 (0, 0)) (by (with_reducible repeat (first | refine bkN ?_ _ | refine bkd ?_ | refine bka ?_ _)); exact BK102.out) hg (by simp [Value.ownBlock]))
             have n2_ := Az.mk (Kd.R_after (Kd.R_apart_nil (by (with_reducible repeat (first | apply Kd.R_alloc | apply Kd.R_drewN | apply Kd.R_drew)); exact HO108.out)) hg hat)
             have n3_ := Az.mk (hb)
             have n4_ := Az.mk (ho)
             clear HO_5
             clear BK102
             clear HO108
             clear HB
             have HO_5 := n0_
             have BK102 := n1_
             have HO108 := n2_
             have HB := n3_
             have HO114 := n4_
             clear n0_ n1_ n2_ n3_ n4_
             clear ho hb hg hat
             obtain ⟨Ao27, co27, eo27⟩ := Kd.R_slice HO114.out
             (first | subst eo27 | (injection eo27 with f1_ f2_ f3_; have f4_ := f1_.symm; have f5_ := f3_.symm; clear f1_ f2_ f3_; subst f4_; subst f5_))
             refine hK.out _ _ ⟨(bkc BK102.out 0).trans rfl, (bkc BK102.out 1).trans rfl, (bkc BK102.out 2).trans rfl, (HB.out.zc hw109_0), (HB.out.zc hw109_1), (HB.out.zc hw109_2), (HB.out.zc hw110_0), (HB.out.zc hw110_1), (HB.out.zc hw110_2)⟩ (fun hHeld => ?_)
             clear hK K
             refine norm_ (a' := ?_) ?_ ?_
             rotate_left
             ·show Act.put _ (some 57) _ = _
              simp only [Act.put, zq1, zq2, zq3, iw, jw]
              rfl
             refine pure_ (i := 16) (N := some 58) (v := ?_) (a' := ?_) (bA 18 131071) rfl rfl (aof HT_.out (by kernel_rfl)) (fun _ _ _ h => h) (Or.inl ⟨by rfl, ?_⟩) ?_ ?_
             rotate_left
             ·intro w'
              go_simp
              with_reducible rfl
             rotate_left
             ·simp only [Act.put, zq1, zq2, zq3, iw, jw]
              rfl
             refine last_ (i := 17) (N := none) (bA 18 262143) rfl rfl (one_of HT_.out (by kernel_rfl)) (by decide) (fun K hK => ?_)
             have hs28 : w26.cell? ⟨gb102, 2, none⟩ = some (.slice none 0 0) := (bkc BK102.out 2).trans rfl
             have hfs28 := bkf BK102.out 2
             refine skip_ (w1 := ?_) (by rfl) rfl ?_ ?_
             rotate_left
             ·go_simp
              rfl
             refine hK.out _ _ ?_
             clear hK K
             refine done_ (done_of HT_.out (by kernel_rfl)) ?_
             have n0_ : Az (Kd.S k42 42 (w26.setCell ⟨gb102, 2, none⟩ (.slice Ao27 y112.length co27)) w.heap.size (fun k_ => some k_ ≠ (.slice Ao21 y106.length co21 : Value).ownBlock ∧ some k_ ≠ (.slice Ao27 y112.length co27 : Value).ownBlock ∧ k_ ≠ gb102) u5 x5_1) := ⟨by (with_reducible repeat (first | apply Kd.S_alloc | apply Kd.S_drewN | apply Kd.S_drew)); exact Kd.S_mono (Kd.S_far (p := ⟨gb102, 2, none⟩) (Kd.S_mono HO_5.out (fun k_ hk => (⟨hk, hk.1.2⟩ : _ ∧ k_ ≠ gb102))) (fun _ hk => hk.2) (.slice Ao27 y112.length co27)) (fun _ hk => ⟨hk.1.1.1, ⟨hk.1.2, hk.1.1.2⟩⟩)⟩
             have n1_ : Az (Kd.R (Kd.int .i64) 3 (w26.setCell ⟨gb102, 2, none⟩ (.slice Ao27 y112.length co27)) w.heap.size (fun k_ => some k_ ≠ (.slice Ao27 y112.length co27 : Value).ownBlock) (.slice Ao21 y106.length co21) y106) := ⟨by (with_reducible repeat (first | apply Kd.R_alloc | apply Kd.R_drewN | apply Kd.R_drew)); exact Kd.R_mono (Kd.R_far (p := ⟨gb102, 2, none⟩) (Kd.R_types HO108.out BK102.out (by decide)) (fun _ hk => hk.2) (.slice Ao27 y112.length co27)) (fun _ hk => hk.1.2)⟩
             have n2_ : Az (Kd.R (Kd.int .i64) 3 (w26.setCell ⟨gb102, 2, none⟩ (.slice Ao27 y112.length co27)) w.heap.size (fun k_ => some k_ ≠ (.slice Ao21 y106.length co21 : Value).ownBlock) (.slice Ao27 y112.length co27) y112) := ⟨by (with_reducible repeat (first | apply Kd.R_alloc | apply Kd.R_drewN | apply Kd.R_drew)); exact Kd.R_mono (Kd.R_far (p := ⟨gb102, 2, none⟩) (Kd.R_types HO114.out BK102.out (by decide)) (fun _ hk => hk.2) (.slice Ao27 y112.length co27)) (fun _ hk => hk.1)⟩
             have n3_ : Az ((w26.setCell ⟨gb102, 2, none⟩ (.slice Ao27 y112.length co27)).heap[gb102]? = some (.cells #[.slice Ao21 y106.length co21, .bool ((rd_T42 l0 x6_1).f1), .slice Ao27 y112.length co27] 42 (0, 0))) := ⟨by (with_reducible repeat (first | refine bkN ?_ _ | refine bkd ?_ | refine bka ?_ _)); refine blk_put (cs := #[.slice Ao21 y106.length co21, .bool ((rd_T42 l0 x6_1).f1), .slice none 0 0]) ?_ 2 _ rfl; (with_reducible repeat (first | refine bkN ?_ _ | refine bkd ?_ | refine bka ?_ _)); exact BK102.out⟩
             have n4_ : Az (Below w.heap.size w (w26.setCell ⟨gb102, 2, none⟩ (.slice Ao27 y112.length co27))) := ⟨by repeat (first | (with_reducible first | exact HB.out | apply bwa | apply pwN | apply bw1 | refine bws ?_ GE102.out) | exact HB.out)⟩
             (try clear HO_5)
             (try clear HO108)
             (try clear HO114)
             (try clear BK102)
             (try clear HB)
             generalize (w26.setCell ⟨gb102, 2, none⟩ (.slice Ao27 y112.length co27)) = w29 at n0_ n1_ n2_ n3_ n4_ ⊢
             have HO_5 := n0_
             have HO108 := n1_
             have HO114 := n2_
             have BK102 := n3_
             have HB := n4_
             clear n0_ n1_ n2_ n3_ n4_
             have hcz30_0 : w29.cell? ⟨gb102, 0, none⟩ = some (.slice Ao21 y106.length co21) := (bkc BK102.out 0).trans rfl
             have hcz30_1 : w29.cell? ⟨gb102, 1, none⟩ = some (.bool ((rd_T42 l0 x6_1).f1)) := (bkc BK102.out 1).trans rfl
             have hcz30_2 : w29.cell? ⟨gb102, 2, none⟩ = some (.slice Ao27 y112.length co27) := (bkc BK102.out 2).trans rfl
             have hfz30_0 := bkf BK102.out 0
             have hfz30_1 := bkf BK102.out 1
             have hfz30_2 := bkf BK102.out 2
             try go_wp2_with (first | ((with_reducible refine gate_builtin (b := .append) (xs := #[.tmp 59, .tmp 61]) rfl ?_); at_builtin; refine Kd.S_append k42 (w0 := w) w.heap.size rfl (.tmp 59) (.tmp 61) 25 42 (.agg #[(.slice none 0 0), (.bool false), (.slice none 0 0)]) 56 rfl Tryz.underlying25 info42 rfl (by decide) (by omega) u5 x5_1 (⟨y106, (rd_T42 l0 x6_1).f1, y112⟩ : S42) [.slice Ao21 y106.length co21, .bool ((rd_T42 l0 x6_1).f1), .slice Ao27 y112.length co27] (fun k_ => k_ ≠ gb102) (fun k_ => some k_ = (.slice Ao21 y106.length co21 : Value).ownBlock ∨ some k_ = (.slice Ao27 y112.length co27 : Value).ownBlock) rfl rfl ?aP (fun k_ hk_ => hk_.elim (fun h_ => ((Kd.R_mono (ok' := fun k_ => ((fun k_ => k_ ≠ gb102)) k_ ∧ some k_ ≠ (u5 : Value).ownBlock) (Kd.R_types (Kd.R_apart' (HO108.out) (Kd.S_typed HO_5.out) (by decide)) BK102.out (by decide)) (fun k_ hk => ⟨hk.2, hk.1.2⟩))).1 k_ h_.symm) (fun h_ => ((Kd.R_mono (ok' := fun k_ => ((fun k_ => k_ ≠ gb102)) k_ ∧ some k_ ≠ (u5 : Value).ownBlock) (Kd.R_types (Kd.R_apart' (HO114.out) (Kd.S_typed HO_5.out) (by decide)) BK102.out (by decide)) (fun k_ hk => ⟨hk.2, hk.1.2⟩))).1 k_ h_.symm)) ?aF ?aO ?aB ?aS ?aL ?_; (case aP => exact k42_mkM _ _ _ (⟨y106, (rd_T42 l0 x6_1).f1, y112⟩ : S42) (Kd.R_mono (Kd.R_tight rfl (Kd.R_mono (ok' := fun k_ => ((fun k_ => k_ ≠ gb102)) k_ ∧ some k_ ≠ (u5 : Value).ownBlock) (Kd.R_types (Kd.R_apart' (HO108.out) (Kd.S_typed HO_5.out) (by decide)) BK102.out (by decide)) (fun k_ hk => ⟨hk.2, hk.1.2⟩))) (fun _ h_ => Or.inl h_)) (Kd.R_mono (Kd.R_tight rfl (Kd.R_mono (ok' := fun k_ => ((fun k_ => k_ ≠ gb102)) k_ ∧ some k_ ≠ (u5 : Value).ownBlock) (Kd.R_types (Kd.R_apart' (HO114.out) (Kd.S_typed HO_5.out) (by decide)) BK102.out (by decide)) (fun k_ hk => ⟨hk.2, hk.1.2⟩))) (fun _ h_ => Or.inr (h_)))); (case aB => exact (by repeat (first | exact HB.out))); (case aF => exact (fun k_ hk => Kd.freshB (g := gb102) (o := .cells #[.slice Ao21 y106.length co21, .bool ((rd_T42 l0 x6_1).f1), .slice Ao27 y112.length co27] 42 (0, 0)) (by (with_reducible repeat (first | refine bkN ?_ _ | refine bkd ?_ | refine bka ?_ _)); exact BK102.out) k_ hk)); (case aO => exact (by (with_reducible repeat (first | apply Kd.S_alloc | apply Kd.S_drewN | apply Kd.S_drew)); exact Kd.S_mono HO_5.out (fun k_ hk => ⟨hk.2.2, fun e_ => e_.elim (fun h_ => hk.1 h_) (fun h_ => hk.2.1 h_)⟩))); (case aS => exact (below_size (by repeat (first | exact HB.out)))); (case aL => have := LMc14.out; omega); intro v116 w31 ho hb hg hat; rw [← Ny115.out] at ho; have n0_ := Az.mk (bkg (g := gb102) (o := .cells #[.slice Ao21 y106.length co21, .bool ((rd_T42 l0 x6_1).f1), .slice Ao27 y112.length co27] 42 (0, 0)) (by (with_reducible repeat (first | refine bkN ?_ _ | refine bkd ?_ | refine bka ?_ _)); exact BK102.out) hg (Kd.S_away HO_5.out (fun _ hk => hk.2.2))); have n1_ := Az.mk (hb); have n2_ := Az.mk (ho); clear BK102; clear HB; clear HO_5; clear HO108; clear HO114; have BK102 := n0_; have HB := n1_; have HO117 := n2_; clear n0_ n1_ n2_; clear ho hb hg hat))
             go_roundg k1
             case measure => have := HK1.out; omega
             case rel => exact ⟨(y115), (wrap64 (x6_1 + 1)), (by first | rfl | (simp; done) | (simp [*]; done)), H', ⟨by have := HK1.out; omega⟩, ⟨by (with_reducible repeat (first | apply Kd.S_alloc | apply Kd.S_drewN | apply Kd.S_drew)); exact Kd.S_mono HO117.out (fun _ hk => trivial)⟩, ⟨by repeat (first | (with_reducible first | exact HB.out | apply bwa | apply pwN | apply bw1 | refine bws ?_ GE102.out) | exact HB.out)⟩⟩
            ·rw [if_neg c14] at H
             exact absurd H (by simp)
           ·rw [if_neg c13] at H
            exact absurd H (by simp)
          ·rw [if_neg c12] at H
           exact absurd H (by simp)
         ·rw [if_neg c11] at H
          exact absurd H (by simp)
        ·rw [if_neg c9] at H
         exact absurd H (by simp)
       ·rw [if_neg c8] at H
        exact absurd H (by simp)
      ·rw [if_neg c7] at H
       exact absurd H (by simp)
     ·rw [if_neg c5] at H
      exact absurd H (by simp)
    ·rw [if_neg c4] at H
     have c4b0 : decide (x6_1 < a1) = false := decide_eq_false c4
     clear c4
     obtain rfl := Option.some.inj H
     go_wp2
     go_ret
     exact ⟨_, by first | rfl | (simp [errW_none, errW_some] <;> rfl) | (simp [*, errW_none, errW_some] <;> rfl), by (with_reducible repeat (first | apply Kd.S_alloc | apply Kd.S_drewN | apply Kd.S_drew)); exact HO_5.out, by repeat (first | (with_reducible first | exact HB.out | apply bwa | apply pwN | apply bw1) | exact HB.out)⟩
   ·rw [if_neg c3] at H
    have c3b0 : decide (x6_1 < (l0.length : Int)) = false := decide_eq_false c3
    clear c3
    obtain rfl := Option.some.inj H
    go_wp2
    go_ret
    exact ⟨_, by first | rfl | (simp [errW_none, errW_some] <;> rfl) | (simp [*, errW_none, errW_some] <;> rfl), by (with_reducible repeat (first | apply Kd.S_alloc | apply Kd.S_drewN | apply Kd.S_drew)); exact HO_5.out, by repeat (first | (with_reducible first | exact HB.out | apply bwa | apply pwN | apply bw1) | exact HB.out)⟩
end Go.Proofs.YtogicccdngpafaaGreatDoor.PFewT
end
section
set_option maxHeartbeats 8000000
set_option maxRecDepth 100000
namespace Go.Proofs.YtogicccdngpafaaGreatDoor.PSame
open Go.RowKit QW.PrintWords QW.PrintLast QW.PrintMore
attribute [local go_sem] max2_int min2_int max_two min_two max_three min_three max_four min_four   
def netlabref33_Same.l0 : Nat → List (S42) → List (S42) → Int → Option (Bool)
 | 0, _, _, _ => none
 | k + 1, x0, x1, x5 => if x5 < (x0.length : Int) then (if 0 ≤ x5 then (if x5 < (x1.length : Int) then (if (((rd_T42 x0 x5).f1) != ((rd_T42 x1 x5).f1)) = true then (some false) else ((netlabref32_EqInts.f k ((rd_T42 x0 x5).f0) ((rd_T42 x1 x5).f0)).bind fun t107 => (if t107 = true then ((netlabref32_EqInts.f k ((rd_T42 x0 x5).f2) ((rd_T42 x1 x5).f2)).bind fun t110 => (if t110 = true then (netlabref33_Same.l0 k x0 x1 (wrap64 (x5 + 1))) else (some false))) else (some false)))) else (none)) else (none)) else (some true)
def netlabref33_Same.f (k : Nat) (l0 : List (S42)) (l1 : List (S42)) : Option (Bool) := if (l0.length : Int) = (l1.length : Int) then (netlabref33_Same.l0 k l0 l1 0) else (some false)
def netlabref33_Same.T6 : Bool × List (List Nat × List Nat) := (true, [([], []), ([], []), ([0, 1], [0, 1]), ([2], [2]), ([3], [3]), ([], []), ([], []), ([5, 6], [5, 6]), ([7], [7]), ([8], [8]), ([4, 9], [4, 9]), ([10], [10]), ([11], [11]), ([11], [11]), ([12, 13, 11], [11, 12, 13]), ([14, 11], [11, 14]), ([15, 11], [11, 15]), ([11], [11]), ([11], [11]), ([17, 18, 11], [11, 17, 18]), ([19, 11], [11, 19]), ([20, 11], [11, 20]), ([16, 21, 11, 11], [11, 16, 21]), ([22, 11], [11, 22]), ([11, 23], [11, 23]), ([24, 22], [24]), ([25], [25]), ([25], [25]), ([26, 27, 25], [25, 26, 27]), ([28, 25], [25, 28]), ([29, 25], [25, 29]), ([25], [25]), ([25], [25]), ([31, 32, 25], [25, 31, 32]), ([33, 25], [25, 33]), ([34, 25], [25, 34]), ([30, 35, 25, 25], [25, 30, 35]), ([36, 25], [25, 36]), ([25, 37], [25, 37])])
def netlabref33_Same.B6 : List Nat := [0, 0, 3, 7, 15, 0, 0, 96, 224, 480, 1023, 2047, 4095, 4095, 16383, 32767, 65535, 4095, 4095, 397311, 921599, 1970175, 4194303, 8388607, 16777215, 33554431, 67108863, 67108863, 268435455, 536870911, 1073741823, 67108863, 67108863, 6509559807, 15099494399, 32279363583, 68719476735, 137438953471, 274877906943]
theorem netlabref33_Same.tab6 : rtab .any (opsOf Tryz.f18 6) = netlabref33_Same.T6 := by kernel_rfl
theorem netlabref33_Same.bits6 : waitsOk netlabref33_Same.T6.2 netlabref33_Same.B6 = true := by kernel_rfl
theorem netlabref33_Same.calls (k : Nat) (A0 : Option Addr) (c0 : Nat) (l0 : List (S42)) (A1 : Option Addr) (c1 : Nat) (l1 : List (S42)) (r : Bool) (w : World) (hr0 : Kd.C k42 w A0 l0.length l0) (hc0 : l0.length ≤ c0) (hr1 : Kd.C k42 w A1 l1.length l1) (hc1 : l1.length ≤ c1) (h : netlabref33_Same.f k l0 l1 = some r) :
  Calls Tryz.prog 18 #[.slice A0 l0.length c0, .slice A1 l1.length c1] w fun e w' => e = .returned (.bool r) ∧ Below w.heap.size w w' := by
 have HR0 := Az.mk hr0
 have HC0 := Az.mk hc0
 clear hr0 hc0
 have HR1 := Az.mk hr1
 have HC1 := Az.mk hc1
 clear hr1 hc1
 have HB := Az.mk (Below.refl w.heap.size w)
 have H : (if (l0.length : Int) = (l1.length : Int) then (netlabref33_Same.l0 k l0 l1 0) else (some false)) = some r := h
 clear h
 by_cases c3 : (l0.length : Int) = (l1.length : Int)
 ·rw [if_pos c3] at H
  have c3b0 : ((l0.length : Int) == (l1.length : Int)) = true := beq_iff_eq.mpr c3
  have c3b1 : ((l0.length : Int) != (l1.length : Int)) = false := bne_eq_false_iff_eq.mpr c3
  have c3b2 : (l0.length == l1.length) = true := by first | simpa using c3 | (simp at c3 ⊢; omega)
  clear c3
  have H' := Az.mk H
  clear H
  go_enter Tryz.func18, Tryz.ntmps18
  go_wp2
  go_loopg [5] k (fun kq v5 w' => ∃ (x5_1 : Int), v5 = .int .i64 x5_1 ∧ Az (netlabref33_Same.l0 kq l0 l1 x5_1 = some r) ∧ Az (kq ≤ k) ∧ Az (Below w.heap.size w w'))
  case atStart => exact ⟨(0), (by first | rfl | (simp; done) | (simp [*]; done)), H', ⟨Nat.le_refl _⟩, ⟨by repeat (first | (with_reducible first | exact HB.out | apply bwa | apply pwN | apply bw1) | exact HB.out)⟩⟩
  case round =>
   clear H'
   try clear c1
   try clear p2
   try clear c3
   try clear c3b0
   try clear c3b1
   try clear c3b2
   obtain ⟨x5_1, rfl, HA, HK1, HB⟩ := hrel
   cases gk with
   | zero => exact absurd HA.out (by simp [netlabref33_Same.l0])
   | succ k1 =>
    have H := HA.out
    clear HA
    simp only [netlabref33_Same.l0] at H
    by_cases c4 : x5_1 < (l0.length : Int)
    ·rw [if_pos c4] at H
     have c4b0 : decide (x5_1 < (l0.length : Int)) = true := decide_eq_true c4
     clear c4
     by_cases c5 : 0 ≤ x5_1
     ·rw [if_pos c5] at H
      have c5b0 : decide (0 ≤ x5_1) = true := decide_eq_true c5
      clear c5
      by_cases c6 : x5_1 < (l1.length : Int)
      ·rw [if_pos c6] at H
       have c6b0 : decide (x5_1 < (l1.length : Int)) = true := decide_eq_true c6
       clear c6
       by_cases c7 : (((rd_T42 l0 x5_1).f1) != ((rd_T42 l1 x5_1).f1)) = true
       ·rw [if_pos c7] at H
        have c7b0 : (((rd_T42 l0 x5_1).f1) != ((rd_T42 l1 x5_1).f1)) = true := c7
        (try (have c7b1 : decide (((rd_T42 l0 x5_1).f1) = ((rd_T42 l1 x5_1).f1)) = false := by simpa using c7))
        (try (have c7b2 : (((rd_T42 l0 x5_1).f1) == ((rd_T42 l1 x5_1).f1)) = false := by simpa using c7))
        (try (have c7b3 : ¬ (((rd_T42 l0 x5_1).f1) = ((rd_T42 l1 x5_1).f1)) := by simpa using c7))
        clear c7
        obtain rfl := Option.some.inj H
        try go_wp2
        have n0_ := Az.mk (bw1 HB.out)
        clear HB
        have HB := n0_
        clear n0_
        have p103 : 0 ≤ (x5_1 : Int) := of_decide_eq_true (by assumption)
        have q103 : x5_1 < (l0.length : Int) := of_decide_eq_true (by assumption)
        obtain ⟨ad103, A103_0, c103_0, A103_2, c103_2, e103, hx103_0, hx103_1, hx103_2, hl103_0, hi103_0, hl103_2, hi103_2⟩ := at_T42 HR0.out x5_1 p103 q103
        have hw103_2 := hx103_2
        have hw103_1 := hx103_1
        have hw103_0 := hx103_0
        cases e103
        replace hx103_0 := (HB.out.cell (World.block_lt_of_cell? w _ hx103_0)).trans hx103_0
        replace hx103_1 := (HB.out.cell (World.block_lt_of_cell? w _ hx103_1)).trans hx103_1
        replace hx103_2 := (HB.out.cell (World.block_lt_of_cell? w _ hx103_2)).trans hx103_2
        have HR103_0 := Az.mk hi103_0
        have HC103_0 := Az.mk hl103_0
        clear hi103_0 hl103_0
        have HR103_2 := Az.mk hi103_2
        have HC103_2 := Az.mk hl103_2
        clear hi103_2 hl103_2
        replace p103 := eq_true p103
        replace q103 := eq_true q103
        have p104 : 0 ≤ (x5_1 : Int) := of_decide_eq_true (by assumption)
        have q104 : x5_1 < (l1.length : Int) := of_decide_eq_true (by assumption)
        obtain ⟨ad104, A104_0, c104_0, A104_2, c104_2, e104, hx104_0, hx104_1, hx104_2, hl104_0, hi104_0, hl104_2, hi104_2⟩ := at_T42 HR1.out x5_1 p104 q104
        have hw104_2 := hx104_2
        have hw104_1 := hx104_1
        have hw104_0 := hx104_0
        cases e104
        replace hx104_0 := (HB.out.cell (World.block_lt_of_cell? w _ hx104_0)).trans hx104_0
        replace hx104_1 := (HB.out.cell (World.block_lt_of_cell? w _ hx104_1)).trans hx104_1
        replace hx104_2 := (HB.out.cell (World.block_lt_of_cell? w _ hx104_2)).trans hx104_2
        have HR104_0 := Az.mk hi104_0
        have HC104_0 := Az.mk hl104_0
        clear hi104_0 hl104_0
        have HR104_2 := Az.mk hi104_2
        have HC104_2 := Az.mk hl104_2
        clear hi104_2 hl104_2
        replace p104 := eq_true p104
        replace q104 := eq_true q104
        refine start_ (n := 39) (S := fun w' => w'.cell? (ad103.add ((x5_1).toNat * 3)) = some (.slice A103_0 ((rd_T42 l0 x5_1).f0).length c103_0) ∧ w'.cell? ⟨(ad103.add ((x5_1).toNat * 3)).block, (ad103.add ((x5_1).toNat * 3)).off + 1, none⟩ = some (.bool ((rd_T42 l0 x5_1).f1)) ∧ w'.cell? ⟨(ad103.add ((x5_1).toNat * 3)).block, (ad103.add ((x5_1).toNat * 3)).off + 2, none⟩ = some (.slice A103_2 ((rd_T42 l0 x5_1).f2).length c103_2) ∧ w'.cell? (ad104.add ((x5_1).toNat * 3)) = some (.slice A104_0 ((rd_T42 l1 x5_1).f0).length c104_0) ∧ w'.cell? ⟨(ad104.add ((x5_1).toNat * 3)).block, (ad104.add ((x5_1).toNat * 3)).off + 1, none⟩ = some (.bool ((rd_T42 l1 x5_1).f1)) ∧ w'.cell? ⟨(ad104.add ((x5_1).toNat * 3)).block, (ad104.add ((x5_1).toNat * 3)).off + 2, none⟩ = some (.slice A104_2 ((rd_T42 l1 x5_1).f2).length c104_2)) (ds := []) #[false, false, false, false, false, false, false, false, false, false, false, false, false, false, false, false, false, false, false, false, false, false, false, false, false, false, false, false, false, false, false, false, false, false, false, false, false, false, false] (by kernel_rfl) rfl rfl ⟨(HB.out.zc hw103_0), (HB.out.zc hw103_1), (HB.out.zc hw103_2), (HB.out.zc hw104_0), (HB.out.zc hw104_1), (HB.out.zc hw104_2)⟩ (fun hHeld => ?_); refine with_tabW netlabref33_Same.tab6 netlabref33_Same.bits6 (fun HT_ HW_ => ?_)
        generalize wr.drew = w8 at HB HR103_0 HR103_2 HR104_0 HR104_2 hx103_0 hx103_1 hx103_2 hx104_0 hx104_1 hx104_2 hHeld ⊢
        refine pure_ (i := 0) (N := some 17) (v := ?_) (a' := ?_) (bA 39 1) rfl rfl (aof HT_.out (by kernel_rfl)) (fun _ _ _ h => h) (Or.inl ⟨by rfl, ?_⟩) ?_ ?_
        rotate_left
        ·intro w'
         go_simp
         with_reducible rfl
        rotate_left
        ·simp only [Act.put, zq1, zq2, zq3, iw, jw]
         rfl
        refine pure_ (i := 1) (N := some 18) (v := ?_) (a' := ?_) (bA 39 3) rfl rfl (aof HT_.out (by kernel_rfl)) (fun _ _ _ h => h) (Or.inl ⟨by rfl, ?_⟩) ?_ ?_
        rotate_left
        ·intro w'
         go_simp
         with_reducible rfl
        rotate_left
        ·simp only [Act.put, zq1, zq2, zq3, iw, jw]
         rfl
        refine pure_ (i := 2) (N := some 19) (v := ?_) (a' := ?_) (bA 39 7) rfl rfl (aof HT_.out (by kernel_rfl)) (fun _ _ _ h => h) (Or.inl ⟨by rfl, ?_⟩) ?_ ?_
        rotate_left
        ·intro w'
         go_simp
         with_reducible rfl
        rotate_left
        ·simp only [Act.put, zq1, zq2, zq3, iw, jw]
         rfl
        refine pure_ (i := 3) (N := some 20) (v := ?_) (a' := ?_) (bA 39 15) rfl rfl (aof HT_.out (by kernel_rfl)) (fun _ _ _ h => h) (Or.inl ⟨by rfl, ?_⟩) ?_ ?_
        rotate_left
        ·intro w'
         go_simp
         with_reducible rfl
        rotate_left
        ·simp only [Act.put, zq1, zq2, zq3, iw, jw]
         rfl
        refine pure_ (i := 5) (N := some 22) (v := ?_) (a' := ?_) (bA 39 47) rfl rfl (aof HT_.out (by kernel_rfl)) (fun _ _ _ h => h) (Or.inl ⟨by rfl, ?_⟩) ?_ ?_
        rotate_left
        ·intro w'
         go_simp
         with_reducible rfl
        rotate_left
        ·simp only [Act.put, zq1, zq2, zq3, iw, jw]
         rfl
        refine pure_ (i := 6) (N := some 23) (v := ?_) (a' := ?_) (bA 39 111) rfl rfl (aof HT_.out (by kernel_rfl)) (fun _ _ _ h => h) (Or.inl ⟨by rfl, ?_⟩) ?_ ?_
        rotate_left
        ·intro w'
         go_simp
         with_reducible rfl
        rotate_left
        ·simp only [Act.put, zq1, zq2, zq3, iw, jw]
         rfl
        refine pure_ (i := 7) (N := some 24) (v := ?_) (a' := ?_) (bA 39 239) rfl rfl (aof HT_.out (by kernel_rfl)) (fun _ _ _ h => h) (Or.inl ⟨by rfl, ?_⟩) ?_ ?_
        rotate_left
        ·intro w'
         go_simp
         with_reducible rfl
        rotate_left
        ·simp only [Act.put, zq1, zq2, zq3, iw, jw]
         rfl
        refine pure_ (i := 8) (N := some 25) (v := ?_) (a' := ?_) (bA 39 495) rfl rfl (aof HT_.out (by kernel_rfl)) (fun _ _ _ h => h) (Or.inl ⟨by rfl, ?_⟩) ?_ ?_
        rotate_left
        ·intro w'
         go_simp
         with_reducible rfl
        rotate_left
        ·simp only [Act.put, zq1, zq2, zq3, iw, jw]
         rfl
        refine take_ (i := 4) (N := some 21) (v := ?_) (a' := ?_) (bA 39 511) rfl rfl (tof HT_.out HW_.out (by kernel_rfl)) (fun _ _ _ h => h) (Or.inl ⟨by rfl, ?_⟩) hHeld ?_ ?_
        rotate_left
        ·rintro w' ⟨s0, s1, s2, s3, s4, s5⟩
         go_simp
         with_reducible rfl
        rotate_left
        ·simp only [Act.put, zq1, zq2, zq3, iw, jw]
         rfl
        refine take_ (i := 9) (N := some 26) (v := ?_) (a' := ?_) (bA 39 1023) rfl rfl (tof HT_.out HW_.out (by kernel_rfl)) (fun _ _ _ h => h) (Or.inl ⟨by rfl, ?_⟩) hHeld ?_ ?_
        rotate_left
        ·rintro w' ⟨s0, s1, s2, s3, s4, s5⟩
         go_simp
         with_reducible rfl
        rotate_left
        ·simp only [Act.put, zq1, zq2, zq3, iw, jw]
         rfl
        refine pure_ (i := 10) (N := some 27) (v := ?_) (a' := ?_) (bA 39 2047) rfl rfl (aof HT_.out (by kernel_rfl)) (fun _ _ _ h => h) (Or.inl ⟨by rfl, ?_⟩) ?_ ?_
        rotate_left
        ·intro w'
         go_simp
         with_reducible rfl
        rotate_left
        ·simp only [Act.put, zq1, zq2, zq3, iw, jw]
         rfl
        refine pure_ (i := 11) (N := some 28) (v := ?_) (a' := ?_) (bA 39 4095) rfl rfl (aof HT_.out (by kernel_rfl)) (fun _ _ _ h => h) (Or.inl ⟨by rfl, ?_⟩) ?_ ?_
        rotate_left
        ·intro w'
         go_simp
         with_reducible rfl
        rotate_left
        ·simp only [Act.put, zq1, zq2, zq3, iw, jw]
         rfl
        refine pure_ (i := 12) (N := some 29) (v := undef) (a' := ?_) (bA 39 8191) rfl rfl (aof HT_.out (by kernel_rfl)) (fun _ _ _ h => h) (Or.inr ⟨by rfl, rfl⟩) ?_ ?_
        rotate_left
        ·simp only [Act.put, zq1, zq2, zq3, iw, jw]
         rfl
        refine pure_ (i := 13) (N := some 30) (v := undef) (a' := ?_) (bA 39 16383) rfl rfl (aof HT_.out (by kernel_rfl)) (fun _ _ _ h => h) (Or.inr ⟨by rfl, rfl⟩) ?_ ?_
        rotate_left
        ·simp only [Act.put, zq1, zq2, zq3, iw, jw]
         rfl
        refine pure_ (i := 14) (N := some 31) (v := undef) (a' := ?_) (bA 39 32767) rfl rfl (aof HT_.out (by kernel_rfl)) (fun _ _ _ h => h) (Or.inr ⟨by rfl, rfl⟩) ?_ ?_
        rotate_left
        ·simp only [Act.put, zq1, zq2, zq3, iw, jw]
         rfl
        refine pure_ (i := 15) (N := some 32) (v := undef) (a' := ?_) (bA 39 65535) rfl rfl (aof HT_.out (by kernel_rfl)) (fun _ _ _ h => h) (Or.inr ⟨by rfl, rfl⟩) ?_ ?_
        rotate_left
        ·simp only [Act.put, zq1, zq2, zq3, iw, jw]
         rfl
        refine pure_ (i := 16) (N := some 33) (v := undef) (a' := ?_) (bA 39 131071) rfl rfl (aof HT_.out (by kernel_rfl)) (fun _ _ _ h => h) (Or.inr ⟨by rfl, rfl⟩) ?_ ?_
        rotate_left
        ·simp only [Act.put, zq1, zq2, zq3, iw, jw]
         rfl
        refine pure_ (i := 17) (N := some 34) (v := undef) (a' := ?_) (bA 39 262143) rfl rfl (aof HT_.out (by kernel_rfl)) (fun _ _ _ h => h) (Or.inr ⟨by rfl, rfl⟩) ?_ ?_
        rotate_left
        ·simp only [Act.put, zq1, zq2, zq3, iw, jw]
         rfl
        refine pure_ (i := 18) (N := some 35) (v := undef) (a' := ?_) (bA 39 524287) rfl rfl (aof HT_.out (by kernel_rfl)) (fun _ _ _ h => h) (Or.inr ⟨by rfl, rfl⟩) ?_ ?_
        rotate_left
        ·simp only [Act.put, zq1, zq2, zq3, iw, jw]
         rfl
        refine pure_ (i := 19) (N := some 36) (v := undef) (a' := ?_) (bA 39 1048575) rfl rfl (aof HT_.out (by kernel_rfl)) (fun _ _ _ h => h) (Or.inr ⟨by rfl, rfl⟩) ?_ ?_
        rotate_left
        ·simp only [Act.put, zq1, zq2, zq3, iw, jw]
         rfl
        refine pure_ (i := 20) (N := some 37) (v := undef) (a' := ?_) (bA 39 2097151) rfl rfl (aof HT_.out (by kernel_rfl)) (fun _ _ _ h => h) (Or.inr ⟨by rfl, rfl⟩) ?_ ?_
        rotate_left
        ·simp only [Act.put, zq1, zq2, zq3, iw, jw]
         rfl
        refine pure_ (i := 21) (N := some 38) (v := undef) (a' := ?_) (bA 39 4194303) rfl rfl (aof HT_.out (by kernel_rfl)) (fun _ _ _ h => h) (Or.inr ⟨by rfl, rfl⟩) ?_ ?_
        rotate_left
        ·simp only [Act.put, zq1, zq2, zq3, iw, jw]
         rfl
        refine pure_ (i := 22) (N := some 39) (v := undef) (a' := ?_) (bA 39 8388607) rfl rfl (aof HT_.out (by kernel_rfl)) (fun _ _ _ h => h) (Or.inr ⟨by rfl, rfl⟩) ?_ ?_
        rotate_left
        ·simp only [Act.put, zq1, zq2, zq3, iw, jw]
         rfl
        refine pure_ (i := 23) (N := some 40) (v := undef) (a' := ?_) (bA 39 16777215) rfl rfl (aof HT_.out (by kernel_rfl)) (fun _ _ _ h => h) (Or.inr ⟨by rfl, rfl⟩) ?_ ?_
        rotate_left
        ·simp only [Act.put, zq1, zq2, zq3, iw, jw]
         rfl
        refine pure_ (i := 24) (N := some 41) (v := ?_) (a' := ?_) (bA 39 33554431) rfl rfl (aof HT_.out (by kernel_rfl)) (fun _ _ _ h => h) (Or.inl ⟨by rfl, ?_⟩) ?_ ?_
        rotate_left
        ·intro w'
         go_simp
         with_reducible rfl
        rotate_left
        ·simp only [Act.put, zq1, zq2, zq3, iw, jw]
         rfl
        refine pure_ (i := 25) (N := some 42) (v := ?_) (a' := ?_) (bA 39 67108863) rfl rfl (aof HT_.out (by kernel_rfl)) (fun _ _ _ h => h) (Or.inl ⟨by rfl, ?_⟩) ?_ ?_
        rotate_left
        ·intro w'
         go_simp
         with_reducible rfl
        rotate_left
        ·simp only [Act.put, zq1, zq2, zq3, iw, jw]
         rfl
        refine pure_ (i := 26) (N := some 43) (v := undef) (a' := ?_) (bA 39 134217727) rfl rfl (aof HT_.out (by kernel_rfl)) (fun _ _ _ h => h) (Or.inr ⟨by rfl, rfl⟩) ?_ ?_
        rotate_left
        ·simp only [Act.put, zq1, zq2, zq3, iw, jw]
         rfl
        refine pure_ (i := 27) (N := some 44) (v := undef) (a' := ?_) (bA 39 268435455) rfl rfl (aof HT_.out (by kernel_rfl)) (fun _ _ _ h => h) (Or.inr ⟨by rfl, rfl⟩) ?_ ?_
        rotate_left
        ·simp only [Act.put, zq1, zq2, zq3, iw, jw]
         rfl
        refine pure_ (i := 28) (N := some 45) (v := undef) (a' := ?_) (bA 39 536870911) rfl rfl (aof HT_.out (by kernel_rfl)) (fun _ _ _ h => h) (Or.inr ⟨by rfl, rfl⟩) ?_ ?_
        rotate_left
        ·simp only [Act.put, zq1, zq2, zq3, iw, jw]
         rfl
        refine pure_ (i := 29) (N := some 46) (v := undef) (a' := ?_) (bA 39 1073741823) rfl rfl (aof HT_.out (by kernel_rfl)) (fun _ _ _ h => h) (Or.inr ⟨by rfl, rfl⟩) ?_ ?_
        rotate_left
        ·simp only [Act.put, zq1, zq2, zq3, iw, jw]
         rfl
        refine pure_ (i := 30) (N := some 47) (v := undef) (a' := ?_) (bA 39 2147483647) rfl rfl (aof HT_.out (by kernel_rfl)) (fun _ _ _ h => h) (Or.inr ⟨by rfl, rfl⟩) ?_ ?_
        rotate_left
        ·simp only [Act.put, zq1, zq2, zq3, iw, jw]
         rfl
        refine pure_ (i := 31) (N := some 48) (v := undef) (a' := ?_) (bA 39 4294967295) rfl rfl (aof HT_.out (by kernel_rfl)) (fun _ _ _ h => h) (Or.inr ⟨by rfl, rfl⟩) ?_ ?_
        rotate_left
        ·simp only [Act.put, zq1, zq2, zq3, iw, jw]
         rfl
        refine pure_ (i := 32) (N := some 49) (v := undef) (a' := ?_) (bA 39 8589934591) rfl rfl (aof HT_.out (by kernel_rfl)) (fun _ _ _ h => h) (Or.inr ⟨by rfl, rfl⟩) ?_ ?_
        rotate_left
        ·simp only [Act.put, zq1, zq2, zq3, iw, jw]
         rfl
        refine pure_ (i := 33) (N := some 50) (v := undef) (a' := ?_) (bA 39 17179869183) rfl rfl (aof HT_.out (by kernel_rfl)) (fun _ _ _ h => h) (Or.inr ⟨by rfl, rfl⟩) ?_ ?_
        rotate_left
        ·simp only [Act.put, zq1, zq2, zq3, iw, jw]
         rfl
        refine pure_ (i := 34) (N := some 51) (v := undef) (a' := ?_) (bA 39 34359738367) rfl rfl (aof HT_.out (by kernel_rfl)) (fun _ _ _ h => h) (Or.inr ⟨by rfl, rfl⟩) ?_ ?_
        rotate_left
        ·simp only [Act.put, zq1, zq2, zq3, iw, jw]
         rfl
        refine pure_ (i := 35) (N := some 52) (v := undef) (a' := ?_) (bA 39 68719476735) rfl rfl (aof HT_.out (by kernel_rfl)) (fun _ _ _ h => h) (Or.inr ⟨by rfl, rfl⟩) ?_ ?_
        rotate_left
        ·simp only [Act.put, zq1, zq2, zq3, iw, jw]
         rfl
        refine pure_ (i := 36) (N := some 53) (v := undef) (a' := ?_) (bA 39 137438953471) rfl rfl (aof HT_.out (by kernel_rfl)) (fun _ _ _ h => h) (Or.inr ⟨by rfl, rfl⟩) ?_ ?_
        rotate_left
        ·simp only [Act.put, zq1, zq2, zq3, iw, jw]
         rfl
        refine pure_ (i := 37) (N := some 54) (v := undef) (a' := ?_) (bA 39 274877906943) rfl rfl (aof HT_.out (by kernel_rfl)) (fun _ _ _ h => h) (Or.inr ⟨by rfl, rfl⟩) ?_ ?_
        rotate_left
        ·simp only [Act.put, zq1, zq2, zq3, iw, jw]
         rfl
        refine pure_ (i := 38) (N := some 55) (v := ?_) (a' := ?_) (bA 39 549755813887) rfl rfl (aof HT_.out (by kernel_rfl)) (fun _ _ _ h => h) (Or.inl ⟨by rfl, ?_⟩) ?_ ?_
        rotate_left
        ·intro w'
         go_simp
         with_reducible rfl
        rotate_left
        ·simp only [Act.put, zq1, zq2, zq3, iw, jw]
         rfl
        refine done_ (done_of HT_.out (by kernel_rfl)) ?_
        try go_wp2
        go_ret
        exact ⟨by first | rfl | (simp [errW_none, errW_some] <;> rfl) | (simp [*, errW_none, errW_some] <;> rfl), by repeat (first | (with_reducible first | exact HB.out | apply bwa | apply pwN | apply bw1) | exact HB.out)⟩
       ·rw [if_neg c7] at H
        have c7b0 : (((rd_T42 l0 x5_1).f1) != ((rd_T42 l1 x5_1).f1)) = false := by simpa using c7
        (try (have c7b1 : decide (((rd_T42 l0 x5_1).f1) = ((rd_T42 l1 x5_1).f1)) = true := by simpa using c7))
        (try (have c7b2 : (((rd_T42 l0 x5_1).f1) == ((rd_T42 l1 x5_1).f1)) = true := by simpa using c7))
        clear c7
        replace H := Option.bind_eq_some_iff.mp H
        obtain ⟨t107, A90, H⟩ := H
        replace H : (if t107 = true then ((netlabref32_EqInts.f k1 ((rd_T42 l0 x5_1).f2) ((rd_T42 l1 x5_1).f2)).bind fun t110 => (if t110 = true then (netlabref33_Same.l0 k1 l0 l1 (wrap64 (x5_1 + 1))) else (some false))) else (some false)) = some r := H
        have A9 := Az.mk A90
        clear A90
        by_cases c10 : t107 = true
        ·subst c10
         have H1 : ((netlabref32_EqInts.f k1 ((rd_T42 l0 x5_1).f2) ((rd_T42 l1 x5_1).f2)).bind fun t110 => (if t110 = true then (netlabref33_Same.l0 k1 l0 l1 (wrap64 (x5_1 + 1))) else (some false))) = some r := by rw [if_pos rfl] at H; exact H
         clear H
         have H := H1
         clear H1
         replace H := Option.bind_eq_some_iff.mp H
         obtain ⟨t110, A110, H⟩ := H
         replace H : (if t110 = true then (netlabref33_Same.l0 k1 l0 l1 (wrap64 (x5_1 + 1))) else (some false)) = some r := H
         have A11 := Az.mk A110
         clear A110
         by_cases c12 : t110 = true
         ·subst c12
          have H1 : (netlabref33_Same.l0 k1 l0 l1 (wrap64 (x5_1 + 1))) = some r := by rw [if_pos rfl] at H; exact H
          clear H
          have H := H1
          clear H1
          have H' := Az.mk H
          clear H
          try go_wp2
          have n0_ := Az.mk (bw1 HB.out)
          clear HB
          have HB := n0_
          clear n0_
          have p103 : 0 ≤ (x5_1 : Int) := of_decide_eq_true (by assumption)
          have q103 : x5_1 < (l0.length : Int) := of_decide_eq_true (by assumption)
          obtain ⟨ad103, A103_0, c103_0, A103_2, c103_2, e103, hx103_0, hx103_1, hx103_2, hl103_0, hi103_0, hl103_2, hi103_2⟩ := at_T42 HR0.out x5_1 p103 q103
          have hw103_2 := hx103_2
          have hw103_1 := hx103_1
          have hw103_0 := hx103_0
          cases e103
          replace hx103_0 := (HB.out.cell (World.block_lt_of_cell? w _ hx103_0)).trans hx103_0
          replace hx103_1 := (HB.out.cell (World.block_lt_of_cell? w _ hx103_1)).trans hx103_1
          replace hx103_2 := (HB.out.cell (World.block_lt_of_cell? w _ hx103_2)).trans hx103_2
          have HR103_0 := Az.mk hi103_0
          have HC103_0 := Az.mk hl103_0
          clear hi103_0 hl103_0
          have HR103_2 := Az.mk hi103_2
          have HC103_2 := Az.mk hl103_2
          clear hi103_2 hl103_2
          replace p103 := eq_true p103
          replace q103 := eq_true q103
          have p104 : 0 ≤ (x5_1 : Int) := of_decide_eq_true (by assumption)
          have q104 : x5_1 < (l1.length : Int) := of_decide_eq_true (by assumption)
          obtain ⟨ad104, A104_0, c104_0, A104_2, c104_2, e104, hx104_0, hx104_1, hx104_2, hl104_0, hi104_0, hl104_2, hi104_2⟩ := at_T42 HR1.out x5_1 p104 q104
          have hw104_2 := hx104_2
          have hw104_1 := hx104_1
          have hw104_0 := hx104_0
          cases e104
          replace hx104_0 := (HB.out.cell (World.block_lt_of_cell? w _ hx104_0)).trans hx104_0
          replace hx104_1 := (HB.out.cell (World.block_lt_of_cell? w _ hx104_1)).trans hx104_1
          replace hx104_2 := (HB.out.cell (World.block_lt_of_cell? w _ hx104_2)).trans hx104_2
          have HR104_0 := Az.mk hi104_0
          have HC104_0 := Az.mk hl104_0
          clear hi104_0 hl104_0
          have HR104_2 := Az.mk hi104_2
          have HC104_2 := Az.mk hl104_2
          clear hi104_2 hl104_2
          replace p104 := eq_true p104
          replace q104 := eq_true q104
          have p105 : 0 ≤ (x5_1 : Int) := of_decide_eq_true (by assumption)
          have q105 : x5_1 < (l0.length : Int) := of_decide_eq_true (by assumption)
          obtain ⟨ad105, A105_0, c105_0, A105_2, c105_2, e105, hx105_0, hx105_1, hx105_2, hl105_0, hi105_0, hl105_2, hi105_2⟩ := at_T42 HR0.out x5_1 p105 q105
          have hw105_2 := hx105_2
          have hw105_1 := hx105_1
          have hw105_0 := hx105_0
          obtain rfl : ad103 = ad105 := (by injection e105)
          replace hx105_0 := (HB.out.cell (World.block_lt_of_cell? w _ hx105_0)).trans hx105_0
          replace hx105_1 := (HB.out.cell (World.block_lt_of_cell? w _ hx105_1)).trans hx105_1
          replace hx105_2 := (HB.out.cell (World.block_lt_of_cell? w _ hx105_2)).trans hx105_2
          have HR105_0 := Az.mk hi105_0
          have HC105_0 := Az.mk hl105_0
          clear hi105_0 hl105_0
          have HR105_2 := Az.mk hi105_2
          have HC105_2 := Az.mk hl105_2
          clear hi105_2 hl105_2
          replace p105 := eq_true p105
          replace q105 := eq_true q105
          have ea_ := Option.some.inj (hx103_0.symm.trans hx105_0)
          injection ea_ with ea_ en_ ec_
          subst ea_
          subst ec_
          clear en_
          have ea_ := Option.some.inj (hx103_2.symm.trans hx105_2)
          injection ea_ with ea_ en_ ec_
          subst ea_
          subst ec_
          clear en_
          have p106 : 0 ≤ (x5_1 : Int) := of_decide_eq_true (by assumption)
          have q106 : x5_1 < (l1.length : Int) := of_decide_eq_true (by assumption)
          obtain ⟨ad106, A106_0, c106_0, A106_2, c106_2, e106, hx106_0, hx106_1, hx106_2, hl106_0, hi106_0, hl106_2, hi106_2⟩ := at_T42 HR1.out x5_1 p106 q106
          have hw106_2 := hx106_2
          have hw106_1 := hx106_1
          have hw106_0 := hx106_0
          obtain rfl : ad104 = ad106 := (by injection e106)
          replace hx106_0 := (HB.out.cell (World.block_lt_of_cell? w _ hx106_0)).trans hx106_0
          replace hx106_1 := (HB.out.cell (World.block_lt_of_cell? w _ hx106_1)).trans hx106_1
          replace hx106_2 := (HB.out.cell (World.block_lt_of_cell? w _ hx106_2)).trans hx106_2
          have HR106_0 := Az.mk hi106_0
          have HC106_0 := Az.mk hl106_0
          clear hi106_0 hl106_0
          have HR106_2 := Az.mk hi106_2
          have HC106_2 := Az.mk hl106_2
          clear hi106_2 hl106_2
          replace p106 := eq_true p106
          replace q106 := eq_true q106
          have ea_ := Option.some.inj (hx104_0.symm.trans hx106_0)
          injection ea_ with ea_ en_ ec_
          subst ea_
          subst ec_
          clear en_
          have ea_ := Option.some.inj (hx104_2.symm.trans hx106_2)
          injection ea_ with ea_ en_ ec_
          subst ea_
          subst ec_
          clear en_
          have p108 : 0 ≤ (x5_1 : Int) := of_decide_eq_true (by assumption)
          have q108 : x5_1 < (l0.length : Int) := of_decide_eq_true (by assumption)
          obtain ⟨ad108, A108_0, c108_0, A108_2, c108_2, e108, hx108_0, hx108_1, hx108_2, hl108_0, hi108_0, hl108_2, hi108_2⟩ := at_T42 HR0.out x5_1 p108 q108
          have hw108_2 := hx108_2
          have hw108_1 := hx108_1
          have hw108_0 := hx108_0
          obtain rfl : ad103 = ad108 := (by injection e108)
          replace hx108_0 := (HB.out.cell (World.block_lt_of_cell? w _ hx108_0)).trans hx108_0
          replace hx108_1 := (HB.out.cell (World.block_lt_of_cell? w _ hx108_1)).trans hx108_1
          replace hx108_2 := (HB.out.cell (World.block_lt_of_cell? w _ hx108_2)).trans hx108_2
          have HR108_0 := Az.mk hi108_0
          have HC108_0 := Az.mk hl108_0
          clear hi108_0 hl108_0
          have HR108_2 := Az.mk hi108_2
          have HC108_2 := Az.mk hl108_2
          clear hi108_2 hl108_2
          replace p108 := eq_true p108
          replace q108 := eq_true q108
          have ea_ := Option.some.inj (hx103_0.symm.trans hx108_0)
          injection ea_ with ea_ en_ ec_
          subst ea_
          subst ec_
          clear en_
          have ea_ := Option.some.inj (hx103_2.symm.trans hx108_2)
          injection ea_ with ea_ en_ ec_
          subst ea_
          subst ec_
          clear en_
          have p109 : 0 ≤ (x5_1 : Int) := of_decide_eq_true (by assumption)
          have q109 : x5_1 < (l1.length : Int) := of_decide_eq_true (by assumption)
          obtain ⟨ad109, A109_0, c109_0, A109_2, c109_2, e109, hx109_0, hx109_1, hx109_2, hl109_0, hi109_0, hl109_2, hi109_2⟩ := at_T42 HR1.out x5_1 p109 q109
          have hw109_2 := hx109_2
          have hw109_1 := hx109_1
          have hw109_0 := hx109_0
          obtain rfl : ad104 = ad109 := (by injection e109)
          replace hx109_0 := (HB.out.cell (World.block_lt_of_cell? w _ hx109_0)).trans hx109_0
          replace hx109_1 := (HB.out.cell (World.block_lt_of_cell? w _ hx109_1)).trans hx109_1
          replace hx109_2 := (HB.out.cell (World.block_lt_of_cell? w _ hx109_2)).trans hx109_2
          have HR109_0 := Az.mk hi109_0
          have HC109_0 := Az.mk hl109_0
          clear hi109_0 hl109_0
          have HR109_2 := Az.mk hi109_2
          have HC109_2 := Az.mk hl109_2
          clear hi109_2 hl109_2
          replace p109 := eq_true p109
          replace q109 := eq_true q109
          have ea_ := Option.some.inj (hx104_0.symm.trans hx109_0)
          injection ea_ with ea_ en_ ec_
          subst ea_
          subst ec_
          clear en_
          have ea_ := Option.some.inj (hx104_2.symm.trans hx109_2)
          injection ea_ with ea_ en_ ec_
          subst ea_
          subst ec_
          clear en_
          refine start_ (n := 39) (S := fun w' => w'.cell? (ad103.add ((x5_1).toNat * 3)) = some (.slice A103_0 ((rd_T42 l0 x5_1).f0).length c103_0) ∧ w'.cell? ⟨(ad103.add ((x5_1).toNat * 3)).block, (ad103.add ((x5_1).toNat * 3)).off + 1, none⟩ = some (.bool ((rd_T42 l0 x5_1).f1)) ∧ w'.cell? ⟨(ad103.add ((x5_1).toNat * 3)).block, (ad103.add ((x5_1).toNat * 3)).off + 2, none⟩ = some (.slice A103_2 ((rd_T42 l0 x5_1).f2).length c103_2) ∧ w'.cell? (ad104.add ((x5_1).toNat * 3)) = some (.slice A104_0 ((rd_T42 l1 x5_1).f0).length c104_0) ∧ w'.cell? ⟨(ad104.add ((x5_1).toNat * 3)).block, (ad104.add ((x5_1).toNat * 3)).off + 1, none⟩ = some (.bool ((rd_T42 l1 x5_1).f1)) ∧ w'.cell? ⟨(ad104.add ((x5_1).toNat * 3)).block, (ad104.add ((x5_1).toNat * 3)).off + 2, none⟩ = some (.slice A104_2 ((rd_T42 l1 x5_1).f2).length c104_2) ∧ w'.cell? (ad103.add ((x5_1).toNat * 3)) = some (.slice A103_0 ((rd_T42 l0 x5_1).f0).length c103_0) ∧ w'.cell? ⟨(ad103.add ((x5_1).toNat * 3)).block, (ad103.add ((x5_1).toNat * 3)).off + 1, none⟩ = some (.bool ((rd_T42 l0 x5_1).f1)) ∧ w'.cell? ⟨(ad103.add ((x5_1).toNat * 3)).block, (ad103.add ((x5_1).toNat * 3)).off + 2, none⟩ = some (.slice A103_2 ((rd_T42 l0 x5_1).f2).length c103_2) ∧ w'.cell? (ad104.add ((x5_1).toNat * 3)) = some (.slice A104_0 ((rd_T42 l1 x5_1).f0).length c104_0) ∧ w'.cell? ⟨(ad104.add ((x5_1).toNat * 3)).block, (ad104.add ((x5_1).toNat * 3)).off + 1, none⟩ = some (.bool ((rd_T42 l1 x5_1).f1)) ∧ w'.cell? ⟨(ad104.add ((x5_1).toNat * 3)).block, (ad104.add ((x5_1).toNat * 3)).off + 2, none⟩ = some (.slice A104_2 ((rd_T42 l1 x5_1).f2).length c104_2) ∧ w'.cell? (ad103.add ((x5_1).toNat * 3)) = some (.slice A103_0 ((rd_T42 l0 x5_1).f0).length c103_0) ∧ w'.cell? ⟨(ad103.add ((x5_1).toNat * 3)).block, (ad103.add ((x5_1).toNat * 3)).off + 1, none⟩ = some (.bool ((rd_T42 l0 x5_1).f1)) ∧ w'.cell? ⟨(ad103.add ((x5_1).toNat * 3)).block, (ad103.add ((x5_1).toNat * 3)).off + 2, none⟩ = some (.slice A103_2 ((rd_T42 l0 x5_1).f2).length c103_2) ∧ w'.cell? (ad104.add ((x5_1).toNat * 3)) = some (.slice A104_0 ((rd_T42 l1 x5_1).f0).length c104_0) ∧ w'.cell? ⟨(ad104.add ((x5_1).toNat * 3)).block, (ad104.add ((x5_1).toNat * 3)).off + 1, none⟩ = some (.bool ((rd_T42 l1 x5_1).f1)) ∧ w'.cell? ⟨(ad104.add ((x5_1).toNat * 3)).block, (ad104.add ((x5_1).toNat * 3)).off + 2, none⟩ = some (.slice A104_2 ((rd_T42 l1 x5_1).f2).length c104_2)) (ds := []) #[false, false, false, false, false, false, false, false, false, false, false, false, false, false, false, false, false, false, false, false, false, false, false, false, false, false, false, false, false, false, false, false, false, false, false, false, false, false, false] (by kernel_rfl) rfl rfl ⟨(HB.out.zc hw103_0), (HB.out.zc hw103_1), (HB.out.zc hw103_2), (HB.out.zc hw104_0), (HB.out.zc hw104_1), (HB.out.zc hw104_2), (HB.out.zc hw105_0), (HB.out.zc hw105_1), (HB.out.zc hw105_2), (HB.out.zc hw106_0), (HB.out.zc hw106_1), (HB.out.zc hw106_2), (HB.out.zc hw108_0), (HB.out.zc hw108_1), (HB.out.zc hw108_2), (HB.out.zc hw109_0), (HB.out.zc hw109_1), (HB.out.zc hw109_2)⟩ (fun hHeld => ?_); refine with_tabW netlabref33_Same.tab6 netlabref33_Same.bits6 (fun HT_ HW_ => ?_)
          generalize wr.drew = w13 at HB HR103_0 HR103_2 HR104_0 HR104_2 HR105_0 HR105_2 HR106_0 HR106_2 HR108_0 HR108_2 HR109_0 HR109_2 hx103_0 hx103_1 hx103_2 hx104_0 hx104_1 hx104_2 hx105_0 hx105_1 hx105_2 hx106_0 hx106_1 hx106_2 hx108_0 hx108_1 hx108_2 hx109_0 hx109_1 hx109_2 hHeld ⊢
          refine pure_ (i := 0) (N := some 17) (v := ?_) (a' := ?_) (bA 39 1) rfl rfl (aof HT_.out (by kernel_rfl)) (fun _ _ _ h => h) (Or.inl ⟨by rfl, ?_⟩) ?_ ?_
          rotate_left
          ·intro w'
           go_simp
           with_reducible rfl
          rotate_left
          ·simp only [Act.put, zq1, zq2, zq3, iw, jw]
           rfl
          refine pure_ (i := 1) (N := some 18) (v := ?_) (a' := ?_) (bA 39 3) rfl rfl (aof HT_.out (by kernel_rfl)) (fun _ _ _ h => h) (Or.inl ⟨by rfl, ?_⟩) ?_ ?_
          rotate_left
          ·intro w'
           go_simp
           with_reducible rfl
          rotate_left
          ·simp only [Act.put, zq1, zq2, zq3, iw, jw]
           rfl
          refine pure_ (i := 2) (N := some 19) (v := ?_) (a' := ?_) (bA 39 7) rfl rfl (aof HT_.out (by kernel_rfl)) (fun _ _ _ h => h) (Or.inl ⟨by rfl, ?_⟩) ?_ ?_
          rotate_left
          ·intro w'
           go_simp
           with_reducible rfl
          rotate_left
          ·simp only [Act.put, zq1, zq2, zq3, iw, jw]
           rfl
          refine pure_ (i := 3) (N := some 20) (v := ?_) (a' := ?_) (bA 39 15) rfl rfl (aof HT_.out (by kernel_rfl)) (fun _ _ _ h => h) (Or.inl ⟨by rfl, ?_⟩) ?_ ?_
          rotate_left
          ·intro w'
           go_simp
           with_reducible rfl
          rotate_left
          ·simp only [Act.put, zq1, zq2, zq3, iw, jw]
           rfl
          refine pure_ (i := 5) (N := some 22) (v := ?_) (a' := ?_) (bA 39 47) rfl rfl (aof HT_.out (by kernel_rfl)) (fun _ _ _ h => h) (Or.inl ⟨by rfl, ?_⟩) ?_ ?_
          rotate_left
          ·intro w'
           go_simp
           with_reducible rfl
          rotate_left
          ·simp only [Act.put, zq1, zq2, zq3, iw, jw]
           rfl
          refine pure_ (i := 6) (N := some 23) (v := ?_) (a' := ?_) (bA 39 111) rfl rfl (aof HT_.out (by kernel_rfl)) (fun _ _ _ h => h) (Or.inl ⟨by rfl, ?_⟩) ?_ ?_
          rotate_left
          ·intro w'
           go_simp
           with_reducible rfl
          rotate_left
          ·simp only [Act.put, zq1, zq2, zq3, iw, jw]
           rfl
          refine pure_ (i := 7) (N := some 24) (v := ?_) (a' := ?_) (bA 39 239) rfl rfl (aof HT_.out (by kernel_rfl)) (fun _ _ _ h => h) (Or.inl ⟨by rfl, ?_⟩) ?_ ?_
          rotate_left
          ·intro w'
           go_simp
           with_reducible rfl
          rotate_left
          ·simp only [Act.put, zq1, zq2, zq3, iw, jw]
           rfl
          refine pure_ (i := 8) (N := some 25) (v := ?_) (a' := ?_) (bA 39 495) rfl rfl (aof HT_.out (by kernel_rfl)) (fun _ _ _ h => h) (Or.inl ⟨by rfl, ?_⟩) ?_ ?_
          rotate_left
          ·intro w'
           go_simp
           with_reducible rfl
          rotate_left
          ·simp only [Act.put, zq1, zq2, zq3, iw, jw]
           rfl
          refine take_ (i := 4) (N := some 21) (v := ?_) (a' := ?_) (bA 39 511) rfl rfl (tof HT_.out HW_.out (by kernel_rfl)) (fun _ _ _ h => h) (Or.inl ⟨by rfl, ?_⟩) hHeld ?_ ?_
          rotate_left
          ·rintro w' ⟨s0, s1, s2, s3, s4, s5, s6, s7, s8, s9, s10, s11, s12, s13, s14, s15, s16, s17⟩
           go_simp
           with_reducible rfl
          rotate_left
          ·simp only [Act.put, zq1, zq2, zq3, iw, jw]
           rfl
          refine take_ (i := 9) (N := some 26) (v := ?_) (a' := ?_) (bA 39 1023) rfl rfl (tof HT_.out HW_.out (by kernel_rfl)) (fun _ _ _ h => h) (Or.inl ⟨by rfl, ?_⟩) hHeld ?_ ?_
          rotate_left
          ·rintro w' ⟨s0, s1, s2, s3, s4, s5, s6, s7, s8, s9, s10, s11, s12, s13, s14, s15, s16, s17⟩
           go_simp
           with_reducible rfl
          rotate_left
          ·simp only [Act.put, zq1, zq2, zq3, iw, jw]
           rfl
          refine pure_ (i := 10) (N := some 27) (v := ?_) (a' := ?_) (bA 39 2047) rfl rfl (aof HT_.out (by kernel_rfl)) (fun _ _ _ h => h) (Or.inl ⟨by rfl, ?_⟩) ?_ ?_
          rotate_left
          ·intro w'
           go_simp
           with_reducible rfl
          rotate_left
          ·simp only [Act.put, zq1, zq2, zq3, iw, jw]
           rfl
          refine pure_ (i := 11) (N := some 28) (v := ?_) (a' := ?_) (bA 39 4095) rfl rfl (aof HT_.out (by kernel_rfl)) (fun _ _ _ h => h) (Or.inl ⟨by rfl, ?_⟩) ?_ ?_
          rotate_left
          ·intro w'
           go_simp
           with_reducible rfl
          rotate_left
          ·simp only [Act.put, zq1, zq2, zq3, iw, jw]
           rfl
          refine pure_ (i := 12) (N := some 29) (v := ?_) (a' := ?_) (bA 39 8191) rfl rfl (aof HT_.out (by kernel_rfl)) (fun _ _ _ h => h) (Or.inl ⟨by rfl, ?_⟩) ?_ ?_
          rotate_left
          ·intro w'
           go_simp
           with_reducible rfl
          rotate_left
          ·simp only [Act.put, zq1, zq2, zq3, iw, jw]
           rfl
          refine pure_ (i := 13) (N := some 30) (v := ?_) (a' := ?_) (bA 39 16383) rfl rfl (aof HT_.out (by kernel_rfl)) (fun _ _ _ h => h) (Or.inl ⟨by rfl, ?_⟩) ?_ ?_
          rotate_left
          ·intro w'
           go_simp
           with_reducible rfl
          rotate_left
          ·simp only [Act.put, zq1, zq2, zq3, iw, jw]
           rfl
          refine pure_ (i := 14) (N := some 31) (v := ?_) (a' := ?_) (bA 39 32767) rfl rfl (aof HT_.out (by kernel_rfl)) (fun _ _ _ h => h) (Or.inl ⟨by rfl, ?_⟩) ?_ ?_
          rotate_left
          ·intro w'
           go_simp
           with_reducible rfl
          rotate_left
          ·simp only [Act.put, zq1, zq2, zq3, iw, jw]
           rfl
          refine pure_ (i := 15) (N := some 32) (v := ?_) (a' := ?_) (bA 39 65535) rfl rfl (aof HT_.out (by kernel_rfl)) (fun _ _ _ h => h) (Or.inl ⟨by rfl, ?_⟩) ?_ ?_
          rotate_left
          ·intro w'
           go_simp
           with_reducible rfl
          rotate_left
          ·simp only [Act.put, zq1, zq2, zq3, iw, jw]
           rfl
          refine pure_ (i := 17) (N := some 34) (v := ?_) (a' := ?_) (bA 39 196607) rfl rfl (aof HT_.out (by kernel_rfl)) (fun _ _ _ h => h) (Or.inl ⟨by rfl, ?_⟩) ?_ ?_
          rotate_left
          ·intro w'
           go_simp
           with_reducible rfl
          rotate_left
          ·simp only [Act.put, zq1, zq2, zq3, iw, jw]
           rfl
          refine pure_ (i := 18) (N := some 35) (v := ?_) (a' := ?_) (bA 39 458751) rfl rfl (aof HT_.out (by kernel_rfl)) (fun _ _ _ h => h) (Or.inl ⟨by rfl, ?_⟩) ?_ ?_
          rotate_left
          ·intro w'
           go_simp
           with_reducible rfl
          rotate_left
          ·simp only [Act.put, zq1, zq2, zq3, iw, jw]
           rfl
          refine pure_ (i := 19) (N := some 36) (v := ?_) (a' := ?_) (bA 39 983039) rfl rfl (aof HT_.out (by kernel_rfl)) (fun _ _ _ h => h) (Or.inl ⟨by rfl, ?_⟩) ?_ ?_
          rotate_left
          ·intro w'
           go_simp
           with_reducible rfl
          rotate_left
          ·simp only [Act.put, zq1, zq2, zq3, iw, jw]
           rfl
          refine pure_ (i := 20) (N := some 37) (v := ?_) (a' := ?_) (bA 39 2031615) rfl rfl (aof HT_.out (by kernel_rfl)) (fun _ _ _ h => h) (Or.inl ⟨by rfl, ?_⟩) ?_ ?_
          rotate_left
          ·intro w'
           go_simp
           with_reducible rfl
          rotate_left
          ·simp only [Act.put, zq1, zq2, zq3, iw, jw]
           rfl
          refine take_ (i := 16) (N := some 33) (v := ?_) (a' := ?_) (bA 39 2097151) rfl rfl (tof HT_.out HW_.out (by kernel_rfl)) (fun _ _ _ h => h) (Or.inl ⟨by rfl, ?_⟩) hHeld ?_ ?_
          rotate_left
          ·rintro w' ⟨s0, s1, s2, s3, s4, s5, s6, s7, s8, s9, s10, s11, s12, s13, s14, s15, s16, s17⟩
           go_simp
           with_reducible rfl
          rotate_left
          ·simp only [Act.put, zq1, zq2, zq3, iw, jw]
           rfl
          refine take_ (i := 21) (N := some 38) (v := ?_) (a' := ?_) (bA 39 4194303) rfl rfl (tof HT_.out HW_.out (by kernel_rfl)) (fun _ _ _ h => h) (Or.inl ⟨by rfl, ?_⟩) hHeld ?_ ?_
          rotate_left
          ·rintro w' ⟨s0, s1, s2, s3, s4, s5, s6, s7, s8, s9, s10, s11, s12, s13, s14, s15, s16, s17⟩
           go_simp
           with_reducible rfl
          rotate_left
          ·simp only [Act.put, zq1, zq2, zq3, iw, jw]
           rfl
          refine one_ (i := 22) (N := some 39) (bA 39 8388607) rfl rfl (one_of HT_.out (by kernel_rfl)) (by decide) (fun K hK => ?_)
          refine goes_ Tryz.func17 (by kernel_rfl) rfl #[.slice A103_0 ((rd_T42 l0 x5_1).f0).length c103_0, .slice A104_0 ((rd_T42 l1 x5_1).f0).length c104_0] (by rfl) rfl rfl (by (try simp only [List.map_toArray, List.map_cons, List.map_nil]); first | done | rfl | (simp only [List.length_drop, List.length_take]; rfl)) ?_
          with_reducible refine (netlabref32_EqInts.calls k1 _ _ ((rd_T42 l0 x5_1).f0) _ _ ((rd_T42 l1 x5_1).f0) true _ ?side1 ?side2 ?side3 ?side4 A9.out).mono ?_
          (case side1 => repeat (first | exact (Kd.C_below HR105_0.out HB.out) | (with_reducible refine Kd.C_alloc ?_ _) | (with_reducible refine Kd.C_drewN ?_ _) | (with_reducible refine Kd.C_drew ?_)))
          (case side2 => exact HC105_0.out)
          (case side3 => repeat (first | exact (Kd.C_below HR106_0.out HB.out) | (with_reducible refine Kd.C_alloc ?_ _) | (with_reducible refine Kd.C_drewN ?_ _) | (with_reducible refine Kd.C_drew ?_)))
          (case side4 => exact HC106_0.out)
          rintro e w' ⟨rfl, ⟨nd, rfl⟩⟩
          refine ⟨_, rfl, ?_⟩
          refine hK.out _ _ ⟨(HB.out.zc hw103_0), (HB.out.zc hw103_1), (HB.out.zc hw103_2), (HB.out.zc hw104_0), (HB.out.zc hw104_1), (HB.out.zc hw104_2), (HB.out.zc hw105_0), (HB.out.zc hw105_1), (HB.out.zc hw105_2), (HB.out.zc hw106_0), (HB.out.zc hw106_1), (HB.out.zc hw106_2), (HB.out.zc hw108_0), (HB.out.zc hw108_1), (HB.out.zc hw108_2), (HB.out.zc hw109_0), (HB.out.zc hw109_1), (HB.out.zc hw109_2)⟩ (fun hHeld => ?_)
          clear hK K
          refine norm_ (a' := ?_) ?_ ?_
          rotate_left
          ·show Act.put _ (some 39) _ = _
           simp only [Act.put, zq1, zq2, zq3, iw, jw]
           rfl
          refine pure_ (i := 23) (N := some 40) (v := ?_) (a' := ?_) (bA 39 16777215) rfl rfl (aof HT_.out (by kernel_rfl)) (fun _ _ _ h => h) (Or.inl ⟨by rfl, ?_⟩) ?_ ?_
          rotate_left
          ·intro w'
           go_simp
           with_reducible rfl
          rotate_left
          ·simp only [Act.put, zq1, zq2, zq3, iw, jw]
           rfl
          refine pure_ (i := 24) (N := some 41) (v := ?_) (a' := ?_) (bA 39 33554431) rfl rfl (aof HT_.out (by kernel_rfl)) (fun _ _ _ h => h) (Or.inl ⟨by rfl, ?_⟩) ?_ ?_
          rotate_left
          ·intro w'
           go_simp
           with_reducible rfl
          rotate_left
          ·simp only [Act.put, zq1, zq2, zq3, iw, jw]
           rfl
          refine pure_ (i := 25) (N := some 42) (v := ?_) (a' := ?_) (bA 39 67108863) rfl rfl (aof HT_.out (by kernel_rfl)) (fun _ _ _ h => h) (Or.inl ⟨by rfl, ?_⟩) ?_ ?_
          rotate_left
          ·intro w'
           go_simp
           with_reducible rfl
          rotate_left
          ·simp only [Act.put, zq1, zq2, zq3, iw, jw]
           rfl
          refine pure_ (i := 26) (N := some 43) (v := ?_) (a' := ?_) (bA 39 134217727) rfl rfl (aof HT_.out (by kernel_rfl)) (fun _ _ _ h => h) (Or.inl ⟨by rfl, ?_⟩) ?_ ?_
          rotate_left
          ·intro w'
           go_simp
           with_reducible rfl
          rotate_left
          ·simp only [Act.put, zq1, zq2, zq3, iw, jw]
           rfl
          refine pure_ (i := 27) (N := some 44) (v := ?_) (a' := ?_) (bA 39 268435455) rfl rfl (aof HT_.out (by kernel_rfl)) (fun _ _ _ h => h) (Or.inl ⟨by rfl, ?_⟩) ?_ ?_
          rotate_left
          ·intro w'
           go_simp
           with_reducible rfl
          rotate_left
          ·simp only [Act.put, zq1, zq2, zq3, iw, jw]
           rfl
          refine pure_ (i := 28) (N := some 45) (v := ?_) (a' := ?_) (bA 39 536870911) rfl rfl (aof HT_.out (by kernel_rfl)) (fun _ _ _ h => h) (Or.inl ⟨by rfl, ?_⟩) ?_ ?_
          rotate_left
          ·intro w'
           go_simp
           with_reducible rfl
          rotate_left
          ·simp only [Act.put, zq1, zq2, zq3, iw, jw]
           rfl
          refine pure_ (i := 29) (N := some 46) (v := ?_) (a' := ?_) (bA 39 1073741823) rfl rfl (aof HT_.out (by kernel_rfl)) (fun _ _ _ h => h) (Or.inl ⟨by rfl, ?_⟩) ?_ ?_
          rotate_left
          ·intro w'
           go_simp
           with_reducible rfl
          rotate_left
          ·simp only [Act.put, zq1, zq2, zq3, iw, jw]
           rfl
          refine pure_ (i := 31) (N := some 48) (v := ?_) (a' := ?_) (bA 39 3221225471) rfl rfl (aof HT_.out (by kernel_rfl)) (fun _ _ _ h => h) (Or.inl ⟨by rfl, ?_⟩) ?_ ?_
          rotate_left
          ·intro w'
           go_simp
           with_reducible rfl
          rotate_left
          ·simp only [Act.put, zq1, zq2, zq3, iw, jw]
           rfl
          refine pure_ (i := 32) (N := some 49) (v := ?_) (a' := ?_) (bA 39 7516192767) rfl rfl (aof HT_.out (by kernel_rfl)) (fun _ _ _ h => h) (Or.inl ⟨by rfl, ?_⟩) ?_ ?_
          rotate_left
          ·intro w'
           go_simp
           with_reducible rfl
          rotate_left
          ·simp only [Act.put, zq1, zq2, zq3, iw, jw]
           rfl
          refine pure_ (i := 33) (N := some 50) (v := ?_) (a' := ?_) (bA 39 16106127359) rfl rfl (aof HT_.out (by kernel_rfl)) (fun _ _ _ h => h) (Or.inl ⟨by rfl, ?_⟩) ?_ ?_
          rotate_left
          ·intro w'
           go_simp
           with_reducible rfl
          rotate_left
          ·simp only [Act.put, zq1, zq2, zq3, iw, jw]
           rfl
          refine pure_ (i := 34) (N := some 51) (v := ?_) (a' := ?_) (bA 39 33285996543) rfl rfl (aof HT_.out (by kernel_rfl)) (fun _ _ _ h => h) (Or.inl ⟨by rfl, ?_⟩) ?_ ?_
          rotate_left
          ·intro w'
           go_simp
           with_reducible rfl
          rotate_left
          ·simp only [Act.put, zq1, zq2, zq3, iw, jw]
           rfl
          refine take_ (i := 30) (N := some 47) (v := ?_) (a' := ?_) (bA 39 34359738367) rfl rfl (tof HT_.out HW_.out (by kernel_rfl)) (fun _ _ _ h => h) (Or.inl ⟨by rfl, ?_⟩) hHeld ?_ ?_
          rotate_left
          ·rintro w' ⟨s0, s1, s2, s3, s4, s5, s6, s7, s8, s9, s10, s11, s12, s13, s14, s15, s16, s17⟩
           go_simp
           with_reducible rfl
          rotate_left
          ·simp only [Act.put, zq1, zq2, zq3, iw, jw]
           rfl
          refine take_ (i := 35) (N := some 52) (v := ?_) (a' := ?_) (bA 39 68719476735) rfl rfl (tof HT_.out HW_.out (by kernel_rfl)) (fun _ _ _ h => h) (Or.inl ⟨by rfl, ?_⟩) hHeld ?_ ?_
          rotate_left
          ·rintro w' ⟨s0, s1, s2, s3, s4, s5, s6, s7, s8, s9, s10, s11, s12, s13, s14, s15, s16, s17⟩
           go_simp
           with_reducible rfl
          rotate_left
          ·simp only [Act.put, zq1, zq2, zq3, iw, jw]
           rfl
          refine one_ (i := 36) (N := some 53) (bA 39 137438953471) rfl rfl (one_of HT_.out (by kernel_rfl)) (by decide) (fun K hK => ?_)
          refine goes_ Tryz.func17 (by kernel_rfl) rfl #[.slice A103_2 ((rd_T42 l0 x5_1).f2).length c103_2, .slice A104_2 ((rd_T42 l1 x5_1).f2).length c104_2] (by rfl) rfl rfl (by (try simp only [List.map_toArray, List.map_cons, List.map_nil]); first | done | rfl | (simp only [List.length_drop, List.length_take]; rfl)) ?_
          with_reducible refine (netlabref32_EqInts.calls k1 _ _ ((rd_T42 l0 x5_1).f2) _ _ ((rd_T42 l1 x5_1).f2) true _ ?side1 ?side2 ?side3 ?side4 A11.out).mono ?_
          (case side1 => repeat (first | exact (Kd.C_below HR108_2.out (by repeat (first | (with_reducible first | exact HB.out | apply bwa | apply pwN | apply bw1) | exact HB.out))) | (with_reducible refine Kd.C_alloc ?_ _) | (with_reducible refine Kd.C_drewN ?_ _) | (with_reducible refine Kd.C_drew ?_)))
          (case side2 => exact HC108_2.out)
          (case side3 => repeat (first | exact (Kd.C_below HR109_2.out (by repeat (first | (with_reducible first | exact HB.out | apply bwa | apply pwN | apply bw1) | exact HB.out))) | (with_reducible refine Kd.C_alloc ?_ _) | (with_reducible refine Kd.C_drewN ?_ _) | (with_reducible refine Kd.C_drew ?_)))
          (case side4 => exact HC109_2.out)
          rintro e w' ⟨rfl, ⟨nd, rfl⟩⟩
          refine ⟨_, rfl, ?_⟩
          refine hK.out _ _ ⟨(HB.out.zc hw103_0), (HB.out.zc hw103_1), (HB.out.zc hw103_2), (HB.out.zc hw104_0), (HB.out.zc hw104_1), (HB.out.zc hw104_2), (HB.out.zc hw105_0), (HB.out.zc hw105_1), (HB.out.zc hw105_2), (HB.out.zc hw106_0), (HB.out.zc hw106_1), (HB.out.zc hw106_2), (HB.out.zc hw108_0), (HB.out.zc hw108_1), (HB.out.zc hw108_2), (HB.out.zc hw109_0), (HB.out.zc hw109_1), (HB.out.zc hw109_2)⟩ (fun hHeld => ?_)
          clear hK K
          refine norm_ (a' := ?_) ?_ ?_
          rotate_left
          ·show Act.put _ (some 53) _ = _
           simp only [Act.put, zq1, zq2, zq3, iw, jw]
           rfl
          refine pure_ (i := 37) (N := some 54) (v := ?_) (a' := ?_) (bA 39 274877906943) rfl rfl (aof HT_.out (by kernel_rfl)) (fun _ _ _ h => h) (Or.inl ⟨by rfl, ?_⟩) ?_ ?_
          rotate_left
          ·intro w'
           go_simp
           with_reducible rfl
          rotate_left
          ·simp only [Act.put, zq1, zq2, zq3, iw, jw]
           rfl
          refine pure_ (i := 38) (N := some 55) (v := ?_) (a' := ?_) (bA 39 549755813887) rfl rfl (aof HT_.out (by kernel_rfl)) (fun _ _ _ h => h) (Or.inl ⟨by rfl, ?_⟩) ?_ ?_
          rotate_left
          ·intro w'
           go_simp
           with_reducible rfl
          rotate_left
          ·simp only [Act.put, zq1, zq2, zq3, iw, jw]
           rfl
          refine done_ (done_of HT_.out (by kernel_rfl)) ?_
          try go_wp2
          go_roundg k1
          case measure => have := HK1.out; omega
          case rel => exact ⟨(wrap64 (x5_1 + 1)), (by first | rfl | (simp; done) | (simp [*]; done)), H', ⟨by have := HK1.out; omega⟩, ⟨by repeat (first | (with_reducible first | exact HB.out | apply bwa | apply pwN | apply bw1) | exact HB.out)⟩⟩
         ·replace c12 := Bool.eq_false_iff.mpr c12
          subst c12
          have H1 : (some false) = some r := by rw [if_neg (show ¬ (false = true) by decide)] at H; exact H
          clear H
          have H := H1
          clear H1
          obtain rfl := Option.some.inj H
          try go_wp2
          have n0_ := Az.mk (bw1 HB.out)
          clear HB
          have HB := n0_
          clear n0_
          have p103 : 0 ≤ (x5_1 : Int) := of_decide_eq_true (by assumption)
          have q103 : x5_1 < (l0.length : Int) := of_decide_eq_true (by assumption)
          obtain ⟨ad103, A103_0, c103_0, A103_2, c103_2, e103, hx103_0, hx103_1, hx103_2, hl103_0, hi103_0, hl103_2, hi103_2⟩ := at_T42 HR0.out x5_1 p103 q103
          have hw103_2 := hx103_2
          have hw103_1 := hx103_1
          have hw103_0 := hx103_0
          cases e103
          replace hx103_0 := (HB.out.cell (World.block_lt_of_cell? w _ hx103_0)).trans hx103_0
          replace hx103_1 := (HB.out.cell (World.block_lt_of_cell? w _ hx103_1)).trans hx103_1
          replace hx103_2 := (HB.out.cell (World.block_lt_of_cell? w _ hx103_2)).trans hx103_2
          have HR103_0 := Az.mk hi103_0
          have HC103_0 := Az.mk hl103_0
          clear hi103_0 hl103_0
          have HR103_2 := Az.mk hi103_2
          have HC103_2 := Az.mk hl103_2
          clear hi103_2 hl103_2
          replace p103 := eq_true p103
          replace q103 := eq_true q103
          have p104 : 0 ≤ (x5_1 : Int) := of_decide_eq_true (by assumption)
          have q104 : x5_1 < (l1.length : Int) := of_decide_eq_true (by assumption)
          obtain ⟨ad104, A104_0, c104_0, A104_2, c104_2, e104, hx104_0, hx104_1, hx104_2, hl104_0, hi104_0, hl104_2, hi104_2⟩ := at_T42 HR1.out x5_1 p104 q104
          have hw104_2 := hx104_2
          have hw104_1 := hx104_1
          have hw104_0 := hx104_0
          cases e104
          replace hx104_0 := (HB.out.cell (World.block_lt_of_cell? w _ hx104_0)).trans hx104_0
          replace hx104_1 := (HB.out.cell (World.block_lt_of_cell? w _ hx104_1)).trans hx104_1
          replace hx104_2 := (HB.out.cell (World.block_lt_of_cell? w _ hx104_2)).trans hx104_2
          have HR104_0 := Az.mk hi104_0
          have HC104_0 := Az.mk hl104_0
          clear hi104_0 hl104_0
          have HR104_2 := Az.mk hi104_2
          have HC104_2 := Az.mk hl104_2
          clear hi104_2 hl104_2
          replace p104 := eq_true p104
          replace q104 := eq_true q104
          have p105 : 0 ≤ (x5_1 : Int) := of_decide_eq_true (by assumption)
          have q105 : x5_1 < (l0.length : Int) := of_decide_eq_true (by assumption)
          obtain ⟨ad105, A105_0, c105_0, A105_2, c105_2, e105, hx105_0, hx105_1, hx105_2, hl105_0, hi105_0, hl105_2, hi105_2⟩ := at_T42 HR0.out x5_1 p105 q105
          have hw105_2 := hx105_2
          have hw105_1 := hx105_1
          have hw105_0 := hx105_0
          obtain rfl : ad103 = ad105 := (by injection e105)
          replace hx105_0 := (HB.out.cell (World.block_lt_of_cell? w _ hx105_0)).trans hx105_0
          replace hx105_1 := (HB.out.cell (World.block_lt_of_cell? w _ hx105_1)).trans hx105_1
          replace hx105_2 := (HB.out.cell (World.block_lt_of_cell? w _ hx105_2)).trans hx105_2
          have HR105_0 := Az.mk hi105_0
          have HC105_0 := Az.mk hl105_0
          clear hi105_0 hl105_0
          have HR105_2 := Az.mk hi105_2
          have HC105_2 := Az.mk hl105_2
          clear hi105_2 hl105_2
          replace p105 := eq_true p105
          replace q105 := eq_true q105
          have ea_ := Option.some.inj (hx103_0.symm.trans hx105_0)
          injection ea_ with ea_ en_ ec_
          subst ea_
          subst ec_
          clear en_
          have ea_ := Option.some.inj (hx103_2.symm.trans hx105_2)
          injection ea_ with ea_ en_ ec_
          subst ea_
          subst ec_
          clear en_
          have p106 : 0 ≤ (x5_1 : Int) := of_decide_eq_true (by assumption)
          have q106 : x5_1 < (l1.length : Int) := of_decide_eq_true (by assumption)
          obtain ⟨ad106, A106_0, c106_0, A106_2, c106_2, e106, hx106_0, hx106_1, hx106_2, hl106_0, hi106_0, hl106_2, hi106_2⟩ := at_T42 HR1.out x5_1 p106 q106
          have hw106_2 := hx106_2
          have hw106_1 := hx106_1
          have hw106_0 := hx106_0
          obtain rfl : ad104 = ad106 := (by injection e106)
          replace hx106_0 := (HB.out.cell (World.block_lt_of_cell? w _ hx106_0)).trans hx106_0
          replace hx106_1 := (HB.out.cell (World.block_lt_of_cell? w _ hx106_1)).trans hx106_1
          replace hx106_2 := (HB.out.cell (World.block_lt_of_cell? w _ hx106_2)).trans hx106_2
          have HR106_0 := Az.mk hi106_0
          have HC106_0 := Az.mk hl106_0
          clear hi106_0 hl106_0
          have HR106_2 := Az.mk hi106_2
          have HC106_2 := Az.mk hl106_2
          clear hi106_2 hl106_2
          replace p106 := eq_true p106
          replace q106 := eq_true q106
          have ea_ := Option.some.inj (hx104_0.symm.trans hx106_0)
          injection ea_ with ea_ en_ ec_
          subst ea_
          subst ec_
          clear en_
          have ea_ := Option.some.inj (hx104_2.symm.trans hx106_2)
          injection ea_ with ea_ en_ ec_
          subst ea_
          subst ec_
          clear en_
          have p108 : 0 ≤ (x5_1 : Int) := of_decide_eq_true (by assumption)
          have q108 : x5_1 < (l0.length : Int) := of_decide_eq_true (by assumption)
          obtain ⟨ad108, A108_0, c108_0, A108_2, c108_2, e108, hx108_0, hx108_1, hx108_2, hl108_0, hi108_0, hl108_2, hi108_2⟩ := at_T42 HR0.out x5_1 p108 q108
          have hw108_2 := hx108_2
          have hw108_1 := hx108_1
          have hw108_0 := hx108_0
          obtain rfl : ad103 = ad108 := (by injection e108)
          replace hx108_0 := (HB.out.cell (World.block_lt_of_cell? w _ hx108_0)).trans hx108_0
          replace hx108_1 := (HB.out.cell (World.block_lt_of_cell? w _ hx108_1)).trans hx108_1
          replace hx108_2 := (HB.out.cell (World.block_lt_of_cell? w _ hx108_2)).trans hx108_2
          have HR108_0 := Az.mk hi108_0
          have HC108_0 := Az.mk hl108_0
          clear hi108_0 hl108_0
          have HR108_2 := Az.mk hi108_2
          have HC108_2 := Az.mk hl108_2
          clear hi108_2 hl108_2
          replace p108 := eq_true p108
          replace q108 := eq_true q108
          have ea_ := Option.some.inj (hx103_0.symm.trans hx108_0)
          injection ea_ with ea_ en_ ec_
          subst ea_
          subst ec_
          clear en_
          have ea_ := Option.some.inj (hx103_2.symm.trans hx108_2)
          injection ea_ with ea_ en_ ec_
          subst ea_
          subst ec_
          clear en_
          have p109 : 0 ≤ (x5_1 : Int) := of_decide_eq_true (by assumption)
          have q109 : x5_1 < (l1.length : Int) := of_decide_eq_true (by assumption)
          obtain ⟨ad109, A109_0, c109_0, A109_2, c109_2, e109, hx109_0, hx109_1, hx109_2, hl109_0, hi109_0, hl109_2, hi109_2⟩ := at_T42 HR1.out x5_1 p109 q109
          have hw109_2 := hx109_2
          have hw109_1 := hx109_1
          have hw109_0 := hx109_0
          obtain rfl : ad104 = ad109 := (by injection e109)
          replace hx109_0 := (HB.out.cell (World.block_lt_of_cell? w _ hx109_0)).trans hx109_0
          replace hx109_1 := (HB.out.cell (World.block_lt_of_cell? w _ hx109_1)).trans hx109_1
          replace hx109_2 := (HB.out.cell (World.block_lt_of_cell? w _ hx109_2)).trans hx109_2
          have HR109_0 := Az.mk hi109_0
          have HC109_0 := Az.mk hl109_0
          clear hi109_0 hl109_0
          have HR109_2 := Az.mk hi109_2
          have HC109_2 := Az.mk hl109_2
          clear hi109_2 hl109_2
          replace p109 := eq_true p109
          replace q109 := eq_true q109
          have ea_ := Option.some.inj (hx104_0.symm.trans hx109_0)
          injection ea_ with ea_ en_ ec_
          subst ea_
          subst ec_
          clear en_
          have ea_ := Option.some.inj (hx104_2.symm.trans hx109_2)
          injection ea_ with ea_ en_ ec_
          subst ea_
          subst ec_
          clear en_
          refine start_ (n := 39) (S := fun w' => w'.cell? (ad103.add ((x5_1).toNat * 3)) = some (.slice A103_0 ((rd_T42 l0 x5_1).f0).length c103_0) ∧ w'.cell? ⟨(ad103.add ((x5_1).toNat * 3)).block, (ad103.add ((x5_1).toNat * 3)).off + 1, none⟩ = some (.bool ((rd_T42 l0 x5_1).f1)) ∧ w'.cell? ⟨(ad103.add ((x5_1).toNat * 3)).block, (ad103.add ((x5_1).toNat * 3)).off + 2, none⟩ = some (.slice A103_2 ((rd_T42 l0 x5_1).f2).length c103_2) ∧ w'.cell? (ad104.add ((x5_1).toNat * 3)) = some (.slice A104_0 ((rd_T42 l1 x5_1).f0).length c104_0) ∧ w'.cell? ⟨(ad104.add ((x5_1).toNat * 3)).block, (ad104.add ((x5_1).toNat * 3)).off + 1, none⟩ = some (.bool ((rd_T42 l1 x5_1).f1)) ∧ w'.cell? ⟨(ad104.add ((x5_1).toNat * 3)).block, (ad104.add ((x5_1).toNat * 3)).off + 2, none⟩ = some (.slice A104_2 ((rd_T42 l1 x5_1).f2).length c104_2) ∧ w'.cell? (ad103.add ((x5_1).toNat * 3)) = some (.slice A103_0 ((rd_T42 l0 x5_1).f0).length c103_0) ∧ w'.cell? ⟨(ad103.add ((x5_1).toNat * 3)).block, (ad103.add ((x5_1).toNat * 3)).off + 1, none⟩ = some (.bool ((rd_T42 l0 x5_1).f1)) ∧ w'.cell? ⟨(ad103.add ((x5_1).toNat * 3)).block, (ad103.add ((x5_1).toNat * 3)).off + 2, none⟩ = some (.slice A103_2 ((rd_T42 l0 x5_1).f2).length c103_2) ∧ w'.cell? (ad104.add ((x5_1).toNat * 3)) = some (.slice A104_0 ((rd_T42 l1 x5_1).f0).length c104_0) ∧ w'.cell? ⟨(ad104.add ((x5_1).toNat * 3)).block, (ad104.add ((x5_1).toNat * 3)).off + 1, none⟩ = some (.bool ((rd_T42 l1 x5_1).f1)) ∧ w'.cell? ⟨(ad104.add ((x5_1).toNat * 3)).block, (ad104.add ((x5_1).toNat * 3)).off + 2, none⟩ = some (.slice A104_2 ((rd_T42 l1 x5_1).f2).length c104_2) ∧ w'.cell? (ad103.add ((x5_1).toNat * 3)) = some (.slice A103_0 ((rd_T42 l0 x5_1).f0).length c103_0) ∧ w'.cell? ⟨(ad103.add ((x5_1).toNat * 3)).block, (ad103.add ((x5_1).toNat * 3)).off + 1, none⟩ = some (.bool ((rd_T42 l0 x5_1).f1)) ∧ w'.cell? ⟨(ad103.add ((x5_1).toNat * 3)).block, (ad103.add ((x5_1).toNat * 3)).off + 2, none⟩ = some (.slice A103_2 ((rd_T42 l0 x5_1).f2).length c103_2) ∧ w'.cell? (ad104.add ((x5_1).toNat * 3)) = some (.slice A104_0 ((rd_T42 l1 x5_1).f0).length c104_0) ∧ w'.cell? ⟨(ad104.add ((x5_1).toNat * 3)).block, (ad104.add ((x5_1).toNat * 3)).off + 1, none⟩ = some (.bool ((rd_T42 l1 x5_1).f1)) ∧ w'.cell? ⟨(ad104.add ((x5_1).toNat * 3)).block, (ad104.add ((x5_1).toNat * 3)).off + 2, none⟩ = some (.slice A104_2 ((rd_T42 l1 x5_1).f2).length c104_2)) (ds := []) #[false, false, false, false, false, false, false, false, false, false, false, false, false, false, false, false, false, false, false, false, false, false, false, false, false, false, false, false, false, false, false, false, false, false, false, false, false, false, false] (by kernel_rfl) rfl rfl ⟨(HB.out.zc hw103_0), (HB.out.zc hw103_1), (HB.out.zc hw103_2), (HB.out.zc hw104_0), (HB.out.zc hw104_1), (HB.out.zc hw104_2), (HB.out.zc hw105_0), (HB.out.zc hw105_1), (HB.out.zc hw105_2), (HB.out.zc hw106_0), (HB.out.zc hw106_1), (HB.out.zc hw106_2), (HB.out.zc hw108_0), (HB.out.zc hw108_1), (HB.out.zc hw108_2), (HB.out.zc hw109_0), (HB.out.zc hw109_1), (HB.out.zc hw109_2)⟩ (fun hHeld => ?_); refine with_tabW netlabref33_Same.tab6 netlabref33_Same.bits6 (fun HT_ HW_ => ?_)
          generalize wr.drew = w14 at HB HR103_0 HR103_2 HR104_0 HR104_2 HR105_0 HR105_2 HR106_0 HR106_2 HR108_0 HR108_2 HR109_0 HR109_2 hx103_0 hx103_1 hx103_2 hx104_0 hx104_1 hx104_2 hx105_0 hx105_1 hx105_2 hx106_0 hx106_1 hx106_2 hx108_0 hx108_1 hx108_2 hx109_0 hx109_1 hx109_2 hHeld ⊢
          refine pure_ (i := 0) (N := some 17) (v := ?_) (a' := ?_) (bA 39 1) rfl rfl (aof HT_.out (by kernel_rfl)) (fun _ _ _ h => h) (Or.inl ⟨by rfl, ?_⟩) ?_ ?_
          rotate_left
          ·intro w'
           go_simp
           with_reducible rfl
          rotate_left
          ·simp only [Act.put, zq1, zq2, zq3, iw, jw]
           rfl
          refine pure_ (i := 1) (N := some 18) (v := ?_) (a' := ?_) (bA 39 3) rfl rfl (aof HT_.out (by kernel_rfl)) (fun _ _ _ h => h) (Or.inl ⟨by rfl, ?_⟩) ?_ ?_
          rotate_left
          ·intro w'
           go_simp
           with_reducible rfl
          rotate_left
          ·simp only [Act.put, zq1, zq2, zq3, iw, jw]
           rfl
          refine pure_ (i := 2) (N := some 19) (v := ?_) (a' := ?_) (bA 39 7) rfl rfl (aof HT_.out (by kernel_rfl)) (fun _ _ _ h => h) (Or.inl ⟨by rfl, ?_⟩) ?_ ?_
          rotate_left
          ·intro w'
           go_simp
           with_reducible rfl
          rotate_left
          ·simp only [Act.put, zq1, zq2, zq3, iw, jw]
           rfl
          refine pure_ (i := 3) (N := some 20) (v := ?_) (a' := ?_) (bA 39 15) rfl rfl (aof HT_.out (by kernel_rfl)) (fun _ _ _ h => h) (Or.inl ⟨by rfl, ?_⟩) ?_ ?_
          rotate_left
          ·intro w'
           go_simp
           with_reducible rfl
          rotate_left
          ·simp only [Act.put, zq1, zq2, zq3, iw, jw]
           rfl
          refine pure_ (i := 5) (N := some 22) (v := ?_) (a' := ?_) (bA 39 47) rfl rfl (aof HT_.out (by kernel_rfl)) (fun _ _ _ h => h) (Or.inl ⟨by rfl, ?_⟩) ?_ ?_
          rotate_left
          ·intro w'
           go_simp
           with_reducible rfl
          rotate_left
          ·simp only [Act.put, zq1, zq2, zq3, iw, jw]
           rfl
          refine pure_ (i := 6) (N := some 23) (v := ?_) (a' := ?_) (bA 39 111) rfl rfl (aof HT_.out (by kernel_rfl)) (fun _ _ _ h => h) (Or.inl ⟨by rfl, ?_⟩) ?_ ?_
          rotate_left
          ·intro w'
           go_simp
           with_reducible rfl
          rotate_left
          ·simp only [Act.put, zq1, zq2, zq3, iw, jw]
           rfl
          refine pure_ (i := 7) (N := some 24) (v := ?_) (a' := ?_) (bA 39 239) rfl rfl (aof HT_.out (by kernel_rfl)) (fun _ _ _ h => h) (Or.inl ⟨by rfl, ?_⟩) ?_ ?_
          rotate_left
          ·intro w'
           go_simp
           with_reducible rfl
          rotate_left
          ·simp only [Act.put, zq1, zq2, zq3, iw, jw]
           rfl
          refine pure_ (i := 8) (N := some 25) (v := ?_) (a' := ?_) (bA 39 495) rfl rfl (aof HT_.out (by kernel_rfl)) (fun _ _ _ h => h) (Or.inl ⟨by rfl, ?_⟩) ?_ ?_
          rotate_left
          ·intro w'
           go_simp
           with_reducible rfl
          rotate_left
          ·simp only [Act.put, zq1, zq2, zq3, iw, jw]
           rfl
          refine take_ (i := 4) (N := some 21) (v := ?_) (a' := ?_) (bA 39 511) rfl rfl (tof HT_.out HW_.out (by kernel_rfl)) (fun _ _ _ h => h) (Or.inl ⟨by rfl, ?_⟩) hHeld ?_ ?_
          rotate_left
          ·rintro w' ⟨s0, s1, s2, s3, s4, s5, s6, s7, s8, s9, s10, s11, s12, s13, s14, s15, s16, s17⟩
           go_simp
           with_reducible rfl
          rotate_left
          ·simp only [Act.put, zq1, zq2, zq3, iw, jw]
           rfl
          refine take_ (i := 9) (N := some 26) (v := ?_) (a' := ?_) (bA 39 1023) rfl rfl (tof HT_.out HW_.out (by kernel_rfl)) (fun _ _ _ h => h) (Or.inl ⟨by rfl, ?_⟩) hHeld ?_ ?_
          rotate_left
          ·rintro w' ⟨s0, s1, s2, s3, s4, s5, s6, s7, s8, s9, s10, s11, s12, s13, s14, s15, s16, s17⟩
           go_simp
           with_reducible rfl
          rotate_left
          ·simp only [Act.put, zq1, zq2, zq3, iw, jw]
           rfl
          refine pure_ (i := 10) (N := some 27) (v := ?_) (a' := ?_) (bA 39 2047) rfl rfl (aof HT_.out (by kernel_rfl)) (fun _ _ _ h => h) (Or.inl ⟨by rfl, ?_⟩) ?_ ?_
          rotate_left
          ·intro w'
           go_simp
           with_reducible rfl
          rotate_left
          ·simp only [Act.put, zq1, zq2, zq3, iw, jw]
           rfl
          refine pure_ (i := 11) (N := some 28) (v := ?_) (a' := ?_) (bA 39 4095) rfl rfl (aof HT_.out (by kernel_rfl)) (fun _ _ _ h => h) (Or.inl ⟨by rfl, ?_⟩) ?_ ?_
          rotate_left
          ·intro w'
           go_simp
           with_reducible rfl
          rotate_left
          ·simp only [Act.put, zq1, zq2, zq3, iw, jw]
           rfl
          refine pure_ (i := 12) (N := some 29) (v := ?_) (a' := ?_) (bA 39 8191) rfl rfl (aof HT_.out (by kernel_rfl)) (fun _ _ _ h => h) (Or.inl ⟨by rfl, ?_⟩) ?_ ?_
          rotate_left
          ·intro w'
           go_simp
           with_reducible rfl
          rotate_left
          ·simp only [Act.put, zq1, zq2, zq3, iw, jw]
           rfl
          refine pure_ (i := 13) (N := some 30) (v := ?_) (a' := ?_) (bA 39 16383) rfl rfl (aof HT_.out (by kernel_rfl)) (fun _ _ _ h => h) (Or.inl ⟨by rfl, ?_⟩) ?_ ?_
          rotate_left
          ·intro w'
           go_simp
           with_reducible rfl
          rotate_left
          ·simp only [Act.put, zq1, zq2, zq3, iw, jw]
           rfl
          refine pure_ (i := 14) (N := some 31) (v := ?_) (a' := ?_) (bA 39 32767) rfl rfl (aof HT_.out (by kernel_rfl)) (fun _ _ _ h => h) (Or.inl ⟨by rfl, ?_⟩) ?_ ?_
          rotate_left
          ·intro w'
           go_simp
           with_reducible rfl
          rotate_left
          ·simp only [Act.put, zq1, zq2, zq3, iw, jw]
           rfl
          refine pure_ (i := 15) (N := some 32) (v := ?_) (a' := ?_) (bA 39 65535) rfl rfl (aof HT_.out (by kernel_rfl)) (fun _ _ _ h => h) (Or.inl ⟨by rfl, ?_⟩) ?_ ?_
          rotate_left
          ·intro w'
           go_simp
           with_reducible rfl
          rotate_left
          ·simp only [Act.put, zq1, zq2, zq3, iw, jw]
           rfl
          refine pure_ (i := 17) (N := some 34) (v := ?_) (a' := ?_) (bA 39 196607) rfl rfl (aof HT_.out (by kernel_rfl)) (fun _ _ _ h => h) (Or.inl ⟨by rfl, ?_⟩) ?_ ?_
          rotate_left
          ·intro w'
           go_simp
           with_reducible rfl
          rotate_left
          ·simp only [Act.put, zq1, zq2, zq3, iw, jw]
           rfl
          refine pure_ (i := 18) (N := some 35) (v := ?_) (a' := ?_) (bA 39 458751) rfl rfl (aof HT_.out (by kernel_rfl)) (fun _ _ _ h => h) (Or.inl ⟨by rfl, ?_⟩) ?_ ?_
          rotate_left
          ·intro w'
           go_simp
           with_reducible rfl
          rotate_left
          ·simp only [Act.put, zq1, zq2, zq3, iw, jw]
           rfl
          refine pure_ (i := 19) (N := some 36) (v := ?_) (a' := ?_) (bA 39 983039) rfl rfl (aof HT_.out (by kernel_rfl)) (fun _ _ _ h => h) (Or.inl ⟨by rfl, ?_⟩) ?_ ?_
          rotate_left
          ·intro w'
           go_simp
           with_reducible rfl
          rotate_left
          ·simp only [Act.put, zq1, zq2, zq3, iw, jw]
           rfl
          refine pure_ (i := 20) (N := some 37) (v := ?_) (a' := ?_) (bA 39 2031615) rfl rfl (aof HT_.out (by kernel_rfl)) (fun _ _ _ h => h) (Or.inl ⟨by rfl, ?_⟩) ?_ ?_
          rotate_left
          ·intro w'
           go_simp
           with_reducible rfl
          rotate_left
          ·simp only [Act.put, zq1, zq2, zq3, iw, jw]
           rfl
          refine take_ (i := 16) (N := some 33) (v := ?_) (a' := ?_) (bA 39 2097151) rfl rfl (tof HT_.out HW_.out (by kernel_rfl)) (fun _ _ _ h => h) (Or.inl ⟨by rfl, ?_⟩) hHeld ?_ ?_
          rotate_left
          ·rintro w' ⟨s0, s1, s2, s3, s4, s5, s6, s7, s8, s9, s10, s11, s12, s13, s14, s15, s16, s17⟩
           go_simp
           with_reducible rfl
          rotate_left
          ·simp only [Act.put, zq1, zq2, zq3, iw, jw]
           rfl
          refine take_ (i := 21) (N := some 38) (v := ?_) (a' := ?_) (bA 39 4194303) rfl rfl (tof HT_.out HW_.out (by kernel_rfl)) (fun _ _ _ h => h) (Or.inl ⟨by rfl, ?_⟩) hHeld ?_ ?_
          rotate_left
          ·rintro w' ⟨s0, s1, s2, s3, s4, s5, s6, s7, s8, s9, s10, s11, s12, s13, s14, s15, s16, s17⟩
           go_simp
           with_reducible rfl
          rotate_left
          ·simp only [Act.put, zq1, zq2, zq3, iw, jw]
           rfl
          refine one_ (i := 22) (N := some 39) (bA 39 8388607) rfl rfl (one_of HT_.out (by kernel_rfl)) (by decide) (fun K hK => ?_)
          refine goes_ Tryz.func17 (by kernel_rfl) rfl #[.slice A103_0 ((rd_T42 l0 x5_1).f0).length c103_0, .slice A104_0 ((rd_T42 l1 x5_1).f0).length c104_0] (by rfl) rfl rfl (by (try simp only [List.map_toArray, List.map_cons, List.map_nil]); first | done | rfl | (simp only [List.length_drop, List.length_take]; rfl)) ?_
          with_reducible refine (netlabref32_EqInts.calls k1 _ _ ((rd_T42 l0 x5_1).f0) _ _ ((rd_T42 l1 x5_1).f0) true _ ?side1 ?side2 ?side3 ?side4 A9.out).mono ?_
          (case side1 => repeat (first | exact (Kd.C_below HR105_0.out HB.out) | (with_reducible refine Kd.C_alloc ?_ _) | (with_reducible refine Kd.C_drewN ?_ _) | (with_reducible refine Kd.C_drew ?_)))
          (case side2 => exact HC105_0.out)
          (case side3 => repeat (first | exact (Kd.C_below HR106_0.out HB.out) | (with_reducible refine Kd.C_alloc ?_ _) | (with_reducible refine Kd.C_drewN ?_ _) | (with_reducible refine Kd.C_drew ?_)))
          (case side4 => exact HC106_0.out)
          rintro e w' ⟨rfl, ⟨nd, rfl⟩⟩
          refine ⟨_, rfl, ?_⟩
          refine hK.out _ _ ⟨(HB.out.zc hw103_0), (HB.out.zc hw103_1), (HB.out.zc hw103_2), (HB.out.zc hw104_0), (HB.out.zc hw104_1), (HB.out.zc hw104_2), (HB.out.zc hw105_0), (HB.out.zc hw105_1), (HB.out.zc hw105_2), (HB.out.zc hw106_0), (HB.out.zc hw106_1), (HB.out.zc hw106_2), (HB.out.zc hw108_0), (HB.out.zc hw108_1), (HB.out.zc hw108_2), (HB.out.zc hw109_0), (HB.out.zc hw109_1), (HB.out.zc hw109_2)⟩ (fun hHeld => ?_)
          clear hK K
          refine norm_ (a' := ?_) ?_ ?_
          rotate_left
          ·show Act.put _ (some 39) _ = _
           simp only [Act.put, zq1, zq2, zq3, iw, jw]
           rfl
          refine pure_ (i := 23) (N := some 40) (v := ?_) (a' := ?_) (bA 39 16777215) rfl rfl (aof HT_.out (by kernel_rfl)) (fun _ _ _ h => h) (Or.inl ⟨by rfl, ?_⟩) ?_ ?_
          rotate_left
          ·intro w'
           go_simp
           with_reducible rfl
          rotate_left
          ·simp only [Act.put, zq1, zq2, zq3, iw, jw]
           rfl
          refine pure_ (i := 24) (N := some 41) (v := ?_) (a' := ?_) (bA 39 33554431) rfl rfl (aof HT_.out (by kernel_rfl)) (fun _ _ _ h => h) (Or.inl ⟨by rfl, ?_⟩) ?_ ?_
          rotate_left
          ·intro w'
           go_simp
           with_reducible rfl
          rotate_left
          ·simp only [Act.put, zq1, zq2, zq3, iw, jw]
           rfl
          refine pure_ (i := 25) (N := some 42) (v := ?_) (a' := ?_) (bA 39 67108863) rfl rfl (aof HT_.out (by kernel_rfl)) (fun _ _ _ h => h) (Or.inl ⟨by rfl, ?_⟩) ?_ ?_
          rotate_left
          ·intro w'
           go_simp
           with_reducible rfl
          rotate_left
          ·simp only [Act.put, zq1, zq2, zq3, iw, jw]
           rfl
          refine pure_ (i := 26) (N := some 43) (v := ?_) (a' := ?_) (bA 39 134217727) rfl rfl (aof HT_.out (by kernel_rfl)) (fun _ _ _ h => h) (Or.inl ⟨by rfl, ?_⟩) ?_ ?_
          rotate_left
          ·intro w'
           go_simp
           with_reducible rfl
          rotate_left
          ·simp only [Act.put, zq1, zq2, zq3, iw, jw]
           rfl
          refine pure_ (i := 27) (N := some 44) (v := ?_) (a' := ?_) (bA 39 268435455) rfl rfl (aof HT_.out (by kernel_rfl)) (fun _ _ _ h => h) (Or.inl ⟨by rfl, ?_⟩) ?_ ?_
          rotate_left
          ·intro w'
           go_simp
           with_reducible rfl
          rotate_left
          ·simp only [Act.put, zq1, zq2, zq3, iw, jw]
           rfl
          refine pure_ (i := 28) (N := some 45) (v := ?_) (a' := ?_) (bA 39 536870911) rfl rfl (aof HT_.out (by kernel_rfl)) (fun _ _ _ h => h) (Or.inl ⟨by rfl, ?_⟩) ?_ ?_
          rotate_left
          ·intro w'
           go_simp
           with_reducible rfl
          rotate_left
          ·simp only [Act.put, zq1, zq2, zq3, iw, jw]
           rfl
          refine pure_ (i := 29) (N := some 46) (v := ?_) (a' := ?_) (bA 39 1073741823) rfl rfl (aof HT_.out (by kernel_rfl)) (fun _ _ _ h => h) (Or.inl ⟨by rfl, ?_⟩) ?_ ?_
          rotate_left
          ·intro w'
           go_simp
           with_reducible rfl
          rotate_left
          ·simp only [Act.put, zq1, zq2, zq3, iw, jw]
           rfl
          refine pure_ (i := 31) (N := some 48) (v := ?_) (a' := ?_) (bA 39 3221225471) rfl rfl (aof HT_.out (by kernel_rfl)) (fun _ _ _ h => h) (Or.inl ⟨by rfl, ?_⟩) ?_ ?_
          rotate_left
          ·intro w'
           go_simp
           with_reducible rfl
          rotate_left
          ·simp only [Act.put, zq1, zq2, zq3, iw, jw]
           rfl
          refine pure_ (i := 32) (N := some 49) (v := ?_) (a' := ?_) (bA 39 7516192767) rfl rfl (aof HT_.out (by kernel_rfl)) (fun _ _ _ h => h) (Or.inl ⟨by rfl, ?_⟩) ?_ ?_
          rotate_left
          ·intro w'
           go_simp
           with_reducible rfl
          rotate_left
          ·simp only [Act.put, zq1, zq2, zq3, iw, jw]
           rfl
          refine pure_ (i := 33) (N := some 50) (v := ?_) (a' := ?_) (bA 39 16106127359) rfl rfl (aof HT_.out (by kernel_rfl)) (fun _ _ _ h => h) (Or.inl ⟨by rfl, ?_⟩) ?_ ?_
          rotate_left
          ·intro w'
           go_simp
           with_reducible rfl
          rotate_left
          ·simp only [Act.put, zq1, zq2, zq3, iw, jw]
           rfl
          refine pure_ (i := 34) (N := some 51) (v := ?_) (a' := ?_) (bA 39 33285996543) rfl rfl (aof HT_.out (by kernel_rfl)) (fun _ _ _ h => h) (Or.inl ⟨by rfl, ?_⟩) ?_ ?_
          rotate_left
          ·intro w'
           go_simp
           with_reducible rfl
          rotate_left
          ·simp only [Act.put, zq1, zq2, zq3, iw, jw]
           rfl
          refine take_ (i := 30) (N := some 47) (v := ?_) (a' := ?_) (bA 39 34359738367) rfl rfl (tof HT_.out HW_.out (by kernel_rfl)) (fun _ _ _ h => h) (Or.inl ⟨by rfl, ?_⟩) hHeld ?_ ?_
          rotate_left
          ·rintro w' ⟨s0, s1, s2, s3, s4, s5, s6, s7, s8, s9, s10, s11, s12, s13, s14, s15, s16, s17⟩
           go_simp
           with_reducible rfl
          rotate_left
          ·simp only [Act.put, zq1, zq2, zq3, iw, jw]
           rfl
          refine take_ (i := 35) (N := some 52) (v := ?_) (a' := ?_) (bA 39 68719476735) rfl rfl (tof HT_.out HW_.out (by kernel_rfl)) (fun _ _ _ h => h) (Or.inl ⟨by rfl, ?_⟩) hHeld ?_ ?_
          rotate_left
          ·rintro w' ⟨s0, s1, s2, s3, s4, s5, s6, s7, s8, s9, s10, s11, s12, s13, s14, s15, s16, s17⟩
           go_simp
           with_reducible rfl
          rotate_left
          ·simp only [Act.put, zq1, zq2, zq3, iw, jw]
           rfl
          refine one_ (i := 36) (N := some 53) (bA 39 137438953471) rfl rfl (one_of HT_.out (by kernel_rfl)) (by decide) (fun K hK => ?_)
          refine goes_ Tryz.func17 (by kernel_rfl) rfl #[.slice A103_2 ((rd_T42 l0 x5_1).f2).length c103_2, .slice A104_2 ((rd_T42 l1 x5_1).f2).length c104_2] (by rfl) rfl rfl (by (try simp only [List.map_toArray, List.map_cons, List.map_nil]); first | done | rfl | (simp only [List.length_drop, List.length_take]; rfl)) ?_
          with_reducible refine (netlabref32_EqInts.calls k1 _ _ ((rd_T42 l0 x5_1).f2) _ _ ((rd_T42 l1 x5_1).f2) false _ ?side1 ?side2 ?side3 ?side4 A11.out).mono ?_
          (case side1 => repeat (first | exact (Kd.C_below HR108_2.out (by repeat (first | (with_reducible first | exact HB.out | apply bwa | apply pwN | apply bw1) | exact HB.out))) | (with_reducible refine Kd.C_alloc ?_ _) | (with_reducible refine Kd.C_drewN ?_ _) | (with_reducible refine Kd.C_drew ?_)))
          (case side2 => exact HC108_2.out)
          (case side3 => repeat (first | exact (Kd.C_below HR109_2.out (by repeat (first | (with_reducible first | exact HB.out | apply bwa | apply pwN | apply bw1) | exact HB.out))) | (with_reducible refine Kd.C_alloc ?_ _) | (with_reducible refine Kd.C_drewN ?_ _) | (with_reducible refine Kd.C_drew ?_)))
          (case side4 => exact HC109_2.out)
          rintro e w' ⟨rfl, ⟨nd, rfl⟩⟩
          refine ⟨_, rfl, ?_⟩
          refine hK.out _ _ ⟨(HB.out.zc hw103_0), (HB.out.zc hw103_1), (HB.out.zc hw103_2), (HB.out.zc hw104_0), (HB.out.zc hw104_1), (HB.out.zc hw104_2), (HB.out.zc hw105_0), (HB.out.zc hw105_1), (HB.out.zc hw105_2), (HB.out.zc hw106_0), (HB.out.zc hw106_1), (HB.out.zc hw106_2), (HB.out.zc hw108_0), (HB.out.zc hw108_1), (HB.out.zc hw108_2), (HB.out.zc hw109_0), (HB.out.zc hw109_1), (HB.out.zc hw109_2)⟩ (fun hHeld => ?_)
          clear hK K
          refine norm_ (a' := ?_) ?_ ?_
          rotate_left
          ·show Act.put _ (some 53) _ = _
           simp only [Act.put, zq1, zq2, zq3, iw, jw]
           rfl
          refine pure_ (i := 37) (N := some 54) (v := ?_) (a' := ?_) (bA 39 274877906943) rfl rfl (aof HT_.out (by kernel_rfl)) (fun _ _ _ h => h) (Or.inl ⟨by rfl, ?_⟩) ?_ ?_
          rotate_left
          ·intro w'
           go_simp
           with_reducible rfl
          rotate_left
          ·simp only [Act.put, zq1, zq2, zq3, iw, jw]
           rfl
          refine pure_ (i := 38) (N := some 55) (v := ?_) (a' := ?_) (bA 39 549755813887) rfl rfl (aof HT_.out (by kernel_rfl)) (fun _ _ _ h => h) (Or.inl ⟨by rfl, ?_⟩) ?_ ?_
          rotate_left
          ·intro w'
           go_simp
           with_reducible rfl
          rotate_left
          ·simp only [Act.put, zq1, zq2, zq3, iw, jw]
           rfl
          refine done_ (done_of HT_.out (by kernel_rfl)) ?_
          try go_wp2
          go_ret
          exact ⟨by first | rfl | (simp [errW_none, errW_some] <;> rfl) | (simp [*, errW_none, errW_some] <;> rfl), by repeat (first | (with_reducible first | exact HB.out | apply bwa | apply pwN | apply bw1) | exact HB.out)⟩
        ·replace c10 := Bool.eq_false_iff.mpr c10
         subst c10
         have H1 : (some false) = some r := by rw [if_neg (show ¬ (false = true) by decide)] at H; exact H
         clear H
         have H := H1
         clear H1
         obtain rfl := Option.some.inj H
         try go_wp2
         have n0_ := Az.mk (bw1 HB.out)
         clear HB
         have HB := n0_
         clear n0_
         have p103 : 0 ≤ (x5_1 : Int) := of_decide_eq_true (by assumption)
         have q103 : x5_1 < (l0.length : Int) := of_decide_eq_true (by assumption)
         obtain ⟨ad103, A103_0, c103_0, A103_2, c103_2, e103, hx103_0, hx103_1, hx103_2, hl103_0, hi103_0, hl103_2, hi103_2⟩ := at_T42 HR0.out x5_1 p103 q103
         have hw103_2 := hx103_2
         have hw103_1 := hx103_1
         have hw103_0 := hx103_0
         cases e103
         replace hx103_0 := (HB.out.cell (World.block_lt_of_cell? w _ hx103_0)).trans hx103_0
         replace hx103_1 := (HB.out.cell (World.block_lt_of_cell? w _ hx103_1)).trans hx103_1
         replace hx103_2 := (HB.out.cell (World.block_lt_of_cell? w _ hx103_2)).trans hx103_2
         have HR103_0 := Az.mk hi103_0
         have HC103_0 := Az.mk hl103_0
         clear hi103_0 hl103_0
         have HR103_2 := Az.mk hi103_2
         have HC103_2 := Az.mk hl103_2
         clear hi103_2 hl103_2
         replace p103 := eq_true p103
         replace q103 := eq_true q103
         have p104 : 0 ≤ (x5_1 : Int) := of_decide_eq_true (by assumption)
         have q104 : x5_1 < (l1.length : Int) := of_decide_eq_true (by assumption)
         obtain ⟨ad104, A104_0, c104_0, A104_2, c104_2, e104, hx104_0, hx104_1, hx104_2, hl104_0, hi104_0, hl104_2, hi104_2⟩ := at_T42 HR1.out x5_1 p104 q104
         have hw104_2 := hx104_2
         have hw104_1 := hx104_1
         have hw104_0 := hx104_0
         cases e104
         replace hx104_0 := (HB.out.cell (World.block_lt_of_cell? w _ hx104_0)).trans hx104_0
         replace hx104_1 := (HB.out.cell (World.block_lt_of_cell? w _ hx104_1)).trans hx104_1
         replace hx104_2 := (HB.out.cell (World.block_lt_of_cell? w _ hx104_2)).trans hx104_2
         have HR104_0 := Az.mk hi104_0
         have HC104_0 := Az.mk hl104_0
         clear hi104_0 hl104_0
         have HR104_2 := Az.mk hi104_2
         have HC104_2 := Az.mk hl104_2
         clear hi104_2 hl104_2
         replace p104 := eq_true p104
         replace q104 := eq_true q104
         have p105 : 0 ≤ (x5_1 : Int) := of_decide_eq_true (by assumption)
         have q105 : x5_1 < (l0.length : Int) := of_decide_eq_true (by assumption)
         obtain ⟨ad105, A105_0, c105_0, A105_2, c105_2, e105, hx105_0, hx105_1, hx105_2, hl105_0, hi105_0, hl105_2, hi105_2⟩ := at_T42 HR0.out x5_1 p105 q105
         have hw105_2 := hx105_2
         have hw105_1 := hx105_1
         have hw105_0 := hx105_0
         obtain rfl : ad103 = ad105 := (by injection e105)
         replace hx105_0 := (HB.out.cell (World.block_lt_of_cell? w _ hx105_0)).trans hx105_0
         replace hx105_1 := (HB.out.cell (World.block_lt_of_cell? w _ hx105_1)).trans hx105_1
         replace hx105_2 := (HB.out.cell (World.block_lt_of_cell? w _ hx105_2)).trans hx105_2
         have HR105_0 := Az.mk hi105_0
         have HC105_0 := Az.mk hl105_0
         clear hi105_0 hl105_0
         have HR105_2 := Az.mk hi105_2
         have HC105_2 := Az.mk hl105_2
         clear hi105_2 hl105_2
         replace p105 := eq_true p105
         replace q105 := eq_true q105
         have ea_ := Option.some.inj (hx103_0.symm.trans hx105_0)
         injection ea_ with ea_ en_ ec_
         subst ea_
         subst ec_
         clear en_
         have ea_ := Option.some.inj (hx103_2.symm.trans hx105_2)
         injection ea_ with ea_ en_ ec_
         subst ea_
         subst ec_
         clear en_
         have p106 : 0 ≤ (x5_1 : Int) := of_decide_eq_true (by assumption)
         have q106 : x5_1 < (l1.length : Int) := of_decide_eq_true (by assumption)
         obtain ⟨ad106, A106_0, c106_0, A106_2, c106_2, e106, hx106_0, hx106_1, hx106_2, hl106_0, hi106_0, hl106_2, hi106_2⟩ := at_T42 HR1.out x5_1 p106 q106
         have hw106_2 := hx106_2
         have hw106_1 := hx106_1
         have hw106_0 := hx106_0
         obtain rfl : ad104 = ad106 := (by injection e106)
         replace hx106_0 := (HB.out.cell (World.block_lt_of_cell? w _ hx106_0)).trans hx106_0
         replace hx106_1 := (HB.out.cell (World.block_lt_of_cell? w _ hx106_1)).trans hx106_1
         replace hx106_2 := (HB.out.cell (World.block_lt_of_cell? w _ hx106_2)).trans hx106_2
         have HR106_0 := Az.mk hi106_0
         have HC106_0 := Az.mk hl106_0
         clear hi106_0 hl106_0
         have HR106_2 := Az.mk hi106_2
         have HC106_2 := Az.mk hl106_2
         clear hi106_2 hl106_2
         replace p106 := eq_true p106
         replace q106 := eq_true q106
         have ea_ := Option.some.inj (hx104_0.symm.trans hx106_0)
         injection ea_ with ea_ en_ ec_
         subst ea_
         subst ec_
         clear en_
         have ea_ := Option.some.inj (hx104_2.symm.trans hx106_2)
         injection ea_ with ea_ en_ ec_
         subst ea_
         subst ec_
         clear en_
         refine start_ (n := 39) (S := fun w' => w'.cell? (ad103.add ((x5_1).toNat * 3)) = some (.slice A103_0 ((rd_T42 l0 x5_1).f0).length c103_0) ∧ w'.cell? ⟨(ad103.add ((x5_1).toNat * 3)).block, (ad103.add ((x5_1).toNat * 3)).off + 1, none⟩ = some (.bool ((rd_T42 l0 x5_1).f1)) ∧ w'.cell? ⟨(ad103.add ((x5_1).toNat * 3)).block, (ad103.add ((x5_1).toNat * 3)).off + 2, none⟩ = some (.slice A103_2 ((rd_T42 l0 x5_1).f2).length c103_2) ∧ w'.cell? (ad104.add ((x5_1).toNat * 3)) = some (.slice A104_0 ((rd_T42 l1 x5_1).f0).length c104_0) ∧ w'.cell? ⟨(ad104.add ((x5_1).toNat * 3)).block, (ad104.add ((x5_1).toNat * 3)).off + 1, none⟩ = some (.bool ((rd_T42 l1 x5_1).f1)) ∧ w'.cell? ⟨(ad104.add ((x5_1).toNat * 3)).block, (ad104.add ((x5_1).toNat * 3)).off + 2, none⟩ = some (.slice A104_2 ((rd_T42 l1 x5_1).f2).length c104_2) ∧ w'.cell? (ad103.add ((x5_1).toNat * 3)) = some (.slice A103_0 ((rd_T42 l0 x5_1).f0).length c103_0) ∧ w'.cell? ⟨(ad103.add ((x5_1).toNat * 3)).block, (ad103.add ((x5_1).toNat * 3)).off + 1, none⟩ = some (.bool ((rd_T42 l0 x5_1).f1)) ∧ w'.cell? ⟨(ad103.add ((x5_1).toNat * 3)).block, (ad103.add ((x5_1).toNat * 3)).off + 2, none⟩ = some (.slice A103_2 ((rd_T42 l0 x5_1).f2).length c103_2) ∧ w'.cell? (ad104.add ((x5_1).toNat * 3)) = some (.slice A104_0 ((rd_T42 l1 x5_1).f0).length c104_0) ∧ w'.cell? ⟨(ad104.add ((x5_1).toNat * 3)).block, (ad104.add ((x5_1).toNat * 3)).off + 1, none⟩ = some (.bool ((rd_T42 l1 x5_1).f1)) ∧ w'.cell? ⟨(ad104.add ((x5_1).toNat * 3)).block, (ad104.add ((x5_1).toNat * 3)).off + 2, none⟩ = some (.slice A104_2 ((rd_T42 l1 x5_1).f2).length c104_2)) (ds := []) #[false, false, false, false, false, false, false, false, false, false, false, false, false, false, false, false, false, false, false, false, false, false, false, false, false, false, false, false, false, false, false, false, false, false, false, false, false, false, false] (by kernel_rfl) rfl rfl ⟨(HB.out.zc hw103_0), (HB.out.zc hw103_1), (HB.out.zc hw103_2), (HB.out.zc hw104_0), (HB.out.zc hw104_1), (HB.out.zc hw104_2), (HB.out.zc hw105_0), (HB.out.zc hw105_1), (HB.out.zc hw105_2), (HB.out.zc hw106_0), (HB.out.zc hw106_1), (HB.out.zc hw106_2)⟩ (fun hHeld => ?_); refine with_tabW netlabref33_Same.tab6 netlabref33_Same.bits6 (fun HT_ HW_ => ?_)
         generalize wr.drew = w15 at HB HR103_0 HR103_2 HR104_0 HR104_2 HR105_0 HR105_2 HR106_0 HR106_2 hx103_0 hx103_1 hx103_2 hx104_0 hx104_1 hx104_2 hx105_0 hx105_1 hx105_2 hx106_0 hx106_1 hx106_2 hHeld ⊢
         refine pure_ (i := 0) (N := some 17) (v := ?_) (a' := ?_) (bA 39 1) rfl rfl (aof HT_.out (by kernel_rfl)) (fun _ _ _ h => h) (Or.inl ⟨by rfl, ?_⟩) ?_ ?_
         rotate_left
         ·intro w'
          go_simp
          with_reducible rfl
         rotate_left
         ·simp only [Act.put, zq1, zq2, zq3, iw, jw]
          rfl
         refine pure_ (i := 1) (N := some 18) (v := ?_) (a' := ?_) (bA 39 3) rfl rfl (aof HT_.out (by kernel_rfl)) (fun _ _ _ h => h) (Or.inl ⟨by rfl, ?_⟩) ?_ ?_
         rotate_left
         ·intro w'
          go_simp
          with_reducible rfl
         rotate_left
         ·simp only [Act.put, zq1, zq2, zq3, iw, jw]
          rfl
         refine pure_ (i := 2) (N := some 19) (v := ?_) (a' := ?_) (bA 39 7) rfl rfl (aof HT_.out (by kernel_rfl)) (fun _ _ _ h => h) (Or.inl ⟨by rfl, ?_⟩) ?_ ?_
         rotate_left
         ·intro w'
          go_simp
          with_reducible rfl
         rotate_left
         ·simp only [Act.put, zq1, zq2, zq3, iw, jw]
          rfl
         refine pure_ (i := 3) (N := some 20) (v := ?_) (a' := ?_) (bA 39 15) rfl rfl (aof HT_.out (by kernel_rfl)) (fun _ _ _ h => h) (Or.inl ⟨by rfl, ?_⟩) ?_ ?_
         rotate_left
         ·intro w'
          go_simp
          with_reducible rfl
         rotate_left
         ·simp only [Act.put, zq1, zq2, zq3, iw, jw]
          rfl
         refine pure_ (i := 5) (N := some 22) (v := ?_) (a' := ?_) (bA 39 47) rfl rfl (aof HT_.out (by kernel_rfl)) (fun _ _ _ h => h) (Or.inl ⟨by rfl, ?_⟩) ?_ ?_
         rotate_left
         ·intro w'
          go_simp
          with_reducible rfl
         rotate_left
         ·simp only [Act.put, zq1, zq2, zq3, iw, jw]
          rfl
         refine pure_ (i := 6) (N := some 23) (v := ?_) (a' := ?_) (bA 39 111) rfl rfl (aof HT_.out (by kernel_rfl)) (fun _ _ _ h => h) (Or.inl ⟨by rfl, ?_⟩) ?_ ?_
         rotate_left
         ·intro w'
          go_simp
          with_reducible rfl
         rotate_left
         ·simp only [Act.put, zq1, zq2, zq3, iw, jw]
          rfl
         refine pure_ (i := 7) (N := some 24) (v := ?_) (a' := ?_) (bA 39 239) rfl rfl (aof HT_.out (by kernel_rfl)) (fun _ _ _ h => h) (Or.inl ⟨by rfl, ?_⟩) ?_ ?_
         rotate_left
         ·intro w'
          go_simp
          with_reducible rfl
         rotate_left
         ·simp only [Act.put, zq1, zq2, zq3, iw, jw]
          rfl
         refine pure_ (i := 8) (N := some 25) (v := ?_) (a' := ?_) (bA 39 495) rfl rfl (aof HT_.out (by kernel_rfl)) (fun _ _ _ h => h) (Or.inl ⟨by rfl, ?_⟩) ?_ ?_
         rotate_left
         ·intro w'
          go_simp
          with_reducible rfl
         rotate_left
         ·simp only [Act.put, zq1, zq2, zq3, iw, jw]
          rfl
         refine take_ (i := 4) (N := some 21) (v := ?_) (a' := ?_) (bA 39 511) rfl rfl (tof HT_.out HW_.out (by kernel_rfl)) (fun _ _ _ h => h) (Or.inl ⟨by rfl, ?_⟩) hHeld ?_ ?_
         rotate_left
         ·rintro w' ⟨s0, s1, s2, s3, s4, s5, s6, s7, s8, s9, s10, s11⟩
          go_simp
          with_reducible rfl
         rotate_left
         ·simp only [Act.put, zq1, zq2, zq3, iw, jw]
          rfl
         refine take_ (i := 9) (N := some 26) (v := ?_) (a' := ?_) (bA 39 1023) rfl rfl (tof HT_.out HW_.out (by kernel_rfl)) (fun _ _ _ h => h) (Or.inl ⟨by rfl, ?_⟩) hHeld ?_ ?_
         rotate_left
         ·rintro w' ⟨s0, s1, s2, s3, s4, s5, s6, s7, s8, s9, s10, s11⟩
          go_simp
          with_reducible rfl
         rotate_left
         ·simp only [Act.put, zq1, zq2, zq3, iw, jw]
          rfl
         refine pure_ (i := 10) (N := some 27) (v := ?_) (a' := ?_) (bA 39 2047) rfl rfl (aof HT_.out (by kernel_rfl)) (fun _ _ _ h => h) (Or.inl ⟨by rfl, ?_⟩) ?_ ?_
         rotate_left
         ·intro w'
          go_simp
          with_reducible rfl
         rotate_left
         ·simp only [Act.put, zq1, zq2, zq3, iw, jw]
          rfl
         refine pure_ (i := 11) (N := some 28) (v := ?_) (a' := ?_) (bA 39 4095) rfl rfl (aof HT_.out (by kernel_rfl)) (fun _ _ _ h => h) (Or.inl ⟨by rfl, ?_⟩) ?_ ?_
         rotate_left
         ·intro w'
          go_simp
          with_reducible rfl
         rotate_left
         ·simp only [Act.put, zq1, zq2, zq3, iw, jw]
          rfl
         refine pure_ (i := 12) (N := some 29) (v := ?_) (a' := ?_) (bA 39 8191) rfl rfl (aof HT_.out (by kernel_rfl)) (fun _ _ _ h => h) (Or.inl ⟨by rfl, ?_⟩) ?_ ?_
         rotate_left
         ·intro w'
          go_simp
          with_reducible rfl
         rotate_left
         ·simp only [Act.put, zq1, zq2, zq3, iw, jw]
          rfl
         refine pure_ (i := 13) (N := some 30) (v := ?_) (a' := ?_) (bA 39 16383) rfl rfl (aof HT_.out (by kernel_rfl)) (fun _ _ _ h => h) (Or.inl ⟨by rfl, ?_⟩) ?_ ?_
         rotate_left
         ·intro w'
          go_simp
          with_reducible rfl
         rotate_left
         ·simp only [Act.put, zq1, zq2, zq3, iw, jw]
          rfl
         refine pure_ (i := 14) (N := some 31) (v := ?_) (a' := ?_) (bA 39 32767) rfl rfl (aof HT_.out (by kernel_rfl)) (fun _ _ _ h => h) (Or.inl ⟨by rfl, ?_⟩) ?_ ?_
         rotate_left
         ·intro w'
          go_simp
          with_reducible rfl
         rotate_left
         ·simp only [Act.put, zq1, zq2, zq3, iw, jw]
          rfl
         refine pure_ (i := 15) (N := some 32) (v := ?_) (a' := ?_) (bA 39 65535) rfl rfl (aof HT_.out (by kernel_rfl)) (fun _ _ _ h => h) (Or.inl ⟨by rfl, ?_⟩) ?_ ?_
         rotate_left
         ·intro w'
          go_simp
          with_reducible rfl
         rotate_left
         ·simp only [Act.put, zq1, zq2, zq3, iw, jw]
          rfl
         refine pure_ (i := 17) (N := some 34) (v := ?_) (a' := ?_) (bA 39 196607) rfl rfl (aof HT_.out (by kernel_rfl)) (fun _ _ _ h => h) (Or.inl ⟨by rfl, ?_⟩) ?_ ?_
         rotate_left
         ·intro w'
          go_simp
          with_reducible rfl
         rotate_left
         ·simp only [Act.put, zq1, zq2, zq3, iw, jw]
          rfl
         refine pure_ (i := 18) (N := some 35) (v := ?_) (a' := ?_) (bA 39 458751) rfl rfl (aof HT_.out (by kernel_rfl)) (fun _ _ _ h => h) (Or.inl ⟨by rfl, ?_⟩) ?_ ?_
         rotate_left
         ·intro w'
          go_simp
          with_reducible rfl
         rotate_left
         ·simp only [Act.put, zq1, zq2, zq3, iw, jw]
          rfl
         refine pure_ (i := 19) (N := some 36) (v := ?_) (a' := ?_) (bA 39 983039) rfl rfl (aof HT_.out (by kernel_rfl)) (fun _ _ _ h => h) (Or.inl ⟨by rfl, ?_⟩) ?_ ?_
         rotate_left
         ·intro w'
          go_simp
          with_reducible rfl
         rotate_left
         ·simp only [Act.put, zq1, zq2, zq3, iw, jw]
          rfl
         refine pure_ (i := 20) (N := some 37) (v := ?_) (a' := ?_) (bA 39 2031615) rfl rfl (aof HT_.out (by kernel_rfl)) (fun _ _ _ h => h) (Or.inl ⟨by rfl, ?_⟩) ?_ ?_
         rotate_left
         ·intro w'
          go_simp
          with_reducible rfl
         rotate_left
         ·simp only [Act.put, zq1, zq2, zq3, iw, jw]
          rfl
         refine take_ (i := 16) (N := some 33) (v := ?_) (a' := ?_) (bA 39 2097151) rfl rfl (tof HT_.out HW_.out (by kernel_rfl)) (fun _ _ _ h => h) (Or.inl ⟨by rfl, ?_⟩) hHeld ?_ ?_
         rotate_left
         ·rintro w' ⟨s0, s1, s2, s3, s4, s5, s6, s7, s8, s9, s10, s11⟩
          go_simp
          with_reducible rfl
         rotate_left
         ·simp only [Act.put, zq1, zq2, zq3, iw, jw]
          rfl
         refine take_ (i := 21) (N := some 38) (v := ?_) (a' := ?_) (bA 39 4194303) rfl rfl (tof HT_.out HW_.out (by kernel_rfl)) (fun _ _ _ h => h) (Or.inl ⟨by rfl, ?_⟩) hHeld ?_ ?_
         rotate_left
         ·rintro w' ⟨s0, s1, s2, s3, s4, s5, s6, s7, s8, s9, s10, s11⟩
          go_simp
          with_reducible rfl
         rotate_left
         ·simp only [Act.put, zq1, zq2, zq3, iw, jw]
          rfl
         refine one_ (i := 22) (N := some 39) (bA 39 8388607) rfl rfl (one_of HT_.out (by kernel_rfl)) (by decide) (fun K hK => ?_)
         refine goes_ Tryz.func17 (by kernel_rfl) rfl #[.slice A103_0 ((rd_T42 l0 x5_1).f0).length c103_0, .slice A104_0 ((rd_T42 l1 x5_1).f0).length c104_0] (by rfl) rfl rfl (by (try simp only [List.map_toArray, List.map_cons, List.map_nil]); first | done | rfl | (simp only [List.length_drop, List.length_take]; rfl)) ?_
         with_reducible refine (netlabref32_EqInts.calls k1 _ _ ((rd_T42 l0 x5_1).f0) _ _ ((rd_T42 l1 x5_1).f0) false _ ?side1 ?side2 ?side3 ?side4 A9.out).mono ?_
         (case side1 => repeat (first | exact (Kd.C_below HR105_0.out HB.out) | (with_reducible refine Kd.C_alloc ?_ _) | (with_reducible refine Kd.C_drewN ?_ _) | (with_reducible refine Kd.C_drew ?_)))
         (case side2 => exact HC105_0.out)
         (case side3 => repeat (first | exact (Kd.C_below HR106_0.out HB.out) | (with_reducible refine Kd.C_alloc ?_ _) | (with_reducible refine Kd.C_drewN ?_ _) | (with_reducible refine Kd.C_drew ?_)))
         (case side4 => exact HC106_0.out)
         rintro e w' ⟨rfl, ⟨nd, rfl⟩⟩
         refine ⟨_, rfl, ?_⟩
         refine hK.out _ _ ⟨(HB.out.zc hw103_0), (HB.out.zc hw103_1), (HB.out.zc hw103_2), (HB.out.zc hw104_0), (HB.out.zc hw104_1), (HB.out.zc hw104_2), (HB.out.zc hw105_0), (HB.out.zc hw105_1), (HB.out.zc hw105_2), (HB.out.zc hw106_0), (HB.out.zc hw106_1), (HB.out.zc hw106_2)⟩ (fun hHeld => ?_)
         clear hK K
         refine norm_ (a' := ?_) ?_ ?_
         rotate_left
         ·show Act.put _ (some 39) _ = _
          simp only [Act.put, zq1, zq2, zq3, iw, jw]
          rfl
         refine pure_ (i := 23) (N := some 40) (v := ?_) (a' := ?_) (bA 39 16777215) rfl rfl (aof HT_.out (by kernel_rfl)) (fun _ _ _ h => h) (Or.inl ⟨by rfl, ?_⟩) ?_ ?_
         rotate_left
         ·intro w'
          go_simp
          with_reducible rfl
         rotate_left
         ·simp only [Act.put, zq1, zq2, zq3, iw, jw]
          rfl
         refine pure_ (i := 24) (N := some 41) (v := ?_) (a' := ?_) (bA 39 33554431) rfl rfl (aof HT_.out (by kernel_rfl)) (fun _ _ _ h => h) (Or.inl ⟨by rfl, ?_⟩) ?_ ?_
         rotate_left
         ·intro w'
          go_simp
          with_reducible rfl
         rotate_left
         ·simp only [Act.put, zq1, zq2, zq3, iw, jw]
          rfl
         refine pure_ (i := 25) (N := some 42) (v := ?_) (a' := ?_) (bA 39 67108863) rfl rfl (aof HT_.out (by kernel_rfl)) (fun _ _ _ h => h) (Or.inl ⟨by rfl, ?_⟩) ?_ ?_
         rotate_left
         ·intro w'
          go_simp
          with_reducible rfl
         rotate_left
         ·simp only [Act.put, zq1, zq2, zq3, iw, jw]
          rfl
         refine pure_ (i := 26) (N := some 43) (v := undef) (a' := ?_) (bA 39 134217727) rfl rfl (aof HT_.out (by kernel_rfl)) (fun _ _ _ h => h) (Or.inr ⟨by rfl, rfl⟩) ?_ ?_
         rotate_left
         ·simp only [Act.put, zq1, zq2, zq3, iw, jw]
          rfl
         refine pure_ (i := 27) (N := some 44) (v := undef) (a' := ?_) (bA 39 268435455) rfl rfl (aof HT_.out (by kernel_rfl)) (fun _ _ _ h => h) (Or.inr ⟨by rfl, rfl⟩) ?_ ?_
         rotate_left
         ·simp only [Act.put, zq1, zq2, zq3, iw, jw]
          rfl
         refine pure_ (i := 28) (N := some 45) (v := undef) (a' := ?_) (bA 39 536870911) rfl rfl (aof HT_.out (by kernel_rfl)) (fun _ _ _ h => h) (Or.inr ⟨by rfl, rfl⟩) ?_ ?_
         rotate_left
         ·simp only [Act.put, zq1, zq2, zq3, iw, jw]
          rfl
         refine pure_ (i := 29) (N := some 46) (v := undef) (a' := ?_) (bA 39 1073741823) rfl rfl (aof HT_.out (by kernel_rfl)) (fun _ _ _ h => h) (Or.inr ⟨by rfl, rfl⟩) ?_ ?_
         rotate_left
         ·simp only [Act.put, zq1, zq2, zq3, iw, jw]
          rfl
         refine pure_ (i := 30) (N := some 47) (v := undef) (a' := ?_) (bA 39 2147483647) rfl rfl (aof HT_.out (by kernel_rfl)) (fun _ _ _ h => h) (Or.inr ⟨by rfl, rfl⟩) ?_ ?_
         rotate_left
         ·simp only [Act.put, zq1, zq2, zq3, iw, jw]
          rfl
         refine pure_ (i := 31) (N := some 48) (v := undef) (a' := ?_) (bA 39 4294967295) rfl rfl (aof HT_.out (by kernel_rfl)) (fun _ _ _ h => h) (Or.inr ⟨by rfl, rfl⟩) ?_ ?_
         rotate_left
         ·simp only [Act.put, zq1, zq2, zq3, iw, jw]
          rfl
         refine pure_ (i := 32) (N := some 49) (v := undef) (a' := ?_) (bA 39 8589934591) rfl rfl (aof HT_.out (by kernel_rfl)) (fun _ _ _ h => h) (Or.inr ⟨by rfl, rfl⟩) ?_ ?_
         rotate_left
         ·simp only [Act.put, zq1, zq2, zq3, iw, jw]
          rfl
         refine pure_ (i := 33) (N := some 50) (v := undef) (a' := ?_) (bA 39 17179869183) rfl rfl (aof HT_.out (by kernel_rfl)) (fun _ _ _ h => h) (Or.inr ⟨by rfl, rfl⟩) ?_ ?_
         rotate_left
         ·simp only [Act.put, zq1, zq2, zq3, iw, jw]
          rfl
         refine pure_ (i := 34) (N := some 51) (v := undef) (a' := ?_) (bA 39 34359738367) rfl rfl (aof HT_.out (by kernel_rfl)) (fun _ _ _ h => h) (Or.inr ⟨by rfl, rfl⟩) ?_ ?_
         rotate_left
         ·simp only [Act.put, zq1, zq2, zq3, iw, jw]
          rfl
         refine pure_ (i := 35) (N := some 52) (v := undef) (a' := ?_) (bA 39 68719476735) rfl rfl (aof HT_.out (by kernel_rfl)) (fun _ _ _ h => h) (Or.inr ⟨by rfl, rfl⟩) ?_ ?_
         rotate_left
         ·simp only [Act.put, zq1, zq2, zq3, iw, jw]
          rfl
         refine pure_ (i := 36) (N := some 53) (v := undef) (a' := ?_) (bA 39 137438953471) rfl rfl (aof HT_.out (by kernel_rfl)) (fun _ _ _ h => h) (Or.inr ⟨by rfl, rfl⟩) ?_ ?_
         rotate_left
         ·simp only [Act.put, zq1, zq2, zq3, iw, jw]
          rfl
         refine pure_ (i := 37) (N := some 54) (v := undef) (a' := ?_) (bA 39 274877906943) rfl rfl (aof HT_.out (by kernel_rfl)) (fun _ _ _ h => h) (Or.inr ⟨by rfl, rfl⟩) ?_ ?_
         rotate_left
         ·simp only [Act.put, zq1, zq2, zq3, iw, jw]
          rfl
         refine pure_ (i := 38) (N := some 55) (v := ?_) (a' := ?_) (bA 39 549755813887) rfl rfl (aof HT_.out (by kernel_rfl)) (fun _ _ _ h => h) (Or.inl ⟨by rfl, ?_⟩) ?_ ?_
         rotate_left
         ·intro w'
          go_simp
          with_reducible rfl
         rotate_left
         ·simp only [Act.put, zq1, zq2, zq3, iw, jw]
          rfl
         refine done_ (done_of HT_.out (by kernel_rfl)) ?_
         try go_wp2
         go_ret
         exact ⟨by first | rfl | (simp [errW_none, errW_some] <;> rfl) | (simp [*, errW_none, errW_some] <;> rfl), by repeat (first | (with_reducible first | exact HB.out | apply bwa | apply pwN | apply bw1) | exact HB.out)⟩
      ·rw [if_neg c6] at H
       exact absurd H (by simp)
     ·rw [if_neg c5] at H
      exact absurd H (by simp)
    ·rw [if_neg c4] at H
     have c4b0 : decide (x5_1 < (l0.length : Int)) = false := decide_eq_false c4
     clear c4
     obtain rfl := Option.some.inj H
     go_wp2
     go_ret
     exact ⟨by first | rfl | (simp [errW_none, errW_some] <;> rfl) | (simp [*, errW_none, errW_some] <;> rfl), by repeat (first | (with_reducible first | exact HB.out | apply bwa | apply pwN | apply bw1) | exact HB.out)⟩
 ·rw [if_neg c3] at H
  have c3b0 : ((l0.length : Int) == (l1.length : Int)) = false := beq_eq_false_iff_ne.mpr c3
  have c3b1 : ((l0.length : Int) != (l1.length : Int)) = true := bne_iff_ne.mpr c3
  have c3b2 : (l0.length == l1.length) = false := by first | simpa using c3 | (simp at c3 ⊢; omega)
  obtain rfl := Option.some.inj H
  go_enter Tryz.func18, Tryz.ntmps18
  go_wp2
  go_ret
  exact ⟨by first | rfl | (simp [errW_none, errW_some] <;> rfl) | (simp [*, errW_none, errW_some] <;> rfl), by repeat (first | (with_reducible first | exact HB.out | apply bwa | apply pwN | apply bw1) | exact HB.out)⟩
end Go.Proofs.YtogicccdngpafaaGreatDoor.PSame
end
