/-
  Part 9 of the proof of proofText_card: walks and lemmas, packed by the session's own wip/pack.py out of its texts and of what the kit's print.sh printed.
-/
import Derived.Test.YtogicccdngpafaaGreatDoorPT4
import Derived.Test.YtogicccdngpafaaGreatDoorProg
import Derived.Test.YtogicccdngpafaaGreatDoorPT8
set_option linter.unusedVariables false
set_option linter.unusedSimpArgs false
section
set_option maxHeartbeats 1000000
set_option maxRecDepth 100000
namespace Go.Proofs.YtogicccdngpafaaGreatDoor.NState
open Go Go.RowKit QW.PrintWords QW.PrintLast QW.PrintMore NMap
def setF (S : List Int) : Int → Option Value := fun x => if S.contains x then some (.bool true) else none
def assumeL (S : List Int) : List Int → Option (List Int)
 | [] => some S
 | l :: ls => if S.contains l then none else assumeL (wrap64 (-l) :: S) ls
def AssumePost (w : World) (r : Option (List Int)) (e : Ending) (w' : World) : Prop :=
 Below w.heap.size w w' ∧ ((r = none ∧ e = .returned (.tuple #[.map none, .bool false])) ∨ ∃ S b, r = some S ∧ w.heap.size ≤ b ∧ e = .returned (.tuple #[.map (some b), .bool true]) ∧ HasMap (Value.int .i64) w' b (setF S))
theorem kint : KLaw Tryz.prog 3 (Value.int .i64) := KLaw.int Tryz.underlying3
theorem zeroBool (w : World) : (zeroValue 4).run Tryz.prog w = .ok (.bool false) w := by kernel_rfl
theorem setF_look (S : List Int) (x : Int) : (setF S x).getD (.bool false) = .bool (S.contains x) := by
 unfold setF; split
 ·rename_i h; simp only [Option.getD_some, h]
 ·rename_i h; simp only [Bool.not_eq_true] at h; simp only [Option.getD_none, h]
theorem setF_put (S : List Int) (x : Int) : put (setF S) x (.bool true) = setF (x :: S) := by
 funext y; unfold put setF
 by_cases h : y = x
 ·simp [h]
 ·simp [h]
theorem setF_nil : (fun _ => none) = setF [] := by funext y; simp [setF]
theorem turned_below {B b : Nat} {w w1 w2 : World} (h : Below B w w1) (ht : Turned w1 w2 b) (hb : B ≤ b) (hB : B ≤ w1.heap.size) : Below B w w2 :=
 h.grown ht.1 hB (fun k hk => by cases hk; exact hb)
theorem wrap_succ {k n : Nat} (h : k < n) (hn : n ≤ 9223372036854775807) : wrap64 ((k : Int) + 1) = ((k + 1 : Nat) : Int) := by unfold wrap64; omega
theorem meas_x {k n : Nat} {x : Int} (h : k < n) (e : x = ((k + 1 : Nat) : Int)) : n - (intOf (.int .i64 x)).toNat < n - (intOf (.int .i64 (k : Int))).toNat := by
 subst e
 simp only [intOf, Int.toNat_natCast]; omega
theorem assume_calls (A0 : Option Addr) (c0 : Nat) (l0 : List Int) (w : World) (hr0 : Kd.C (Kd.int .i64) w A0 l0.length l0) :
  Calls Tryz.prog 79 #[.slice A0 l0.length c0] w (AssumePost w (assumeL [] l0)) := by
 have HR0 := Az.mk hr0
 have HL := Az.mk (Kd.C_max hr0)
 clear hr0
 have hmm := @run_makeMap Tryz.prog
 go_enter Tryz.func79, Tryz.ntmps79
 go_wp2
 have HB := Az.mk (Below.refl w.heap.size w)
 have HM := Az.mk (HasMap.made (kv := Value.int .i64) w)
 clear hmm
 go_loopw [6, 10, 12, 13, 14, 15, 16, 17, 18, 19] (fun v6 v10 v12 v13 v14 v15 v16 v17 v18 v19 wr => ∃ (k : Nat) (S : List Int), v10 = .int .i64 k ∧ k ≤ l0.length ∧ Az (assumeL [] l0 = assumeL S (l0.drop k)) ∧ Az (HasMap (Value.int .i64) wr w.heap.size (setF S)) ∧ Az (Below w.heap.size w wr) ∧ Az (w.heap.size < wr.heap.size)) (fun _ v10 _ _ _ _ _ _ _ _ _ => l0.length - (intOf v10).toNat)
 case atStart => exact ⟨0, [], rfl, Nat.zero_le _, ⟨by simp⟩, ⟨by rw [← setF_nil]; exact HM.out⟩, ⟨HB.out.alloc (Nat.le_refl _) _⟩, ⟨by simp⟩⟩
 case round =>
  clear HB HM
  obtain ⟨k, S, rfl, hk, HA, HM, HB, HS⟩ := hrel
  by_cases hlt : k < l0.length
  ·obtain ⟨ad, rfl, hc⟩ := Kd.at_int HR0.out (k : Int) (by omega) (by omega)
   replace hc := (HB.out.cell (World.block_lt_of_cell? w _ hc)).trans hc
   have hx : l0.drop k = rd l0 k :: l0.drop (k + 1) := by
    rw [List.drop_eq_getElem_cons hlt]; simp [rd, List.getD, hlt]
   rw [hx] at HA
   generalize rd l0 k = x at HA hc
   have HX := Az.mk hx
   clear hx
   have hl := HM.out.lookup kint Tryz.underlying133 (zeroBool _) false x
   rw [setF_look] at hl
   simp only [Bool.false_eq_true, if_false] at hl
   simp only [Int.toNat_natCast] at hc
   by_cases hcon : S.contains x = true
   ·rw [hcon] at hl
    go_wp2
    go_ret2
    refine ⟨HB.out, .inl ⟨?_, rfl⟩⟩
    rw [HA.out, assumeL, if_pos hcon]
   ·rw [Bool.not_eq_true] at hcon
    rw [hcon] at hl
    go_wp2_with (at_mapUpdate; refine wp_store _ rfl _ _ _ 133 rfl 3 4 kint Tryz.underlying133 w.heap.size _ rfl HM.out _ _ rfl rfl ?_; intro w2 hm2 ht2; have HM2 := Az.mk hm2; have HT2 := Az.mk ht2; clear hm2 ht2)
    go_roundw
    case rel =>
     refine ⟨k + 1, wrap64 (-x) :: S, by rw [wrap_succ hlt HL.out], by clear HL; omega, ⟨?_⟩, ⟨?_⟩, ⟨?_⟩, ⟨?_⟩⟩
     ·rw [HA.out, assumeL, if_neg (by rw [hcon]; simp)]
     ·rw [← setF_put]; exact HM2.out
     ·exact turned_below HB.out HT2.out (Nat.le_refl _) (Nat.le_of_lt HS.out)
     ·rw [HT2.out.2.1]; exact HS.out
    case measure => exact meas_x hlt (wrap_succ hlt HL.out)
  ·go_wp2
   go_ret2
   refine ⟨HB.out, .inr ⟨S, w.heap.size, ?_, Nat.le_refl _, rfl, HM.out⟩⟩
   rw [HA.out, List.drop_of_length_le (by omega)]; rfl
def leftL (S : List Int) : Int → Int → List Int → Int × Int
 | only, n, [] => (only, n)
 | only, n, x :: xs => if S.contains (wrap64 (-x)) || (n == 1 && x == only) then leftL S only n xs else if n = 1 then (0, 2) else leftL S x 1 xs
theorem drop_rd {l : List Int} {k : Nat} (h : k < l.length) : l.drop k = rd l k :: l.drop (k + 1) := by
 rw [List.drop_eq_getElem_cons h]; simp [rd, List.getD, h]
theorem left_calls (b : Nat) (S : List Int) (A0 : Option Addr) (c0 : Nat) (l0 : List Int) (w : World) (hm0 : HasMap (Value.int .i64) w b (setF S)) (hr0 : Kd.C (Kd.int .i64) w A0 l0.length l0) :
  Calls Tryz.prog 80 #[.map (some b), .slice A0 l0.length c0] w fun e w' => e = .returned (.tuple #[.int .i64 (leftL S 0 0 l0).1, .int .i64 (leftL S 0 0 l0).2]) ∧ w = w' := by
 have HR0 := Az.mk hr0
 have HL := Az.mk (Kd.C_max hr0)
 have HM := Az.mk hm0
 clear hr0 hm0
 go_enter Tryz.func80, Tryz.ntmps80
 go_wp2
 go_loop [4, 5, 7, 10, 11, 12, 13, 14, 15, 16, 17, 18, 19, 20, 21, 22, 23, 24, 25, 26, 27, 28, 29, 30, 32, 33] (fun v4 v5 v7 v10 v11 v12 v13 v14 v15 v16 v17 v18 v19 v20 v21 v22 v23 v24 v25 v26 v27 v28 v29 v30 v32 v33 => ∃ (k : Nat) (only n : Int), v10 = .int .i64 k ∧ v4 = .int .i64 only ∧ v5 = .int .i64 n ∧ k ≤ l0.length ∧ Az (n = 0 ∨ n = 1) ∧ Az (leftL S 0 0 l0 = leftL S only n (l0.drop k))) (fun _ _ _ v10 _ _ _ _ _ _ _ _ _ _ _ _ _ _ _ _ _ _ _ _ _ _ => l0.length - (intOf v10).toNat)
 case atStart => exact ⟨0, 0, 0, rfl, rfl, rfl, Nat.zero_le _, ⟨.inl rfl⟩, ⟨by simp⟩⟩
 case round =>
  obtain ⟨k, only, n, rfl, rfl, rfl, hk, HN, HA⟩ := hrel
  by_cases hlt : k < l0.length
  ·obtain ⟨ad, rfl, hc⟩ := Kd.at_int HR0.out (k : Int) (by omega) (by omega)
   rw [drop_rd hlt] at HA
   generalize rd l0 k = x at HA hc
   have hl := HM.out.lookup kint Tryz.underlying133 (zeroBool _) false (wrap64 (-x))
   rw [setF_look] at hl
   simp only [Bool.false_eq_true, if_false] at hl
   simp only [Int.toNat_natCast] at hc
   by_cases hcon : S.contains (wrap64 (-x)) = true
   ·rw [hcon] at hl
    go_wp2
    go_round
    case rel =>
     refine ⟨k + 1, only, n, by rw [wrap_succ hlt HL.out], rfl, rfl, by omega, HN, ⟨?_⟩⟩
     rw [HA.out, leftL, hcon]; simp
    case measure => exact meas_x hlt (wrap_succ hlt HL.out)
   ·rw [Bool.not_eq_true] at hcon
    rw [hcon] at hl
    obtain hn | hn := HN.out
    ·subst hn
     go_wp2
     go_round
     case rel =>
      refine ⟨k + 1, x, 1, by rw [wrap_succ hlt HL.out], rfl, rfl, by omega, ⟨.inr rfl⟩, ⟨?_⟩⟩
      rw [HA.out, leftL, hcon]; simp
     case measure => exact meas_x hlt (wrap_succ hlt HL.out)
    ·subst hn
     by_cases hx : (x == only) = true
     ·go_wp2
      go_round
      case rel =>
       refine ⟨k + 1, only, 1, by rw [wrap_succ hlt HL.out], rfl, rfl, by omega, ⟨.inr rfl⟩, ⟨?_⟩⟩
       rw [HA.out, leftL, hcon, hx]; simp
      case measure => exact meas_x hlt (wrap_succ hlt HL.out)
     ·rw [Bool.not_eq_true] at hx
      have HX := Az.mk hx
      go_wp2
      go_ret2
      refine ⟨?_, rfl⟩
      rw [HA.out, leftL, hcon, HX.out]; simp
  ·go_wp2
   go_ret2
   refine ⟨?_, rfl⟩
   rw [HA.out, List.drop_of_length_le (by omega)]; rfl
end Go.Proofs.YtogicccdngpafaaGreatDoor.NState
end
