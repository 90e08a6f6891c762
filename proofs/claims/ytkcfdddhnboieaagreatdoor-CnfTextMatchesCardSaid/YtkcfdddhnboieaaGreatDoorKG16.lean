/-
  Part 16 of the proof of cnfTextMatches_card: walks and lemmas.
-/
import Derived.Test.YtkcfdddhnboieaaGreatDoorKG15
import Derived.Shelf.SlicesE.Kit
set_option linter.unusedVariables false
set_option linter.unusedSimpArgs false
section
set_option maxHeartbeats 4000000
set_option maxRecDepth 100000
namespace Go.Proofs.YtkcfdddhnboieaaGreatDoor.NState
open Go Go.RowKit Go.Shelf QW.PrintWords QW.PrintLast QW.PrintMore NMap
def compactLitR6.T : Bool × List (List Nat × List Nat) := (true, [([], []), ([], []), ([], []), ([1, 2], [1, 2]), ([3], [3]), ([], []), ([], []), ([6], [6]), ([5, 7], [5, 7]), ([8], [8]), ([0, 4, 9], [0, 4, 9])])
def compactLitR6.B : List Nat := [0, 0, 0, 6, 14, 0, 0, 64, 224, 480, 1023]
theorem compactLitR6.tab : rtab .any (opsOf Tryz.f137 6) = compactLitR6.T := by kernel_rfl
theorem compactLitR6.bits : waitsOk compactLitR6.T.2 compactLitR6.B = true := by kernel_rfl
def compactLitR11.T : Bool × List (List Nat × List Nat) := (true, [([], []), ([], []), ([], []), ([1, 2], [1, 2]), ([3], [3]), ([], []), ([], []), ([6], [6]), ([5, 7], [5, 7]), ([8], [8]), ([0, 4, 9], [0, 4, 9]), ([10], [10])])
def compactLitR11.B : List Nat := [0, 0, 0, 6, 14, 0, 0, 64, 224, 480, 1023, 2047]
theorem compactLitR11.tab : rtab .any (opsOf Tryz.f137 11) = compactLitR11.T := by kernel_rfl
theorem compactLitR11.bits : waitsOk compactLitR11.T.2 compactLitR11.B = true := by kernel_rfl
theorem compactLit_zero : ∀ w, (zeroValue 92).run Tryz.prog w = .ok (.int .i64 0) w := fun w => by kernel_rfl
theorem compactLit_info : (Tryz.prog.info? 92).map (fun i => (i.zero, i.size, i.bytes)) = some (some (.int .i64 0), 1, 8) := by kernel_rfl
theorem compactLit_calls {α : Type} [Inhabited α] {enc : α → Value} {h1 : ∀ x, (enc x).oneCell' = true} (z : α) (hz : enc z = .int .i64 0) (f : α → α → Bool) (g : FuncId) (lb : Array Value) (eg : ∀ args w, (callFunc g args).run Tryz.prog w = .ok (.enter g args) w)
  {base : Nat} {ok : Nat → Prop} {W : World} {v : Value} {xs : List α} (h : (Kd.scalar enc h1).R 92 W base ok v xs) (hlen : xs.length < 4611686018427387904)
  (hp : ∀ W' x y, W.grownBy W' v.ownBlock → x ∈ xs → y ∈ xs → Calls Tryz.prog g (#[enc x, enc y] ++ lb) W' fun e w' => e = .returned (.bool (f x y)) ∧ Below W'.heap.size W' w') :
  Calls Tryz.prog 137 #[v, .func (.func g) #[] lb] W fun e W' => ∃ v', e = .returned v' ∧ (Kd.scalar enc h1).R 92 W' base ok v' (compN z f xs xs.length) ∧ W.grownBy W' v.ownBlock := by
 have HP := Az.mk hp
 have EG := Az.mk eg
 have HL := Az.mk hlen
 have H0 := Az.mk h
 clear hp eg hlen
 obtain ⟨A, c, rfl⟩ := Kd.R_slice h
 by_cases h2 : xs.length < 2
 ·have HC : Az (compN z f xs xs.length = xs) := ⟨by rw [compN_take _ (Nat.le_refl _) (fun j h0 h1 => by omega), List.take_length]⟩
  have h2b : decide ((xs.length : Int) < 2) = true := decide_eq_true (by omega)
  clear h h2
  go_enter Tryz.func137, Tryz.ntmps137
  go_wp2
  go_ret
  exact ⟨_, rfl, by rw [HC.out]; exact H0.out, ⟨rfl, rfl, rfl, Nat.le_refl _, fun _ _ _ => rfl⟩⟩
 ·have h2b : decide ((xs.length : Int) < 2) = false := decide_eq_false (by omega)
  obtain ⟨g0, cp, eo, gb, gl, cl⟩ := Kd.R_form h (by omega)
  obtain ⟨rfl, -, rfl⟩ : A = some ⟨g0, 0, none⟩ ∧ True ∧ c = cp := by injection eo with a b c; exact ⟨a, trivial, c⟩
  have H2 : Az (2 ≤ xs.length) := ⟨by omega⟩
  have HCAP : Az (xs.length ≤ c) := ⟨by obtain ⟨_, hh, _⟩ := Kd.R_reads' h; exact hh⟩
  clear h h2 gb gl cl eo
  go_enter Tryz.func137, Tryz.ntmps137
  go_wp2
  go_loopw [5] (fun v5 wr => ∃ k : Nat, v5 = .int .i64 k ∧ 1 ≤ k ∧ k ≤ xs.length ∧ Az (∀ j, 0 < j → j < k → f (rdOf z xs j) (rdOf z xs ((j - 1 : Nat) : Int)) = false) ∧ Az ((Kd.scalar enc h1).R 92 wr base ok (.slice (some ⟨g0, 0, none⟩) xs.length c) xs) ∧ Az (W.grownBy wr (some g0))) (fun v5 _ => xs.length - (intOf v5).toNat)
  case atStart => exact ⟨1, rfl, Nat.le_refl _, by have := H2.out; omega, ⟨fun j h0 h1 => by omega⟩, H0, ⟨⟨rfl, rfl, rfl, Nat.le_refl _, fun _ _ _ => rfl⟩⟩⟩
  case round =>
   obtain ⟨k, rfl, hk1, hk, HA, HR, HG⟩ := hrel
   by_cases hlt : k < xs.length
   ·obtain ⟨hx1, _⟩ := Kd.R_celln z HR.out (k : Int) (by omega) (by omega)
    obtain ⟨hx0, _⟩ := Kd.R_celln z HR.out ((k - 1 : Nat) : Int) (by omega) (by omega)
    simp only [Int.toNat_natCast] at hx1 hx0
    have HXM : Az (rdOf z xs (k : Int) ∈ xs ∧ rdOf z xs ((k - 1 : Nat) : Int) ∈ xs) := ⟨by rw [rdOf_get hlt, rdOf_get (by omega)]; exact ⟨List.getElem_mem _, List.getElem_mem _⟩⟩
    have hwk : IntKind.i64.wrap ((k : Int) - 1) = ((k - 1 : Nat) : Int) := by rw [iw]; have := HL.out; unfold wrap64; omega
    have hk0 : ((k : Int) < xs.length) = True := eq_true (by omega)
    have hk2 : (0 ≤ (k : Int)) = True := eq_true (by omega)
    have hk3 : ((((k - 1 : Nat) : Int)) < xs.length) = True := eq_true (by omega)
    have hk4 : (0 ≤ ((k - 1 : Nat) : Int)) = True := eq_true (by omega)
    have HK : Az (1 ≤ k ∧ k < xs.length) := ⟨⟨hk1, hlt⟩⟩
    have HN : Az (compN z f xs (k + 1) = xs.take k ++ if f (rdOf z xs (k : Int)) (rdOf z xs ((k - 1 : Nat) : Int)) = true then [] else [rdOf z xs (k : Int)]) := ⟨by
     have hk0 : k ≠ 0 := by omega
     rw [compN, compN_take k hk HA.out]
     by_cases hf : f (rdOf z xs (k : Int)) (rdOf z xs ((k - 1 : Nat) : Int)) = true <;> simp [hk0, hf]⟩
    have HNX : Az (f (rdOf z xs (k : Int)) (rdOf z xs ((k - 1 : Nat) : Int)) = false → ∀ j, 0 < j → j < k + 1 → f (rdOf z xs j) (rdOf z xs ((j - 1 : Nat) : Int)) = false) := ⟨fun h j h0 h1 => by
     by_cases e : j = k
     ·subst e; exact h
     ·exact HA.out j h0 (by omega)⟩
    go_wp2_with fail
    generalize rdOf z xs (k : Int) = x at hx1 HXM HN HNX
    generalize rdOf z xs ((k - 1 : Nat) : Int) = y at hx0 HXM HN HNX
    have HPC := Az.mk (fun W' (hg : W.grownBy W' (some g0)) => HP.out W' x y hg HXM.out.1 HXM.out.2)
    have HGd : Az (W.grownBy wr.drew (some g0)) := ⟨grown_below HG.out (below_drew (Below.refl _ _))⟩
    have HRd := Az.mk (Kd.R_drew HR.out)
    clear HXM
    generalize f x y = b at HPC HN HNX
    refine start_ (n := 11) (S := fun w' => w'.cell? ⟨g0, k, none⟩ = some (enc x) ∧ w'.cell? ⟨g0, k - 1, none⟩ = some (enc y)) (ds := []) (Array.replicate 11 false) (by kernel_rfl) rfl rfl ⟨hx1, hx0⟩ (fun hHeld => ?_); refine with_tabW compactLitR6.tab compactLitR6.bits (fun HT_ HW_ => ?_)
    refine pA 0 (some 18) (bA 11 1) rfl rfl HT_.out (by intro w'; go_simp; with_reducible rfl) (by simp only [Act.put, zq1, zq2, zq3, iw, jw]; rfl) ?_
    refine pA 1 (some 19) (bA 11 3) rfl rfl HT_.out (by intro w'; go_simp; with_reducible rfl) (by simp only [Act.put, zq1, zq2, zq3, iw, jw]; rfl) ?_
    refine pA 2 (some 20) (bA 11 7) rfl rfl HT_.out (by intro w'; go_simp; with_reducible rfl) (by simp only [Act.put, zq1, zq2, zq3, iw, jw]; rfl) ?_
    refine pA 3 (some 21) (bA 11 15) rfl rfl HT_.out (by intro w'; go_simp; with_reducible rfl) (by simp only [Act.put, zq1, zq2, zq3, iw, jw]; rfl) ?_
    refine pT 4 (some 22) (bA 11 31) rfl rfl HT_.out HW_.out hHeld (by rintro w' ⟨s0, s1⟩; go_simp; with_reducible rfl) (by simp only [Act.put, zq1, zq2, zq3, iw, jw]; rfl) ?_
    refine pA 5 (some 23) (bA 11 63) rfl rfl HT_.out (by intro w'; go_simp; with_reducible rfl) (by simp only [Act.put, zq1, zq2, zq3, iw, jw]; rfl) ?_
    refine pA 6 (some 24) (bA 11 127) rfl rfl HT_.out (by intro w'; go_simp; with_reducible rfl) (by simp only [Act.put, zq1, zq2, zq3, iw, jw]; rfl) ?_
    refine pA 7 (some 25) (bA 11 255) rfl rfl HT_.out (by intro w'; go_simp; with_reducible rfl) (by simp only [Act.put, zq1, zq2, zq3, iw, jw]; rfl) ?_
    refine pA 8 (some 26) (bA 11 511) rfl rfl HT_.out (by intro w'; go_simp; with_reducible rfl) (by simp only [Act.put, zq1, zq2, zq3, iw, jw]; rfl) ?_
    refine pT 9 (some 27) (bA 11 1023) rfl rfl HT_.out HW_.out hHeld (by rintro w' ⟨s0, s1⟩; go_simp; with_reducible rfl) (by simp only [Act.put, zq1, zq2, zq3, iw, jw]; rfl) ?_
    refine QW.PrintLast.one_ (i := 10) (N := some 28) (bA 11 2047) rfl rfl (one_of HT_.out (by kernel_rfl)) (by decide) (fun K hK => ?_)
    refine goesV_ EG.out #[enc x, enc y] (#[enc x, enc y] ++ lb) (by rfl) rfl rfl rfl (by (try simp only [List.map_toArray, List.map_cons, List.map_nil]); first | done | rfl) (by first | rfl | simp) ?_
    refine (HPC.out _ HGd.out).mono ?_
    rintro e w1 ⟨rfl, hb1⟩
    refine ⟨_, rfl, ?_⟩
    have HB1 := Az.mk hb1
    refine hK.out _ _ ⟨(hb1.cell (World.block_lt_of_cell? _ _ hHeld.1)).trans hHeld.1, (hb1.cell (World.block_lt_of_cell? _ _ hHeld.2)).trans hHeld.2⟩ (fun hHeld => ?_)
    clear hK K hb1
    refine norm_ (by show Act.put _ (some 28) _ = _; simp only [Act.put, zq1, zq2, zq3, iw, jw]; rfl) ?_
    refine done_ (done_of HT_.out (by kernel_rfl)) ?_
    clear hHeld HT_ HW_ hx1 hx0
    have HR1 := Az.mk (Kd.R_below HRd.out HB1.out)
    have HG1 := Az.mk (grown_below HGd.out HB1.out)
    clear HR HRd HG HGd HB1 HPC
    cases b with
    | false =>
     have HA1 := Az.mk (HNX.out rfl)
     clear HNX HN HA
     go_wp2
     go_roundw
     case rel => exact ⟨k + 1, by rw [wrap_succ hlt (by have := HL.out; omega)], by omega, by omega, HA1, HR1, HG1⟩
     case measure => exact meas_x hlt (wrap_succ hlt (by have := HL.out; omega))
    | true =>
     rw [if_pos rfl, List.append_nil] at HN
     obtain ⟨i0, hi0, hz0⟩ := Option.map_eq_some_iff.1 compactLit_info
     simp only [Prod.mk.injEq] at hz0
     have HSZ := Az.mk (And.intro hi0 hz0.2.1)
     have hcut := cut_from (P := Tryz.prog) 83 92 .i64 Tryz.underlying83 hi0 1 hz0.2.1 (some ⟨g0, 0, none⟩) xs.length c (k : Int) (by omega) (by omega)
     have hck : ¬ c = (k : Int).toNat := by have := HCAP.out; have := HK.out; omega
     rw [if_neg hck] at hcut
     have hkn : k ≠ 0 := by omega
     have haddr : (some (⟨g0, 0, none⟩ : Addr)).map (·.add ((k : Int).toNat * 1)) = some ⟨g0, k, none⟩ := by simp [Addr.add, hkn]
     rw [haddr, show xs.length - (k : Int).toNat = xs.length - k by omega, show c - (k : Int).toNat = c - k by omega] at hcut
     clear HNX HA hz0 hi0 hck haddr hkn
     go_wp2
     clear hcut
     go_loopw [5, 7] (fun v5 v7 wr => ∃ (kk k2 : Nat) (cur : List α), v5 = .int .i64 kk ∧ v7 = .int .i64 k2 ∧ 1 ≤ k2 ∧ k + k2 ≤ xs.length ∧ Az (cur.length = xs.length ∧ kk + 1 ≤ k + k2) ∧ Az (cur.take kk = compN z f xs (k + k2)) ∧ Az (cur.drop (k + k2 - 1) = xs.drop (k + k2 - 1)) ∧ Az ((Kd.scalar enc h1).R 92 wr base ok (.slice (some ⟨g0, 0, none⟩) xs.length c) cur) ∧ Az (W.grownBy wr (some g0))) (fun _ v7 _ => xs.length - k - (intOf v7).toNat)
     case atStart => exact ⟨k, 1, xs, rfl, rfl, Nat.le_refl _, by omega, ⟨rfl, Nat.le_refl _⟩, ⟨HN.out.symm⟩, ⟨rfl⟩, HR1, HG1⟩
     case round =>
      clear HR1 HG1 HN
      obtain ⟨kk, k2, cur, rfl, rfl, h21, h2n, HCL, HCT, HCD, HR, HG⟩ := hrel
      have HKK : Az (1 ≤ k2 ∧ k + k2 ≤ xs.length) := ⟨⟨h21, h2n⟩⟩
      by_cases hlt2 : k + k2 < xs.length
      ·have hlt2' : k2 < xs.length - k := by omega
       have HL62 : Az (xs.length - k ≤ 9223372036854775807) := ⟨by have := HL.out; omega⟩
       have hget : ∀ i, k + k2 - 1 ≤ i → i < xs.length → rdOf z cur (i : Int) = rdOf z xs (i : Int) := fun i h0 h1 => by
        have e := congrArg (fun l => l[i - (k + k2 - 1)]?) HCD.out
        simp only [List.getElem?_drop] at e
        rw [show k + k2 - 1 + (i - (k + k2 - 1)) = i by omega] at e
        simp only [rdOf, List.getD, Int.toNat_natCast, e]
       obtain ⟨hx1, _⟩ := Kd.R_celln z HR.out ((k + k2 : Nat) : Int) (by omega) (by omega)
       obtain ⟨hx0, _⟩ := Kd.R_celln z HR.out ((k + (k2 - 1) : Nat) : Int) (by omega) (by omega)
       have hkl := HCL.out.2
       obtain ⟨hxk, hfk⟩ := Kd.R_celln z HR.out (kk : Int) (by omega) (by omega)
       rw [hget _ (by omega) hlt2] at hx1
       rw [hget _ (by omega) (by omega)] at hx0
       simp only [Int.toNat_natCast] at hx1 hx0 hxk hfk
       have HXM : Az (rdOf z xs ((k + k2 : Nat) : Int) ∈ xs ∧ rdOf z xs ((k + (k2 - 1) : Nat) : Int) ∈ xs) := ⟨by rw [rdOf_get hlt2, rdOf_get (by omega)]; exact ⟨List.getElem_mem _, List.getElem_mem _⟩⟩
       have HN : Az (compN z f xs (k + (k2 + 1)) = compN z f xs (k + k2) ++ if f (rdOf z xs ((k + k2 : Nat) : Int)) (rdOf z xs ((k + (k2 - 1) : Nat) : Int)) = true then [] else [rdOf z xs ((k + k2 : Nat) : Int)]) := ⟨by
        have hk0 : k + k2 ≠ 0 := by omega
        rw [show k + (k2 + 1) = (k + k2) + 1 by omega, compN, show k + k2 - 1 = k + (k2 - 1) by omega]
        simp only [ne_eq, hk0, not_false_eq_true, true_and]⟩
       have hwk2 : IntKind.i64.wrap ((k2 : Int) - 1) = ((k2 - 1 : Nat) : Int) := by rw [iw]; have := HL.out; unfold wrap64; omega
       have hlts : ((k2 : Int) < ((xs.length - k : Nat) : Int)) = True := eq_true (by omega)
       have hk20 : (0 ≤ (k2 : Int)) = True := eq_true (by omega)
       have hk23 : ((((k2 - 1 : Nat) : Int)) < ((xs.length - k : Nat) : Int)) = True := eq_true (by omega)
       have hk24 : (0 ≤ ((k2 - 1 : Nat) : Int)) = True := eq_true (by omega)
       have hkk0 : (0 ≤ (kk : Int)) = True := eq_true (by omega)
       have hkk1 : ((kk : Int) < xs.length) = True := eq_true (by omega)
       clear hget
       go_wp2_with fail
       generalize rdOf z xs ((k + k2 : Nat) : Int) = x at hx1 HXM HN
       generalize rdOf z xs ((k + (k2 - 1) : Nat) : Int) = y at hx0 HXM HN
       have HPC := Az.mk (fun W' (hg : W.grownBy W' (some g0)) => HP.out W' x y hg HXM.out.1 HXM.out.2)
       have HGd : Az (W.grownBy wr.drew (some g0)) := ⟨grown_below HG.out (below_drew (Below.refl _ _))⟩
       have HRd := Az.mk (Kd.R_drew HR.out)
       clear HXM
       generalize f x y = b at HPC HN
       refine start_ (n := 12) (S := fun w' => w'.cell? ⟨g0, k + k2, none⟩ = some (enc x) ∧ w'.cell? ⟨g0, k + (k2 - 1), none⟩ = some (enc y)) (ds := []) (Array.replicate 12 false) (by kernel_rfl) rfl rfl ⟨hx1, hx0⟩ (fun hHeld => ?_); refine with_tabW compactLitR11.tab compactLitR11.bits (fun HT_ HW_ => ?_)
       refine pA 0 (some 38) (bA 12 1) rfl rfl HT_.out (by intro w'; go_simp; with_reducible rfl) (by simp only [Act.put, zq1, zq2, zq3, iw, jw]; rfl) ?_
       refine pA 1 (some 39) (bA 12 3) rfl rfl HT_.out (by intro w'; go_simp; with_reducible rfl) (by simp only [Act.put, zq1, zq2, zq3, iw, jw]; rfl) ?_
       refine pA 2 (some 40) (bA 12 7) rfl rfl HT_.out (by intro w'; go_simp; with_reducible rfl) (by simp only [Act.put, zq1, zq2, zq3, iw, jw]; rfl) ?_
       refine pA 3 (some 41) (bA 12 15) rfl rfl HT_.out (by intro w'; go_simp; with_reducible rfl) (by simp only [Act.put, zq1, zq2, zq3, iw, jw]; rfl) ?_
       refine pT 4 (some 42) (bA 12 31) rfl rfl HT_.out HW_.out hHeld (by rintro w' ⟨s0, s1⟩; go_simp; with_reducible rfl) (by simp only [Act.put, zq1, zq2, zq3, iw, jw]; rfl) ?_
       refine pA 5 (some 43) (bA 12 63) rfl rfl HT_.out (by intro w'; go_simp; with_reducible rfl) (by simp only [Act.put, zq1, zq2, zq3, iw, jw]; rfl) ?_
       refine pA 6 (some 44) (bA 12 127) rfl rfl HT_.out (by intro w'; go_simp; with_reducible rfl) (by simp only [Act.put, zq1, zq2, zq3, iw, jw]; rfl) ?_
       refine pA 7 (some 45) (bA 12 255) rfl rfl HT_.out (by intro w'; go_simp; with_reducible rfl) (by simp only [Act.put, zq1, zq2, zq3, iw, jw]; rfl) ?_
       refine pA 8 (some 46) (bA 12 511) rfl rfl HT_.out (by intro w'; go_simp; with_reducible rfl) (by simp only [Act.put, zq1, zq2, zq3, iw, jw]; rfl) ?_
       refine pT 9 (some 47) (bA 12 1023) rfl rfl HT_.out HW_.out hHeld (by rintro w' ⟨s0, s1⟩; go_simp; with_reducible rfl) (by simp only [Act.put, zq1, zq2, zq3, iw, jw]; rfl) ?_
       refine QW.PrintLast.one_ (i := 10) (N := some 48) (bA 12 2047) rfl rfl (one_of HT_.out (by kernel_rfl)) (by decide) (fun K hK => ?_)
       refine goesV_ EG.out #[enc x, enc y] (#[enc x, enc y] ++ lb) (by rfl) rfl rfl rfl (by (try simp only [List.map_toArray, List.map_cons, List.map_nil]); first | done | rfl) (by first | rfl | simp) ?_
       refine (HPC.out _ HGd.out).mono ?_
       rintro e w1 ⟨rfl, hb1⟩
       refine ⟨_, rfl, ?_⟩
       have HB1 := Az.mk hb1
       have HCX := Az.mk ((hb1.cell (World.block_lt_of_cell? _ _ hHeld.1)).trans hHeld.1)
       refine hK.out _ _ ⟨(hb1.cell (World.block_lt_of_cell? _ _ hHeld.1)).trans hHeld.1, (hb1.cell (World.block_lt_of_cell? _ _ hHeld.2)).trans hHeld.2⟩ (fun hHeld => ?_)
       clear hK K hb1
       refine norm_ (by show Act.put _ (some 48) _ = _; simp only [Act.put, zq1, zq2, zq3, iw, jw]; rfl) ?_
       refine pA 11 (some 49) (bA 12 4095) rfl rfl HT_.out (by intro w'; go_simp; with_reducible rfl) (by simp only [Act.put, zq1, zq2, zq3, iw, jw]; rfl) ?_
       refine done_ (done_of HT_.out (by kernel_rfl)) ?_
       clear hHeld HT_ HW_ hx1 hx0
       have HR1 := Az.mk (Kd.R_below HRd.out HB1.out)
       have HG1 := Az.mk (grown_below HGd.out HB1.out)
       have hxk1 := (HB1.out.cell (World.block_lt_of_cell? _ _ hxk)).trans hxk
       have hfk1 := (Kd.R_celln z HR1.out (kk : Int) (by omega) (by omega)).2
       simp only [Int.toNat_natCast] at hfk1
       have hcx1 : w1.cell? ⟨g0, k + k2, none⟩ = some (enc x) := HCX.out
       clear HR HRd HG HGd HB1 HPC hxk hfk HCX
       cases b with
       | true =>
        rw [if_pos rfl, List.append_nil] at HN
        clear hxk1 hfk1 hcx1
        go_wp2
        go_roundw
        case rel => exact ⟨kk, k2 + 1, cur, rfl, by rw [wrap_succ hlt2' HL62.out], by omega, by omega, ⟨HCL.out.1, by have := HCL.out.2; omega⟩, ⟨by rw [HCT.out, HN.out]⟩, ⟨by rw [show k + (k2 + 1) - 1 = (k + k2 - 1) + 1 by omega, ← List.drop_drop, HCD.out, List.drop_drop]⟩, HR1, HG1⟩
        case measure => exact meas_x hlt2' (wrap_succ hlt2' HL62.out)
       | false =>
        rw [if_neg (by simp)] at HN
        have HP1 := Az.mk (Kd.R_putg HR1.out (kk : Int) x)
        simp only [Int.toNat_natCast] at HP1
        have hcl0 := OneCell.cells (enc := enc) h1
        simp only [Value.cells] at hcl0
        have hst := OneCell.store (enc := enc) h1 Tryz.prog
        go_wp2
        go_roundw
        case rel =>
         refine ⟨kk + 1, k2 + 1, cur.set kk x, by rw [wrap_succ (show kk < xs.length by omega) (by have := HL.out; omega)], by rw [wrap_succ hlt2' HL62.out], by omega, by omega, ⟨by rw [List.length_set]; exact HCL.out.1, by have := HCL.out.2; omega⟩, ⟨?_⟩, ⟨?_⟩, ⟨HP1.out.1⟩, ⟨grown_trans HG1.out HP1.out.2⟩⟩
         ·rw [HN.out, ← HCT.out, List.take_succ_eq_append_getElem (by rw [List.length_set, HCL.out.1]; omega), List.getElem_set_self, List.take_set_of_le (Nat.le_refl _)]
         ·rw [show k + (k2 + 1) - 1 = (k + k2 - 1) + 1 by omega, List.drop_set_of_lt (by omega), ← List.drop_drop, HCD.out, List.drop_drop]
        case measure => exact meas_x hlt2' (wrap_succ hlt2' HL62.out)
      ·have hend : k + k2 = xs.length := by omega
       rw [hend] at HCT
       have hkl := HCL.out.2
       have hkl2 : kk < xs.length := by omega
       have hcw : ∀ j, j < xs.length - kk → (wr.cell? ⟨g0, kk + j, none⟩).isSome = true ∧ wr.frozen? ⟨g0, kk + j, none⟩ = false := fun j hj => by
        obtain ⟨q1, q2⟩ := Kd.R_celln z HR.out ((kk + j : Nat) : Int) (by omega) (by omega)
        simp only [Int.toNat_natCast] at q1 q2
        exact ⟨by rw [q1]; rfl, q2⟩
       have hcl : ∀ ty, (Builtin.clear_ #[83] ty #[.slice (some ⟨g0, kk, none⟩) (xs.length - kk) (c - kk)]).run Tryz.prog wr = .ok (.tuple #[]) (wr.setCells g0 kk (List.replicate (xs.length - kk) (.int .i64 0))) :=
        fun ty => Lib.run_clear_slice wr _ _ ty _ Tryz.underlying83 compactLit_zero rfl rfl g0 kk _ _ (by omega) (fun j hj => (hcw j hj).1) (fun j hj => (hcw j hj).2)
       have HS := Az.mk (R_setCells (z := z) (xs.length - kk) kk wr cur HR.out (by rw [HCL.out.1]; omega))
       rw [hz] at HS
       have hcut := cut_from (P := Tryz.prog) 83 92 .i64 Tryz.underlying83 HSZ.out.1 1 HSZ.out.2 (some ⟨g0, 0, none⟩) xs.length c (kk : Int) (by omega) (by omega)
       have hck : ¬ c = (kk : Int).toNat := by have := HCAP.out; omega
       rw [if_neg hck, show xs.length - (kk : Int).toNat = xs.length - kk by omega, show c - (kk : Int).toNat = c - kk by omega] at hcut
       have haddr : (some (⟨g0, 0, none⟩ : Addr)).map (·.add ((kk : Int).toNat * 1)) = some ⟨g0, kk, none⟩ := by
        by_cases h0 : kk = 0
        ·subst h0; simp [Addr.add]
        ·simp [Addr.add, h0]
       rw [haddr] at hcut
       have hcut2 := cut_to (P := Tryz.prog) 83 92 .i64 Tryz.underlying83 HSZ.out.1 (some ⟨g0, 0, none⟩) xs.length c (kk : Int) (by omega) (by omega) HCAP.out
       simp only [Int.toNat_natCast] at hcut2
       have HFIN : Az (xs.length - kk = xs.length - kk) := ⟨rfl⟩
       clear hcw hck haddr
       go_wp2
       go_ret
       have hlen : (compN z f xs xs.length).length = kk := by rw [← HCT.out, List.length_take, HCL.out.1]; omega
       refine ⟨_, rfl, ?_, grown_trans HG.out HS.out.2⟩
       have h3 := Kd.R_take (m := kk) HS.out.1 (by simp [HCL.out.1]; omega)
       rw [List.append_assoc, List.take_left' (by rw [List.length_take, HCL.out.1]; omega), HCT.out] at h3
       exact h3
   ·have hkl : k = xs.length := by omega
    subst hkl
    go_wp2
    go_ret
    exact ⟨_, rfl, by rw [compN_take _ (Nat.le_refl _) HA.out, List.take_length]; exact HR.out, HG.out⟩
end Go.Proofs.YtkcfdddhnboieaaGreatDoor.NState
end
section
set_option maxHeartbeats 4000000
set_option maxRecDepth 100000
namespace Go.Proofs.YtkcfdddhnboieaaGreatDoor.NState
open Go Go.RowKit Go.Shelf QW.PrintWords QW.PrintLast QW.PrintMore NMap
def compactClsR6.T : Bool × List (List Nat × List Nat) := (true, [([], []), ([], []), ([], []), ([1, 2], [1, 2]), ([3], [3]), ([], []), ([], []), ([6], [6]), ([5, 7], [5, 7]), ([8], [8]), ([0, 4, 9], [0, 4, 9])])
def compactClsR6.B : List Nat := [0, 0, 0, 6, 14, 0, 0, 64, 224, 480, 1023]
theorem compactClsR6.tab : rtab .any (opsOf Tryz.f105 6) = compactClsR6.T := by kernel_rfl
theorem compactClsR6.bits : waitsOk compactClsR6.T.2 compactClsR6.B = true := by kernel_rfl
def compactClsR11.T : Bool × List (List Nat × List Nat) := (true, [([], []), ([], []), ([], []), ([1, 2], [1, 2]), ([3], [3]), ([], []), ([], []), ([6], [6]), ([5, 7], [5, 7]), ([8], [8]), ([0, 4, 9], [0, 4, 9]), ([10], [10])])
def compactClsR11.B : List Nat := [0, 0, 0, 6, 14, 0, 0, 64, 224, 480, 1023, 2047]
theorem compactClsR11.tab : rtab .any (opsOf Tryz.f105 11) = compactClsR11.T := by kernel_rfl
theorem compactClsR11.bits : waitsOk compactClsR11.T.2 compactClsR11.B = true := by kernel_rfl
theorem compactCls_zero : ∀ w, (zeroValue 84).run Tryz.prog w = .ok (.slice none 0 0) w := fun w => by kernel_rfl
theorem compactCls_info : (Tryz.prog.info? 84).map (fun i => (i.zero, i.size, i.bytes)) = some (some (.slice none 0 0), 1, 24) := by kernel_rfl
theorem compactCls_calls {α : Type} [Inhabited α] {enc : α → Value} {h1 : ∀ x, (enc x).oneCell' = true} (z : α) (hz : enc z = .slice none 0 0) (f : α → α → Bool) (g : FuncId) (lb : Array Value) (eg : ∀ args w, (callFunc g args).run Tryz.prog w = .ok (.enter g args) w)
  {base : Nat} {ok : Nat → Prop} {W : World} {v : Value} {xs : List α} (h : (Kd.scalar enc h1).R 84 W base ok v xs) (hlen : xs.length < 4611686018427387904)
  (hp : ∀ W' x y, W.grownBy W' v.ownBlock → x ∈ xs → y ∈ xs → Calls Tryz.prog g (#[enc x, enc y] ++ lb) W' fun e w' => e = .returned (.bool (f x y)) ∧ Below W'.heap.size W' w') :
  Calls Tryz.prog 105 #[v, .func (.func g) #[] lb] W fun e W' => ∃ v', e = .returned v' ∧ (Kd.scalar enc h1).R 84 W' base ok v' (compN z f xs xs.length) ∧ W.grownBy W' v.ownBlock := by
 have HP := Az.mk hp
 have EG := Az.mk eg
 have HL := Az.mk hlen
 have H0 := Az.mk h
 clear hp eg hlen
 obtain ⟨A, c, rfl⟩ := Kd.R_slice h
 by_cases h2 : xs.length < 2
 ·have HC : Az (compN z f xs xs.length = xs) := ⟨by rw [compN_take _ (Nat.le_refl _) (fun j h0 h1 => by omega), List.take_length]⟩
  have h2b : decide ((xs.length : Int) < 2) = true := decide_eq_true (by omega)
  clear h h2
  go_enter Tryz.func105, Tryz.ntmps105
  go_wp2
  go_ret
  exact ⟨_, rfl, by rw [HC.out]; exact H0.out, ⟨rfl, rfl, rfl, Nat.le_refl _, fun _ _ _ => rfl⟩⟩
 ·have h2b : decide ((xs.length : Int) < 2) = false := decide_eq_false (by omega)
  obtain ⟨g0, cp, eo, gb, gl, cl⟩ := Kd.R_form h (by omega)
  obtain ⟨rfl, -, rfl⟩ : A = some ⟨g0, 0, none⟩ ∧ True ∧ c = cp := by injection eo with a b c; exact ⟨a, trivial, c⟩
  have H2 : Az (2 ≤ xs.length) := ⟨by omega⟩
  have HCAP : Az (xs.length ≤ c) := ⟨by obtain ⟨_, hh, _⟩ := Kd.R_reads' h; exact hh⟩
  clear h h2 gb gl cl eo
  go_enter Tryz.func105, Tryz.ntmps105
  go_wp2
  go_loopw [5] (fun v5 wr => ∃ k : Nat, v5 = .int .i64 k ∧ 1 ≤ k ∧ k ≤ xs.length ∧ Az (∀ j, 0 < j → j < k → f (rdOf z xs j) (rdOf z xs ((j - 1 : Nat) : Int)) = false) ∧ Az ((Kd.scalar enc h1).R 84 wr base ok (.slice (some ⟨g0, 0, none⟩) xs.length c) xs) ∧ Az (W.grownBy wr (some g0))) (fun v5 _ => xs.length - (intOf v5).toNat)
  case atStart => exact ⟨1, rfl, Nat.le_refl _, by have := H2.out; omega, ⟨fun j h0 h1 => by omega⟩, H0, ⟨⟨rfl, rfl, rfl, Nat.le_refl _, fun _ _ _ => rfl⟩⟩⟩
  case round =>
   obtain ⟨k, rfl, hk1, hk, HA, HR, HG⟩ := hrel
   by_cases hlt : k < xs.length
   ·obtain ⟨hx1, _⟩ := Kd.R_celln z HR.out (k : Int) (by omega) (by omega)
    obtain ⟨hx0, _⟩ := Kd.R_celln z HR.out ((k - 1 : Nat) : Int) (by omega) (by omega)
    simp only [Int.toNat_natCast] at hx1 hx0
    have HXM : Az (rdOf z xs (k : Int) ∈ xs ∧ rdOf z xs ((k - 1 : Nat) : Int) ∈ xs) := ⟨by rw [rdOf_get hlt, rdOf_get (by omega)]; exact ⟨List.getElem_mem _, List.getElem_mem _⟩⟩
    have hwk : IntKind.i64.wrap ((k : Int) - 1) = ((k - 1 : Nat) : Int) := by rw [iw]; have := HL.out; unfold wrap64; omega
    have hk0 : ((k : Int) < xs.length) = True := eq_true (by omega)
    have hk2 : (0 ≤ (k : Int)) = True := eq_true (by omega)
    have hk3 : ((((k - 1 : Nat) : Int)) < xs.length) = True := eq_true (by omega)
    have hk4 : (0 ≤ ((k - 1 : Nat) : Int)) = True := eq_true (by omega)
    have HK : Az (1 ≤ k ∧ k < xs.length) := ⟨⟨hk1, hlt⟩⟩
    have HN : Az (compN z f xs (k + 1) = xs.take k ++ if f (rdOf z xs (k : Int)) (rdOf z xs ((k - 1 : Nat) : Int)) = true then [] else [rdOf z xs (k : Int)]) := ⟨by
     have hk0 : k ≠ 0 := by omega
     rw [compN, compN_take k hk HA.out]
     by_cases hf : f (rdOf z xs (k : Int)) (rdOf z xs ((k - 1 : Nat) : Int)) = true <;> simp [hk0, hf]⟩
    have HNX : Az (f (rdOf z xs (k : Int)) (rdOf z xs ((k - 1 : Nat) : Int)) = false → ∀ j, 0 < j → j < k + 1 → f (rdOf z xs j) (rdOf z xs ((j - 1 : Nat) : Int)) = false) := ⟨fun h j h0 h1 => by
     by_cases e : j = k
     ·subst e; exact h
     ·exact HA.out j h0 (by omega)⟩
    go_wp2_with fail
    generalize rdOf z xs (k : Int) = x at hx1 HXM HN HNX
    generalize rdOf z xs ((k - 1 : Nat) : Int) = y at hx0 HXM HN HNX
    have HPC := Az.mk (fun W' (hg : W.grownBy W' (some g0)) => HP.out W' x y hg HXM.out.1 HXM.out.2)
    have HGd : Az (W.grownBy wr.drew (some g0)) := ⟨grown_below HG.out (below_drew (Below.refl _ _))⟩
    have HRd := Az.mk (Kd.R_drew HR.out)
    clear HXM
    generalize f x y = b at HPC HN HNX
    refine start_ (n := 11) (S := fun w' => w'.cell? ⟨g0, k, none⟩ = some (enc x) ∧ w'.cell? ⟨g0, k - 1, none⟩ = some (enc y)) (ds := []) (Array.replicate 11 false) (by kernel_rfl) rfl rfl ⟨hx1, hx0⟩ (fun hHeld => ?_); refine with_tabW compactClsR6.tab compactClsR6.bits (fun HT_ HW_ => ?_)
    refine pA 0 (some 18) (bA 11 1) rfl rfl HT_.out (by intro w'; go_simp; with_reducible rfl) (by simp only [Act.put, zq1, zq2, zq3, iw, jw]; rfl) ?_
    refine pA 1 (some 19) (bA 11 3) rfl rfl HT_.out (by intro w'; go_simp; with_reducible rfl) (by simp only [Act.put, zq1, zq2, zq3, iw, jw]; rfl) ?_
    refine pA 2 (some 20) (bA 11 7) rfl rfl HT_.out (by intro w'; go_simp; with_reducible rfl) (by simp only [Act.put, zq1, zq2, zq3, iw, jw]; rfl) ?_
    refine pA 3 (some 21) (bA 11 15) rfl rfl HT_.out (by intro w'; go_simp; with_reducible rfl) (by simp only [Act.put, zq1, zq2, zq3, iw, jw]; rfl) ?_
    refine pT 4 (some 22) (bA 11 31) rfl rfl HT_.out HW_.out hHeld (by rintro w' ⟨s0, s1⟩; go_simp; with_reducible rfl) (by simp only [Act.put, zq1, zq2, zq3, iw, jw]; rfl) ?_
    refine pA 5 (some 23) (bA 11 63) rfl rfl HT_.out (by intro w'; go_simp; with_reducible rfl) (by simp only [Act.put, zq1, zq2, zq3, iw, jw]; rfl) ?_
    refine pA 6 (some 24) (bA 11 127) rfl rfl HT_.out (by intro w'; go_simp; with_reducible rfl) (by simp only [Act.put, zq1, zq2, zq3, iw, jw]; rfl) ?_
    refine pA 7 (some 25) (bA 11 255) rfl rfl HT_.out (by intro w'; go_simp; with_reducible rfl) (by simp only [Act.put, zq1, zq2, zq3, iw, jw]; rfl) ?_
    refine pA 8 (some 26) (bA 11 511) rfl rfl HT_.out (by intro w'; go_simp; with_reducible rfl) (by simp only [Act.put, zq1, zq2, zq3, iw, jw]; rfl) ?_
    refine pT 9 (some 27) (bA 11 1023) rfl rfl HT_.out HW_.out hHeld (by rintro w' ⟨s0, s1⟩; go_simp; with_reducible rfl) (by simp only [Act.put, zq1, zq2, zq3, iw, jw]; rfl) ?_
    refine QW.PrintLast.one_ (i := 10) (N := some 28) (bA 11 2047) rfl rfl (one_of HT_.out (by kernel_rfl)) (by decide) (fun K hK => ?_)
    refine goesV_ EG.out #[enc x, enc y] (#[enc x, enc y] ++ lb) (by rfl) rfl rfl rfl (by (try simp only [List.map_toArray, List.map_cons, List.map_nil]); first | done | rfl) (by first | rfl | simp) ?_
    refine (HPC.out _ HGd.out).mono ?_
    rintro e w1 ⟨rfl, hb1⟩
    refine ⟨_, rfl, ?_⟩
    have HB1 := Az.mk hb1
    refine hK.out _ _ ⟨(hb1.cell (World.block_lt_of_cell? _ _ hHeld.1)).trans hHeld.1, (hb1.cell (World.block_lt_of_cell? _ _ hHeld.2)).trans hHeld.2⟩ (fun hHeld => ?_)
    clear hK K hb1
    refine norm_ (by show Act.put _ (some 28) _ = _; simp only [Act.put, zq1, zq2, zq3, iw, jw]; rfl) ?_
    refine done_ (done_of HT_.out (by kernel_rfl)) ?_
    clear hHeld HT_ HW_ hx1 hx0
    have HR1 := Az.mk (Kd.R_below HRd.out HB1.out)
    have HG1 := Az.mk (grown_below HGd.out HB1.out)
    clear HR HRd HG HGd HB1 HPC
    cases b with
    | false =>
     have HA1 := Az.mk (HNX.out rfl)
     clear HNX HN HA
     go_wp2
     go_roundw
     case rel => exact ⟨k + 1, by rw [wrap_succ hlt (by have := HL.out; omega)], by omega, by omega, HA1, HR1, HG1⟩
     case measure => exact meas_x hlt (wrap_succ hlt (by have := HL.out; omega))
    | true =>
     rw [if_pos rfl, List.append_nil] at HN
     obtain ⟨i0, hi0, hz0⟩ := Option.map_eq_some_iff.1 compactCls_info
     simp only [Prod.mk.injEq] at hz0
     have HSZ := Az.mk (And.intro hi0 hz0.2.1)
     have hcut := cut_from (P := Tryz.prog) 81 84 .i64 Tryz.underlying81 hi0 1 hz0.2.1 (some ⟨g0, 0, none⟩) xs.length c (k : Int) (by omega) (by omega)
     have hck : ¬ c = (k : Int).toNat := by have := HCAP.out; have := HK.out; omega
     rw [if_neg hck] at hcut
     have hkn : k ≠ 0 := by omega
     have haddr : (some (⟨g0, 0, none⟩ : Addr)).map (·.add ((k : Int).toNat * 1)) = some ⟨g0, k, none⟩ := by simp [Addr.add, hkn]
     rw [haddr, show xs.length - (k : Int).toNat = xs.length - k by omega, show c - (k : Int).toNat = c - k by omega] at hcut
     clear HNX HA hz0 hi0 hck haddr hkn
     go_wp2
     clear hcut
     go_loopw [5, 7] (fun v5 v7 wr => ∃ (kk k2 : Nat) (cur : List α), v5 = .int .i64 kk ∧ v7 = .int .i64 k2 ∧ 1 ≤ k2 ∧ k + k2 ≤ xs.length ∧ Az (cur.length = xs.length ∧ kk + 1 ≤ k + k2) ∧ Az (cur.take kk = compN z f xs (k + k2)) ∧ Az (cur.drop (k + k2 - 1) = xs.drop (k + k2 - 1)) ∧ Az ((Kd.scalar enc h1).R 84 wr base ok (.slice (some ⟨g0, 0, none⟩) xs.length c) cur) ∧ Az (W.grownBy wr (some g0))) (fun _ v7 _ => xs.length - k - (intOf v7).toNat)
     case atStart => exact ⟨k, 1, xs, rfl, rfl, Nat.le_refl _, by omega, ⟨rfl, Nat.le_refl _⟩, ⟨HN.out.symm⟩, ⟨rfl⟩, HR1, HG1⟩
     case round =>
      clear HR1 HG1 HN
      obtain ⟨kk, k2, cur, rfl, rfl, h21, h2n, HCL, HCT, HCD, HR, HG⟩ := hrel
      have HKK : Az (1 ≤ k2 ∧ k + k2 ≤ xs.length) := ⟨⟨h21, h2n⟩⟩
      by_cases hlt2 : k + k2 < xs.length
      ·have hlt2' : k2 < xs.length - k := by omega
       have HL62 : Az (xs.length - k ≤ 9223372036854775807) := ⟨by have := HL.out; omega⟩
       have hget : ∀ i, k + k2 - 1 ≤ i → i < xs.length → rdOf z cur (i : Int) = rdOf z xs (i : Int) := fun i h0 h1 => by
        have e := congrArg (fun l => l[i - (k + k2 - 1)]?) HCD.out
        simp only [List.getElem?_drop] at e
        rw [show k + k2 - 1 + (i - (k + k2 - 1)) = i by omega] at e
        simp only [rdOf, List.getD, Int.toNat_natCast, e]
       obtain ⟨hx1, _⟩ := Kd.R_celln z HR.out ((k + k2 : Nat) : Int) (by omega) (by omega)
       obtain ⟨hx0, _⟩ := Kd.R_celln z HR.out ((k + (k2 - 1) : Nat) : Int) (by omega) (by omega)
       have hkl := HCL.out.2
       obtain ⟨hxk, hfk⟩ := Kd.R_celln z HR.out (kk : Int) (by omega) (by omega)
       rw [hget _ (by omega) hlt2] at hx1
       rw [hget _ (by omega) (by omega)] at hx0
       simp only [Int.toNat_natCast] at hx1 hx0 hxk hfk
       have HXM : Az (rdOf z xs ((k + k2 : Nat) : Int) ∈ xs ∧ rdOf z xs ((k + (k2 - 1) : Nat) : Int) ∈ xs) := ⟨by rw [rdOf_get hlt2, rdOf_get (by omega)]; exact ⟨List.getElem_mem _, List.getElem_mem _⟩⟩
       have HN : Az (compN z f xs (k + (k2 + 1)) = compN z f xs (k + k2) ++ if f (rdOf z xs ((k + k2 : Nat) : Int)) (rdOf z xs ((k + (k2 - 1) : Nat) : Int)) = true then [] else [rdOf z xs ((k + k2 : Nat) : Int)]) := ⟨by
        have hk0 : k + k2 ≠ 0 := by omega
        rw [show k + (k2 + 1) = (k + k2) + 1 by omega, compN, show k + k2 - 1 = k + (k2 - 1) by omega]
        simp only [ne_eq, hk0, not_false_eq_true, true_and]⟩
       have hwk2 : IntKind.i64.wrap ((k2 : Int) - 1) = ((k2 - 1 : Nat) : Int) := by rw [iw]; have := HL.out; unfold wrap64; omega
       have hlts : ((k2 : Int) < ((xs.length - k : Nat) : Int)) = True := eq_true (by omega)
       have hk20 : (0 ≤ (k2 : Int)) = True := eq_true (by omega)
       have hk23 : ((((k2 - 1 : Nat) : Int)) < ((xs.length - k : Nat) : Int)) = True := eq_true (by omega)
       have hk24 : (0 ≤ ((k2 - 1 : Nat) : Int)) = True := eq_true (by omega)
       have hkk0 : (0 ≤ (kk : Int)) = True := eq_true (by omega)
       have hkk1 : ((kk : Int) < xs.length) = True := eq_true (by omega)
       clear hget
       go_wp2_with fail
       generalize rdOf z xs ((k + k2 : Nat) : Int) = x at hx1 HXM HN
       generalize rdOf z xs ((k + (k2 - 1) : Nat) : Int) = y at hx0 HXM HN
       have HPC := Az.mk (fun W' (hg : W.grownBy W' (some g0)) => HP.out W' x y hg HXM.out.1 HXM.out.2)
       have HGd : Az (W.grownBy wr.drew (some g0)) := ⟨grown_below HG.out (below_drew (Below.refl _ _))⟩
       have HRd := Az.mk (Kd.R_drew HR.out)
       clear HXM
       generalize f x y = b at HPC HN
       refine start_ (n := 12) (S := fun w' => w'.cell? ⟨g0, k + k2, none⟩ = some (enc x) ∧ w'.cell? ⟨g0, k + (k2 - 1), none⟩ = some (enc y)) (ds := []) (Array.replicate 12 false) (by kernel_rfl) rfl rfl ⟨hx1, hx0⟩ (fun hHeld => ?_); refine with_tabW compactClsR11.tab compactClsR11.bits (fun HT_ HW_ => ?_)
       refine pA 0 (some 38) (bA 12 1) rfl rfl HT_.out (by intro w'; go_simp; with_reducible rfl) (by simp only [Act.put, zq1, zq2, zq3, iw, jw]; rfl) ?_
       refine pA 1 (some 39) (bA 12 3) rfl rfl HT_.out (by intro w'; go_simp; with_reducible rfl) (by simp only [Act.put, zq1, zq2, zq3, iw, jw]; rfl) ?_
       refine pA 2 (some 40) (bA 12 7) rfl rfl HT_.out (by intro w'; go_simp; with_reducible rfl) (by simp only [Act.put, zq1, zq2, zq3, iw, jw]; rfl) ?_
       refine pA 3 (some 41) (bA 12 15) rfl rfl HT_.out (by intro w'; go_simp; with_reducible rfl) (by simp only [Act.put, zq1, zq2, zq3, iw, jw]; rfl) ?_
       refine pT 4 (some 42) (bA 12 31) rfl rfl HT_.out HW_.out hHeld (by rintro w' ⟨s0, s1⟩; go_simp; with_reducible rfl) (by simp only [Act.put, zq1, zq2, zq3, iw, jw]; rfl) ?_
       refine pA 5 (some 43) (bA 12 63) rfl rfl HT_.out (by intro w'; go_simp; with_reducible rfl) (by simp only [Act.put, zq1, zq2, zq3, iw, jw]; rfl) ?_
       refine pA 6 (some 44) (bA 12 127) rfl rfl HT_.out (by intro w'; go_simp; with_reducible rfl) (by simp only [Act.put, zq1, zq2, zq3, iw, jw]; rfl) ?_
       refine pA 7 (some 45) (bA 12 255) rfl rfl HT_.out (by intro w'; go_simp; with_reducible rfl) (by simp only [Act.put, zq1, zq2, zq3, iw, jw]; rfl) ?_
       refine pA 8 (some 46) (bA 12 511) rfl rfl HT_.out (by intro w'; go_simp; with_reducible rfl) (by simp only [Act.put, zq1, zq2, zq3, iw, jw]; rfl) ?_
       refine pT 9 (some 47) (bA 12 1023) rfl rfl HT_.out HW_.out hHeld (by rintro w' ⟨s0, s1⟩; go_simp; with_reducible rfl) (by simp only [Act.put, zq1, zq2, zq3, iw, jw]; rfl) ?_
       refine QW.PrintLast.one_ (i := 10) (N := some 48) (bA 12 2047) rfl rfl (one_of HT_.out (by kernel_rfl)) (by decide) (fun K hK => ?_)
       refine goesV_ EG.out #[enc x, enc y] (#[enc x, enc y] ++ lb) (by rfl) rfl rfl rfl (by (try simp only [List.map_toArray, List.map_cons, List.map_nil]); first | done | rfl) (by first | rfl | simp) ?_
       refine (HPC.out _ HGd.out).mono ?_
       rintro e w1 ⟨rfl, hb1⟩
       refine ⟨_, rfl, ?_⟩
       have HB1 := Az.mk hb1
       have HCX := Az.mk ((hb1.cell (World.block_lt_of_cell? _ _ hHeld.1)).trans hHeld.1)
       refine hK.out _ _ ⟨(hb1.cell (World.block_lt_of_cell? _ _ hHeld.1)).trans hHeld.1, (hb1.cell (World.block_lt_of_cell? _ _ hHeld.2)).trans hHeld.2⟩ (fun hHeld => ?_)
       clear hK K hb1
       refine norm_ (by show Act.put _ (some 48) _ = _; simp only [Act.put, zq1, zq2, zq3, iw, jw]; rfl) ?_
       refine pA 11 (some 49) (bA 12 4095) rfl rfl HT_.out (by intro w'; go_simp; with_reducible rfl) (by simp only [Act.put, zq1, zq2, zq3, iw, jw]; rfl) ?_
       refine done_ (done_of HT_.out (by kernel_rfl)) ?_
       clear hHeld HT_ HW_ hx1 hx0
       have HR1 := Az.mk (Kd.R_below HRd.out HB1.out)
       have HG1 := Az.mk (grown_below HGd.out HB1.out)
       have hxk1 := (HB1.out.cell (World.block_lt_of_cell? _ _ hxk)).trans hxk
       have hfk1 := (Kd.R_celln z HR1.out (kk : Int) (by omega) (by omega)).2
       simp only [Int.toNat_natCast] at hfk1
       have hcx1 : w1.cell? ⟨g0, k + k2, none⟩ = some (enc x) := HCX.out
       clear HR HRd HG HGd HB1 HPC hxk hfk HCX
       cases b with
       | true =>
        rw [if_pos rfl, List.append_nil] at HN
        clear hxk1 hfk1 hcx1
        go_wp2
        go_roundw
        case rel => exact ⟨kk, k2 + 1, cur, rfl, by rw [wrap_succ hlt2' HL62.out], by omega, by omega, ⟨HCL.out.1, by have := HCL.out.2; omega⟩, ⟨by rw [HCT.out, HN.out]⟩, ⟨by rw [show k + (k2 + 1) - 1 = (k + k2 - 1) + 1 by omega, ← List.drop_drop, HCD.out, List.drop_drop]⟩, HR1, HG1⟩
        case measure => exact meas_x hlt2' (wrap_succ hlt2' HL62.out)
       | false =>
        rw [if_neg (by simp)] at HN
        have HP1 := Az.mk (Kd.R_putg HR1.out (kk : Int) x)
        simp only [Int.toNat_natCast] at HP1
        have hcl0 := OneCell.cells (enc := enc) h1
        simp only [Value.cells] at hcl0
        have hst := OneCell.store (enc := enc) h1 Tryz.prog
        go_wp2
        go_roundw
        case rel =>
         refine ⟨kk + 1, k2 + 1, cur.set kk x, by rw [wrap_succ (show kk < xs.length by omega) (by have := HL.out; omega)], by rw [wrap_succ hlt2' HL62.out], by omega, by omega, ⟨by rw [List.length_set]; exact HCL.out.1, by have := HCL.out.2; omega⟩, ⟨?_⟩, ⟨?_⟩, ⟨HP1.out.1⟩, ⟨grown_trans HG1.out HP1.out.2⟩⟩
         ·rw [HN.out, ← HCT.out, List.take_succ_eq_append_getElem (by rw [List.length_set, HCL.out.1]; omega), List.getElem_set_self, List.take_set_of_le (Nat.le_refl _)]
         ·rw [show k + (k2 + 1) - 1 = (k + k2 - 1) + 1 by omega, List.drop_set_of_lt (by omega), ← List.drop_drop, HCD.out, List.drop_drop]
        case measure => exact meas_x hlt2' (wrap_succ hlt2' HL62.out)
      ·have hend : k + k2 = xs.length := by omega
       rw [hend] at HCT
       have hkl := HCL.out.2
       have hkl2 : kk < xs.length := by omega
       have hcw : ∀ j, j < xs.length - kk → (wr.cell? ⟨g0, kk + j, none⟩).isSome = true ∧ wr.frozen? ⟨g0, kk + j, none⟩ = false := fun j hj => by
        obtain ⟨q1, q2⟩ := Kd.R_celln z HR.out ((kk + j : Nat) : Int) (by omega) (by omega)
        simp only [Int.toNat_natCast] at q1 q2
        exact ⟨by rw [q1]; rfl, q2⟩
       have hcl : ∀ ty, (Builtin.clear_ #[81] ty #[.slice (some ⟨g0, kk, none⟩) (xs.length - kk) (c - kk)]).run Tryz.prog wr = .ok (.tuple #[]) (wr.setCells g0 kk (List.replicate (xs.length - kk) (.slice none 0 0))) :=
        fun ty => Lib.run_clear_slice wr _ _ ty _ Tryz.underlying81 compactCls_zero rfl rfl g0 kk _ _ (by omega) (fun j hj => (hcw j hj).1) (fun j hj => (hcw j hj).2)
       have HS := Az.mk (R_setCells (z := z) (xs.length - kk) kk wr cur HR.out (by rw [HCL.out.1]; omega))
       rw [hz] at HS
       have hcut := cut_from (P := Tryz.prog) 81 84 .i64 Tryz.underlying81 HSZ.out.1 1 HSZ.out.2 (some ⟨g0, 0, none⟩) xs.length c (kk : Int) (by omega) (by omega)
       have hck : ¬ c = (kk : Int).toNat := by have := HCAP.out; omega
       rw [if_neg hck, show xs.length - (kk : Int).toNat = xs.length - kk by omega, show c - (kk : Int).toNat = c - kk by omega] at hcut
       have haddr : (some (⟨g0, 0, none⟩ : Addr)).map (·.add ((kk : Int).toNat * 1)) = some ⟨g0, kk, none⟩ := by
        by_cases h0 : kk = 0
        ·subst h0; simp [Addr.add]
        ·simp [Addr.add, h0]
       rw [haddr] at hcut
       have hcut2 := cut_to (P := Tryz.prog) 81 84 .i64 Tryz.underlying81 HSZ.out.1 (some ⟨g0, 0, none⟩) xs.length c (kk : Int) (by omega) (by omega) HCAP.out
       simp only [Int.toNat_natCast] at hcut2
       have HFIN : Az (xs.length - kk = xs.length - kk) := ⟨rfl⟩
       clear hcw hck haddr
       go_wp2
       go_ret
       have hlen : (compN z f xs xs.length).length = kk := by rw [← HCT.out, List.length_take, HCL.out.1]; omega
       refine ⟨_, rfl, ?_, grown_trans HG.out HS.out.2⟩
       have h3 := Kd.R_take (m := kk) HS.out.1 (by simp [HCL.out.1]; omega)
       rw [List.append_assoc, List.take_left' (by rw [List.length_take, HCL.out.1]; omega), HCT.out] at h3
       exact h3
   ·have hkl : k = xs.length := by omega
    subst hkl
    go_wp2
    go_ret
    exact ⟨_, rfl, by rw [compN_take _ (Nat.le_refl _) HA.out, List.take_length]; exact HR.out, HG.out⟩
end Go.Proofs.YtkcfdddhnboieaaGreatDoor.NState
end
