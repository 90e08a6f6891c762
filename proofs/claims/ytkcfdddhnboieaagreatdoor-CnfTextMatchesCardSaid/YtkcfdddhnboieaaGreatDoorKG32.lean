/-
  Part 32 of the proof of cnfTextMatches_card: walks and lemmas.
-/
import Derived.Test.YtkcfdddhnboieaaGreatDoorKG13
import Derived.Test.YtkcfdddhnboieaaGreatDoorKG30
import Derived.Test.YtkcfdddhnboieaaGreatDoorKG27
set_option linter.unusedVariables false
set_option linter.unusedSimpArgs false
section
set_option maxRecDepth 100000
namespace Go.Proofs.YtkcfdddhnboieaaGreatDoor.NPlain
open Go Go.RowKit Go.Lib QW.PrintWords QW.PrintLast QW.PrintMore NState
open NText (sb sb_list sb_size decDigits_len)
open PRFmt
theorem sb_append (a b : List UInt8) : sb a ++ sb b = sb (a ++ b) := by
 apply ByteArray.ext
 apply Array.ext'
 simp [sb]
theorem decDigits_20 {u : Nat} (h : u < 18446744073709551616) : (decDigits u).length ≤ 20 := decDigits_len 19 u (Nat.lt_of_lt_of_le h (by decide))
theorem digit_cut {d : Nat} (h : d < 10) : (⟨#[48, 49, 50, 51, 52, 53, 54, 55, 56, 57]⟩ : ByteArray).extract d (d + 1) = sb [UInt8.ofNat (48 + d)] := by
 have : d = 0 ∨ d = 1 ∨ d = 2 ∨ d = 3 ∨ d = 4 ∨ d = 5 ∨ d = 6 ∨ d = 7 ∨ d = 8 ∨ d = 9 := by omega
 rcases this with rfl | rfl | rfl | rfl | rfl | rfl | rfl | rfl | rfl | rfl <;> rfl
theorem long_ev (u : Nat) : u < 18446744073709551616 → Ev (fun k => netlabref32_long.f k (u : Int)) (sb (decDigits u)) := by
 induction u using Nat.strongRecOn with
 | _ u ih =>
 intro h
 refine Ev.succ ?_
 have ht : Int.tmod (u : Int) 10 = ((u % 10 : Nat) : Int) := by rw [Int.tmod_eq_emod_of_nonneg (by omega)]; omega
 have hd : Int.tdiv (u : Int) 10 = ((u / 10 : Nat) : Int) := by rw [Int.tdiv_eq_ediv_of_nonneg (by omega)]; omega
 have hw : IntKind.u64.wrap (((u % 10 : Nat) : Int) + 1) = ((u % 10 + 1 : Nat) : Int) := by
  rw [IntKind.wrap_u64]; omega
 have hw2 : IntKind.u64.wrap ((u / 10 : Nat) : Int) = ((u / 10 : Nat) : Int) := by
  rw [IntKind.wrap_u64]; omega
 simp only [netlabref32_long.f, ht, hd, hw, hw2]
 refine Ev.pos (by omega) (Ev.pos (by omega) (Ev.pos (by omega) ?_))
 by_cases hu : u < 10
 ·refine Ev.pos (by omega) ?_
  refine Ev.pureOf ?_
  simp only [Int.toNat_natCast]
  rw [digit_cut (by omega), decDigits, dif_pos hu, Nat.mod_eq_of_lt hu]
 ·refine Ev.neg (by omega) ?_
  refine Ev.bind (ih (u / 10) (by omega) (by omega)) ?_
  simp only [Int.toNat_natCast]
  rw [digit_cut (by omega)]
  refine Ev.pos (by have := decDigits_20 (u := u / 10) (by omega); rw [sb_size, sb_size]; simp; omega) ?_
  refine Ev.pureOf ?_
  rw [sb_append]
  conv => rhs; rw [decDigits, dif_neg hu]
def Fits (x : Int) : Prop := -9223372036854775808 ≤ x ∧ x ≤ 9223372036854775807
theorem itoa_len {x : Int} (h : Fits x) : (itoa x).length ≤ 21 := by
 unfold itoa
 obtain ⟨h0, h1⟩ := h
 split
 ·have := decDigits_20 (u := x.natAbs) (by omega); simp only [List.length_cons]; omega
 ·have := decDigits_20 (u := x.toNat) (by omega); omega
theorem digits_ev {x : Int} (h : Fits x) : Ev (fun k => netlabref32_Digits.f k x) (sb (itoa x)) := by
 obtain ⟨h0, h1⟩ := h
 simp only [netlabref32_Digits.f]
 by_cases hx : x < 0
 ·refine Ev.pos hx ?_
  have e : IntKind.u64.wrap (IntKind.u64.wrap (wrap64 (-(wrap64 (x + 1)))) + 1) = (x.natAbs : Int) := by
   unfold wrap64; rw [IntKind.wrap_u64, IntKind.wrap_u64]; omega
  rw [e]
  refine Ev.bind (long_ev x.natAbs (by omega)) ?_
  refine Ev.pos (by have := decDigits_20 (u := x.natAbs) (by omega); rw [sb_size]; omega) ?_
  refine Ev.pureOf ?_
  have : (⟨#[45]⟩ : ByteArray) = sb [45] := rfl
  rw [this, sb_append]
  unfold itoa; rw [if_pos hx]; rfl
 ·refine Ev.neg hx ?_
  have e : IntKind.u64.wrap x = (x.toNat : Int) := by rw [IntKind.wrap_u64]; omega
  rw [e]
  refine Ev.bind (long_ev x.toNat (by omega)) ?_
  refine Ev.pureOf ?_
  unfold itoa; rw [if_neg hx]
theorem dropL {cls : List (List Int)} {i : Nat} (hi : i < cls.length) : cls.drop i = rL cls (i : Int) :: cls.drop (i + 1) := by
 rw [List.drop_eq_getElem_cons hi]; simp [rL, List.getD, hi]
theorem dropI {l : List Int} {i : Nat} (hi : i < l.length) : l.drop i = rd l (i : Int) :: l.drop (i + 1) := by
 rw [List.drop_eq_getElem_cons hi]; simp [rd, List.getD, hi]
theorem litsT_cons (x : Int) (l : List Int) : litsT (x :: l) = itoa x ++ [32] ++ litsT l := by simp [litsT]
def FitsC (cls : List (List Int)) : Prop := ∀ l ∈ cls, (∀ y ∈ l, Fits y) ∧ l.length ≤ 1000
theorem text_ev0 (vars : Int) (cls : List (List Int)) (hf : FitsC cls) (hl : cls.length ≤ 1000000) : ∀ i : Nat, i ≤ cls.length → ∀ acc : List UInt8, acc.length + 40000 * (cls.length - i) ≤ 1000000000000 → Ev (fun k => netlabref32_Text.l0 k (sb acc) (i : Int) vars cls) (sb (acc ++ (cls.drop i).flatMap clsT)) := by
 refine down ?_ ?_
 ·intro acc ha
  refine Ev.succ ?_
  simp only [netlabref32_Text.l0]
  refine Ev.neg (by omega) ?_
  refine Ev.pureOf ?_
  rw [List.drop_length]; simp
 ·intro i hi ih acc ha
  refine Ev.succ ?_
  simp only [netlabref32_Text.l0]
  refine Ev.pos (by omega) ?_
  have hm : rL cls (i : Int) ∈ cls := by
   have : rL cls (i : Int) = cls[i] := by simp [rL, List.getD, hi]
   rw [this]; exact List.getElem_mem _
  obtain ⟨hy, hle⟩ := hf _ hm
  have hd := dropL hi
  obtain ⟨l, hL⟩ : ∃ l, rL cls (i : Int) = l := ⟨_, rfl⟩
  rw [hL] at hm hy hle hd
  have key : ∀ j : Nat, j ≤ l.length → ∀ b : List UInt8, b.length + 30 * (l.length - j) ≤ acc.length + 30000 → Ev (fun k => netlabref32_Text.l1 k (sb b) (i : Int) (j : Int) vars cls) (sb (b ++ litsT (l.drop j) ++ [48, 10] ++ (cls.drop (i + 1)).flatMap clsT)) := by
   refine down ?_ ?_
   ·intro b hb
    refine Ev.succ ?_
    simp only [netlabref32_Text.l1, hL]
    refine Ev.pos (by omega) (Ev.pos (by omega) (Ev.neg (by omega) (Ev.pos (by rw [sb_size]; omega) ?_)))
    have e : (⟨#[48, 10]⟩ : ByteArray) = sb [48, 10] := rfl
    rw [e, sb_append, wrap_succ hi (by omega)]
    have h2 := ih (b ++ [48, 10]) (by simp only [List.length_append, List.length_cons, List.length_nil]; omega)
    rw [List.drop_length]
    simpa [litsT] using h2
   ·intro j hj ihj b hb
    refine Ev.succ ?_
    simp only [netlabref32_Text.l1, hL]
    have hx : Fits (rd l (j : Int)) := by
     have : rd l (j : Int) = l[j] := by simp [rd, List.getD, hj]
     rw [this]; exact hy _ (List.getElem_mem _)
    have hn := itoa_len hx
    refine Ev.pos (by omega) (Ev.pos (by omega) (Ev.pos (by omega) (Ev.pos (by omega) (Ev.bind (digits_ev hx) ?_))))
    rw [sb_append]
    refine Ev.pos (by rw [sb_size, sb_size]; omega) (Ev.pos (by rw [sb_size]; simp only [List.length_append]; omega) ?_)
    have e : (⟨#[32]⟩ : ByteArray) = sb [32] := rfl
    rw [e, sb_append, wrap_succ hj (by omega)]
    have h2 := ihj (b ++ itoa (rd l (j : Int)) ++ [32]) (by simp only [List.length_append, List.length_singleton]; omega)
    rw [dropI hj, litsT_cons]
    simpa only [List.append_assoc] using h2
  have h := key 0 (Nat.zero_le _) acc (by omega)
  rw [hd, List.flatMap_cons]
  simpa [clsT] using h
theorem refText_ev (vars : Int) (hv : Fits vars) (cls : List (List Int)) (hf : FitsC cls) (hl : cls.length ≤ 1000000) : Ev (fun k => netlabref32_Text.f k vars cls) (sb (fmtT vars cls)) := by
 have e0 : (⟨#[112, 32, 99, 110, 102, 32]⟩ : ByteArray) = sb [112, 32, 99, 110, 102, 32] := rfl
 have e1 : (⟨#[32]⟩ : ByteArray) = sb [32] := rfl
 have e2 : (⟨#[10]⟩ : ByteArray) = sb [10] := rfl
 have hm : Fits (cls.length : Int) := ⟨by omega, by omega⟩
 have h1 := itoa_len hv
 have h2 := itoa_len hm
 simp only [netlabref32_Text.f]
 refine Ev.bind (digits_ev hv) ?_
 simp only [e0, e1, e2, sb_append, sb_size, List.length_append, List.length_cons, List.length_nil]
 refine Ev.pos (by omega) (Ev.pos (by omega) (Ev.bind (digits_ev hm) ?_))
 simp only [sb_append, sb_size, List.length_append, List.length_cons, List.length_nil]
 refine Ev.pos (by omega) (Ev.pos (by omega) ?_)
 have h := text_ev0 vars cls hf hl 0 (Nat.zero_le _) (headT vars cls.length) (by unfold headT; simp only [List.length_append, List.length_cons, List.length_nil]; omega)
 simp only [List.drop_zero] at h
 exact h
end Go.Proofs.YtkcfdddhnboieaaGreatDoor.NPlain
end
section
set_option maxHeartbeats 4000000
set_option maxRecDepth 100000
namespace Go.Proofs.YtkcfdddhnboieaaGreatDoor.NState
open Go Go.RowKit Go.Shelf QW.PrintWords QW.PrintLast QW.PrintMore NMap
open PRPropg (netlabref32_Check.f netlabref32_Check.calls)
open NPlain (chkL tot FitsC Fits refText_ev)
theorem rformat_calls (vars : Int) (A1 : Option Addr) (c1 : Nat) (cls : List (List Int)) (w : World) (hr1 : Kd.C (Kd.slice 3 (Kd.int .i64)) w A1 cls.length cls) (hc1 : cls.length ≤ c1) (hl : cls.length ≤ 1000000) (ht : tot cls ≤ 1000000000) (hf : chkL vars cls = 0 → FitsC cls ∧ Fits vars) :
  Calls Tryz.prog 30 #[.agg #[.int .i64 vars, .slice A1 cls.length c1]] w (FormatCPost w (formatC vars cls (chkL vars cls))) := by
 have HCK : Az (netlabref32_Check.f 0 vars cls = some (chkL vars cls)) := ⟨by unfold netlabref32_Check.f; rw [if_pos ⟨by omega, ht⟩]⟩
 have HTX : Az (chkL vars cls = 0 → ∃ k, PRFmt.netlabref32_Text.f k vars cls = some (NText.sb (fmtT vars cls))) := ⟨fun h => by
  obtain ⟨k, hk⟩ := refText_ev vars (hf h).2 cls (hf h).1 hl
  exact ⟨k, hk k (Nat.le_refl _)⟩⟩
 have HR1 := Az.mk hr1
 have HC1 := Az.mk hc1
 generalize chkL vars cls = e0 at HCK HTX ⊢
 have HEV : Az (formatC vars cls e0 = if e0 = 0 then (if (fmtT vars cls).length ≤ 65536 then (fmtT vars cls, 0) else ([], 5)) else ([], e0)) := ⟨rfl⟩
 generalize formatC vars cls e0 = res at HEV ⊢
 have hTs : (NText.sb (fmtT vars cls)).size = (fmtT vars cls).length := NText.sb_size _
 have HTB : Az (NText.sb (fmtT vars cls) = ⟨(fmtT vars cls).toArray⟩) := ⟨rfl⟩
 generalize fmtT vars cls = T at HTX HEV hTs HTB
 clear hr1 hc1 hl ht hf
 have hu24 := Tryz.underlying24
 go_enter Tryz.func30, Tryz.ntmps30
 go_wp2_with fail
 refine (netlabref32_Check.calls 0 vars A1 c1 cls e0 _ (Kd.C_alloc HR1.out _) HC1.out HCK.out).mono ?_
 rintro e w1 ⟨rfl, hb1⟩
 have BK : Az (w1.heap[w.heap.size]? = some (.cells #[.int .i64 vars, .slice A1 cls.length c1] 24 (0, 0))) := ⟨blk_below (blk_new w _) hb1⟩
 have HB : Az (Below w.heap.size w w1) := ⟨bwt (bwa (Below.refl _ _) _) hb1⟩
 clear hb1
 have hx0 : w1.cell? ⟨w.heap.size, 0, none⟩ = some (.int .i64 vars) := (bkc BK.out 0).trans rfl
 have hx1 : w1.cell? ⟨w.heap.size, 1, none⟩ = some (.slice A1 cls.length c1) := (bkc BK.out 1).trans rfl
 by_cases he : e0 = 0
 ·subst he
  rw [if_pos rfl] at HEV
  obtain ⟨k, hk⟩ := HTX.out rfl
  replace HTX := Az.mk hk
  clear hk
  go_wp2_with fail
  refine (PRFmt.netlabref32_Text.calls k vars A1 c1 cls _ w1 (Kd.C_below HR1.out HB.out) HC1.out HTX.out).mono ?_
  rintro e w2 ⟨rfl, hb2⟩
  have HB2 := Az.mk (bwt HB.out hb2)
  clear hb2 hx0 hx1
  by_cases hl : 65536 < T.length
  ·rw [if_neg (by omega)] at HEV
   have hlb : decide (((NText.sb T).size : Int) > 65536) = true := decide_eq_true (by omega)
   have hlc : decide (65536 < (NText.sb T).size) = true := decide_eq_true (by omega)
   clear hl hTs
   go_wp2
   first | go_ret2 | go_ret3 | go_ret
   exact ⟨by rw [HEV.out]; rfl, HB2.out⟩
  ·rw [if_pos (by omega)] at HEV
   have hlb : decide (((NText.sb T).size : Int) > 65536) = false := decide_eq_false (by omega)
   have hlc : decide (65536 < (NText.sb T).size) = false := decide_eq_false (by omega)
   clear hl hTs
   go_wp2
   first | go_ret2 | go_ret3 | go_ret
   exact ⟨by rw [HEV.out]; rfl, HB2.out⟩
 ·rw [if_neg he] at HEV
  have heb : (e0 != 0) = true := by simpa using he
  clear he
  go_wp2
  first | go_ret2 | go_ret3 | go_ret
  exact ⟨by rw [HEV.out]; rfl, HB.out⟩
end Go.Proofs.YtkcfdddhnboieaaGreatDoor.NState
end
