/-
  Part 21 of the proof of proofSound_card: walks and lemmas, packed by the session's own wip/pack.py out of its texts and of what the kit's print.sh printed.
-/
import Derived.Test.YtogicccdngpafaaGreatDoorSA20
import Derived.Test.YtogicccdngpafaaGreatDoorSA17
import Derived.Test.YtogicccdngpafaaGreatDoorSA9
set_option linter.unusedVariables false
set_option linter.unusedSimpArgs false
section
set_option maxRecDepth 100000
namespace Go.Proofs.YtogicccdngpafaaGreatDoor.NPlain
open Go Go.RowKit QW.PrintWords QW.PrintLast QW.PrintMore NState
def LitOk (n : Nat) (x : Int) : Prop := x ≠ 0 ∧ -(n : Int) ≤ x ∧ x ≤ n
def Fine (n : Nat) (cls : List (List Int)) : Prop := cls.length ≤ 40 ∧ ∀ l ∈ cls, l.length ≤ 12 ∧ ∀ x ∈ l, LitOk n x
theorem tot_le (b : Nat) : ∀ cls : List (List Int), (∀ l ∈ cls, l.length ≤ b) → tot cls ≤ b * cls.length
 | [], _ => by simp [tot]
 | x :: xs, h => by
  have h1 := h x List.mem_cons_self
  have h2 := tot_le b xs (fun l hl => h l (List.mem_cons_of_mem _ hl))
  simp only [tot, List.map_cons, List.sum_cons, List.length_cons, Nat.mul_add] at h2 ⊢
  omega
theorem Fine.tot {n : Nat} {cls : List (List Int)} (h : Fine n cls) : tot cls ≤ 480 := by
 have := tot_le 12 cls (fun l hl => (h.2 l hl).1)
 have := h.1
 omega
theorem badLit_ok {n : Nat} (hn : n ≤ 100000) {x : Int} (h : LitOk n x) : badLit n x = false := by
 obtain ⟨h0, h1, h2⟩ := h
 unfold badLit
 rw [wneg (by omega) (by omega)]
 simp only [Bool.or_eq_false_iff, beq_eq_false_iff_ne, decide_eq_false_iff_not]
 exact ⟨⟨h0, by omega⟩, by omega⟩
theorem any_ok {n : Nat} (hn : n ≤ 100000) {l : List Int} (h : ∀ x ∈ l, LitOk n x) : l.any (badLit n) = false := by
 rw [List.any_eq_false]
 intro x hx
 rw [badLit_ok hn (h x hx)]; simp
theorem chk_fine {n : Nat} (hn : n ≤ 4096) {cls : List (List Int)} (h : Fine n cls) : chkL n cls = 0 := by
 unfold chkL
 have := h.tot
 have := h.1
 rw [if_neg (by omega), if_neg (by omega), if_neg]
 rw [Bool.not_eq_true, List.any_eq_false]
 intro l hl
 rw [any_ok (by omega) (h.2 l hl).2]; simp
theorem check_fine {n : Nat} (hn : n ≤ 4096) {cls : List (List Int)} (h : Fine n cls) : Ev (fun k => PCheck.cnf_Check.f k n cls) 0 := by
 have := h.tot
 have := h.1
 have e := check_code n cls (by omega) (by omega) (fun l hl => by have := (h.2 l hl).1; omega)
 rwa [chk_fine hn h] at e
theorem bring_ok (a : Int) {m : Int} (h1 : 1 ≤ m) (h2 : m ≤ 1000000000) : ∃ t, PFit.nBr.f a m = some t ∧ 0 ≤ t ∧ t < m := by
 unfold PFit.nBr.f
 rw [if_neg (by omega)]
 refine ⟨_, rfl, ?_⟩
 have ha1 : -m < a.tmod m := by
  have := Int.lt_tmod_of_pos a (show 0 < m by omega)
  exact this
 have ha2 : a.tmod m < m := Int.tmod_lt_of_pos a (by omega)
 rw [wid (by omega) (by omega)]
 exact ⟨Int.tmod_nonneg _ (by omega), Int.tmod_lt_of_pos _ (by omega)⟩
theorem rdFI {l : List (List Int)} {k : Nat} (h : k < l.length) : PFit.rL l k = l[k] := by simp [PFit.rL, List.getD, h]
theorem fewF_ev (most : Nat) (hm : most ≤ 100000) (vars : Int) (cls : List (List Int)) : Ev (fun k => PFit.nfC.f k vars cls (most : Int)) (vars, fewL most cls) := by
 have key : ∀ i : Nat, i ≤ min most cls.length → Ev (fun k => PFit.nfC.l0 k (most : Int) (i : Int) vars cls vars ((cls.take i).map fun l => l.take 12)) (vars, fewL most cls) := by
  refine down ?_ ?_
  ·refine Ev.succ ?_
   simp only [PFit.nfC.l0]
   have e : (cls.take (min most cls.length)).map (fun l => l.take 12) = fewL most cls := by
    unfold fewL
    congr 1
    rw [List.take_eq_take_iff]
    omega
   rw [e]
   by_cases h : most < cls.length
   ·exact Ev.pos (by omega) (Ev.neg (by omega) (Ev.pure _))
   ·exact Ev.neg (by omega) (Ev.pure _)
  ·intro i hi ih
   refine Ev.succ ?_
   simp only [PFit.nfC.l0]
   have hic : i < cls.length := by omega
   rw [rdFI hic, wrap_succ (n := 100000) (by omega) (by omega)]
   have hmn : mn ((cls[i].length : Nat) : Int) 12 = ((min cls[i].length 12 : Nat) : Int) := by unfold mn; split <;> omega
   rw [hmn]
   refine Ev.pos (by omega) (Ev.pos (by omega) (Ev.pos (by omega) (Ev.pos (by omega) (Ev.pos (by omega) (Ev.pos (by simp; omega) (Ev.pos (by simp; omega) ?_))))))
   have e : (cls.take i).map (fun l => l.take 12) ++ [([] : List Int) ++ cls[i].take ((min cls[i].length 12 : Nat) : Int).toNat] = (cls.take (i + 1)).map (fun l => l.take 12) := by
    rw [List.take_succ_eq_append_getElem hic, List.map_append]
    congr 1
    simp only [List.map_cons, List.map_nil, List.nil_append, Int.toNat_natCast]
    congr 1
    rw [List.take_eq_take_iff]
    omega
   rw [e]
   exact ih
 exact key 0 (Nat.zero_le _)
structure InvF (n len i j : Nat) (L : List (List Int)) : Prop where
 len : L.length = len
 short : ∀ (m : Nat) l, L[m]? = some l → l.length ≤ 12
 done : ∀ (m : Nat) l, m < i → L[m]? = some l → ∀ x ∈ l, LitOk n x
 part : ∀ l, L[i]? = some l → ∀ (q : Nat) x, q < j → l[q]? = some x → LitOk n x
theorem rdFS {L : List (List Int)} {i : Nat} (hi : i < L.length) : L[i]? = some (PFit.rL L (i : Int)) := by
 rw [rdFI hi, List.getElem?_eq_getElem hi]
theorem InvF.next {n len i j : Nat} {L : List (List Int)} (h : InvF n len i j L) (hi : i < len) (hj : j = (PFit.rL L (i : Int)).length) : InvF n len (i + 1) 0 L := by
 refine ⟨h.len, h.short, fun m l hm hl x hx => ?_, fun _ _ _ _ hq => absurd hq (Nat.not_lt_zero _)⟩
 by_cases e : m = i
 ·subst e
  have hr := rdFS (L := L) (i := m) (by rw [h.len]; exact hi)
  rw [hr] at hl
  cases hl
  obtain ⟨q, hq, he⟩ := List.getElem_of_mem hx
  exact h.part _ hr q x (by omega) (by rw [List.getElem?_eq_getElem hq, he])
 ·exact h.done m l (by omega) hl x hx
theorem InvF.gone {n len i j : Nat} {L : List (List Int)} (h : InvF n len i j L) (hi : i < len) : InvF n len (i + 1) 0 (L.set i []) := by
 refine ⟨by simp [h.len], fun m l hl => ?_, fun m l hm hl x hx => ?_, fun _ _ _ _ hq => absurd hq (Nat.not_lt_zero _)⟩
 ·rw [List.getElem?_set] at hl
  split at hl
  ·split at hl
   ·cases hl; simp
   ·cases hl
  ·exact h.short m l hl
 ·rw [List.getElem?_set] at hl
  split at hl
  ·split at hl
   ·cases hl; cases hx
   ·cases hl
  ·rename_i hne; exact h.done m l (by omega) hl x hx
theorem InvF.put {n len i j : Nat} {L : List (List Int)} (h : InvF n len i j L) (hi : i < len) (hj : j < (PFit.rL L (i : Int)).length) {x : Int} (hx : LitOk n x) : InvF n len i (j + 1) (L.set i ((PFit.rL L (i : Int)).set j x)) := by
 have hL : i < L.length := by rw [h.len]; exact hi
 have hr := rdFS hL
 refine ⟨by simp [h.len], fun m l hl => ?_, fun m l hm hl y hy => ?_, fun l hl q y hq hy => ?_⟩
 ·rw [List.getElem?_set] at hl
  split at hl
  ·rename_i hm
   cases hl
   rw [List.length_set]
   exact h.short i _ hr
  ·exact h.short m l hl
 ·rw [List.getElem?_set] at hl
  split at hl
  ·omega
  ·exact h.done m l hm hl y hy
 ·rw [List.getElem?_set, if_pos rfl, if_pos hL] at hl
  cases hl
  rw [List.getElem?_set] at hy
  split at hy
  ·rename_i hm
   cases hy; exact hx
  ·exact h.part _ hr q y (by omega) hy
theorem InvF.less {n len i j j' : Nat} {L : List (List Int)} (h : InvF n len i j L) (hj : j' ≤ j) : InvF n len i j' L := ⟨h.len, h.short, h.done, fun l hl q x hq hx => h.part l hl q x (by omega) hx⟩
theorem rd_put {L : List (List Int)} {i : Nat} (hi : i < L.length) (l : List Int) : PFit.rL (L.set i l) (i : Int) = l := by
 have h := rdFS (L := L.set i l) (i := i) (by simpa using hi)
 rw [List.getElem?_set, if_pos rfl, if_pos hi] at h
 exact (Option.some.inj h).symm
theorem lit_pos {n : Nat} (hn : n ≤ 100000) {t : Int} (h0 : 0 ≤ t) (h1 : t < 2 * n) : wrap64 (wrap64 (Int.tdiv t 2) + 1) = t / 2 + 1 ∧ LitOk n (t / 2 + 1) := by
 have e : Int.tdiv t 2 = t / 2 := Int.tdiv_eq_ediv_of_nonneg h0
 rw [e, wid (x := t / 2) (by omega) (by omega), wid (by omega) (by omega)]
 exact ⟨rfl, by omega, by omega, by omega⟩
theorem lit_neg {n : Nat} (hn : n ≤ 100000) {t : Int} (h0 : 0 ≤ t) (h1 : t < 2 * n) : wrap64 (-(wrap64 (wrap64 (Int.tdiv t 2) + 1))) = -(t / 2 + 1) ∧ LitOk n (-(t / 2 + 1)) := by
 obtain ⟨e, h2⟩ := lit_pos hn h0 h1
 rw [e, wneg (by omega) (by omega)]
 exact ⟨rfl, by omega, by omega, by omega⟩
theorem fit_inner {n : Nat} (hn : n ≤ 100000) {len : Nat} (hlen : len ≤ 100000) (i : Nat) (hi : i < len)
  (IH : ∀ L, InvF n len (i + 1) 0 L → ∃ r, Ev (fun k => PFit.nFt.l0 k ((i + 1 : Nat) : Int) n L) ((n : Int), r) ∧ InvF n len len 0 r) :
  ∀ (d j : Nat) (L : List (List Int)), InvF n len i j L → j ≤ (PFit.rL L (i : Int)).length → d = (PFit.rL L (i : Int)).length - j → ∃ r, Ev (fun k => PFit.nFt.l1 k (i : Int) (j : Int) n L) ((n : Int), r) ∧ InvF n len len 0 r := by
 have hw : wrap64 ((i : Int) + 1) = ((i + 1 : Nat) : Int) := wrap_succ hi (by omega)
 intro d
 induction d with
 | zero =>
  intro j L h hj hd
  obtain ⟨r, hr, hf⟩ := IH L (h.next hi (by omega))
  refine ⟨r, Ev.succ ?_, hf⟩
  simp only [PFit.nFt.l1]
  have hL := h.len
  refine Ev.pos (by omega) (Ev.pos (by omega) (Ev.neg (by omega) ?_))
  rw [hw]
  exact hr
 | succ d ih =>
  intro j L h hj hd
  have hL : i < L.length := by rw [h.len]; exact hi
  have hlt : j < (PFit.rL L (i : Int)).length := by omega
  by_cases hn0 : n = 0
  ·subst hn0
   obtain ⟨r, hr, hf⟩ := IH _ (h.gone hi)
   refine ⟨r, Ev.succ ?_, hf⟩
   simp only [PFit.nFt.l1]
   refine Ev.pos (by omega) (Ev.pos (by omega) (Ev.pos (by omega) (Ev.pos rfl ?_)))
   rw [hw, Int.toNat_natCast]
   exact hr
  ·have hm : wrap64 (2 * (n : Int)) = 2 * (n : Int) := wid (by omega) (by omega)
   obtain ⟨t, ht, ht0, ht1⟩ := bring_ok (rd (PFit.rL L (i : Int)) (j : Int)) (m := 2 * (n : Int)) (by omega) (by omega)
   obtain ⟨ep, hp⟩ := lit_pos hn ht0 ht1
   obtain ⟨en, hng⟩ := lit_neg hn ht0 ht1
   have hwj : wrap64 ((j : Int) + 1) = ((j + 1 : Nat) : Int) := wrap_succ (n := 13) (by have := h.short i _ (rdFS hL); omega) (by omega)
   have AM := Az.mk hm
   have AP := Az.mk ep
   have AN := Az.mk en
   have AJ := Az.mk hwj
   clear hm ep en hwj hw
   have h1 := h.put hi hlt hp
   have e1 : PFit.rL (L.set i ((PFit.rL L (i : Int)).set j (t / 2 + 1))) (i : Int) = (PFit.rL L (i : Int)).set j (t / 2 + 1) := rd_put hL _
   have hbody : ∀ r, Ev (fun k => if Int.tmod t 2 = 1 then (if (j : Int) < ((PFit.rL (L.set i ((PFit.rL L (i : Int)).set j (t / 2 + 1))) (i : Int)).length : Int) then PFit.nFt.l1 k (i : Int) ((j + 1 : Nat) : Int) n ((L.set i ((PFit.rL L (i : Int)).set j (t / 2 + 1))).set i ((PFit.rL (L.set i ((PFit.rL L (i : Int)).set j (t / 2 + 1))) (i : Int)).set j (-(t / 2 + 1)))) else none) else PFit.nFt.l1 k (i : Int) ((j + 1 : Nat) : Int) n (L.set i ((PFit.rL L (i : Int)).set j (t / 2 + 1)))) r → Ev (fun k => PFit.nFt.l1 k (i : Int) (j : Int) n L) r := by
    intro r hr
    refine Ev.succ ?_
    simp only [PFit.nFt.l1]
    refine Ev.pos (by omega) (Ev.pos (by omega) (Ev.pos (by omega) (Ev.neg (by omega) (Ev.pos (by omega) ?_))))
    rw [AM.out, ht]
    simp only [Option.bind_some, Int.toNat_natCast]
    rw [AJ.out, AN.out, AP.out]
    exact hr
   have hYL : (L.set i ((PFit.rL L (i : Int)).set j (t / 2 + 1))).length = L.length := by simp
   have hY1 : (PFit.rL (L.set i ((PFit.rL L (i : Int)).set j (t / 2 + 1))) (i : Int)).length = (PFit.rL L (i : Int)).length := by rw [e1, List.length_set]
   clear e1
   generalize L.set i ((PFit.rL L (i : Int)).set j (t / 2 + 1)) = Y at h1 hbody hYL hY1
   by_cases ho : Int.tmod t 2 = 1
   ·have h2 := (h1.less (Nat.le_succ j)).put hi (j := j) (by omega) hng
    have e2 : (PFit.rL (Y.set i ((PFit.rL Y (i : Int)).set j (-(t / 2 + 1)))) (i : Int)).length = (PFit.rL Y (i : Int)).length := by rw [rd_put (by omega), List.length_set]
    obtain ⟨r, hr, hf⟩ := ih (j + 1) _ h2 (by omega) (by omega)
    exact ⟨r, hbody _ (Ev.pos ho (Ev.pos (by omega) hr)), hf⟩
   ·obtain ⟨r, hr, hf⟩ := ih (j + 1) _ h1 (by omega) (by omega)
    exact ⟨r, hbody _ (Ev.neg ho hr), hf⟩
theorem fit_outer {n : Nat} (hn : n ≤ 100000) {len : Nat} (hlen : len ≤ 100000) : ∀ i : Nat, i ≤ len → ∀ L, InvF n len i 0 L → ∃ r, Ev (fun k => PFit.nFt.l0 k (i : Int) n L) ((n : Int), r) ∧ InvF n len len 0 r := by
 refine down ?_ ?_
 ·intro L h
  refine ⟨L, Ev.succ ?_, h⟩
  simp only [PFit.nFt.l0]
  have := h.len
  exact Ev.neg (by omega) (Ev.pure _)
 ·intro i hi ih L h
  obtain ⟨r, hr, hf⟩ := fit_inner hn hlen i hi ih _ 0 L h (Nat.zero_le _) rfl
  refine ⟨r, Ev.succ ?_, hf⟩
  simp only [PFit.nFt.l0]
  have := h.len
  exact Ev.pos (by omega) hr
theorem fit_ev (b most : Nat) (hb : b ≤ 100000) (hm : most ≤ 100000) (vars : Int) (cls : List (List Int)) :
  ∃ (n : Nat) (L : List (List Int)), n ≤ b ∧ L.length ≤ most ∧ (∀ l ∈ L, l.length ≤ 12 ∧ ∀ x ∈ l, LitOk n x) ∧ Ev (fun k => PFit.nFt.f k vars cls (b : Int) (most : Int)) ((n : Int), L) := by
 obtain ⟨t, ht, ht0, ht1⟩ := bring_ok vars (m := (b : Int) + 1) (by omega) (by omega)
 obtain ⟨n, rfl⟩ := Int.eq_ofNat_of_zero_le ht0
 have hstart : InvF n (fewL most cls).length 0 0 (fewL most cls) := by
  refine ⟨rfl, fun m l hl => ?_, fun _ _ h => absurd h (Nat.not_lt_zero _), fun _ _ _ _ h => absurd h (Nat.not_lt_zero _)⟩
  have hmem := List.mem_of_getElem? hl
  simp only [fewL, List.mem_map] at hmem
  obtain ⟨a, _, rfl⟩ := hmem
  simp; omega
 have hfl := fewL_len most cls
 obtain ⟨r, hr, hf⟩ := fit_outer (n := n) (by omega) (len := (fewL most cls).length) (by omega) 0 (Nat.zero_le _) _ hstart
 refine ⟨n, r, by omega, by rw [hf.len]; exact hfl, fun l hl => ?_, ?_⟩
 ·obtain ⟨m, hm, rfl⟩ := List.getElem_of_mem hl
  have e := List.getElem?_eq_getElem hm
  exact ⟨hf.short m _ e, fun x hx => hf.done m _ (by rw [← hf.len]; exact hm) e x hx⟩
 ·simp only [PFit.nFt.f]
  refine Ev.bind (fewF_ev most hm vars cls) ?_
  have e : wrap64 ((b : Int) + 1) = (b : Int) + 1 := wid (by omega) (by omega)
  rw [e, ht]
  simp only [Option.bind_some]
  exact hr
end Go.Proofs.YtogicccdngpafaaGreatDoor.NPlain
end
section
set_option maxRecDepth 100000
namespace Go.Proofs.YtogicccdngpafaaGreatDoor.NPlain
open Go Go.RowKit QW.PrintWords QW.PrintLast QW.PrintMore NState
open PPropg (cnf_values_of.f cnf_values_set.f cnf_values_unit.l0 cnf_values_unit.j1 cnf_values_unit.f)
def valS (S : List Int) (x : Int) : Int := if S.contains x then 1 else if S.contains (-x) then -1 else 0
def Cons (S : List Int) : Prop := ∀ x, S.contains x = true → S.contains (-x) = false
structure VOk (n : Nat) (v S : List Int) : Prop where
 len : v.length = n + 1
 val : ∀ i : Nat, 1 ≤ i → i ≤ n → rd v (i : Int) = valS S i
 cons : Cons S
theorem valS_neg {S : List Int} (h : Cons S) (x : Int) : valS S (-x) = -valS S x := by
 unfold valS
 rw [Int.neg_neg]
 have h1 := h x
 have h2 := h (-x)
 rw [Int.neg_neg] at h2
 cases hx : S.contains x <;> cases hy : S.contains (-x)
 ·simp
 ·simp
 ·simp
 ·rw [h1 hx] at hy; cases hy
theorem valS_cases (S : List Int) (x : Int) : valS S x = 1 ∨ valS S x = -1 ∨ valS S x = 0 := by
 unfold valS; split
 ·exact .inl rfl
 split
 ·exact .inr (.inl rfl)
 ·exact .inr (.inr rfl)
theorem of_ok {n : Nat} {v S : List Int} (hn : n ≤ 100000) (h : VOk n v S) {x : Int} (hx : LitOk n x) : cnf_values_of.f v x = some (valS S x) := by
 obtain ⟨h0, h1, h2⟩ := hx
 unfold cnf_values_of.f
 by_cases hneg : x < 0
 ·have e : wrap64 (-x) = ((-x).toNat : Int) := by rw [wneg (by omega) (by omega)]; omega
  rw [if_pos hneg, e, if_pos (by omega), if_pos (by have := h.len; omega), h.val _ (by omega) (by omega)]
  have e2 : (((-x).toNat : Nat) : Int) = -x := by omega
  rw [e2, valS_neg h.cons]
  rcases valS_cases S x with e | e | e <;> rw [e] <;> rfl
 ·have e : x = (x.toNat : Int) := by omega
  rw [if_neg hneg, if_pos (by omega), if_pos (by have := h.len; omega), e, h.val _ (by omega) (by omega)]
theorem valS_pos {S : List Int} {x : Int} : valS S x > 0 ↔ S.contains x = true := by
 unfold valS
 cases S.contains x <;> cases S.contains (-x) <;> simp
theorem valS_lt {S : List Int} (h : Cons S) {x : Int} : valS S x < 0 ↔ S.contains (-x) = true := by
 unfold valS
 have := h x
 cases hx : S.contains x <;> cases hy : S.contains (-x)
 ·simp
 ·simp
 ·simp
 ·rw [this hx] at hy; cases hy
theorem set_ok {n : Nat} {v S : List Int} (hn : n ≤ 100000) (h : VOk n v S) {x : Int} (hx : LitOk n x) (hc : S.contains (-x) = false) : ∃ v', cnf_values_set.f v x = some v' ∧ VOk n v' (x :: S) := by
 obtain ⟨h0, h1, h2⟩ := hx
 have hcons : Cons (x :: S) := by
  intro y hy
  rw [List.contains_cons, Bool.or_eq_true] at hy
  rw [List.contains_cons, Bool.or_eq_false_iff]
  rcases hy with hy | hy
  ·have : y = x := by simpa using hy
   subst this
   exact ⟨by simp; omega, hc⟩
  ·refine ⟨?_, h.cons y hy⟩
   simp only [beq_eq_false_iff_ne]
   intro e
   rw [← e, Int.neg_neg, hy] at hc; cases hc
 have hval : ∀ i : Nat, 1 ≤ i → (i : Int) ≠ x → (i : Int) ≠ -x → valS (x :: S) i = valS S i := by
  intro i hi e1 e2
  unfold valS
  rw [List.contains_cons, List.contains_cons]
  have e3 : ((i : Int) == x) = false := by simpa using e1
  have e4 : (-(i : Int) == x) = false := by simp; omega
  rw [e3, e4, Bool.false_or, Bool.false_or]
 have hx1 : valS (x :: S) x = 1 := by unfold valS; rw [if_pos (by simp)]
 have hx2 : valS (x :: S) (-x) = -1 := by rw [valS_neg hcons, hx1]
 unfold cnf_values_set.f
 have key : ∀ (m : Nat) (t : Int), 1 ≤ m → m ≤ n → ((m : Int) = x ∨ (m : Int) = -x) → valS (x :: S) m = t → VOk n (v.set m t) (x :: S) := by
  intro m t hm1 hm2 hm3 ht
  refine ⟨by simp [h.len], fun i hi1 hi2 => ?_, hcons⟩
  have hl := h.len
  by_cases e : i = m
  ·subst e
   rw [ht]
   have hlt : i < v.length := by omega
   simp [rd, List.getD, List.getElem?_set, hlt]
  ·have : rd (v.set m t) (i : Int) = rd v i := by
    simp only [rd, List.getD, Int.toNat_natCast]
    rw [List.getElem?_set_ne (fun h => e h.symm)]
   rw [this, h.val i hi1 hi2, hval i hi1 (by omega) (by omega)]
 by_cases hneg : x < 0
 ·have e : wrap64 (-x) = ((-x).toNat : Int) := by rw [wneg (by omega) (by omega)]; omega
  rw [if_pos hneg, e, if_pos (by omega), if_pos (by have := h.len; omega)]
  refine ⟨_, rfl, ?_⟩
  rw [Int.toNat_natCast]
  exact key _ _ (by omega) (by omega) (.inr (by omega)) (by rw [show (((-x).toNat : Nat) : Int) = -x by omega]; exact hx2)
 ·rw [if_neg hneg, if_pos (by omega), if_pos (by have := h.len; omega)]
  refine ⟨_, rfl, ?_⟩
  exact key _ _ (by omega) (by omega) (.inl (by omega)) (by rw [show ((x.toNat : Nat) : Int) = x by omega]; exact hx1)
def unitS (S : List Int) : Int → List Int → Int × Bool
 | only, [] => (only, only == 0)
 | only, x :: xs => if S.contains x then (0, false) else if S.contains (-x) || x == only then unitS S only xs else if only = 0 then unitS S x xs else (0, false)
theorem unit_ev0 {n : Nat} {v S : List Int} (hn : n ≤ 100000) (h : VOk n v S) (l : List Int) (hlen : l.length ≤ 1000000000) (hl : ∀ x ∈ l, LitOk n x) : ∀ i : Nat, i ≤ l.length → ∀ only : Int, Ev (fun k => cnf_values_unit.l0 k v only l (l.length : Int) (i : Int)) (unitS S only (l.drop i)) := by
 refine down ?_ ?_
 ·intro only
  refine Ev.succ ?_
  simp only [cnf_values_unit.l0]
  rw [List.drop_length]
  exact Ev.neg (by omega) (Ev.pure _)
 ·intro i hi ih only
  have hx : LitOk n (rd l i) := by
   have e : rd l i = l[i] := by simp [rd, List.getD, hi]
   rw [e]; exact hl _ (List.getElem_mem _)
  refine Ev.succ ?_
  simp only [cnf_values_unit.l0]
  refine Ev.pos (by omega) (Ev.pos (by omega) (Ev.pos (by omega) ?_))
  rw [of_ok hn h hx, drop_rd hi, unitS]
  simp only [Option.bind_some]
  by_cases h1 : S.contains (rd l i) = true
  ·rw [if_pos h1]
   exact Ev.pos (valS_pos.2 h1) (Ev.pure _)
  rw [if_neg h1]
  refine Ev.neg (fun hh => h1 (valS_pos.1 hh)) ?_
  have hj : ∀ b : Bool, b = (S.contains (-(rd l i)) || rd l i == only) → Ev (fun k => cnf_values_unit.j1 k v only (rd l i) l (l.length : Int) (i : Int) b) (if (S.contains (-(rd l i)) || rd l i == only) = true then unitS S only (l.drop (i + 1)) else if only = 0 then unitS S (rd l i) (l.drop (i + 1)) else (0, false)) := by
   intro b hb
   refine Ev.succ ?_
   simp only [cnf_values_unit.j1]
   rw [← hb, wrap_succ hi (by omega)]
   cases b with
   | true => rw [if_pos rfl]; exact Ev.pos rfl (ih only)
   | false =>
    rw [if_neg (by simp)]
    refine Ev.neg (by simp) ?_
    by_cases h2 : only = 0
    ·rw [if_pos h2]; exact Ev.pos h2 (ih _)
    ·rw [if_neg h2]; exact Ev.neg h2 (Ev.pure _)
  by_cases h2 : S.contains (-(rd l i)) = true
  ·exact Ev.pos ((valS_lt h.cons).2 h2) (hj _ (by rw [h2]; rfl))
  ·refine Ev.neg (fun hh => h2 ((valS_lt h.cons).1 hh)) (hj _ ?_)
   rw [Bool.not_eq_true] at h2
   rw [h2, Bool.false_or]
theorem unit_ev {n : Nat} {v S : List Int} (hn : n ≤ 100000) (h : VOk n v S) (l : List Int) (hlen : l.length ≤ 1000000000) (hl : ∀ x ∈ l, LitOk n x) : Ev (fun k => cnf_values_unit.f k v l) (unitS S 0 l) := unit_ev0 hn h l hlen hl 0 (Nat.zero_le _) 0
inductive UnitIs (S l : List Int) : Int × Bool → Prop
 | conf : allF S l → UnitIs S l (0, true)
 | unit (x : Int) : unitL S l x → S.contains x = false → x ≠ 0 → UnitIs S l (x, false)
 | none : ¬ allF S l → (∀ x, unitL S l x → S.contains x = true) → UnitIs S l (0, false)
theorem unitS_is0 {n : Nat} (hn : n ≤ 100000) {S : List Int} (hc : Cons S) (L : List Int) (hL : ∀ x ∈ L, LitOk n x) : ∀ (l pre : List Int) (only : Int), L = pre ++ l → (∀ y ∈ pre, (y = only ∧ only ≠ 0) ∨ S.contains (-y) = true) → (only ≠ 0 → only ∈ pre ∧ S.contains only = false ∧ S.contains (-only) = false) → UnitIs S L (unitS S only l)
 | [], pre, only, hp, hpre, ho => by
  have hw : ∀ y ∈ L, wrap64 (-y) = -y := fun y hy => by obtain ⟨_, h1, h2⟩ := hL y hy; exact wneg (by omega) (by omega)
  rw [List.append_nil] at hp
  subst hp
  rw [unitS]
  by_cases h0 : only = 0
  ·subst h0
   refine .conf fun y hy => ?_
   rw [hw y hy]
   rcases hpre y hy with ⟨_, h⟩ | h
   ·exact absurd rfl h
   ·exact h
  ·have hb : (only == 0) = false := by simpa using h0
   rw [hb]
   obtain ⟨h1, h2, h3⟩ := ho h0
   refine .unit only ⟨h1, by rw [hw only h1]; exact h3, fun y hy => ?_⟩ h2 h0
   rw [hw y hy]
   rcases hpre y hy with ⟨h, _⟩ | h
   ·exact .inl h
   ·exact .inr h
 | x :: xs, pre, only, hp, hpre, ho => by
  have hw : ∀ y ∈ L, wrap64 (-y) = -y := fun y hy => by obtain ⟨_, h1, h2⟩ := hL y hy; exact wneg (by omega) (by omega)
  have hxL : x ∈ L := by rw [hp]; simp
  have hp' : L = (pre ++ [x]) ++ xs := by rw [hp]; simp
  rw [unitS]
  by_cases h1 : S.contains x = true
  ·rw [if_pos h1]
   refine .none (fun h => ?_) (fun y hy => ?_)
   ·have := h x hxL
    rw [hw x hxL, hc x h1] at this; cases this
   ·rcases hy.2.2 x hxL with h | h
    ·rw [← h]; exact h1
    ·rw [hw x hxL, hc x h1] at h; cases h
  rw [if_neg h1]
  rw [Bool.not_eq_true] at h1
  by_cases h2 : (S.contains (-x) || x == only) = true
  ·rw [if_pos h2]
   refine unitS_is0 hn hc L hL xs (pre ++ [x]) only hp' (fun y hy => ?_) (fun h => ⟨List.mem_append_left _ (ho h).1, (ho h).2⟩)
   rcases List.mem_append.1 hy with hy | hy
   ·exact hpre y hy
   ·simp at hy; subst hy
    rw [Bool.or_eq_true] at h2
    rcases h2 with h | h
    ·exact .inr h
    ·have e : y = only := by simpa using h
     exact .inl ⟨e, by rw [← e]; exact (hL y hxL).1⟩
  rw [if_neg h2]
  rw [Bool.not_eq_true, Bool.or_eq_false_iff] at h2
  by_cases h3 : only = 0
  ·rw [if_pos h3]
   refine unitS_is0 hn hc L hL xs (pre ++ [x]) x hp' (fun y hy => ?_) (fun _ => ⟨by simp, h1, h2.1⟩)
   rcases List.mem_append.1 hy with hy | hy
   ·rcases hpre y hy with ⟨_, h⟩ | h
    ·exact absurd h3 h
    ·exact .inr h
   ·simp at hy; subst hy; exact .inl ⟨rfl, (hL y hxL).1⟩
  ·rw [if_neg h3]
   obtain ⟨o1, o2, o3⟩ := ho h3
   have hoL : only ∈ L := by rw [hp]; exact List.mem_append_left _ o1
   refine .none (fun h => ?_) (fun y hy => ?_)
   ·have := h x hxL
    rw [hw x hxL, h2.1] at this; cases this
   ·rcases hy.2.2 x hxL with h | h
    ·rcases hy.2.2 only hoL with h' | h'
     ·rw [← h'] at h
      have := h2.2
      rw [h] at this; simp at this
     ·rw [hw only hoL, o3] at h'; cases h'
    ·rw [hw x hxL, h2.1] at h; cases h
theorem unitS_is {n : Nat} (hn : n ≤ 100000) {S : List Int} (hc : Cons S) (l : List Int) (hl : ∀ x ∈ l, LitOk n x) : UnitIs S l (unitS S 0 l) := unitS_is0 hn hc l hl l [] 0 rfl (fun _ h => by cases h) (fun h => absurd rfl h)
theorem VOk.start (n : Nat) : VOk n (List.replicate (n + 1) 0) [] := by
 refine ⟨by simp, fun i hi1 hi2 => ?_, fun x h => by simp at h⟩
 have : i < n + 1 := by omega
 simp [rd, List.getD, valS, List.getElem?_replicate, this]
structure Mod (n : Nat) (cls : List (List Int)) (M : List Int) : Prop where
 cons : Cons M
 tot : ∀ i : Nat, 1 ≤ i → i ≤ n → M.contains (i : Int) = true ∨ M.contains (-(i : Int)) = true
 all : ∀ l ∈ cls, ∃ x ∈ l, M.contains x = true
theorem Mod.lit {n : Nat} {cls : List (List Int)} {M : List Int} (h : Mod n cls M) {x : Int} (hx : LitOk n x) : M.contains x = true ∨ M.contains (-x) = true := by
 obtain ⟨h0, h1, h2⟩ := hx
 by_cases hn : x < 0
 ·obtain ⟨i, hi⟩ := Int.eq_ofNat_of_zero_le (show 0 ≤ -x by omega)
  have := h.tot i (by omega) (by omega)
  rw [← hi, Int.neg_neg] at this
  exact this.symm
 ·obtain ⟨i, hi⟩ := Int.eq_ofNat_of_zero_le (show 0 ≤ x by omega)
  have := h.tot i (by omega) (by omega)
  rw [← hi] at this
  exact this
theorem mod_conf {n : Nat} (hn : n ≤ 100000) {cls : List (List Int)} {S M l : List Int} (h : Mod n cls M) (hs : Sub S M) (hl : l ∈ cls) (hlo : ∀ x ∈ l, LitOk n x) : ¬ allF S l := by
 intro hf
 obtain ⟨x, hx, hm⟩ := h.all l hl
 have h1 := hs _ (hf x hx)
 have hxo := hlo x hx
 rw [wneg (by have := hxo.2.1; omega) (by have := hxo.2.2; omega)] at h1
 rw [h.cons x hm] at h1; cases h1
theorem mod_unit {n : Nat} (hn : n ≤ 100000) {cls : List (List Int)} {S M l : List Int} {x : Int} (h : Mod n cls M) (hs : Sub S M) (hl : l ∈ cls) (hlo : ∀ x ∈ l, LitOk n x) (hu : unitL S l x) : M.contains x = true := by
 obtain ⟨y, hy, hm⟩ := h.all l hl
 rcases hu.2.2 y hy with e | e
 ·rw [← e]; exact hm
 ·have h1 := hs _ e
  have hyo := hlo y hy
  rw [wneg (by have := hyo.2.1; omega) (by have := hyo.2.2; omega)] at h1
  rw [h.cons y hm] at h1; cases h1
def fillM (S : List Int) : Nat → List Int
 | 0 => S
 | n + 1 => if (fillM S n).contains (-((n + 1 : Nat) : Int)) then fillM S n else ((n + 1 : Nat) : Int) :: fillM S n
theorem fillM_is {S : List Int} (hc : Cons S) : ∀ n, Cons (fillM S n) ∧ Sub S (fillM S n) ∧ ∀ i : Nat, 1 ≤ i → i ≤ n → (fillM S n).contains (i : Int) = true ∨ (fillM S n).contains (-(i : Int)) = true
 | 0 => ⟨hc, fun _ h => h, fun i h1 h2 => by omega⟩
 | n + 1 => by
  obtain ⟨h1, h2, h3⟩ := fillM_is hc n
  rw [fillM]
  by_cases h : (fillM S n).contains (-((n + 1 : Nat) : Int)) = true
  ·rw [if_pos h]
   refine ⟨h1, h2, fun i hi1 hi2 => ?_⟩
   by_cases e : i = n + 1
   ·subst e; exact .inr h
   ·exact h3 i hi1 (by omega)
  ·rw [if_neg h]
   refine ⟨?_, fun y hy => by rw [List.contains_cons, h2 y hy]; simp, fun i hi1 hi2 => ?_⟩
   ·intro y hy
    rw [List.contains_cons, Bool.or_eq_true] at hy
    rw [List.contains_cons, Bool.or_eq_false_iff]
    rcases hy with e | e
    ·have e' : y = ((n + 1 : Nat) : Int) := by simpa using e
     subst e'
     exact ⟨by simp; omega, by simpa using h⟩
    ·refine ⟨?_, h1 y e⟩
     cases hb : (-y == ((n + 1 : Nat) : Int)) with
     | false => rfl
     | true =>
      have e' : -y = ((n + 1 : Nat) : Int) := by simpa using hb
      have : y = -((n + 1 : Nat) : Int) := by omega
      rw [this] at e; exact absurd e h
   ·by_cases e : i = n + 1
    ·subst e; left; rw [List.contains_cons]; simp
    ·rcases h3 i hi1 (by omega) with q | q
     ·left; rw [List.contains_cons, q]; simp
     ·right; rw [List.contains_cons, q]; simp
theorem mod_of {n : Nat} {cls : List (List Int)} {S : List Int} (hc : Cons S) (hall : ∀ l ∈ cls, ∃ x ∈ l, S.contains x = true) : ∃ M, Mod n cls M ∧ Sub S M := by
 obtain ⟨h1, h2, h3⟩ := fillM_is hc n
 exact ⟨fillM S n, ⟨h1, h3, fun l hl => by obtain ⟨x, hx, hs⟩ := hall l hl; exact ⟨x, hx, h2 x hs⟩⟩, h2⟩
def und (S : List Int) (n : Nat) : Nat := ((List.range n).filter fun i => valS S ((i + 1 : Nat) : Int) == 0).length
theorem filter_len_le {α : Type} {p q : α → Bool} : ∀ l : List α, (∀ x ∈ l, p x = true → q x = true) → (l.filter p).length ≤ (l.filter q).length
 | [], _ => by simp
 | x :: l, h => by
  have ih := filter_len_le l (fun y hy => h y (List.mem_cons_of_mem _ hy))
  have hx := h x (by simp)
  simp only [List.filter_cons]
  cases hp : p x with
  | true => rw [hx hp]; simp; exact ih
  | false => cases q x <;> simp <;> omega
theorem filter_len_lt {α : Type} {p q : α → Bool} : ∀ l : List α, (∀ x ∈ l, p x = true → q x = true) → (∃ x ∈ l, p x = false ∧ q x = true) → (l.filter p).length < (l.filter q).length
 | [], _, ⟨x, h, _⟩ => by cases h
 | x :: l, h, ⟨y, hy, h1, h2⟩ => by
  have hle := filter_len_le l (fun z hz => h z (List.mem_cons_of_mem _ hz))
  have hx := h x (by simp)
  simp only [List.filter_cons]
  rcases List.mem_cons.1 hy with e | e
  ·subst e; rw [h1, h2]; simp; omega
  ·have ih := filter_len_lt l (fun z hz => h z (List.mem_cons_of_mem _ hz)) ⟨y, e, h1, h2⟩
   cases hp : p x with
   | true => rw [hx hp]; simp; exact ih
   | false => cases q x <;> simp <;> omega
theorem valS_zero {S : List Int} {x : Int} : valS S x = 0 ↔ S.contains x = false ∧ S.contains (-x) = false := by
 unfold valS
 cases S.contains x <;> cases S.contains (-x) <;> simp
theorem und_mono {S T : List Int} (h : Sub S T) (n : Nat) : und T n ≤ und S n := by
 unfold und
 refine filter_len_le _ (fun i _ hi => ?_)
 rw [beq_iff_eq, valS_zero] at hi ⊢
 constructor
 ·cases hc : S.contains ((i + 1 : Nat) : Int) with
  | false => rfl
  | true => rw [h _ hc] at hi; cases hi.1
 ·cases hc : S.contains (-((i + 1 : Nat) : Int)) with
  | false => rfl
  | true => rw [h _ hc] at hi; cases hi.2
theorem und_lt {S : List Int} {n : Nat} {x : Int} (hx : LitOk n x) (h : valS S x = 0) : und (x :: S) n < und S n := by
 unfold und
 refine filter_len_lt _ (fun i _ hi => ?_) ?_
 ·rw [beq_iff_eq, valS_zero] at hi ⊢
  rw [List.contains_cons, List.contains_cons, Bool.or_eq_false_iff, Bool.or_eq_false_iff] at hi
  exact ⟨hi.1.2, hi.2.2⟩
 ·obtain ⟨h0, h1, h2⟩ := hx
  have hz := valS_zero.1 h
  by_cases hn : x < 0
  ·obtain ⟨i, hi⟩ := Int.eq_ofNat_of_zero_le (show 0 ≤ -x - 1 by omega)
   refine ⟨i, List.mem_range.2 (by omega), ?_, ?_⟩
   ·have e : -((i + 1 : Nat) : Int) = x := by omega
    have : ¬ valS (x :: S) ((i + 1 : Nat) : Int) = 0 := fun hh => by
     have := (valS_zero.1 hh).2
     rw [e, List.contains_cons] at this; simp at this
    simpa using this
   ·have e : ((i + 1 : Nat) : Int) = -x := by omega
    rw [beq_iff_eq, e, valS_zero, Int.neg_neg]
    exact ⟨hz.2, hz.1⟩
  ·obtain ⟨i, hi⟩ := Int.eq_ofNat_of_zero_le (show 0 ≤ x - 1 by omega)
   have e : ((i + 1 : Nat) : Int) = x := by omega
   refine ⟨i, List.mem_range.2 (by omega), ?_, ?_⟩
   ·have : ¬ valS (x :: S) ((i + 1 : Nat) : Int) = 0 := fun hh => by
     have := (valS_zero.1 hh).1
     rw [e, List.contains_cons] at this; simp at this
    simpa using this
   ·rw [beq_iff_eq, e]; exact h
structure CountIs (n : Nat) (cls : List (List Int)) (S : List Int) (c : Nat) : Prop where
 zero : c = 0 ↔ ¬ ∃ M, Mod n cls M ∧ Sub S M
 le : c ≤ 2 ^ und S n
theorem count_split {n : Nat} {cls : List (List Int)} {S S' : List Int} {x : Int} {a b : Nat} (hsub : Sub S S') (hmod : ∀ M, Mod n cls M → Sub S M → Sub S' M) (hx : LitOk n x) (hv : valS S' x = 0) (ha : CountIs n cls (x :: S') a) (hb : CountIs n cls ((-x) :: S') b) : CountIs n cls S (a + b) := by
 have hx' : LitOk n (-x) := ⟨by have := hx.1; omega, by have := hx.2.2; omega, by have := hx.2.1; omega⟩
 have hv' : valS S' (-x) = 0 := by rw [valS_zero] at hv ⊢; rw [Int.neg_neg]; exact ⟨hv.2, hv.1⟩
 refine ⟨?_, ?_⟩
 ·have e : a + b = 0 ↔ a = 0 ∧ b = 0 := by omega
  rw [e, ha.zero, hb.zero]
  constructor
  ·rintro ⟨h1, h2⟩ ⟨M, hM, hs⟩
   have hs' := hmod M hM hs
   rcases hM.lit hx with q | q
   ·exact h1 ⟨M, hM, hs'.cons q⟩
   ·exact h2 ⟨M, hM, hs'.cons q⟩
  ·intro h
   exact ⟨fun ⟨M, hM, hs⟩ => h ⟨M, hM, fun y hy => hs.tail y (hsub y hy)⟩, fun ⟨M, hM, hs⟩ => h ⟨M, hM, fun y hy => hs.tail y (hsub y hy)⟩⟩
 ·have h1 := und_lt hx hv
  have h2 := und_lt hx' hv'
  have h3 := und_mono hsub n
  have h4 : 2 ^ und (x :: S') n ≤ 2 ^ (und S n - 1) := Nat.pow_le_pow_right (by decide) (by omega)
  have h5 : 2 ^ und ((-x) :: S') n ≤ 2 ^ (und S n - 1) := Nat.pow_le_pow_right (by decide) (by omega)
  have h6 : 2 ^ und S n = 2 ^ (und S n - 1) + 2 ^ (und S n - 1) := by
   obtain ⟨m, hm⟩ : ∃ m, und S n = m + 1 := ⟨und S n - 1, by omega⟩
   rw [hm, Nat.pow_succ, Nat.add_sub_cancel]; omega
  have := ha.le
  have := hb.le
  omega
theorem count_full {n : Nat} {cls : List (List Int)} {S S' : List Int} (hc : Cons S') (hsub : Sub S S') (hall : ∀ l ∈ cls, ∃ x ∈ l, S'.contains x = true) : CountIs n cls S (2 ^ und S' n) := by
 refine ⟨?_, Nat.pow_le_pow_right (by decide) (und_mono hsub n)⟩
 have h0 : 0 < 2 ^ und S' n := Nat.pow_pos (by decide)
 constructor
 ·intro h; omega
 ·intro h
  obtain ⟨M, hM, hs⟩ := mod_of (n := n) hc hall
  exact absurd ⟨M, hM, fun y hy => hs y (hsub y hy)⟩ h
theorem count_none {n : Nat} {cls : List (List Int)} {S : List Int} (h : ∀ M, Mod n cls M → ¬ Sub S M) : CountIs n cls S 0 :=
 ⟨⟨fun _ ⟨M, hM, hs⟩ => h M hM hs, fun _ => rfl⟩, Nat.zero_le _⟩
end Go.Proofs.YtogicccdngpafaaGreatDoor.NPlain
end
