/-
  Part 22 of the proof of proofTrims_card: walks and lemmas, packed by the session's own wip/pack.py out of its texts and of what the kit's print.sh printed.
-/
import Derived.Test.YtogicccdngpafaaDoorTA20
import Derived.Test.YtogicccdngpafaaDoorTA21
import Derived.Test.YtogicccdngpafaaDoorTA9
section
namespace Go.Proofs.YtogicccdngpafaaDoor.NPlain
open Go Go.RowKit Go.Proofs.YtogicccdngpafaaDoorW.PrintWords Go.Proofs.YtogicccdngpafaaDoorW.PrintLast Go.Proofs.YtogicccdngpafaaDoorW.PrintMore Go.Proofs.YtogicccdngpafaaDoor.NState
def LitOk (n : Nat) (x : Int) : Prop := x ≠ 0 ∧ -(n : Int) ≤ x ∧ x ≤ n
def Fine (n : Nat) (cls : List (List Int)) : Prop := cls.length ≤ 40 ∧ ∀ l ∈ cls, l.length ≤ 12 ∧ ∀ x ∈ l, LitOk n x
theorem tot_le (b : Nat) : ∀ cls : List (List Int), (∀ l ∈ cls, l.length ≤ b) → tot cls ≤ b * cls.length
 | [], _ => by simp [tot]
 | x :: xs, h => by
  have h1 := h x List.mem_cons_self
  have h2 := tot_le b xs (fun l hl => h l (List.mem_cons_of_mem _ hl))
  simp only [tot, List.map_cons, List.sum_cons, List.length_cons, Nat.mul_add] at h2 ⊢
  omega
theorem Fine.tot {n : Nat} {cls : List (List Int)} (h : Fine n cls) : tot cls ≤ 480 := by
 have := tot_le 12 cls (fun l hl => (h.2 l hl).1)
 have := h.1
 omega
theorem badLit_ok {n : Nat} (hn : n ≤ 100000) {x : Int} (h : LitOk n x) : badLit n x = false := by
 obtain ⟨h0, h1, h2⟩ := h
 unfold badLit
 rw [wneg (by omega) (by omega)]
 simp only [Bool.or_eq_false_iff, beq_eq_false_iff_ne, decide_eq_false_iff_not]
 exact ⟨⟨h0, by omega⟩, by omega⟩
theorem any_ok {n : Nat} (hn : n ≤ 100000) {l : List Int} (h : ∀ x ∈ l, LitOk n x) : l.any (badLit n) = false := by
 rw [List.any_eq_false]
 intro x hx
 rw [badLit_ok hn (h x hx)]; simp
theorem chk_fine {n : Nat} (hn : n ≤ 4096) {cls : List (List Int)} (h : Fine n cls) : chkL n cls = 0 := by
 unfold chkL
 have := h.tot
 have := h.1
 rw [if_neg (by omega), if_neg (by omega), if_neg]
 rw [Bool.not_eq_true, List.any_eq_false]
 intro l hl
 rw [any_ok (by omega) (h.2 l hl).2]; simp
theorem check_fine {n : Nat} (hn : n ≤ 4096) {cls : List (List Int)} (h : Fine n cls) : Ev (fun k => PCheck.cnf_Check.f k n cls) 0 := by
 have := h.tot
 have := h.1
 have e := check_code n cls (by omega) (by omega) (fun l hl => by have := (h.2 l hl).1; omega)
 rwa [chk_fine hn h] at e
theorem bring_ok (a : Int) {m : Int} (h1 : 1 ≤ m) (h2 : m ≤ 1000000000) : ∃ t, PFit.netlabref20_Bring.f a m = some t ∧ 0 ≤ t ∧ t < m := by
 unfold PFit.netlabref20_Bring.f
 rw [if_neg (by omega)]
 refine ⟨_, rfl, ?_⟩
 have ha1 : -m < a.tmod m := by
  have := Int.lt_tmod_of_pos a (show 0 < m by omega)
  exact this
 have ha2 : a.tmod m < m := Int.tmod_lt_of_pos a (by omega)
 rw [wid (by omega) (by omega)]
 exact ⟨Int.tmod_nonneg _ (by omega), Int.tmod_lt_of_pos _ (by omega)⟩
theorem rdFI {l : List (List Int)} {k : Nat} (h : k < l.length) : PFit.rd_L1 l k = l[k] := by simp [PFit.rd_L1, List.getD, h]
theorem fewF_ev (most : Nat) (hm : most ≤ 100000) (vars : Int) (cls : List (List Int)) : Ev (fun k => PFit.netlabref32_Few.f k vars cls (most : Int)) (vars, fewL most cls) := by
 have key : ∀ i : Nat, i ≤ min most cls.length → Ev (fun k => PFit.netlabref32_Few.l0 k (most : Int) (i : Int) vars cls vars ((cls.take i).map fun l => l.take 12)) (vars, fewL most cls) := by
  refine down ?_ ?_
  ·refine Ev.succ ?_
   simp only [PFit.netlabref32_Few.l0]
   have e : (cls.take (min most cls.length)).map (fun l => l.take 12) = fewL most cls := by
    unfold fewL
    congr 1
    rw [List.take_eq_take_iff]
    omega
   rw [e]
   by_cases h : most < cls.length
   ·exact Ev.pos (by omega) (Ev.neg (by omega) (Ev.pure _))
   ·exact Ev.neg (by omega) (Ev.pure _)
  ·intro i hi ih
   refine Ev.succ ?_
   simp only [PFit.netlabref32_Few.l0]
   have hic : i < cls.length := by omega
   rw [rdFI hic, wrap_succ (n := 100000) (by omega) (by omega)]
   have hmn : mn ((cls[i].length : Nat) : Int) 12 = ((min cls[i].length 12 : Nat) : Int) := by unfold mn; split <;> omega
   rw [hmn]
   refine Ev.pos (by omega) (Ev.pos (by omega) (Ev.pos (by omega) (Ev.pos (by omega) (Ev.pos (by omega) (Ev.pos (by simp; omega) (Ev.pos (by simp; omega) ?_))))))
   have e : (cls.take i).map (fun l => l.take 12) ++ [([] : List Int) ++ cls[i].take ((min cls[i].length 12 : Nat) : Int).toNat] = (cls.take (i + 1)).map (fun l => l.take 12) := by
    rw [List.take_succ_eq_append_getElem hic, List.map_append]
    congr 1
    simp only [List.map_cons, List.map_nil, List.nil_append, Int.toNat_natCast]
    congr 1
    rw [List.take_eq_take_iff]
    omega
   rw [e]
   exact ih
 exact key 0 (Nat.zero_le _)
structure InvF (n len i j : Nat) (L : List (List Int)) : Prop where
 len : L.length = len
 short : ∀ (m : Nat) l, L[m]? = some l → l.length ≤ 12
 done : ∀ (m : Nat) l, m < i → L[m]? = some l → ∀ x ∈ l, LitOk n x
 part : ∀ l, L[i]? = some l → ∀ (q : Nat) x, q < j → l[q]? = some x → LitOk n x
theorem rdFS {L : List (List Int)} {i : Nat} (hi : i < L.length) : L[i]? = some (PFit.rd_L1 L (i : Int)) := by
 rw [rdFI hi, List.getElem?_eq_getElem hi]
theorem InvF.next {n len i j : Nat} {L : List (List Int)} (h : InvF n len i j L) (hi : i < len) (hj : j = (PFit.rd_L1 L (i : Int)).length) : InvF n len (i + 1) 0 L := by
 refine ⟨h.len, h.short, fun m l hm hl x hx => ?_, fun _ _ _ _ hq => absurd hq (Nat.not_lt_zero _)⟩
 by_cases e : m = i
 ·subst e
  have hr := rdFS (L := L) (i := m) (by rw [h.len]; exact hi)
  rw [hr] at hl
  cases hl
  obtain ⟨q, hq, he⟩ := List.getElem_of_mem hx
  exact h.part _ hr q x (by omega) (by rw [List.getElem?_eq_getElem hq, he])
 ·exact h.done m l (by omega) hl x hx
theorem InvF.gone {n len i j : Nat} {L : List (List Int)} (h : InvF n len i j L) (hi : i < len) : InvF n len (i + 1) 0 (L.set i []) := by
 refine ⟨by simp [h.len], fun m l hl => ?_, fun m l hm hl x hx => ?_, fun _ _ _ _ hq => absurd hq (Nat.not_lt_zero _)⟩
 ·rw [List.getElem?_set] at hl
  split at hl
  ·split at hl
   ·cases hl; simp
   ·cases hl
  ·exact h.short m l hl
 ·rw [List.getElem?_set] at hl
  split at hl
  ·split at hl
   ·cases hl; cases hx
   ·cases hl
  ·rename_i hne; exact h.done m l (by omega) hl x hx
theorem InvF.put {n len i j : Nat} {L : List (List Int)} (h : InvF n len i j L) (hi : i < len) (hj : j < (PFit.rd_L1 L (i : Int)).length) {x : Int} (hx : LitOk n x) : InvF n len i (j + 1) (L.set i ((PFit.rd_L1 L (i : Int)).set j x)) := by
 have hL : i < L.length := by rw [h.len]; exact hi
 have hr := rdFS hL
 refine ⟨by simp [h.len], fun m l hl => ?_, fun m l hm hl y hy => ?_, fun l hl q y hq hy => ?_⟩
 ·rw [List.getElem?_set] at hl
  split at hl
  ·rename_i hm
   cases hl
   rw [List.length_set]
   exact h.short i _ hr
  ·exact h.short m l hl
 ·rw [List.getElem?_set] at hl
  split at hl
  ·omega
  ·exact h.done m l hm hl y hy
 ·rw [List.getElem?_set, if_pos rfl, if_pos hL] at hl
  cases hl
  rw [List.getElem?_set] at hy
  split at hy
  ·rename_i hm
   cases hy; exact hx
  ·exact h.part _ hr q y (by omega) hy
theorem InvF.less {n len i j j' : Nat} {L : List (List Int)} (h : InvF n len i j L) (hj : j' ≤ j) : InvF n len i j' L := ⟨h.len, h.short, h.done, fun l hl q x hq hx => h.part l hl q x (by omega) hx⟩
theorem rd_put {L : List (List Int)} {i : Nat} (hi : i < L.length) (l : List Int) : PFit.rd_L1 (L.set i l) (i : Int) = l := by
 have h := rdFS (L := L.set i l) (i := i) (by simpa using hi)
 rw [List.getElem?_set, if_pos rfl, if_pos hi] at h
 exact (Option.some.inj h).symm
theorem lit_pos {n : Nat} (hn : n ≤ 100000) {t : Int} (h0 : 0 ≤ t) (h1 : t < 2 * n) : wrap64 (wrap64 (Int.tdiv t 2) + 1) = t / 2 + 1 ∧ LitOk n (t / 2 + 1) := by
 have e : Int.tdiv t 2 = t / 2 := Int.tdiv_eq_ediv_of_nonneg h0
 rw [e, wid (x := t / 2) (by omega) (by omega), wid (by omega) (by omega)]
 exact ⟨rfl, by omega, by omega, by omega⟩
theorem lit_neg {n : Nat} (hn : n ≤ 100000) {t : Int} (h0 : 0 ≤ t) (h1 : t < 2 * n) : wrap64 (-(wrap64 (wrap64 (Int.tdiv t 2) + 1))) = -(t / 2 + 1) ∧ LitOk n (-(t / 2 + 1)) := by
 obtain ⟨e, h2⟩ := lit_pos hn h0 h1
 rw [e, wneg (by omega) (by omega)]
 exact ⟨rfl, by omega, by omega, by omega⟩
theorem fit_inner {n : Nat} (hn : n ≤ 100000) {len : Nat} (hlen : len ≤ 100000) (i : Nat) (hi : i < len)
  (IH : ∀ L, InvF n len (i + 1) 0 L → ∃ r, Ev (fun k => PFit.netlabref32_Fit.l0 k ((i + 1 : Nat) : Int) n L) ((n : Int), r) ∧ InvF n len len 0 r) :
  ∀ (d j : Nat) (L : List (List Int)), InvF n len i j L → j ≤ (PFit.rd_L1 L (i : Int)).length → d = (PFit.rd_L1 L (i : Int)).length - j → ∃ r, Ev (fun k => PFit.netlabref32_Fit.l1 k (i : Int) (j : Int) n L) ((n : Int), r) ∧ InvF n len len 0 r := by
 have hw : wrap64 ((i : Int) + 1) = ((i + 1 : Nat) : Int) := wrap_succ hi (by omega)
 intro d
 induction d with
 | zero =>
  intro j L h hj hd
  obtain ⟨r, hr, hf⟩ := IH L (h.next hi (by omega))
  refine ⟨r, Ev.succ ?_, hf⟩
  simp only [PFit.netlabref32_Fit.l1]
  have hL := h.len
  refine Ev.pos (by omega) (Ev.pos (by omega) (Ev.neg (by omega) ?_))
  rw [hw]
  exact hr
 | succ d ih =>
  intro j L h hj hd
  have hL : i < L.length := by rw [h.len]; exact hi
  have hlt : j < (PFit.rd_L1 L (i : Int)).length := by omega
  by_cases hn0 : n = 0
  ·subst hn0
   obtain ⟨r, hr, hf⟩ := IH _ (h.gone hi)
   refine ⟨r, Ev.succ ?_, hf⟩
   simp only [PFit.netlabref32_Fit.l1]
   refine Ev.pos (by omega) (Ev.pos (by omega) (Ev.pos (by omega) (Ev.pos rfl ?_)))
   rw [hw, Int.toNat_natCast]
   exact hr
  ·have hm : wrap64 (2 * (n : Int)) = 2 * (n : Int) := wid (by omega) (by omega)
   obtain ⟨t, ht, ht0, ht1⟩ := bring_ok (rd (PFit.rd_L1 L (i : Int)) (j : Int)) (m := 2 * (n : Int)) (by omega) (by omega)
   obtain ⟨ep, hp⟩ := lit_pos hn ht0 ht1
   obtain ⟨en, hng⟩ := lit_neg hn ht0 ht1
   have hwj : wrap64 ((j : Int) + 1) = ((j + 1 : Nat) : Int) := wrap_succ (n := 13) (by have := h.short i _ (rdFS hL); omega) (by omega)
   have AM := Aside0.mk hm
   have AP := Aside0.mk ep
   have AN := Aside0.mk en
   have AJ := Aside0.mk hwj
   clear hm ep en hwj hw
   have h1 := h.put hi hlt hp
   have e1 : PFit.rd_L1 (L.set i ((PFit.rd_L1 L (i : Int)).set j (t / 2 + 1))) (i : Int) = (PFit.rd_L1 L (i : Int)).set j (t / 2 + 1) := rd_put hL _
   have hbody : ∀ r, Ev (fun k => if Int.tmod t 2 = 1 then (if (j : Int) < ((PFit.rd_L1 (L.set i ((PFit.rd_L1 L (i : Int)).set j (t / 2 + 1))) (i : Int)).length : Int) then PFit.netlabref32_Fit.l1 k (i : Int) ((j + 1 : Nat) : Int) n ((L.set i ((PFit.rd_L1 L (i : Int)).set j (t / 2 + 1))).set i ((PFit.rd_L1 (L.set i ((PFit.rd_L1 L (i : Int)).set j (t / 2 + 1))) (i : Int)).set j (-(t / 2 + 1)))) else none) else PFit.netlabref32_Fit.l1 k (i : Int) ((j + 1 : Nat) : Int) n (L.set i ((PFit.rd_L1 L (i : Int)).set j (t / 2 + 1)))) r → Ev (fun k => PFit.netlabref32_Fit.l1 k (i : Int) (j : Int) n L) r := by
    intro r hr
    refine Ev.succ ?_
    simp only [PFit.netlabref32_Fit.l1]
    refine Ev.pos (by omega) (Ev.pos (by omega) (Ev.pos (by omega) (Ev.neg (by omega) (Ev.pos (by omega) ?_))))
    rw [AM.out, ht]
    simp only [Option.bind_some, Int.toNat_natCast]
    rw [AJ.out, AN.out, AP.out]
    exact hr
   have hYL : (L.set i ((PFit.rd_L1 L (i : Int)).set j (t / 2 + 1))).length = L.length := by simp
   have hY1 : (PFit.rd_L1 (L.set i ((PFit.rd_L1 L (i : Int)).set j (t / 2 + 1))) (i : Int)).length = (PFit.rd_L1 L (i : Int)).length := by rw [e1, List.length_set]
   clear e1
   generalize L.set i ((PFit.rd_L1 L (i : Int)).set j (t / 2 + 1)) = Y at h1 hbody hYL hY1
   by_cases ho : Int.tmod t 2 = 1
   ·have h2 := (h1.less (Nat.le_succ j)).put hi (j := j) (by omega) hng
    have e2 : (PFit.rd_L1 (Y.set i ((PFit.rd_L1 Y (i : Int)).set j (-(t / 2 + 1)))) (i : Int)).length = (PFit.rd_L1 Y (i : Int)).length := by rw [rd_put (by omega), List.length_set]
    obtain ⟨r, hr, hf⟩ := ih (j + 1) _ h2 (by omega) (by omega)
    exact ⟨r, hbody _ (Ev.pos ho (Ev.pos (by omega) hr)), hf⟩
   ·obtain ⟨r, hr, hf⟩ := ih (j + 1) _ h1 (by omega) (by omega)
    exact ⟨r, hbody _ (Ev.neg ho hr), hf⟩
theorem fit_outer {n : Nat} (hn : n ≤ 100000) {len : Nat} (hlen : len ≤ 100000) : ∀ i : Nat, i ≤ len → ∀ L, InvF n len i 0 L → ∃ r, Ev (fun k => PFit.netlabref32_Fit.l0 k (i : Int) n L) ((n : Int), r) ∧ InvF n len len 0 r := by
 refine down ?_ ?_
 ·intro L h
  refine ⟨L, Ev.succ ?_, h⟩
  simp only [PFit.netlabref32_Fit.l0]
  have := h.len
  exact Ev.neg (by omega) (Ev.pure _)
 ·intro i hi ih L h
  obtain ⟨r, hr, hf⟩ := fit_inner hn hlen i hi ih _ 0 L h (Nat.zero_le _) rfl
  refine ⟨r, Ev.succ ?_, hf⟩
  simp only [PFit.netlabref32_Fit.l0]
  have := h.len
  exact Ev.pos (by omega) hr
theorem fit_ev (b most : Nat) (hb : b ≤ 100000) (hm : most ≤ 100000) (vars : Int) (cls : List (List Int)) :
  ∃ (n : Nat) (L : List (List Int)), n ≤ b ∧ L.length ≤ most ∧ (∀ l ∈ L, l.length ≤ 12 ∧ ∀ x ∈ l, LitOk n x) ∧ Ev (fun k => PFit.netlabref32_Fit.f k vars cls (b : Int) (most : Int)) ((n : Int), L) := by
 obtain ⟨t, ht, ht0, ht1⟩ := bring_ok vars (m := (b : Int) + 1) (by omega) (by omega)
 obtain ⟨n, rfl⟩ := Int.eq_ofNat_of_zero_le ht0
 have hstart : InvF n (fewL most cls).length 0 0 (fewL most cls) := by
  refine ⟨rfl, fun m l hl => ?_, fun _ _ h => absurd h (Nat.not_lt_zero _), fun _ _ _ _ h => absurd h (Nat.not_lt_zero _)⟩
  have hmem := List.mem_of_getElem? hl
  simp only [fewL, List.mem_map] at hmem
  obtain ⟨a, _, rfl⟩ := hmem
  simp; omega
 have hfl := fewL_len most cls
 obtain ⟨r, hr, hf⟩ := fit_outer (n := n) (by omega) (len := (fewL most cls).length) (by omega) 0 (Nat.zero_le _) _ hstart
 refine ⟨n, r, by omega, by rw [hf.len]; exact hfl, fun l hl => ?_, ?_⟩
 ·obtain ⟨m, hm, rfl⟩ := List.getElem_of_mem hl
  have e := List.getElem?_eq_getElem hm
  exact ⟨hf.short m _ e, fun x hx => hf.done m _ (by rw [← hf.len]; exact hm) e x hx⟩
 ·simp only [PFit.netlabref32_Fit.f]
  refine Ev.bind (fewF_ev most hm vars cls) ?_
  have e : wrap64 ((b : Int) + 1) = (b : Int) + 1 := wid (by omega) (by omega)
  rw [e, ht]
  simp only [Option.bind_some]
  exact hr
end Go.Proofs.YtogicccdngpafaaDoor.NPlain
end
