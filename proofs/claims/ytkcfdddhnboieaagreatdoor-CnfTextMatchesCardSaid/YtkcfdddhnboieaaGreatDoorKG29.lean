/-
  Part 29 of the proof of cnfTextMatches_card: walks and lemmas.
-/
import Derived.Test.YtkcfdddhnboieaaGreatDoorKG13
import Derived.Test.YtkcfdddhnboieaaGreatDoorKG6
import Derived.Test.YtkcfdddhnboieaaGreatDoorKG27
set_option linter.unusedVariables false
set_option linter.unusedSimpArgs false
section
set_option maxRecDepth 100000
namespace Go.Proofs.YtkcfdddhnboieaaGreatDoor.NPlain
open Go Go.RowKit Go.Lib QW.PrintWords QW.PrintLast QW.PrintMore NState
open NText
open PRPar
theorem litT_nil : litT [] = (0, false) := rfl
theorem failS_e (r : RS) (a e : Int) (h : e ≠ 0) : (failS r a e).e ≠ 0 := by
 unfold failS
 split
 ·exact h
 ·assumption
theorem bt_of {s : ByteArray} {i : Nat} {b : UInt8} (h : s.data.toList[i]? = some b) : bt s (i : Int) = (b.toNat : Int) := by
 have hi : i < s.size := by rw [size_eq]; exact (List.getElem?_eq_some_iff.1 h).1
 have h2 := data_getElem? s i hi
 rw [h] at h2
 have h3 := bt_at s (i : Int) (by simpa using hi)
 rw [← h3]
 simp only [Int.toNat_natCast]
 rw [← Option.some.inj h2]
theorem white_eq (b : UInt8) : netlabref32_white.f (b.toNat : Int) = some (wh b) := by
 have hb : ∀ c : UInt8, ((b.toNat : Int) = (c.toNat : Int)) ↔ b = c := fun c => ⟨fun h => UInt8.toNat_inj.1 (by omega), fun h => by rw [h]⟩
 have h32 : (b.toNat : Int) = 32 ↔ b = 32 := hb 32
 have h9 : (b.toNat : Int) = 9 ↔ b = 9 := hb 9
 have h10 : (b.toNat : Int) = 10 ↔ b = 10 := hb 10
 have h13 : (b.toNat : Int) = 13 ↔ b = 13 := hb 13
 unfold netlabref32_white.f wh ws
 by_cases a1 : b = 32
 ·rw [if_pos (h32.2 a1), a1]; rfl
 ·rw [if_neg (fun h => a1 (h32.1 h))]
  by_cases a2 : b = 9
  ·rw [if_pos (h9.2 a2), a2]; rfl
  ·rw [if_neg (fun h => a2 (h9.1 h))]
   by_cases a3 : b = 10
   ·rw [if_pos (h10.2 a3), a3]; rfl
   ·rw [if_neg (fun h => a3 (h10.1 h))]
    by_cases a4 : b = 13
    ·have : ((b.toNat : Int) == 13) = true := beq_iff_eq.2 (h13.2 a4)
     rw [this, a4]; rfl
    ·have : ((b.toNat : Int) == 13) = false := beq_eq_false_iff_ne.2 (fun h => a4 (h13.1 h))
     rw [this]
     simp [a1, a2, a3, a4]
theorem more_ev0 (s : ByteArray) (hs : s.size ≤ 65536) (e wr : Int) : ∀ i : Nat, i ≤ s.size → Ev (fun k => netlabref32_Reader_More.l0 k s (i : Int) e wr) (decide (((s.data.toList.drop i).dropWhile wh) ≠ []), s, ((s.size - ((s.data.toList.drop i).dropWhile wh).length : Nat) : Int), e, wr) := by
 have hsl : s.data.toList.length = s.size := (size_eq s).symm
 refine down ?_ ?_
 ·refine Ev.succ ?_
  simp only [netlabref32_Reader_More.l0]
  refine Ev.neg (by omega) ?_
  refine Ev.pureOf ?_
  rw [← hsl, List.drop_length]
  simp
 ·intro i hi ih
  obtain ⟨b, hb⟩ : ∃ b, s.data.toList[i]? = some b := ⟨_, List.getElem?_eq_getElem (by omega)⟩
  have hd : s.data.toList.drop i = b :: s.data.toList.drop (i + 1) := by
   obtain ⟨h1, h2⟩ := List.getElem?_eq_some_iff.1 hb
   rw [List.drop_eq_getElem_cons h1, h2]
  refine Ev.succ ?_
  simp only [netlabref32_Reader_More.l0]
  refine Ev.pos (by omega) (Ev.pos (by omega) ?_)
  rw [bt_of hb]
  simp only [white_eq, Option.bind_some]
  rw [hd, List.dropWhile_cons]
  cases hw : wh b with
  | true =>
   refine Ev.pos rfl ?_
   rw [wrap_succ hi (by omega)]
   exact ih
  | false =>
   refine Ev.neg (by decide) ?_
   refine Ev.pureOf ?_
   have hl : (s.data.toList.drop (i + 1)).length = s.size - (i + 1) := by rw [List.length_drop, hsl]
   simp only [Bool.false_eq_true, if_false, List.length_cons, hl]
   have e1 : s.size - (s.size - (i + 1) + 1) = i := by omega
   rw [e1]
   have e2 : decide ((i : Int) < (s.size : Int)) = true := decide_eq_true (by omega)
   rw [e2]; simp
theorem peekT_at {l : List UInt8} {i : Nat} {ts : List (Nat × List UInt8)} (h : Tk l i ts) : (peekT l.length ts).2 = l.length - ((l.drop i).dropWhile wh).length := by
 have := (tk_peek h).2.2; omega
theorem more_ev {s : ByteArray} (hs : s.size ≤ 65536) {i : Nat} {ts : List (Nat × List UInt8)} (ht : Tk s.data.toList i ts) (e wr : Int) : Ev (fun k => netlabref32_Reader_More.f k s (i : Int) e wr) (decide (ts ≠ []), s, ((peekT s.size ts).2 : Int), e, wr) := by
 have hsl : s.data.toList.length = s.size := (size_eq s).symm
 have h := more_ev0 s hs e wr i (by rw [← hsl]; exact ht.le)
 have hp := peekT_at ht
 rw [hsl] at hp
 rw [← hp] at h
 have hd : decide (((s.data.toList.drop i).dropWhile wh) ≠ []) = decide (ts ≠ []) := by
  cases ht with
  | nil hi h' => rw [h']; simp
  | cons hi h' hr ha ht => rw [h']; simp [hr]
 rw [hd] at h
 exact h
theorem word_ev0 (s : ByteArray) (hs : s.size ≤ 65536) (e wr : Int) (a : Nat) : ∀ i : Nat, i ≤ s.size → a ≤ i →
  Ev (fun k => netlabref32_Reader_Word.l0 k (a : Int) s (i : Int) e wr) ((a : Int), s.extract a (i + ((s.data.toList.drop i).takeWhile nw).length), s, ((i + ((s.data.toList.drop i).takeWhile nw).length : Nat) : Int), e, wr) := by
 have hsl : s.data.toList.length = s.size := (size_eq s).symm
 refine down ?_ ?_
 ·intro ha
  refine Ev.succ ?_
  simp only [netlabref32_Reader_Word.l0]
  refine Ev.neg (by omega) (Ev.pos (by omega) (Ev.pos (by omega) (Ev.pos (by omega) ?_)))
  refine Ev.pureOf ?_
  rw [← hsl, List.drop_length]
  simp
 ·intro i hi ih ha
  obtain ⟨b, hb⟩ : ∃ b, s.data.toList[i]? = some b := ⟨_, List.getElem?_eq_getElem (by omega)⟩
  have hd : s.data.toList.drop i = b :: s.data.toList.drop (i + 1) := by
   obtain ⟨h1, h2⟩ := List.getElem?_eq_some_iff.1 hb
   rw [List.drop_eq_getElem_cons h1, h2]
  refine Ev.succ ?_
  simp only [netlabref32_Reader_Word.l0]
  refine Ev.pos (by omega) (Ev.pos (by omega) ?_)
  rw [bt_of hb]
  simp only [white_eq, Option.bind_some]
  rw [hd, List.takeWhile_cons, nw_not]
  cases hw : wh b with
  | true =>
   refine Ev.pos rfl (Ev.pos (by omega) (Ev.pos (by omega) (Ev.pos (by omega) ?_)))
   refine Ev.pureOf ?_
   simp
  | false =>
   refine Ev.neg (by decide) ?_
   rw [wrap_succ hi (by omega)]
   have h2 := ih (by omega)
   simp only [Bool.not_false, if_true, List.length_cons]
   have e1 : i + (((s.data.toList.drop (i + 1)).takeWhile nw).length + 1) = i + 1 + ((s.data.toList.drop (i + 1)).takeWhile nw).length := by omega
   rw [e1]
   exact h2
theorem dropWhile_drop' {l : List UInt8} {i : Nat} (hi : i ≤ l.length) : (l.drop i).dropWhile wh = l.drop (l.length - ((l.drop i).dropWhile wh).length) := by
 have h1 := dropWhile_le (p := wh) (l.drop i)
 obtain ⟨n, hn⟩ : ∃ n, (l.drop i).dropWhile wh = (l.drop i).drop n := by
  have : ∀ m : List UInt8, ∃ n, m.dropWhile wh = m.drop n := fun m => by
   induction m with
   | nil => exact ⟨0, rfl⟩
   | cons b m ih =>
    rw [List.dropWhile_cons]
    split
    ·obtain ⟨n, hn⟩ := ih; exact ⟨n + 1, by rw [hn]; rfl⟩
    ·exact ⟨0, rfl⟩
  exact this _
 rw [hn, List.drop_drop, List.length_drop]
 by_cases h2 : i + n ≤ l.length
 ·congr 1; omega
 ·rw [List.drop_of_length_le (by omega), List.drop_of_length_le (by omega)]
theorem extract_word (s : ByteArray) (a n : Nat) : s.extract a (a + n) = sb ((s.data.toList.drop a).take n) := by
 apply ByteArray.ext
 apply Array.ext'
 have := extract_toList s a (a + n)
 rw [toList_data] at this
 rw [this]
 simp [sb]
abbrev rT (s : ByteArray) (r : RS) : ByteArray × Int × Int × Int := (s, (r.at_ : Int), r.e, r.wrong)
theorem word_ev {s : ByteArray} (hs : s.size ≤ 65536) {r : RS} {ts : List (Nat × List UInt8)} (ht : Tk s.data.toList r.at_ ts) (he : r.e = 0) :
  Ev (fun k => netlabref32_Reader_Word.f k s (r.at_ : Int) r.e r.wrong) (if ts = [] then 0 else ((peekT s.size ts).2 : Int), sb (peekT s.size ts).1, rT s (nextS s.size r ts).1) := by
 have hsl : s.data.toList.length = s.size := (size_eq s).symm
 simp only [netlabref32_Reader_Word.f]
 refine Ev.pos he (Ev.bind (more_ev hs ht _ _) ?_)
 cases ts with
 | nil =>
  refine Ev.neg (by simp) ?_
  simp only [netlabref32_Reader_Fail.f]
  rw [if_pos he]
  refine Ev.pureOf ?_
  simp only [peekT, nextS, failS, if_pos he]
  rfl
 | cons p ts =>
  obtain ⟨a, x⟩ := p
  refine Ev.pos (by simp) ?_
  have hp := peekT_at ht
  rw [hsl] at hp
  have hx : ((s.data.toList.drop a).takeWhile nw) = x ∧ a ≤ s.size := by
   have h1 := tk_peek ht
   rw [hsl] at h1
   simp only [peekT] at h1 hp
   have h2 := dropWhile_drop' h1.1
   rw [hsl, ← hp] at h2
   rw [← h2]
   exact ⟨h1.2.1, by omega⟩
  simp only [peekT]
  have h := word_ev0 s hs r.e r.wrong a a hx.2 (Nat.le_refl _)
  rw [hx.1] at h
  have he2 : s.extract a (a + x.length) = sb x := by
   rw [extract_word]
   congr 1
   conv => rhs; rw [← hx.1]
   have : ∀ m : List UInt8, m.take (m.takeWhile nw).length = m.takeWhile nw := fun m => by
    induction m with
    | nil => rfl
    | cons b m ih => rw [List.takeWhile_cons]; split; rw [List.length_cons, List.take_succ_cons, ih]; rfl
   rw [← hx.1, this]
  rw [he2] at h
  rw [if_neg (by simp)]
  exact h
def noNum : NumEnd Nat := parseUintM 0 0 [0]
def decF : Nat → List UInt8 → Option Nat
 | acc, [] => some acc
 | acc, c :: r => if 48 ≤ c.toNat ∧ c.toNat ≤ 57 then decF (acc * 10 + (c.toNat - 48)) r else none
theorem pow10 (k : Nat) (hk : k ≤ 9) : 10 ^ k ≤ 1000000000 := Nat.le_trans (Nat.pow_le_pow_right (by decide) hk) (by decide)
theorem parseM_dec : ∀ (x : List UInt8) (acc k : Nat), acc < 10 ^ k → x.length + k ≤ 9 → parseUintM (2 ^ 32 - 1) acc x = match decF acc x with | some u => .ok u | none => noNum
 | [], acc, k, _, _ => rfl
 | c :: x, acc, k, ha, hk => by
  unfold parseUintM decF
  simp only [List.length_cons] at hk
  split
  ·rename_i hc
   have h1 : acc * 10 + (c.toNat - 48) < 10 ^ (k + 1) := by rw [Nat.pow_succ]; omega
   have h2 := pow10 (k + 1) (by omega)
   have h3 := pow10 k (by omega)
   rw [if_neg (by omega), if_neg (by omega)]
   exact parseM_dec x _ (k + 1) h1 (by omega)
  ·rfl
def valR (x : List UInt8) : Int × Bool := if (valueL x).2 = true then valueL x else (0, false)
theorem valR_short {x : List UInt8} (h : x.length ≤ 9) : valR x = match decF 0 x with | some u => ((u : Int), decide (0 < x.length)) | none => (0, false) := by
 cases x with
 | nil => rfl
 | cons c x =>
  have hp := parseM_dec (c :: x) 0 0 (by decide) (by omega)
  have hv : valueL (c :: x) = match parseUintM (2 ^ 32 - 1) 0 (c :: x) with | .ok u => ((u : Int), decide ((c :: x).length ≤ 9)) | .range => (4294967295, false) | _ => (0, false) := by
   unfold valueL parseUintB; rw [if_neg (by simp)]; cases parseUintM (2 ^ 32 - 1) 0 (c :: x) <;> rfl
  rw [hp] at hv
  unfold valR
  cases hd : decF 0 (c :: x) with
  | none =>
   rw [hd] at hv
   have hv2 : valueL (c :: x) = (0, false) := hv
   rw [hv2]; rfl
  | some u =>
   rw [hd] at hv
   simp only at hv
   rw [decide_eq_true h] at hv
   rw [hv]; simp
theorem valR_long {x : List UInt8} (h : 9 < x.length) : valR x = (0, false) := by
 have : (valueL x).2 = false := by
  unfold valueL
  cases parseUintB 32 x with
  | ok u => exact decide_eq_false (by omega)
  | range => rfl
  | _ => rfl
 unfold valR
 rw [this]; rfl
theorem sb_at {x : List UInt8} {i : Nat} (h : i < x.length) : bt (sb x) (i : Int) = (x[i].toNat : Int) := bt_of (by rw [sb_list]; exact List.getElem?_eq_getElem h)
theorem value_short (x : List UInt8) (hx : x.length ≤ 9) : ∀ i : Nat, i ≤ x.length → ∀ acc : Nat, acc < 10 ^ i → Ev (fun k => netlabref32_Value.l0 k (sb x) (acc : Int) (i : Int)) (match decF acc (x.drop i) with | some u => ((u : Int), decide (0 < x.length)) | none => (0, false)) := by
 refine down ?_ ?_
 ·intro acc ha
  refine Ev.succ ?_
  simp only [netlabref32_Value.l0]
  refine Ev.neg (by rw [sb_size]; omega) ?_
  refine Ev.pureOf ?_
  rw [List.drop_length, sb_size]
  simp [decF]
 ·intro i hi ih acc ha
  have hb := UInt8.toNat_lt x[i]
  have h10 := pow10 i (by omega)
  refine Ev.succ ?_
  simp only [netlabref32_Value.l0]
  refine Ev.pos (by rw [sb_size]; omega) (Ev.pos (by omega) ?_)
  rw [sb_at hi, List.drop_eq_getElem_cons hi]
  generalize x[i] = c at hb
  by_cases h1 : (c.toNat : Int) < 48
  ·refine Ev.pos h1 ?_
   have : ¬ (48 ≤ c.toNat ∧ c.toNat ≤ 57) := by omega
   unfold decF; rw [if_neg this]; exact Ev.pure _
  ·refine Ev.neg h1 ?_
   by_cases h2 : (c.toNat : Int) > 57
   ·refine Ev.pos h2 ?_
    have : ¬ (48 ≤ c.toNat ∧ c.toNat ≤ 57) := by omega
    unfold decF; rw [if_neg this]; exact Ev.pure _
   ·refine Ev.neg h2 (Ev.neg (by omega) ?_)
    have e : wrap64 (wrap64 (10 * (acc : Int)) + ((c.toNat : Int) - 48) % 256) = ((acc * 10 + (c.toNat - 48) : Nat) : Int) := by unfold wrap64; omega
    rw [e, wrap_succ hi (by omega)]
    have h3 := ih (acc * 10 + (c.toNat - 48)) (by rw [Nat.pow_succ]; omega)
    unfold decF
    rw [if_pos (by omega)]
    exact h3
theorem value_long (x : List UInt8) (hx : 9 < x.length) : ∀ i : Nat, i ≤ 9 → ∀ acc : Nat, acc < 10 ^ i → Ev (fun k => netlabref32_Value.l0 k (sb x) (acc : Int) (i : Int)) (0, false) := by
 have key : ∀ i : Nat, i ≤ 9 → (∀ acc : Nat, i < 9 → acc < 10 ^ i → ∀ c : Nat, 48 ≤ c → c ≤ 57 → Ev (fun k => netlabref32_Value.l0 k (sb x) ((acc * 10 + (c - 48) : Nat) : Int) ((i + 1 : Nat) : Int)) (0, false)) → ∀ acc : Nat, acc < 10 ^ i → Ev (fun k => netlabref32_Value.l0 k (sb x) (acc : Int) (i : Int)) (0, false) := by
  intro i hi hrec acc ha
  have hil : i < x.length := by omega
  have hb := UInt8.toNat_lt x[i]
  have h10 := pow10 i (by omega)
  refine Ev.succ ?_
  simp only [netlabref32_Value.l0]
  refine Ev.pos (by rw [sb_size]; omega) (Ev.pos (by omega) ?_)
  rw [sb_at hil]
  generalize x[i] = c at hb
  by_cases h1 : (c.toNat : Int) < 48
  ·exact Ev.pos h1 (Ev.pure _)
  ·refine Ev.neg h1 ?_
   by_cases h2 : (c.toNat : Int) > 57
   ·exact Ev.pos h2 (Ev.pure _)
   ·refine Ev.neg h2 ?_
    by_cases h3 : (i : Int) > 8
    ·exact Ev.pos h3 (Ev.pure _)
    ·refine Ev.neg h3 ?_
     have e : wrap64 (wrap64 (10 * (acc : Int)) + ((c.toNat : Int) - 48) % 256) = ((acc * 10 + (c.toNat - 48) : Nat) : Int) := by unfold wrap64; omega
     have e2 : wrap64 ((i : Int) + 1) = ((i + 1 : Nat) : Int) := by unfold wrap64; omega
     rw [e, e2]
     exact hrec acc (by omega) ha c.toNat (by omega) (by omega)
 refine down ?_ ?_
 ·exact key 9 (Nat.le_refl _) (fun acc h => absurd h (by decide))
 ·intro i hi ih
  exact key i (by omega) (fun acc _ ha c h1 h2 => ih _ (by rw [Nat.pow_succ]; omega))
theorem value_ev (x : List UInt8) : Ev (fun k => netlabref32_Value.f k (sb x)) (valR x) := by
 simp only [netlabref32_Value.f]
 by_cases hx : x.length ≤ 9
 ·rw [valR_short hx]
  have h := value_short x hx 0 (Nat.zero_le _) 0 (by decide)
  exact h
 ·rw [valR_long (by omega)]
  exact value_long x (by omega) 0 (by decide) 0 (by decide)
theorem valR_is (x : List UInt8) : (valR x).2 = (valueL x).2 ∧ ((valueL x).2 = true → (valR x).1 = (valueL x).1) := by
 unfold valR
 split
 ·rename_i h; exact ⟨rfl, fun _ => rfl⟩
 ·rename_i h; exact ⟨by simpa using h, fun h2 => absurd h2 h⟩
def litS (len : Nat) (r : RS) (ts : List (Nat × List UInt8)) : Int × RS :=
 if r.e = 0 then (if (litT (peekT len ts).1).2 = true then ((litT (peekT len ts).1).1, (nextS len r ts).1) else (0, failS (nextS len r ts).1 (peekT len ts).2 3)) else (0, r)
theorem sb_drop1 (x : List UInt8) : (sb x).extract 1 (sb x).size = sb (x.drop 1) := by
 apply ByteArray.ext
 apply Array.ext'
 rw [extract_to_end, sb_list]
 simp [sb]
theorem lit_j1 (s : ByteArray) (r1 : RS) (pl : Int) (y : List UInt8) (sg v : Int) (hv : v = if sg = 1 then (valueL y).1 else -(valueL y).1) (hsg : sg = 1 ∨ sg = -1) :
  Ev (fun k => netlabref32_Reader_Literal.j1 k pl (sb y) sg s (r1.at_ : Int) r1.e r1.wrong) (if (valueL y).2 = true then v else 0, rT s (if (valueL y).2 = true then r1 else failS r1 pl 3)) := by
 refine Ev.succ ?_
 simp only [netlabref32_Reader_Literal.j1]
 refine Ev.bind (value_ev y) ?_
 obtain ⟨h1, h2⟩ := valR_is y
 have hb := valueL_bound y
 cases hi : (valueL y).2 with
 | true =>
  refine Ev.pos (by rw [h1, hi]) ?_
  refine Ev.pureOf ?_
  have e : wrap64 (sg * (valR y).1) = v := by
   rw [h2 hi, hv]
   unfold wrap64
   rcases hsg with rfl | rfl
   ·simp only [if_true]; omega
   ·rw [if_neg (by decide)]; omega
  rw [e]; rfl
 | false =>
  refine Ev.neg (by rw [h1, hi]; decide) ?_
  simp only [netlabref32_Reader_Fail.f]
  simp only [Bool.false_eq_true, if_false]
  unfold failS
  by_cases he : r1.e = 0
  ·rw [if_pos he, if_pos he]; exact Ev.pure _
  ·rw [if_neg he, if_neg he]; exact Ev.pure _
theorem lit_rest (s : ByteArray) (r1 : RS) (pl : Int) (x : List UInt8) :
  Ev (fun k => if ((sb x).size : Int) > 0 then (if 0 < ((sb x).size : Int) then (netlabref32_Reader_Literal.j0 k pl (sb x) 1 ((bt (sb x) 0) == 45) s (r1.at_ : Int) r1.e r1.wrong) else none) else netlabref32_Reader_Literal.j0 k pl (sb x) 1 false s (r1.at_ : Int) r1.e r1.wrong) (if (litT x).2 = true then (litT x).1 else 0, rT s (if (litT x).2 = true then r1 else failS r1 pl 3)) := by
 cases x with
 | nil =>
  refine Ev.neg (by rw [sb_size]; simp) (Ev.succ ?_)
  simp only [netlabref32_Reader_Literal.j0]
  refine Ev.neg (by decide) ?_
  exact lit_j1 s r1 pl [] 1 _ rfl (Or.inl rfl)
 | cons c x =>
  refine Ev.pos (by rw [sb_size]; simp) (Ev.pos (by rw [sb_size]; simp) (Ev.succ ?_))
  simp only [netlabref32_Reader_Literal.j0]
  have hbt : bt (sb (c :: x)) 0 = (c.toNat : Int) := sb_at (x := c :: x) (i := 0) (by simp)
  rw [hbt]
  by_cases hc : c = 45
  ·have h1 : (((c.toNat : Int)) == 45) = true := by rw [hc]; rfl
   rw [h1]
   refine Ev.pos rfl (Ev.pos (by rw [sb_size]; simp; omega) ?_)
   rw [sb_drop1]
   have hp : hasPrefix (c :: x) [45] = true := by subst hc; rfl
   have ht : trimPrefix (c :: x) [45] = x := by unfold trimPrefix; rw [if_pos hp]; rfl
   have hl : litT (c :: x) = (-(valueL x).1, (valueL x).2) := by unfold litT; rw [hp, ht]; rfl
   rw [hl]
   exact lit_j1 s r1 pl x (-1) _ (by rw [if_neg (by decide)]) (Or.inr rfl)
  ·have h1 : (((c.toNat : Int)) == 45) = false := beq_eq_false_iff_ne.2 (fun h => hc (UInt8.toNat_inj.1 (by have : (45 : UInt8).toNat = 45 := rfl; omega)))
   rw [h1]
   refine Ev.neg (by decide) ?_
   have hp : hasPrefix (c :: x) [45] = false := by
    unfold hasPrefix
    simp [List.isPrefixOf, Ne.symm hc]
   have ht : trimPrefix (c :: x) [45] = c :: x := by unfold trimPrefix; rw [if_neg (by rw [hp]; decide)]
   have hl : litT (c :: x) = ((valueL (c :: x)).1, (valueL (c :: x)).2) := by unfold litT; rw [hp, ht]; rfl
   rw [hl]
   exact lit_j1 s r1 pl (c :: x) 1 _ (by rw [if_pos rfl]) (Or.inl rfl)
theorem literal_ev {s : ByteArray} (hs : s.size ≤ 65536) {r : RS} {ts : List (Nat × List UInt8)} (ht : Tk s.data.toList r.at_ ts) :
  Ev (fun k => netlabref32_Reader_Literal.f k s (r.at_ : Int) r.e r.wrong) ((litS s.size r ts).1, rT s (litS s.size r ts).2) := by
 simp only [netlabref32_Reader_Literal.f]
 unfold litS
 by_cases he : r.e = 0
 ·refine Ev.bind (word_ev hs ht he) ?_
  have h := lit_rest s (nextS s.size r ts).1 (if ts = [] then 0 else ((peekT s.size ts).2 : Int)) (peekT s.size ts).1
  have hfin : (if (litT (peekT s.size ts).1).2 = true then (nextS s.size r ts).1 else failS (nextS s.size r ts).1 (if ts = [] then 0 else ((peekT s.size ts).2 : Int)) 3) = (if (litT (peekT s.size ts).1).2 = true then (nextS s.size r ts).1 else failS (nextS s.size r ts).1 (peekT s.size ts).2 3) := by
   cases ts with
   | nil =>
    have : (nextS s.size r []).1.e ≠ 0 := failS_e r s.size 4 (by decide)
    simp only [failS, if_neg this]
   | cons p ts => rw [if_neg (by simp : ¬ (p :: ts) = [])]
  rw [hfin] at h
  rw [if_pos he]
  by_cases h2 : (litT (peekT s.size ts).1).2 = true
  ·rw [if_pos h2, if_pos h2] at h; rw [if_pos h2]; exact h
  ·rw [if_neg h2, if_neg h2] at h; rw [if_neg h2]; exact h
 ·have hw : Ev (fun k => netlabref32_Reader_Word.f k s (r.at_ : Int) r.e r.wrong) (0, sb [], rT s r) := by
   simp only [netlabref32_Reader_Word.f]
   refine Ev.neg he ?_
   exact Ev.pure _
  refine Ev.bind hw ?_
  rw [if_neg he]
  have h := lit_rest s r 0 []
  rw [litT_nil] at h
  simp only [Bool.false_eq_true, if_false] at h
  have hf : failS r 0 3 = r := by unfold failS; rw [if_neg he]
  rw [hf] at h
  exact h
theorem fail_f (s : ByteArray) (r : RS) (a e : Int) : netlabref32_Reader_Fail.f s (r.at_ : Int) r.e r.wrong a e = some (rT s (failS r a e)) := by
 unfold netlabref32_Reader_Fail.f failS
 by_cases he : r.e = 0
 ·rw [if_pos he, if_pos he]
 ·rw [if_neg he, if_neg he]
def wdP (len : Nat) (r : RS) (ts : List (Nat × List UInt8)) : Int := if r.e = 0 then (if ts = [] then 0 else ((peekT len ts).2 : Int)) else 0
def wdX (len : Nat) (r : RS) (ts : List (Nat × List UInt8)) : List UInt8 := if r.e = 0 then (peekT len ts).1 else []
def wdR (len : Nat) (r : RS) (ts : List (Nat × List UInt8)) : RS := if r.e = 0 then (nextS len r ts).1 else r
theorem word_any {s : ByteArray} (hs : s.size ≤ 65536) {r : RS} {ts : List (Nat × List UInt8)} (ht : Tk s.data.toList r.at_ ts) :
  Ev (fun k => netlabref32_Reader_Word.f k s (r.at_ : Int) r.e r.wrong) (wdP s.size r ts, sb (wdX s.size r ts), rT s (wdR s.size r ts)) := by
 unfold wdP wdX wdR
 by_cases he : r.e = 0
 ·rw [if_pos he, if_pos he, if_pos he]; exact word_ev hs ht he
 ·rw [if_neg he, if_neg he, if_neg he]
  simp only [netlabref32_Reader_Word.f]
  exact Ev.neg he (Ev.pure _)
theorem word_fin {len : Nat} {F : List UInt8 → Bool} (hF : F [] = false) (r : RS) (ts : List (Nat × List UInt8)) :
  (if F (wdX len r ts) = true then wdR len r ts else failS (wdR len r ts) (wdP len r ts) 3) = (wordT len F r ts).1 := by
 unfold wdP wdX wdR wordT
 by_cases he : r.e = 0
 ·rw [if_pos he, if_pos he, if_pos he, if_pos he]
  cases ts with
  | nil =>
   have h1 : (failS r len 4).e ≠ 0 := failS_e r len 4 (by decide)
   simp only [peekT, nextS, hF, Bool.false_eq_true, if_false]
   unfold failS at h1 ⊢
   rw [if_pos he] at h1 ⊢
   rw [if_neg h1]
  | cons p ts =>
   obtain ⟨a, x⟩ := p
   simp only [peekT, nextS, reduceCtorEq, if_false]
   unfold wordS
   cases hx : F x with
   | true => simp
   | false =>
    simp only [Bool.false_eq_true, if_false]
    unfold failS
    simp only [he, if_true]
 ·rw [if_neg he, if_neg he, if_neg he, if_neg he, hF]
  simp only [Bool.false_eq_true, if_false]
  unfold failS
  rw [if_neg he]
theorem key_ev {s : ByteArray} (hs : s.size ≤ 65536) {r : RS} {ts : List (Nat × List UInt8)} (ht : Tk s.data.toList r.at_ ts) (w : List UInt8) (hw : w ≠ []) :
  Ev (fun k => netlabref32_Reader_Key.f k s (r.at_ : Int) r.e r.wrong (sb w)) (rT s (wordT s.size (isK w) r ts).1) := by
 simp only [netlabref32_Reader_Key.f]
 have hF : isK w [] = false := beq_eq_false_iff_ne.2 (fun h => hw h.symm)
 rw [← word_fin hF]
 refine Ev.bind (word_any hs ht) ?_
 have hl : ∀ x : List UInt8, (sb x).toList = x := fun x => by rw [toList_data, sb_list]
 simp only [hl]
 by_cases hx : wdX s.size r ts = w
 ·refine Ev.pos hx ?_
  rw [if_pos (by rw [hx]; exact beq_self_eq_true w)]
  exact Ev.pure _
 ·refine Ev.neg hx ?_
  have hb : isK w (wdX s.size r ts) = false := beq_eq_false_iff_ne.2 hx
  rw [hb]
  simp only [Bool.false_eq_true, if_false, fail_f, Option.bind_some]
  exact Ev.pure _
def numV (most : Int) (len : Nat) (r : RS) (ts : List (Nat × List UInt8)) : Int := if numF most (wdX len r ts) = true then (valueL (wdX len r ts)).1 else 0
theorem number_ev {s : ByteArray} (hs : s.size ≤ 65536) {r : RS} {ts : List (Nat × List UInt8)} (ht : Tk s.data.toList r.at_ ts) (most : Int) :
  Ev (fun k => netlabref32_Reader_Number.f k s (r.at_ : Int) r.e r.wrong most) (numV most s.size r ts, rT s (wordT s.size (numF most) r ts).1) := by
 simp only [netlabref32_Reader_Number.f]
 have hF : numF most [] = false := rfl
 rw [← word_fin hF]
 unfold numV
 refine Ev.bind (word_any hs ht) (Ev.bind (value_ev _) ?_)
 generalize wdX s.size r ts = x
 obtain ⟨h1, h2⟩ := valR_is x
 unfold numF
 cases hv : (valueL x).2 with
 | true =>
  refine Ev.pos (by rw [h1, hv]) ?_
  have h3 := h2 hv
  simp only [h3]
  by_cases hm : (valueL x).1 > most
  ·have hd : decide ((valueL x).1 ≤ most) = false := decide_eq_false (by omega)
   refine Ev.pos hm ?_
   rw [hd]
   simp only [Bool.and_false, Bool.false_eq_true, if_false, fail_f, Option.bind_some]
   exact Ev.pure _
  ·have hd : decide ((valueL x).1 ≤ most) = true := decide_eq_true (by omega)
   refine Ev.neg hm ?_
   rw [hd]
   exact Ev.pure _
 | false =>
  refine Ev.neg (by rw [h1, hv]; decide) ?_
  simp only [Bool.false_and, Bool.false_eq_true, if_false, fail_f, Option.bind_some]
  exact Ev.pure _
def litR (len : Nat) (r : RS) (ts : List (Nat × List UInt8)) : Int := if (litT (wdX len r ts)).2 = true then (litT (wdX len r ts)).1 else 0
theorem litS_is (len : Nat) (r : RS) (ts : List (Nat × List UInt8)) : litS len r ts = (litR len r ts, (wordT len (fun x => (litT x).2) r ts).1) := by
 rw [← word_fin (F := fun x => (litT x).2) rfl]
 unfold litS litR wdX wdR wdP
 by_cases he : r.e = 0
 ·simp only [if_pos he]
  by_cases hx : (litT (peekT len ts).1).2 = true
  ·simp only [if_pos hx]
  ·simp only [if_neg hx]
   cases ts with
   | nil =>
    have : (nextS len r []).1.e ≠ 0 := failS_e r len 4 (by decide)
    simp only [failS, if_neg this]
   | cons p ts => simp
 ·simp only [if_neg he, litT_nil, Bool.false_eq_true, if_false]
  unfold failS
  rw [if_neg he]
theorem lit_ev {s : ByteArray} (hs : s.size ≤ 65536) {r : RS} {ts : List (Nat × List UInt8)} (ht : Tk s.data.toList r.at_ ts) :
  Ev (fun k => netlabref32_Reader_Literal.f k s (r.at_ : Int) r.e r.wrong) (litR s.size r ts, rT s (wordT s.size (fun x => (litT x).2) r ts).1) := by
 have h := literal_ev hs ht
 rw [litS_is] at h
 exact h
end Go.Proofs.YtkcfdddhnboieaaGreatDoor.NPlain
end
section
set_option maxRecDepth 100000
namespace Go.Proofs.YtkcfdddhnboieaaGreatDoor.NPlain
open Go Go.RowKit Go.Lib
open NText
theorem wordT_e {len : Nat} {F : List UInt8 → Bool} {r : RS} {ts : List (Nat × List UInt8)} (h : (wordT len F r ts).1.e = 0) : r.e = 0 := by
 unfold wordT at h
 by_cases he : r.e = 0
 ·exact he
 ·rw [if_neg he] at h; exact h
theorem num_same {len : Nat} {most : Int} {r : RS} {ts : List (Nat × List UInt8)} (h : (wordT len (numF most) r ts).1.e = 0) : numV most len r ts = wordV (fun x => (valueL x).1) r ts := by
 have he := wordT_e h
 unfold wordT at h
 rw [if_pos he] at h
 unfold numV wdX wordV
 rw [if_pos he, if_pos he]
 cases ts with
 | nil => exact absurd h (failS_e r len 4 (by decide))
 | cons p ts =>
  obtain ⟨a, x⟩ := p
  show (if numF most x = true then (valueL x).1 else 0) = (valueL x).1
  by_cases hx : numF most x = true
  ·rw [if_pos hx]
  ·rw [Bool.not_eq_true] at hx
   simp only [hx] at h
   exact absurd h (failS_e _ a 3 (by decide))
theorem numV_bound (most : Int) (len : Nat) (r : RS) (ts : List (Nat × List UInt8)) : 0 ≤ numV most len r ts ∧ numV most len r ts ≤ 4294967295 := by
 unfold numV
 split
 ·exact valueL_bound _
 ·simp
def headR (len p : Nat) (ts : List (Nat × List UInt8)) : (RS × List (Nat × List UInt8)) × Int × Int :=
 let k1 := wordT len (isK [112]) ⟨p, 0, 0⟩ ts
 let k2 := wordT len (isK [99, 110, 102]) k1.1 k1.2
 let k3 := wordT len (numF 4096) k2.1 k2.2
 let k4 := wordT len (numF 16384) k3.1 k3.2
 (k4, numV 4096 len k2.1 k2.2, numV 16384 len k3.1 k3.2)
theorem parseR_eq (len p : Nat) (ts : List (Nat × List UInt8)) (hl : ¬ 65536 < len) :
  parseC len p ts = tailS (headR len p ts).2.1 (bodyS len (headR len p ts)).2.1 (endS len (bodyS len (headR len p ts)).1 (bodyS len (headR len p ts)).2.2) := by
 unfold parseC
 rw [if_neg hl]
 have h1 : (headR len p ts).1 = (headS len p ts).1 := rfl
 by_cases he : (headS len p ts).1.1.e = 0
 ·have e : headR len p ts = headS len p ts := by
   have h4 : (wordT len (numF 16384) (wordT len (numF 4096) (wordT len (isK [99, 110, 102]) (wordT len (isK [112]) ⟨p, 0, 0⟩ ts).1 (wordT len (isK [112]) ⟨p, 0, 0⟩ ts).2).1 (wordT len (isK [99, 110, 102]) (wordT len (isK [112]) ⟨p, 0, 0⟩ ts).1 (wordT len (isK [112]) ⟨p, 0, 0⟩ ts).2).2).1 (wordT len (numF 4096) (wordT len (isK [99, 110, 102]) (wordT len (isK [112]) ⟨p, 0, 0⟩ ts).1 (wordT len (isK [112]) ⟨p, 0, 0⟩ ts).2).1 (wordT len (isK [99, 110, 102]) (wordT len (isK [112]) ⟨p, 0, 0⟩ ts).1 (wordT len (isK [112]) ⟨p, 0, 0⟩ ts).2).2).2).1.e = 0 := he
   have h3 := wordT_e h4
   unfold headR headS
   simp only [num_same h4, num_same h3]
  rw [e]
 ·have hS : bodyS len (headS len p ts) = ((headS len p ts).1.1, [], (headS len p ts).1.2) := clsS_stop he
  have hR : bodyS len (headR len p ts) = ((headS len p ts).1.1, [], (headS len p ts).1.2) := by
   unfold bodyS
   rw [h1]
   exact clsS_stop he
  rw [hS, hR]
  have hend : endS len (headS len p ts).1.1 (headS len p ts).1.2 = (headS len p ts).1.1 := by unfold endS; rw [if_neg he]
  simp only [hend]
  unfold tailS
  rw [if_neg he, if_neg he]
theorem lit_same {len : Nat} {r : RS} {ts : List (Nat × List UInt8)} : (wordV (fun x => (litT x).1) r ts ≠ 0 ∧ (wordT len (fun x => (litT x).2) r ts).1.e = 0 ↔ litR len r ts ≠ 0) ∧ (litR len r ts ≠ 0 → wordV (fun x => (litT x).1) r ts = litR len r ts) := by
 unfold litR wdX wordV wordT
 by_cases he : r.e = 0
 ·simp only [if_pos he]
  cases ts with
  | nil => simp [peekT, litT_nil]
  | cons p ts =>
   obtain ⟨a, x⟩ := p
   show ((litT x).1 ≠ 0 ∧ (wordS (litT x).2 r a x.length).e = 0 ↔ (if (litT x).2 = true then (litT x).1 else 0) ≠ 0) ∧ ((if (litT x).2 = true then (litT x).1 else 0) ≠ 0 → (litT x).1 = if (litT x).2 = true then (litT x).1 else 0)
   by_cases hx : (litT x).2 = true
   ·simp [hx, wordS, he]
   ·rw [Bool.not_eq_true] at hx
    have h3 : (wordS false r a x.length).e ≠ 0 := failS_e _ a 3 (by decide)
    simp [hx, h3]
 ·simp [if_neg he, litT_nil]
theorem litsR_eq (len : Nat) (r : RS) (ts : List (Nat × List UInt8)) : litsS len ts r =
  if litR len r ts ≠ 0 then
   ((litsS len (wordT len (fun x => (litT x).2) r ts).2 (wordT len (fun x => (litT x).2) r ts).1).1, litR len r ts :: (litsS len (wordT len (fun x => (litT x).2) r ts).2 (wordT len (fun x => (litT x).2) r ts).1).2.1, (litsS len (wordT len (fun x => (litT x).2) r ts).2 (wordT len (fun x => (litT x).2) r ts).1).2.2)
  else ((wordT len (fun x => (litT x).2) r ts).1, [], (wordT len (fun x => (litT x).2) r ts).2) := by
 obtain ⟨h1, h2⟩ := lit_same (len := len) (r := r) (ts := ts)
 rw [litsS_eq]
 by_cases hx : litR len r ts ≠ 0
 ·rw [if_pos hx, if_pos (h1.2 hx), h2 hx]
 ·rw [if_neg hx, if_neg (fun h => hx (h1.1 h))]
theorem litR_lt {len : Nat} {r : RS} {ts : List (Nat × List UInt8)} (h : litR len r ts ≠ 0) : (wordT len (fun x => (litT x).2) r ts).2.length < ts.length :=
 wordT_lt (V := fun x => (litT x).1) (by rw [(lit_same (len := len)).2 h]; exact h)
theorem cut_10 (l : List UInt8) : (Lib.cut (10 :: l) [10]).2.1 = l := by
 unfold Lib.cut
 have e : Lib.index (10 :: l) [10] = 0 := by rw [index_one]; simp [indexByte]
 rw [e, if_pos (by decide)]; rfl
theorem cut_other {c : UInt8} (hc : c ≠ 10) (l : List UInt8) : (Lib.cut (c :: l) [10]).2.1 = (Lib.cut l [10]).2.1 := by
 unfold Lib.cut
 have hb : (c == 10) = false := beq_eq_false_iff_ne.2 hc
 have e : Lib.index (c :: l) [10] = if indexByte l 10 == -1 then -1 else indexByte l 10 + 1 := by rw [index_one]; simp [indexByte, hb]
 have hg := indexByte_ge l 10
 rw [e, index_one]
 by_cases h : indexByte l 10 = -1
 ·rw [h]; rfl
 ·have h2 : (indexByte l 10 == -1) = false := beq_eq_false_iff_ne.2 h
  rw [h2]
  simp only [Bool.false_eq_true, if_false]
  rw [if_pos (by omega), if_pos (by omega)]
  have e2 : (indexByte l 10 + 1).toNat = (indexByte l 10).toNat + 1 := by omega
  simp only [e2]
  rw [show (indexByte l 10).toNat + 1 + [(10 : UInt8)].length = ((indexByte l 10).toNat + [(10 : UInt8)].length) + 1 by simp, List.drop_succ_cons]
theorem commL_eq {f : Nat} {l : List UInt8} (hf : l.length ≤ f) : commL f l = match l with | [] => [] | c :: t => if c = 99 then commL (f - 1) (Lib.cut t [10]).2.1 else l := by
 cases l with
 | nil => cases f <;> rfl
 | cons c t =>
  obtain ⟨g, rfl⟩ : ∃ g, f = g + 1 := ⟨f - 1, by simp at hf; omega⟩
  by_cases hc : c = 99
  ·subst hc
   have hp : hasPrefix (99 :: t) [99] = true := by simp [hasPrefix, List.isPrefixOf]
   rw [commL, if_pos hp, cut_other (by decide)]
   simp
  ·have hp : hasPrefix (c :: t) [99] = false := by simp [hasPrefix, List.isPrefixOf, Ne.symm hc]
   rw [commL, if_neg (by rw [hp]; decide)]
   simp [hc]
end Go.Proofs.YtkcfdddhnboieaaGreatDoor.NPlain
end
