/-
  Part 23 of the proof of proofText_card: walks and lemmas, packed by the session's own wip/pack.py out of its texts and of what the kit's print.sh printed.
-/
import Derived.Test.YtogicccdngpafaaGreatDoorPT21
import Derived.Test.YtogicccdngpafaaGreatDoorPT22
set_option linter.unusedVariables false
set_option linter.unusedSimpArgs false
section
set_option maxRecDepth 100000
namespace Go.Proofs.YtogicccdngpafaaGreatDoor.NText
open Go Go.Lib
open NState (Stp fmtL fmtX fmtN formatF numL)
open NPlain (decDigits_len)
theorem dig_nat {d : Nat} (h : d < 10) : (UInt8.ofNat (48 + d)).toNat = 48 + d := by
 rw [UInt8.toNat_ofNat']; omega
theorem decDigits_dig (u : Nat) : ∀ c ∈ decDigits u, 48 ≤ c.toNat ∧ c.toNat ≤ 57 := by
 induction u using Nat.strongRecOn with
 | _ u ih =>
  intro c hc
  rw [decDigits] at hc
  split at hc
  ·rename_i h
   rw [List.mem_singleton] at hc; subst hc; rw [dig_nat h]; omega
  ·rcases List.mem_append.1 hc with hc | hc
   ·exact ih _ (by omega) c hc
   ·rw [List.mem_singleton] at hc; subst hc; rw [dig_nat (Nat.mod_lt _ (by decide))]; omega
theorem decDigits_ne (u : Nat) : decDigits u ≠ [] := by rw [decDigits]; split <;> simp
theorem parseM_append {M : Nat} : ∀ (l r : List UInt8) (acc u : Nat), parseUintM M acc l = .ok u → parseUintM M acc (l ++ r) = parseUintM M u r
 | [], r, acc, u, h => by injection h with h; subst h; rfl
 | c :: l, r, acc, u, h => by
  rw [parseUintM] at h
  rw [List.cons_append, parseUintM]
  by_cases h1 : 48 ≤ c.toNat ∧ c.toNat ≤ 57
  ·rw [if_pos h1] at h ⊢
   by_cases h2 : 1844674407370955162 ≤ acc
   ·rw [if_pos h2] at h; cases h
   ·rw [if_neg h2] at h ⊢
    by_cases h3 : M < acc * 10 + (c.toNat - 48)
    ·rw [if_pos h3] at h; cases h
    ·rw [if_neg h3] at h ⊢
     exact parseM_append l r _ u h
  ·rw [if_neg h1] at h; cases h
theorem parse_dec (u : Nat) : u ≤ 4294967295 → parseUintM 4294967295 0 (decDigits u) = .ok u := by
 induction u using Nat.strongRecOn with
 | _ u ih =>
  intro hu
  rw [decDigits]
  split
  ·rename_i h
   rw [parseUintM, dig_nat h, if_pos (by omega), if_neg (by omega), if_neg (by omega), parseUintM]
   congr 1; omega
  ·rename_i h
   rw [parseM_append _ _ _ _ (ih (u / 10) (by omega) (by omega)), parseUintM, dig_nat (Nat.mod_lt _ (by decide)), if_pos (by omega), if_neg (by omega), if_neg (by omega), parseUintM]
   congr 1; omega
theorem value_dec {u : Nat} (hu : u ≤ 999999999) : valueL (decDigits u) = ((u : Int), true) := by
 have hp : parseUintB 32 (decDigits u) = .ok u := by
  unfold parseUintB
  rw [if_neg (decDigits_ne u)]
  exact parse_dec u (by omega)
 have hl := decDigits_len 8 u (Nat.lt_of_le_of_lt hu (by decide))
 unfold valueL
 rw [hp]
 have : decide ((decDigits u).length ≤ 9) = true := decide_eq_true hl
 rw [this]
theorem value_itoa {x : Int} (h0 : 0 ≤ x) (h1 : x ≤ 999999999) : valueL (itoa x) = (x, true) := by
 unfold itoa
 rw [if_neg (by omega), value_dec (by omega), Int.toNat_of_nonneg h0]
theorem lit_itoa {x : Int} (h0 : -999999999 ≤ x) (h1 : x ≤ 999999999) : litT (itoa x) = (x, true) := by
 unfold itoa litT
 by_cases hx : x < 0
 ·rw [if_pos hx]
  have hp : hasPrefix (45 :: decDigits x.natAbs) [45] = true := by simp [hasPrefix, List.isPrefixOf]
  have ht : trimPrefix (45 :: decDigits x.natAbs) [45] = decDigits x.natAbs := by unfold trimPrefix; rw [if_pos hp]; rfl
  rw [ht, hp, value_dec (by omega)]
  show ((if true = true then -(x.natAbs : Int) else (x.natAbs : Int)), true) = (x, true)
  rw [if_pos rfl]; congr 1; omega
 ·rw [if_neg hx]
  have hp : hasPrefix (decDigits x.toNat) [45] = false := by
   cases hd : decDigits x.toNat with
   | nil => rfl
   | cons c l =>
    have hc := decDigits_dig x.toNat c (by rw [hd]; simp)
    have hb : ((45 : UInt8) == c) = false := by
     rw [beq_eq_false_iff_ne]; rintro rfl; revert hc; decide
    show ((45 : UInt8) == c && List.isPrefixOf [] l) = false
    rw [hb]; rfl
  have ht : trimPrefix (decDigits x.toNat) [45] = decDigits x.toNat := by unfold trimPrefix; rw [hp]; rfl
  rw [ht, hp, value_dec (by omega)]
  show ((if false = true then -(x.toNat : Int) else (x.toNat : Int)), true) = (x, true)
  rw [if_neg (by decide), Int.toNat_of_nonneg (by omega)]
theorem itoa_ne (x : Int) : itoa x ≠ [] := by
 unfold itoa
 split
 ·simp
 ·exact decDigits_ne _
theorem dig_nw {c : UInt8} (h : 45 ≤ c.toNat) (h2 : c.toNat ≤ 100) : nw c = true := by
 unfold nw
 cases hc : ws.contains c with
 | false => rfl
 | true =>
  have hm : c ∈ ws := List.contains_iff_mem.1 hc
  unfold ws at hm
  simp only [List.mem_cons, List.not_mem_nil, or_false] at hm
  rcases hm with rfl | rfl | rfl | rfl <;> exact absurd h (by decide)
theorem itoa_nw (x : Int) : ∀ b ∈ itoa x, nw b = true := by
 intro b hb
 unfold itoa at hb
 split at hb
 ·rcases List.mem_cons.1 hb with rfl | hb
  ·exact dig_nw (by decide) (by decide)
  ·have := decDigits_dig _ b hb; exact dig_nw (by omega) (by omega)
 ·have := decDigits_dig _ b hb; exact dig_nw (by omega) (by omega)
theorem itoa_ne_d (x : Int) : itoa x ≠ [100] := by
 intro h
 unfold itoa at h
 split at h
 ·injection h with h; revert h; decide
 ·have := decDigits_dig x.toNat 100 (by rw [h]; simp)
  revert this; decide
theorem itoa_le {x : Int} (h0 : -999999999 ≤ x) (h1 : x ≤ 999999999) : (itoa x).length ≤ 10 := by
 unfold itoa
 split
 ·have := decDigits_len 8 x.natAbs (Nat.lt_of_le_of_lt (show x.natAbs ≤ 999999999 by omega) (by decide))
  simp only [List.length_cons]; omega
 ·have := decDigits_len 8 x.toNat (Nat.lt_of_le_of_lt (show x.toNat ≤ 999999999 by omega) (by decide))
  omega
def joinW : List (List UInt8 × UInt8) → List UInt8
 | [] => []
 | p :: us => p.1 ++ p.2 :: joinW us
def placeW : Nat → List (List UInt8 × UInt8) → List (Nat × List UInt8)
 | _, [] => []
 | a, p :: us => (a, p.1) :: placeW (a + p.1.length + 1) us
def OkW (us : List (List UInt8 × UInt8)) : Prop := ∀ p ∈ us, p.1 ≠ [] ∧ (∀ b ∈ p.1, nw b = true) ∧ wh p.2 = true
theorem drop_white {sp l : List UInt8} (h : ∀ b ∈ sp, wh b = true) : (sp ++ l).dropWhile wh = l.dropWhile wh := by
 induction sp with
 | nil => rfl
 | cons b sp ih =>
  rw [List.cons_append, List.dropWhile_cons, if_pos (h b List.mem_cons_self)]
  exact ih (fun c hc => h c (List.mem_cons_of_mem _ hc))
theorem take_word {x l : List UInt8} {s : UInt8} (h : ∀ b ∈ x, nw b = true) (hs : wh s = true) : (x ++ s :: l).takeWhile nw = x := by
 induction x with
 | nil => rw [List.nil_append, List.takeWhile_cons, nw_not, hs]; rfl
 | cons b x ih =>
  rw [List.cons_append, List.takeWhile_cons, if_pos (h b List.mem_cons_self), ih (fun c hc => h c (List.mem_cons_of_mem _ hc))]
theorem tk_join (l : List UInt8) : ∀ (us : List (List UInt8 × UInt8)) (pre sp : List UInt8), OkW us → (∀ b ∈ sp, wh b = true) → l = pre ++ (sp ++ joinW us) → Tk l pre.length (placeW (pre.length + sp.length) us)
 | [], pre, sp, _, hs, hl => by
  refine .nil (by rw [hl]; simp) ?_
  rw [hl, List.drop_left, drop_white hs]; rfl
 | p :: us, pre, sp, ho, hs, hl => by
  obtain ⟨hx, hn, hw⟩ := ho p List.mem_cons_self
  have hd : (l.drop pre.length).dropWhile wh = p.1 ++ p.2 :: joinW us := by
   rw [hl, List.drop_left, drop_white hs]
   show (p.1 ++ p.2 :: joinW us).dropWhile wh = _
   cases hp : p.1 with
   | nil => exact absurd hp hx
   | cons c x =>
    have hc : nw c = true := hn c (by rw [hp]; exact List.mem_cons_self)
    rw [nw_not] at hc
    rw [List.cons_append, List.dropWhile_cons, if_neg (by intro h; rw [h] at hc; cases hc)]
  have htw : (p.1 ++ p.2 :: joinW us).takeWhile nw = p.1 := take_word hn hw
  have hlen : l.length = pre.length + (sp.length + (p.1.length + (joinW us).length + 1)) := by
   rw [hl]; simp only [joinW, List.length_append, List.length_cons]; omega
  have ih := tk_join l us (pre ++ sp ++ p.1) [p.2] (fun q hq => ho q (List.mem_cons_of_mem _ hq)) (by intro b hb; rw [List.mem_singleton] at hb; subst hb; exact hw) (by rw [hl]; simp [joinW])
  have e1 : (pre ++ sp ++ p.1).length = pre.length + sp.length + p.1.length := by simp only [List.length_append]
  rw [e1] at ih
  have key := Tk.cons (l := l) (i := pre.length) (a := pre.length + sp.length) (r := p.1 ++ p.2 :: joinW us) (ts := placeW (pre.length + sp.length + p.1.length + 1) us) (by omega) hd (by simp) (by simp only [List.length_append, List.length_cons]; omega) (by rw [htw]; exact ih)
  rw [htw] at key
  exact key
theorem joinW_append : ∀ (u v : List (List UInt8 × UInt8)), joinW (u ++ v) = joinW u ++ joinW v
 | [], v => rfl
 | p :: u, v => by show p.1 ++ p.2 :: joinW (u ++ v) = _; rw [joinW_append u v]; simp [joinW]
theorem placeW_append : ∀ (u v : List (List UInt8 × UInt8)) (a : Nat), ∃ b, placeW a (u ++ v) = placeW a u ++ placeW b v
 | [], v, a => ⟨a, rfl⟩
 | p :: u, v, a => by
  obtain ⟨b, hb⟩ := placeW_append u v (a + p.1.length + 1)
  exact ⟨b, by show (a, p.1) :: placeW _ (u ++ v) = _; rw [hb]; rfl⟩
theorem placeW_len : ∀ (u : List (List UInt8 × UInt8)) (a : Nat), (placeW a u).length = u.length
 | [], _ => rfl
 | p :: u, a => by show (placeW _ u).length + 1 = _; rw [placeW_len u]; rfl
def numW (l : List Int) (s : UInt8) : List (List UInt8 × UInt8) := l.map (fun y => (itoa y, 32)) ++ [([48], s)]
def tailW (x : Stp) : List (List UInt8 × UInt8) := (if x.f1 = true then [([100], 32)] else numW x.f0 32) ++ numW x.f2 10
def wordsL : Int → List Stp → List (List UInt8 × UInt8)
 | _, [] => []
 | n, x :: p => (itoa (fmtN n x), 32) :: (tailW x ++ wordsL (fmtN n x) p)
theorem join_map : ∀ l : List Int, joinW (l.map (fun y => (itoa y, (32 : UInt8)))) = l.flatMap (fun x => itoa x ++ [32])
 | [] => rfl
 | y :: l => by
  show itoa y ++ 32 :: joinW (l.map _) = _
  rw [join_map l]; simp
theorem join_num (l : List Int) (s : UInt8) : joinW (numW l s) = numL l ++ [s] := by
 unfold numW numL
 rw [joinW_append, join_map]
 show _ ++ [48, s] = _
 simp
theorem join_words : ∀ (p : List Stp) (n : Int), joinW (wordsL n p) = fmtL n p
 | [], n => rfl
 | x :: p, n => by
  show itoa (fmtN n x) ++ 32 :: joinW (tailW x ++ wordsL (fmtN n x) p) = fmtX n x ++ fmtL (fmtN n x) p
  rw [joinW_append, join_words p]
  unfold tailW fmtX
  rw [joinW_append, join_num]
  split
  ·simp [joinW]
  ·rw [join_num]; simp
theorem ok_num {l : List Int} {s : UInt8} (hs : wh s = true) : OkW (numW l s) := by
 intro p hp
 unfold numW at hp
 rcases List.mem_append.1 hp with hp | hp
 ·obtain ⟨y, _, rfl⟩ := List.mem_map.1 hp
  exact ⟨itoa_ne y, itoa_nw y, show wh 32 = true by decide⟩
 ·rw [List.mem_singleton] at hp; subst hp
  exact ⟨by simp, fun b hb => by rw [List.mem_singleton] at hb; subst hb; decide, hs⟩
theorem ok_words : ∀ (p : List Stp) (n : Int), OkW (wordsL n p)
 | [], n => fun q hq => by cases hq
 | x :: p, n => fun q hq => by
  rcases List.mem_cons.1 hq with rfl | hq
  ·exact ⟨itoa_ne _, itoa_nw _, by show wh 32 = true; decide⟩
  rcases List.mem_append.1 hq with hq | hq
  ·unfold tailW at hq
   rcases List.mem_append.1 hq with hq | hq
   ·split at hq
    ·rw [List.mem_singleton] at hq; subst hq
     exact ⟨by simp, fun b hb => by rw [List.mem_singleton] at hb; subst hb; decide, by show wh 32 = true; decide⟩
    ·exact ok_num (by decide) q hq
   ·exact ok_num (by decide) q hq
  ·exact ok_words p _ q hq
def Lit9 (y : Int) : Prop := y ≠ 0 ∧ -999999999 ≤ y ∧ y ≤ 999999999
def Good (x : Stp) : Prop := (∀ y ∈ x.f0, Lit9 y) ∧ (∀ y ∈ x.f2, Lit9 y) ∧ x.f0.length ≤ 12 ∧ x.f2.length ≤ 40
def stripS (x : Stp) : Stp := ⟨if x.f1 = true then [] else x.f0, x.f1, x.f2⟩
theorem listS_num (len : Nat) (s : UInt8) : ∀ (l : List Int) (a : Nat) (rest : List (Nat × List UInt8)) (r : RS), r.e = 0 → (∀ y ∈ l, Lit9 y) → ∃ r' : RS, listS len r (placeW a (numW l s) ++ rest) = (r', l, rest) ∧ r'.e = 0
 | [], a, rest, r, hr, _ => by
  have hl : litT [48] = (0, true) := by decide
  refine ⟨{ r with at_ := a + 1 }, ?_, hr⟩
  show listS len r ((a, [48]) :: rest) = _
  unfold listS
  rw [if_pos hr, hl, if_pos rfl, if_pos rfl]; rfl
 | y :: l, a, rest, r, hr, hy => by
  obtain ⟨h0, h1, h2⟩ := hy y List.mem_cons_self
  obtain ⟨r', e1, e2⟩ := listS_num len s l (a + (itoa y).length + 1) rest { r with at_ := a + (itoa y).length } hr (fun z hz => hy z (List.mem_cons_of_mem _ hz))
  refine ⟨r', ?_, e2⟩
  show listS len r ((a, itoa y) :: (placeW (a + (itoa y).length + 1) (numW l s) ++ rest)) = _
  rw [listS, if_pos hr, lit_itoa h1 h2, if_pos rfl, if_neg h0, e1]
theorem oneS_ok (len : Nat) (n : Int) (x : Stp) (hx : Good x) (h0 : 0 ≤ fmtN n x) (h1 : fmtN n x ≤ 999999999) (a b : Nat) (rest : List (Nat × List UInt8)) (r : RS) (hr : r.e = 0) :
  ∃ r' : RS, oneS len n r a (itoa (fmtN n x)) (placeW b (tailW x) ++ rest) = (r', fmtN n x, stripS x, rest) ∧ r'.e = 0 := by
 obtain ⟨g0, g2, _, _⟩ := hx
 have hv := value_itoa h0 h1
 unfold tailW
 by_cases hg : x.f1 = true
 ·rw [if_pos hg]
  have hm : fmtN n x = n := by unfold fmtN; rw [if_pos hg]
  obtain ⟨r', e1, e2⟩ := listS_num len 10 x.f2 (b + 1 + 1) rest { r with at_ := b + 1 } hr g2
  refine ⟨r', ?_, e2⟩
  rw [show placeW b ([([100], 32)] ++ numW x.f2 10) ++ rest = (b, [100]) :: (placeW (b + 1 + 1) (numW x.f2 10) ++ rest) from rfl]
  rw [oneS_eq (sec := [100]) (gone := true) (n1 := n) (S2 := { r with at_ := a + (itoa (fmtN n x)).length }) (S3 := { r with at_ := b + 1 }) (S4 := { r with at_ := b + 1 }) (ts3 := placeW (b + 1 + 1) (numW x.f2 10) ++ rest) (c := ({ r with at_ := b + 1 }, [], placeW (b + 1 + 1) (numW x.f2 10) ++ rest)) (h := (r', x.f2, rest)) hv rfl rfl rfl rfl rfl (by rw [if_pos hm]) rfl rfl e1]
  rw [hm]
  unfold stripS
  rw [if_pos hg, hg]
 ·rw [if_neg hg]
  have hg' : x.f1 = false := by cases h : x.f1 with
   | true => exact absurd h hg
   | false => rfl
  have hm : fmtN n x = n + 1 := by unfold fmtN; rw [if_neg hg]
  obtain ⟨b', hb'⟩ := placeW_append (numW x.f0 32) (numW x.f2 10) b
  obtain ⟨r1, e1, e2⟩ := listS_num len 32 x.f0 b (placeW b' (numW x.f2 10) ++ rest) { r with at_ := a + (itoa (fmtN n x)).length } hr g0
  obtain ⟨r', e3, e4⟩ := listS_num len 10 x.f2 b' rest r1 e2 g2
  refine ⟨r', ?_, e4⟩
  rw [hb', List.append_assoc]
  obtain ⟨sec, hsec⟩ : ∃ z, (peekT len (placeW b (numW x.f0 32) ++ (placeW b' (numW x.f2 10) ++ rest))).1 = z := ⟨_, rfl⟩
  have hs : sec ≠ [] ∧ sec ≠ [100] := by
   rw [← hsec]
   cases hf : x.f0 with
   | nil => exact ⟨by show [48] ≠ []; simp, by show ([48] : List UInt8) ≠ [100]; decide⟩
   | cons y l => exact ⟨itoa_ne y, itoa_ne_d y⟩
  rw [oneS_eq (sec := sec) (gone := false) (n1 := n + 1) (S2 := { r with at_ := a + (itoa (fmtN n x)).length }) (S3 := { r with at_ := a + (itoa (fmtN n x)).length }) (S4 := { r with at_ := a + (itoa (fmtN n x)).length }) (ts3 := placeW b (numW x.f0 32) ++ (placeW b' (numW x.f2 10) ++ rest)) (c := (r1, x.f0, placeW b' (numW x.f2 10) ++ rest)) (h := (r', x.f2, rest)) hv rfl hsec (by rw [if_neg hs.1, if_neg hs.2]) (by rw [if_neg hs.2]) (by rw [if_neg (fun h => h.elim hs.1 hs.2)]) (by rw [if_pos hm]) (decide_eq_false hs.2) (by rw [if_neg (by decide)]; exact e1) e3]
  rw [hm]
  unfold stripS
  rw [if_neg hg, hg']
theorem parseS_ok (len : Nat) : ∀ (p : List Stp) (f : Nat) (n : Int) (a : Nat) (r : RS), r.e = 0 → p.length ≤ f → (∀ x ∈ p, Good x) → 0 ≤ n → n + p.length ≤ 999999999 → ∃ r' : RS, parseS len f n r (placeW a (wordsL n p)) = (r', p.map stripS) ∧ r'.e = 0
 | [], f, n, a, r, hr, _, _, _, _ => by
  refine ⟨r, ?_, hr⟩
  cases f <;> rfl
 | x :: p, 0, n, a, r, hr, hf, _, _, _ => by simp at hf
 | x :: p, f + 1, n, a, r, hr, hf, hg, h0, h1 => by
  simp only [List.length_cons] at hf h1
  have hm : 0 ≤ fmtN n x ∧ fmtN n x ≤ n + 1 := by unfold fmtN; split <;> omega
  obtain ⟨b', hb'⟩ := placeW_append (tailW x) (wordsL (fmtN n x) p) (a + (itoa (fmtN n x)).length + 1)
  obtain ⟨r1, e1, e2⟩ := oneS_ok len n x (hg x List.mem_cons_self) hm.1 (by omega) a (a + (itoa (fmtN n x)).length + 1) (placeW b' (wordsL (fmtN n x) p)) r hr
  obtain ⟨r', e3, e4⟩ := parseS_ok len p f (fmtN n x) b' r1 e2 (by omega) (fun y hy => hg y (List.mem_cons_of_mem _ hy)) hm.1 (by omega)
  refine ⟨r', ?_, e4⟩
  show parseS len (f + 1) n r ((a, itoa (fmtN n x)) :: placeW (a + (itoa (fmtN n x)).length + 1) (tailW x ++ wordsL (fmtN n x) p)) = _
  rw [hb', parseS, if_pos hr, e1]
  show ((parseS len f (fmtN n x) r1 (placeW b' (wordsL (fmtN n x) p))).1, stripS x :: (parseS len f (fmtN n x) r1 (placeW b' (wordsL (fmtN n x) p))).2) = _
  rw [e3]; rfl
theorem num_le : ∀ (l : List Int), (∀ y ∈ l, Lit9 y) → (l.flatMap (fun x => itoa x ++ [32])).length ≤ 11 * l.length
 | [], _ => by simp
 | y :: l, h => by
  have := num_le l (fun z hz => h z (List.mem_cons_of_mem _ hz))
  obtain ⟨_, h1, h2⟩ := h y List.mem_cons_self
  have := itoa_le h1 h2
  simp only [List.flatMap_cons, List.length_append, List.length_cons, List.length_nil] at *
  omega
theorem fmt_le : ∀ (p : List Stp) (n : Int), (∀ x ∈ p, Good x) → 0 ≤ n → n + p.length ≤ 999999999 → (fmtL n p).length ≤ 700 * p.length
 | [], n, _, _, _ => by simp [fmtL]
 | x :: p, n, hg, h0, h1 => by
  simp only [List.length_cons] at h1 ⊢
  obtain ⟨g0, g2, l0, l2⟩ := hg x List.mem_cons_self
  have hm : 0 ≤ fmtN n x ∧ fmtN n x ≤ n + 1 := by unfold fmtN; split <;> omega
  have ih := fmt_le p (fmtN n x) (fun y hy => hg y (List.mem_cons_of_mem _ hy)) hm.1 (by omega)
  have k0 := num_le _ g0
  have k2 := num_le _ g2
  have hi := itoa_le (x := fmtN n x) (by omega) (by omega)
  have hx : (fmtX n x).length ≤ 700 := by
   unfold fmtX numL
   simp only [List.length_append, List.length_singleton]
   split
   ·simp only [List.length_singleton]; omega
   ·simp only [List.length_append, List.length_singleton]; omega
  rw [fmtL, List.length_append]
  omega
theorem parse_format (n : Int) (p : List Stp) (h0 : 0 ≤ n) (h1 : n ≤ 16384) (hl : p.length ≤ 80) (hg : ∀ x ∈ p, Good x) :
  formatF n p = (fmtL n p, 0) ∧ ∃ ts, Tk (fmtL n p) 0 ts ∧ parseT (fmtL n p).length n ts = (p.map stripS, 0, 0) := by
 have hle := fmt_le p n hg h0 (by omega)
 refine ⟨?_, placeW 0 (wordsL n p), ?_, ?_⟩
 ·unfold formatF
  rw [if_neg (by omega), if_neg (by omega)]
 ·have := tk_join (fmtL n p) (wordsL n p) [] [] (ok_words p n) (fun b hb => by cases hb) (by rw [join_words]; rfl)
  exact this
 ·obtain ⟨r', e1, e2⟩ := parseS_ok (fmtL n p).length p (placeW 0 (wordsL n p)).length n 0 ⟨0, 0, 0⟩ rfl (by
   rw [placeW_len]
   clear hl hg h1 h0 hle
   induction p generalizing n with
   | nil => exact Nat.zero_le _
   | cons x p ih =>
    have := ih (fmtN n x)
    simp only [wordsL, List.length_cons, List.length_append]; omega) hg h0 (by omega)
  unfold parseT
  rw [if_neg (by omega), if_neg (by omega), e1, if_pos e2]
end Go.Proofs.YtogicccdngpafaaGreatDoor.NText
end
