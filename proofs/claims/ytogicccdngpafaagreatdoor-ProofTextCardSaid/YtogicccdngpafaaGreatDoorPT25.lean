/-
  Part 25 of the proof of proofText_card: walks and lemmas, packed by the session's own wip/pack.py out of its texts and of what the kit's print.sh printed.
-/
import Derived.Test.YtogicccdngpafaaGreatDoorPT16
import Derived.Test.YtogicccdngpafaaGreatDoorPT10
import Derived.Test.YtogicccdngpafaaGreatDoorPT8
import Derived.Test.YtogicccdngpafaaGreatDoorPT24
set_option linter.unusedVariables false
set_option linter.unusedSimpArgs false
section
set_option maxRecDepth 100000
namespace Go.Proofs.YtogicccdngpafaaGreatDoor.NPlain
open Go Go.RowKit QW.PrintWords QW.PrintLast QW.PrintMore NState
open PSame (rd_T42)
def sT (x : Stp) : PFewT.S42 := ⟨x.f0, x.f1, x.f2⟩
theorem C_sT {w : World} {A : Option Addr} {n : Nat} {p : List Stp} (h : Kd.C kStp w A n p) : Kd.C PFewT.k42 w A n (p.map sT) := by
 obtain ⟨h1, h2, h3⟩ := h
 refine ⟨by simpa using h1, h2, fun hp => ?_⟩
 obtain ⟨ad, h4, h5⟩ := h3 hp
 refine ⟨ad, h4, fun j x hj => ?_⟩
 rw [List.getElem?_map] at hj
 cases hx : p[j]? with
 | none => rw [hx] at hj; cases hj
 | some y =>
  rw [hx] at hj
  obtain rfl := Option.some.inj hj
  exact h5 j y hx
theorem C_ofT {w : World} {A : Option Addr} {n : Nat} {p : List Stp} (h : Kd.C PFewT.k42 w A n (p.map sT)) : Kd.C kStp w A n p := by
 obtain ⟨h1, h2, h3⟩ := h
 refine ⟨by simpa using h1, h2, fun hp => ?_⟩
 obtain ⟨ad, h4, h5⟩ := h3 hp
 refine ⟨ad, h4, fun j x hj => ?_⟩
 exact h5 j (sT x) (by rw [List.getElem?_map, hj]; rfl)
def fewS (most : Nat) (p : List Stp) : List Stp := (p.take most).map fun x => ⟨x.f0.take 12, x.f1, x.f2.take 40⟩
theorem fewS_len (most : Nat) (p : List Stp) : (fewS most p).length ≤ most := by simp [fewS]; omega
theorem fewS_sizes {most : Nat} {p : List Stp} {x : Stp} (h : x ∈ fewS most p) : x.f0.length ≤ 12 ∧ x.f2.length ≤ 40 := by
 unfold fewS at h
 obtain ⟨y, _, rfl⟩ := List.mem_map.1 h
 simp; omega
theorem rdFT {p : List Stp} {i : Nat} (h : i < p.length) : PFewT.rd_T42 (p.map sT) (i : Int) = sT p[i] := by simp [PFewT.rd_T42, List.getD, h]
theorem fewS_ev (most : Nat) (hm : most ≤ 100000) (p : List Stp) : Ev (fun k => PFewT.nfT.f k (p.map sT) (most : Int)) ((fewS most p).map sT) := by
 have key : ∀ i : Nat, i ≤ min most p.length → Ev (fun k => PFewT.nfT.l0 k (p.map sT) (most : Int) ((fewS i p).map sT) (i : Int)) ((fewS most p).map sT) := by
  refine down ?_ ?_
  ·refine Ev.succ ?_
   simp only [PFewT.nfT.l0]
   have e : fewS (min most p.length) p = fewS most p := by
    unfold fewS
    congr 1
    rw [List.take_eq_take_iff]
    omega
   rw [e]
   by_cases h : most < p.length
   ·exact Ev.pos (by rw [List.length_map]; omega) (Ev.neg (by omega) (Ev.pure _))
   ·exact Ev.neg (by rw [List.length_map]; omega) (Ev.pure _)
  ·intro i hi ih
   refine Ev.succ ?_
   simp only [PFewT.nfT.l0]
   have hic : i < p.length := by omega
   rw [rdFT hic, wrap_succ (n := 100000) (by omega) (by omega)]
   have h1 : mn (((sT p[i]).f0.length : Nat) : Int) 12 = ((min p[i].f0.length 12 : Nat) : Int) := by simp only [sT]; unfold mn; split <;> omega
   have h2 : mn (((sT p[i]).f2.length : Nat) : Int) 40 = ((min p[i].f2.length 40 : Nat) : Int) := by simp only [sT]; unfold mn; split <;> omega
   rw [h1, h2]
   have hl := fewS_len i p
   have g1 : (sT p[i]).f0.length = p[i].f0.length := rfl
   have g2 : (sT p[i]).f2.length = p[i].f2.length := rfl
   refine Ev.pos (by rw [List.length_map]; omega) (Ev.pos (by omega) (Ev.pos (by omega) (Ev.pos (by omega) (Ev.pos (by omega) (Ev.pos (by simp; omega) (Ev.pos (by omega) (Ev.pos (by omega) (Ev.pos (by simp; omega) (Ev.pos (by rw [List.length_map]; omega) ?_)))))))))
   have e : (fewS i p).map sT ++ [(⟨([] : List Int) ++ (sT p[i]).f0.take ((min p[i].f0.length 12 : Nat) : Int).toNat, (sT p[i]).f1, ([] : List Int) ++ (sT p[i]).f2.take ((min p[i].f2.length 40 : Nat) : Int).toNat⟩ : PFewT.S42)] = (fewS (i + 1) p).map sT := by
    unfold fewS
    rw [List.take_succ_eq_append_getElem hic, List.map_append, List.map_append]
    congr 1
    simp only [List.map_cons, List.map_nil, List.nil_append, Int.toNat_natCast, sT]
    congr 2
    ·rw [List.take_eq_take_iff]; omega
    ·rw [List.take_eq_take_iff]; omega
   rw [e]
   exact ih
 exact key 0 (Nat.zero_le _)
theorem eqIntsS_ev0 (l : List Int) (hl : l.length ≤ 1000000000) : ∀ i : Nat, i ≤ l.length → Ev (fun k => PSame.netlabref32_EqInts.l0 k l l (i : Int)) true := by
 refine down ?_ ?_
 ·refine Ev.succ ?_
  simp only [PSame.netlabref32_EqInts.l0]
  exact Ev.neg (by omega) (Ev.pure _)
 ·intro i hi ih
  refine Ev.succ ?_
  simp only [PSame.netlabref32_EqInts.l0]
  refine Ev.pos (by omega) (Ev.pos (by omega) (Ev.pos (by omega) ?_))
  rw [wrap_succ hi (by omega)]
  simp only [if_true]
  exact ih
theorem eqIntsS_ev (l : List Int) (hl : l.length ≤ 1000000000) : Ev (fun k => PSame.netlabref32_EqInts.f k l l) true := by
 simp only [PSame.netlabref32_EqInts.f]
 exact Ev.pos trivial (eqIntsS_ev0 l hl 0 (Nat.zero_le _))
theorem same_ev (p : List Stp) (hp : p.length ≤ 1000000000) (hx : ∀ x ∈ p, x.f0.length ≤ 1000000000 ∧ x.f2.length ≤ 1000000000) : Ev (fun k => PSame.netlabref33_Same.f k p p) true := by
 have key : ∀ i : Nat, i ≤ p.length → Ev (fun k => PSame.netlabref33_Same.l0 k p p (i : Int)) true := by
  refine down ?_ ?_
  ·refine Ev.succ ?_
   simp only [PSame.netlabref33_Same.l0]
   exact Ev.neg (by omega) (Ev.pure _)
  ·intro i hi ih
   refine Ev.succ ?_
   simp only [PSame.netlabref33_Same.l0]
   have hs := hx _ (List.getElem_mem hi)
   rw [rdS hi, wrap_succ hi (by omega)]
   refine Ev.pos (by omega) (Ev.pos (by omega) (Ev.pos (by omega) (Ev.neg (by simp) ?_)))
   exact Ev.bind (eqIntsS_ev _ hs.1) (Ev.pos rfl (Ev.bind (eqIntsS_ev _ hs.2) (Ev.pos rfl ih)))
 simp only [PSame.netlabref33_Same.f]
 exact Ev.pos trivial (key 0 (Nat.zero_le _))
end Go.Proofs.YtogicccdngpafaaGreatDoor.NPlain
end
section
set_option maxRecDepth 100000
namespace Go.Proofs.YtogicccdngpafaaGreatDoor.PFewT
open Go Go.RowKit QW.PrintWords QW.PrintLast QW.PrintMore
theorem get_rd (l : List Int) (k : Int) (h : k.toNat < l.length) : l[k.toNat]? = some (rdOf 0 l k) := by
 unfold rdOf
 rw [List.getElem?_eq_getElem h]; simp [List.getD, h]
theorem sep_at {W : World} {base n cap : Nat} {ad : Addr} {xs : List S42} (h : Kd.S kSep 42 W base (fun _ => True) (.slice (some ad) n cap) xs) (i : Int) (h0 : 0 ≤ i) (h1 : i < n) :
  ∃ (oki : Nat → Prop) (v0 v2 : Value), W.cell? (ad.add (i.toNat * 3)) = some v0 ∧ W.cell? ⟨(ad.add (i.toNat * 3)).block, (ad.add (i.toNat * 3)).off + 2, none⟩ = some v2 ∧
   (Kd.int .i64).R 3 W base oki v0 (rd_T42 xs i).f0 ∧ (Kd.int .i64).R 3 W base oki v2 (rd_T42 xs i).f2 ∧ (∀ k, v0.ownBlock = some k → some k ≠ v2.ownBlock) ∧
   ∀ {w1 : World} {row : Option Nat} {x' : S42}, W.grownBy w1 row → (∀ k, row = some k → oki k) → kSep.M w1 base oki x' [v0, .bool (rd_T42 xs i).f1, v2] → Kd.S kSep 42 w1 base (fun _ => True) (.slice (some ad) n cap) (xs.set i.toNat x') := by
 obtain ⟨oki, c, _, hM, hcc, _, hbk⟩ := Kd.S_borrow h z42 i h0 h1
 obtain ⟨v0, v2, rfl, r0, r2, hs⟩ := kSep_open hM
 have hc : ∀ j u, [v0, Value.bool (rd_T42 xs i).f1, v2][j]? = some u → W.cell? (ad.add (i.toNat * 3 + j)) = some u := hcc
 exact ⟨oki, v0, v2, hc 0 _ rfl, by rw [← add_field _ _ 2 (by omega)]; exact hc 2 _ rfl, r0, r2, hs, hbk⟩
theorem sep_f0 {w0 W : World} {n cap : Nat} {ad : Addr} {xs : List S42} (h : Kd.S kSep 42 W w0.heap.size (fun _ => True) (.slice (some ad) n cap) xs) (HB : Below w0.heap.size w0 W) (i k : Int) (h0 : 0 ≤ i) (h1 : i < n) (k0 : 0 ≤ k) (k1 : k < ((rd_T42 xs i).f0.length : Nat)) :
  ∃ (g c : Nat) (y : Int), W.cell? (ad.add (i.toNat * 3)) = some (.slice (some ⟨g, 0, none⟩) (rd_T42 xs i).f0.length c) ∧ W.cell? ⟨g, k.toNat, none⟩ = some (.int .i64 y) ∧ (rd_T42 xs i).f0[k.toNat]? = some y ∧
   ∀ W1 : World, Below W.heap.size W W1 → W1.frozen? ⟨g, k.toNat, none⟩ = false ∧ ∀ u : Int,
    Kd.S kSep 42 (W1.setCell ⟨g, k.toNat, none⟩ (.int .i64 u)) w0.heap.size (fun _ => True) (.slice (some ad) n cap) (xs.set i.toNat ⟨(rd_T42 xs i).f0.set k.toNat u, (rd_T42 xs i).f1, (rd_T42 xs i).f2⟩) ∧
    Below w0.heap.size w0 (W1.setCell ⟨g, k.toNat, none⟩ (.int .i64 u)) := by
 obtain ⟨oki, v0, v2, c0, c2, r0, r2, hs, _⟩ := sep_at h i h0 h1
 obtain ⟨g, cap0, rfl, hbg, _, _⟩ := Kd.R_form r0 (by omega)
 obtain ⟨hc, _⟩ := Kd.R_celln 0 r0 k k0 k1
 refine ⟨g, cap0, _, c0, hc, get_rd _ _ (by omega), fun W1 hb1 => ?_⟩
 obtain ⟨okj, v0', v2', c0', c2', r0', r2', hs', hbk⟩ := sep_at (Kd.S_below h hb1) i h0 h1
 obtain rfl : v0' = _ := Option.some.inj (c0'.symm.trans ((hb1.cell (World.block_lt_of_cell? W _ c0)).trans c0))
 refine ⟨(Kd.R_celln 0 r0' k k0 k1).2, fun u => ?_⟩
 have HP := Kd.R_putg r0' k u
 refine ⟨hbk HP.2 (fun j e => by injection e with e; subst e; exact r0'.1 _ rfl) (kSep_mk (k42_mkM _ _ _ ⟨(rd_T42 xs i).f0.set k.toNat u, (rd_T42 xs i).f1, (rd_T42 xs i).f2⟩ ?_ ?_) hs'), bws (bwt HB hb1) hbg⟩
 ·have h3 := HP.1
  simp only [List.length_set]
  exact h3
 ·refine Kd.R_mono (Kd.R_grown (Kd.R_tight rfl r2') HP.2 (fun j hj e => ?_)) (fun j hj => r2'.1 j hj.symm)
  exact hs' g rfl (e ▸ hj)
theorem sep_f2 {w0 W : World} {n cap : Nat} {ad : Addr} {xs : List S42} (h : Kd.S kSep 42 W w0.heap.size (fun _ => True) (.slice (some ad) n cap) xs) (HB : Below w0.heap.size w0 W) (i k : Int) (h0 : 0 ≤ i) (h1 : i < n) (k0 : 0 ≤ k) (k1 : k < ((rd_T42 xs i).f2.length : Nat)) :
  ∃ (g c : Nat) (y : Int), W.cell? ⟨(ad.add (i.toNat * 3)).block, (ad.add (i.toNat * 3)).off + 2, none⟩ = some (.slice (some ⟨g, 0, none⟩) (rd_T42 xs i).f2.length c) ∧ W.cell? ⟨g, k.toNat, none⟩ = some (.int .i64 y) ∧ (rd_T42 xs i).f2[k.toNat]? = some y ∧
   ∀ W1 : World, Below W.heap.size W W1 → W1.frozen? ⟨g, k.toNat, none⟩ = false ∧ ∀ u : Int,
    Kd.S kSep 42 (W1.setCell ⟨g, k.toNat, none⟩ (.int .i64 u)) w0.heap.size (fun _ => True) (.slice (some ad) n cap) (xs.set i.toNat ⟨(rd_T42 xs i).f0, (rd_T42 xs i).f1, (rd_T42 xs i).f2.set k.toNat u⟩) ∧
    Below w0.heap.size w0 (W1.setCell ⟨g, k.toNat, none⟩ (.int .i64 u)) := by
 obtain ⟨oki, v0, v2, c0, c2, r0, r2, hs, _⟩ := sep_at h i h0 h1
 obtain ⟨g, cap0, rfl, hbg, _, _⟩ := Kd.R_form r2 (by omega)
 obtain ⟨hc, _⟩ := Kd.R_celln 0 r2 k k0 k1
 refine ⟨g, cap0, _, c2, hc, get_rd _ _ (by omega), fun W1 hb1 => ?_⟩
 obtain ⟨okj, v0', v2', c0', c2', r0', r2', hs', hbk⟩ := sep_at (Kd.S_below h hb1) i h0 h1
 obtain rfl : v2' = _ := Option.some.inj (c2'.symm.trans ((hb1.cell (World.block_lt_of_cell? W _ c2)).trans c2))
 refine ⟨(Kd.R_celln 0 r2' k k0 k1).2, fun u => ?_⟩
 have HP := Kd.R_putg r2' k u
 refine ⟨hbk HP.2 (fun j e => by injection e with e; subst e; exact r2'.1 _ rfl) (kSep_mk (k42_mkM _ _ _ ⟨(rd_T42 xs i).f0, (rd_T42 xs i).f1, (rd_T42 xs i).f2.set k.toNat u⟩ ?_ ?_) hs'), bws (bwt HB hb1) hbg⟩
 ·refine Kd.R_mono (Kd.R_grown (Kd.R_tight rfl r0') HP.2 (fun j hj e => ?_)) (fun j hj => r0'.1 j hj.symm)
  exact hs' j hj.symm e
 ·have h3 := HP.1
  simp only [List.length_set]
  exact h3
theorem sep_gone {w0 W : World} {n cap : Nat} {ad : Addr} {xs : List S42} (h : Kd.R k42 42 W w0.heap.size (fun _ => True) (.slice (some ad) n cap) xs) (HB : Below w0.heap.size w0 W) (i : Int) (h0 : 0 ≤ i) (h1 : i < n) :
  ∃ v0 : Value, W.cell? (ad.add (i.toNat * 3)) = some v0 ∧ W.cell? ⟨(ad.add (i.toNat * 3)).block, (ad.add (i.toNat * 3)).off + 1, none⟩ = some (.bool (rd_T42 xs i).f1) ∧ W.frozen? (ad.add (i.toNat * 3)) = false ∧
   Kd.R k42 42 (W.setCell (ad.add (i.toNat * 3)) (.slice none 0 0)) w0.heap.size (fun _ => True) (.slice (some ad) n cap) (xs.set i.toNat ⟨[], (rd_T42 xs i).f1, (rd_T42 xs i).f2⟩) ∧
   Below w0.heap.size w0 (W.setCell (ad.add (i.toNat * 3)) (.slice none 0 0)) := by
 obtain ⟨g, rfl⟩ := Kd.R_head h
 obtain ⟨c, hcl, hM, hcc, hfz⟩ := Kd.R_elem h z42 i h0 h1
 obtain ⟨v0, v2, rfl, r0, r2⟩ := k42_openM hM
 have hc : ∀ j u, [v0, Value.bool (rd_T42 xs i).f1, v2][j]? = some u → W.cell? ⟨g, i.toNat * 3 + j, none⟩ = some u := hcc
 have hf : ∀ j, W.frozen? ⟨g, i.toNat * 3 + j, none⟩ = false := hfz
 rw [add_plain]
 have hbg := Kd.R_base h g (by simp [Value.ownBlock])
 have key := (Kd.R_seg (seg := [.slice none 0 0]) (j := 0) (x' := (⟨[], (rd_T42 xs i).f1, (rd_T42 xs i).f2⟩ : S42)) (okp := fun k => True ∧ k ≠ g) h i h0 h1 hcl hcc (by show 0 + 1 ≤ 3; omega) (by
  show k42.M _ _ _ _ [.slice none 0 0, .bool (rd_T42 xs i).f1, v2]
  exact k42_mkM _ _ _ ⟨[], (rd_T42 xs i).f1, (rd_T42 xs i).f2⟩ (Kd.R_nil _ _ _ _ _) r2) (fun k hk => hk)).1
 exact ⟨v0, hc 0 _ rfl, hc 1 _ rfl, hf 0, key, bws HB hbg⟩
end Go.Proofs.YtogicccdngpafaaGreatDoor.PFewT
end
