/-
  Part 24 of the proof of proofTextMatches_card: walks and lemmas, packed by the session's own wip/pack.py out of its texts and of what the kit's print.sh printed.
-/
import Derived.Test.YtogicccdngpafaaGreatDoorTX16
import Derived.Test.YtogicccdngpafaaGreatDoorTX10
import Derived.Test.YtogicccdngpafaaGreatDoorTX23
set_option linter.unusedVariables false
set_option linter.unusedSimpArgs false
section
set_option maxRecDepth 100000
namespace Go.Proofs.YtogicccdngpafaaGreatDoor.NPlain
open Go Go.RowKit QW.PrintWords QW.PrintLast QW.PrintMore NState
open PSame (rd_T42)
def sT (x : Stp) : PFewT.S42 := ⟨x.f0, x.f1, x.f2⟩
theorem C_sT {w : World} {A : Option Addr} {n : Nat} {p : List Stp} (h : Kd.C kStp w A n p) : Kd.C PFewT.k42 w A n (p.map sT) := by
 obtain ⟨h1, h2, h3⟩ := h
 refine ⟨by simpa using h1, h2, fun hp => ?_⟩
 obtain ⟨ad, h4, h5⟩ := h3 hp
 refine ⟨ad, h4, fun j x hj => ?_⟩
 rw [List.getElem?_map] at hj
 cases hx : p[j]? with
 | none => rw [hx] at hj; cases hj
 | some y =>
  rw [hx] at hj
  obtain rfl := Option.some.inj hj
  exact h5 j y hx
theorem C_ofT {w : World} {A : Option Addr} {n : Nat} {p : List Stp} (h : Kd.C PFewT.k42 w A n (p.map sT)) : Kd.C kStp w A n p := by
 obtain ⟨h1, h2, h3⟩ := h
 refine ⟨by simpa using h1, h2, fun hp => ?_⟩
 obtain ⟨ad, h4, h5⟩ := h3 hp
 refine ⟨ad, h4, fun j x hj => ?_⟩
 exact h5 j (sT x) (by rw [List.getElem?_map, hj]; rfl)
def fewS (most : Nat) (p : List Stp) : List Stp := (p.take most).map fun x => ⟨x.f0.take 12, x.f1, x.f2.take 40⟩
theorem fewS_len (most : Nat) (p : List Stp) : (fewS most p).length ≤ most := by simp [fewS]; omega
theorem fewS_sizes {most : Nat} {p : List Stp} {x : Stp} (h : x ∈ fewS most p) : x.f0.length ≤ 12 ∧ x.f2.length ≤ 40 := by
 unfold fewS at h
 obtain ⟨y, _, rfl⟩ := List.mem_map.1 h
 simp; omega
theorem rdFT {p : List Stp} {i : Nat} (h : i < p.length) : PFewT.rd_T42 (p.map sT) (i : Int) = sT p[i] := by simp [PFewT.rd_T42, List.getD, h]
theorem fewS_ev (most : Nat) (hm : most ≤ 100000) (p : List Stp) : Ev (fun k => PFewT.nfT.f k (p.map sT) (most : Int)) ((fewS most p).map sT) := by
 have key : ∀ i : Nat, i ≤ min most p.length → Ev (fun k => PFewT.nfT.l0 k (p.map sT) (most : Int) ((fewS i p).map sT) (i : Int)) ((fewS most p).map sT) := by
  refine down ?_ ?_
  ·refine Ev.succ ?_
   simp only [PFewT.nfT.l0]
   have e : fewS (min most p.length) p = fewS most p := by
    unfold fewS
    congr 1
    rw [List.take_eq_take_iff]
    omega
   rw [e]
   by_cases h : most < p.length
   ·exact Ev.pos (by rw [List.length_map]; omega) (Ev.neg (by omega) (Ev.pure _))
   ·exact Ev.neg (by rw [List.length_map]; omega) (Ev.pure _)
  ·intro i hi ih
   refine Ev.succ ?_
   simp only [PFewT.nfT.l0]
   have hic : i < p.length := by omega
   rw [rdFT hic, wrap_succ (n := 100000) (by omega) (by omega)]
   have h1 : mn (((sT p[i]).f0.length : Nat) : Int) 12 = ((min p[i].f0.length 12 : Nat) : Int) := by simp only [sT]; unfold mn; split <;> omega
   have h2 : mn (((sT p[i]).f2.length : Nat) : Int) 40 = ((min p[i].f2.length 40 : Nat) : Int) := by simp only [sT]; unfold mn; split <;> omega
   rw [h1, h2]
   have hl := fewS_len i p
   have g1 : (sT p[i]).f0.length = p[i].f0.length := rfl
   have g2 : (sT p[i]).f2.length = p[i].f2.length := rfl
   refine Ev.pos (by rw [List.length_map]; omega) (Ev.pos (by omega) (Ev.pos (by omega) (Ev.pos (by omega) (Ev.pos (by omega) (Ev.pos (by simp; omega) (Ev.pos (by omega) (Ev.pos (by omega) (Ev.pos (by simp; omega) (Ev.pos (by rw [List.length_map]; omega) ?_)))))))))
   have e : (fewS i p).map sT ++ [(⟨([] : List Int) ++ (sT p[i]).f0.take ((min p[i].f0.length 12 : Nat) : Int).toNat, (sT p[i]).f1, ([] : List Int) ++ (sT p[i]).f2.take ((min p[i].f2.length 40 : Nat) : Int).toNat⟩ : PFewT.S42)] = (fewS (i + 1) p).map sT := by
    unfold fewS
    rw [List.take_succ_eq_append_getElem hic, List.map_append, List.map_append]
    congr 1
    simp only [List.map_cons, List.map_nil, List.nil_append, Int.toNat_natCast, sT]
    congr 2
    ·rw [List.take_eq_take_iff]; omega
    ·rw [List.take_eq_take_iff]; omega
   rw [e]
   exact ih
 exact key 0 (Nat.zero_le _)
theorem eqIntsS_ev0 (l : List Int) (hl : l.length ≤ 1000000000) : ∀ i : Nat, i ≤ l.length → Ev (fun k => PSame.netlabref32_EqInts.l0 k l l (i : Int)) true := by
 refine down ?_ ?_
 ·refine Ev.succ ?_
  simp only [PSame.netlabref32_EqInts.l0]
  exact Ev.neg (by omega) (Ev.pure _)
 ·intro i hi ih
  refine Ev.succ ?_
  simp only [PSame.netlabref32_EqInts.l0]
  refine Ev.pos (by omega) (Ev.pos (by omega) (Ev.pos (by omega) ?_))
  rw [wrap_succ hi (by omega)]
  simp only [if_true]
  exact ih
theorem eqIntsS_ev (l : List Int) (hl : l.length ≤ 1000000000) : Ev (fun k => PSame.netlabref32_EqInts.f k l l) true := by
 simp only [PSame.netlabref32_EqInts.f]
 exact Ev.pos trivial (eqIntsS_ev0 l hl 0 (Nat.zero_le _))
theorem same_ev (p : List Stp) (hp : p.length ≤ 1000000000) (hx : ∀ x ∈ p, x.f0.length ≤ 1000000000 ∧ x.f2.length ≤ 1000000000) : Ev (fun k => PSame.netlabref33_Same.f k p p) true := by
 have key : ∀ i : Nat, i ≤ p.length → Ev (fun k => PSame.netlabref33_Same.l0 k p p (i : Int)) true := by
  refine down ?_ ?_
  ·refine Ev.succ ?_
   simp only [PSame.netlabref33_Same.l0]
   exact Ev.neg (by omega) (Ev.pure _)
  ·intro i hi ih
   refine Ev.succ ?_
   simp only [PSame.netlabref33_Same.l0]
   have hs := hx _ (List.getElem_mem hi)
   rw [rdS hi, wrap_succ hi (by omega)]
   refine Ev.pos (by omega) (Ev.pos (by omega) (Ev.pos (by omega) (Ev.neg (by simp) ?_)))
   exact Ev.bind (eqIntsS_ev _ hs.1) (Ev.pos rfl (Ev.bind (eqIntsS_ev _ hs.2) (Ev.pos rfl ih)))
 simp only [PSame.netlabref33_Same.f]
 exact Ev.pos trivial (key 0 (Nat.zero_le _))
end Go.Proofs.YtogicccdngpafaaGreatDoor.NPlain
end
