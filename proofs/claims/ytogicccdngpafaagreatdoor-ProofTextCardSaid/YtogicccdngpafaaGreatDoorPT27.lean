/-
  Part 27 of the proof of proofText_card: walks and lemmas, packed by the session's own wip/pack.py out of its texts and of what the kit's print.sh printed.
-/
import Derived.Test.YtogicccdngpafaaGreatDoorPT3
import Derived.Test.YtogicccdngpafaaGreatDoorPT20
import Derived.Test.YtogicccdngpafaaGreatDoorRows
import Derived.Shelf.Strconv.Itoa3
import Derived.Lib.SmallJoins
import Derived.Lib.LaidTab
import Derived.LaidSub
import Derived.MakeChecks
import Derived.LaidHandle
set_option linter.unusedVariables false
set_option linter.unusedSimpArgs false
section
set_option maxRecDepth 100000
namespace Go.Proofs.YtogicccdngpafaaGreatDoor.NText
open Go Go.RowKit Go.Shelf Go.Lib
open NState (ItoaAt below_grow)
abbrev TabOK (w : World) : Prop := TabIs Tryz.prog w "internal/strconv.uint64pow10" .u64 pow10Tab
theorem tab_glob : Tryz.prog.globalNamed "internal/strconv.uint64pow10" = some (Tryz.laysM171_ren.g 0) := by kernel_rfl
theorem TabOK.below {w w' : World} (h : TabOK w) (hb : Below w.heap.size w w') : TabOK w' := Joins.tab_stays tab_glob h hb (Nat.le_refl _)
theorem itoa_at (w : World) (h : TabOK w) (x : Int) (h0 : -9223372036854775808 ≤ x) (h1 : x ≤ 9223372036854775807) : ItoaAt w x := fun W hb =>
 (Any.strconv_Itoa (P := Tryz.prog) (ρ := Tryz.laysM171_ren) Tryz.laysM171 x h0 h1 W (h.below hb)).mono (by
  rintro e w' ⟨rfl, k, os, rfl⟩
  exact ⟨rfl, below_grow _ _ _⟩)
theorem iface_of_trod {W : World} {t : TypeId} {fuel : Nat} {d : DataW Unit} {p : List MemPlace} {u : TypeDesc} (ht : Tryz.prog.underlying t = some u) (hu : ∃ ms, u = .interface ms) (cs : List Value) (h : DataW.trod (fun _ => ()) Tryz.prog W 0 (fun _ => true) false fuel t cs = some (d, p)) :
  ∃ ev, cs = [ev] ∧ (ev = .nilIface ∨ ∃ te pe, ev = .iface te pe) := by
 obtain ⟨ms, rfl⟩ := hu
 cases fuel with
 | zero => simp [DataW.trod] at h
 | succ fuel =>
  unfold DataW.trod at h
  rw [ht] at h
  split at h
  all_goals first
   | exact ⟨_, rfl, .inl rfl⟩
   | exact ⟨_, rfl, .inr ⟨_, _, rfl⟩⟩
   | (simp_all; done)
theorem iface_of_laid {W : World} {name : String} {d : DataW Unit} {g t : Nat} {u : TypeDesc} (hg : Tryz.prog.globalNamed name = some g) (hty : (Tryz.prog.globals[g]?).map (·.type) = some t) (ht : Tryz.prog.underlying t = some u) (hu : ∃ ms, u = .interface ms) (h : laidMet Tryz.prog [(name, d)] W) :
  ∃ ev, W.cell? ⟨g, 0, none⟩ = some ev ∧ (ev = .nilIface ∨ ∃ te pe, ev = .iface te pe) := by
 obtain ⟨ps, ⟨g', t', cs, fuel, p, q, hg', ht', hvar, hd, _, _⟩, _⟩ := h
 obtain rfl := Option.some.inj (hg.symm.trans hg')
 obtain rfl := Option.some.inj (hty.symm.trans ht')
 obtain ⟨ev, hcs, hev⟩ := iface_of_trod ht hu cs.toList hd
 refine ⟨ev, ?_, hev⟩
 have h0 := World.var?_cell hg hvar 0
 rw [h0, ← Array.getElem?_toList, hcs]; rfl
theorem tab_of_laid {W : World} (h : laidMetH Tryz.prog Rows.proofTextMatchesRow.laid W) : TabOK W := by
 have h1 := h.filter (fun x => x.1 == "internal/strconv.uint64pow10")
 have e : Rows.proofTextMatchesRow.laid.filter (fun x => x.1 == "internal/strconv.uint64pow10") = [("internal/strconv.uint64pow10", tabData .u64 pow10Tab)] := by kernel_rfl
 rw [e, MakeChecks.laidMetH_plain _ _ _ (by kernel_rfl)] at h1
 exact tabIs_of_head (t := 224) (e := 47) (n := 20) tab_glob (by kernel_rfl) (by kernel_rfl) (by kernel_rfl) (by kernel_rfl) (by kernel_rfl) h1
theorem gok_of_laid {W : World} (h : laidMetH Tryz.prog Rows.proofTextMatchesRow.laid W) : GOK W := by
 constructor
 ·have h1 := h.filter (fun x => x.1 == "strconv.ErrSyntax")
  have e : Rows.proofTextMatchesRow.laid.filter (fun x => x.1 == "strconv.ErrSyntax") = [("strconv.ErrSyntax", Rows.laid_strconv_ErrSyntax)] := by kernel_rfl
  rw [e, MakeChecks.laidMetH_plain _ _ _ (by kernel_rfl)] at h1
  exact iface_of_laid (g := Tryz.laysPu14_ren.g 0) (t := 108) (by kernel_rfl) (by kernel_rfl) Tryz.underlying108 ⟨_, rfl⟩ h1
 ·have h1 := h.filter (fun x => x.1 == "strconv.ErrRange")
  have e : Rows.proofTextMatchesRow.laid.filter (fun x => x.1 == "strconv.ErrRange") = [("strconv.ErrRange", Rows.laid_strconv_ErrRange)] := by kernel_rfl
  rw [e, MakeChecks.laidMetH_plain _ _ _ (by kernel_rfl)] at h1
  exact iface_of_laid (g := Tryz.laysPu14_ren.g 1) (t := 108) (by kernel_rfl) (by kernel_rfl) Tryz.underlying108 ⟨_, rfl⟩ h1
end Go.Proofs.YtogicccdngpafaaGreatDoor.NText
end
