/-
  Part 19 of the proof of proofSound_card: walks and lemmas, packed by the session's own wip/pack.py out of its texts and of what the kit's print.sh printed.
-/
import Derived.Test.YtogicccdngpafaaGreatDoorSA18
import Derived.Test.YtogicccdngpafaaGreatDoorSA14
import Derived.Deep.RegionWith
set_option linter.unusedVariables false
set_option linter.unusedSimpArgs false
section
set_option maxHeartbeats 8000000
set_option maxRecDepth 100000
namespace Go.Proofs.YtogicccdngpafaaGreatDoor.NState
open Go Go.RowKit Go.Shelf QW.PrintWords QW.PrintLast QW.PrintMore NMap
open PSame (S42 k42 rd_T42 at_T42 k42_mkM)
open PTree (netlabref33_negated.calls netlabref33_false1.calls)
open NPlain (growL growL_hit growL_zero growL_succ growL_len false1L false1L_le negL negatedT_ev false1_ev)
theorem results_tmp3 {fn : Func} {t u v : Tmp} (h : fn.results = #[.tmp t, .tmp u, .tmp v]) (tmps : Array Value) (P : Program) (w : World) :
  (results fn tmps).run P w = .ok (.tuple #[tmps.getD t undef, tmps.getD u undef, tmps.getD v undef]) w := by
 simp [results, h]
theorem grown_below {W0 A B : World} {row : Option Nat} (h : W0.grownBy A row) (hb : Below A.heap.size A B) : W0.grownBy B row :=
 ⟨hb.os.trans h.os, hb.tape.trans h.tape, hb.output.trans h.output, Nat.le_trans h.size hb.size, fun k hk hne => (hb.block k (Nat.lt_of_lt_of_le hk h.size)).trans (h.block k hk hne)⟩
theorem grown_set {W0 A : World} {row : Option Nat} (h : W0.grownBy A row) {g : Nat} (hg : W0.heap.size ≤ g) (j : Nat) (u : Value) : W0.grownBy (A.setCell ⟨g, j, none⟩ u) row := by
 have hB : Below 0 A (A.setCell ⟨g, j, none⟩ u) := (Below.refl 0 A).setCell (p := ⟨g, j, none⟩) (Nat.zero_le _) u
 exact ⟨hB.os.trans h.os, hB.tape.trans h.tape, hB.output.trans h.output, Nat.le_trans h.size hB.size, fun k hk hne => (Below.heap_setCell A ⟨g, j, none⟩ u k (by show k ≠ g; omega)).trans (h.block k hk hne)⟩
theorem grown_grown {W0 A B : World} {v0 v : Value} (h : W0.grownBy A v0.ownBlock) (hat : v.ownBlock = v0.ownBlock ∨ ∃ b, v.ownBlock = some b ∧ W0.heap.size ≤ b) (hg : A.grownBy B v.ownBlock) : W0.grownBy B v0.ownBlock := by
 refine ⟨hg.os.trans h.os, hg.tape.trans h.tape, hg.output.trans h.output, Nat.le_trans h.size hg.size, fun k hk hne => (hg.block k (Nat.lt_of_lt_of_le hk h.size) ?_).trans (h.block k hk hne)⟩
 rcases hat with e | ⟨b, e, hb⟩
 ·rw [e]; exact hne
 ·rw [e]; intro he; have := Option.some.inj he; omega
theorem at_at {W0 A : World} {v0 v v' : Value} (hs : W0.heap.size ≤ A.heap.size) (hat : v.ownBlock = v0.ownBlock ∨ ∃ b, v.ownBlock = some b ∧ W0.heap.size ≤ b) (hat' : v'.ownBlock = v.ownBlock ∨ ∃ b, v'.ownBlock = some b ∧ A.heap.size ≤ b) : v'.ownBlock = v0.ownBlock ∨ ∃ b, v'.ownBlock = some b ∧ W0.heap.size ≤ b := by
 rcases hat' with e | ⟨b, e, hb⟩
 ·rw [e]; exact hat
 ·exact .inr ⟨b, e, by omega⟩
theorem R_lit1 (W : World) (xs : List Int) (cs : Array Value) (h : cs = (encs (Value.int .i64) xs).toArray) (hm : xs.length ≤ 1000000) : Kd.R (Kd.int .i64) 3 (W.alloc (.cells cs 3)) W.heap.size (fun _ => True) (.slice (some ⟨W.heap.size, 0, none⟩) xs.length xs.length) xs := by
 subst h
 exact ⟨fun _ _ => trivial, OwnRow.lit W W.heap.size (Kd.reps_scalar xs) (Nat.le_refl _) (by omega)⟩
theorem below_nw (W : World) (o : Obj) : Below W.heap.size W (W.alloc o) := (Below.refl _ _).alloc (Nat.le_refl _) _
theorem hold_l {p : Prop} (h : Hold p) : p := h.out
structure GrowAt (w0 W0 W : World) (c0 gx : Nat) (cc cx : Array Value) (vn vA vp0 vp : Value) (ok : Nat → Prop) (nA A : List Int) (p : List Stp) : Prop where
 reads : Below w0.heap.size w0 W
 grown : W0.grownBy W vp0.ownBlock
 at_ : vp.ownBlock = vp0.ownBlock ∨ ∃ b, vp.ownBlock = some b ∧ W0.heap.size ≤ b
 gxl : W0.heap.size ≤ gx
 hbc : W.heap[c0]? = some (.cells cc 24 (0, 0))
 hbx : W.heap[gx]? = some (.cells cx 42 (0, 0))
 neg : Kd.R (Kd.int .i64) 3 W w0.heap.size (fun k => W0.heap.size ≤ k) vn nA
 lits : Kd.R (Kd.int .i64) 3 W w0.heap.size (fun _ => True) vA A
 p : Kd.R kStp 42 W w0.heap.size (fun k => ok k ∧ k ≠ gx) vp p
section
variable {w0 W0 W B : World} {c0 gx : Nat} {cc cx : Array Value} {vn vA vp0 vp : Value} {ok : Nat → Prop} {nA A : List Int} {p : List Stp}
theorem GrowAt.below (h : GrowAt w0 W0 W c0 gx cc cx vn vA vp0 vp ok nA A p) (hb : Below W.heap.size W B) : GrowAt w0 W0 B c0 gx cc cx vn vA vp0 vp ok nA A p :=
 ⟨bwt h.reads hb, grown_below h.grown hb, h.at_, h.gxl, blk_below h.hbc hb, blk_below h.hbx hb, Kd.R_below h.neg hb, Kd.R_below h.lits hb, Kd.R_below h.p hb⟩
theorem GrowAt.set (h : GrowAt w0 W0 W c0 gx cc cx vn vA vp0 vp ok nA A p) (h0 : w0.heap.size ≤ W0.heap.size) (j : Nat) (u : Value) : GrowAt w0 W0 (W.setCell ⟨gx, j, none⟩ u) c0 gx cc (cx.setIfInBounds j u) vn vA vp0 vp ok nA A p :=
 ⟨bws h.reads (Nat.le_trans h0 h.gxl), grown_set h.grown h.gxl j u, h.at_, h.gxl, blk_far h.hbc (cells_ne h.hbc h.hbx (by decide)) u, blk_put h.hbx j u rfl, Kd.R_set h.neg h.hbx (by decide) j u, Kd.R_set h.lits h.hbx (by decide) j u, Kd.R_far (p := ⟨gx, j, none⟩) h.p (fun _ hk => hk.2) u⟩
theorem GrowAt.next (h : GrowAt w0 W0 W c0 gx cc cx vn vA vp0 vp ok nA A p) {v' : Value} {p' : List Stp} (hb : Below w0.heap.size w0 B) (hp : Kd.R kStp 42 B w0.heap.size (fun k => ok k ∧ k ≠ gx) v' p') (hg : W.grownBy B vp.ownBlock) (hat : v'.ownBlock = vp.ownBlock ∨ ∃ b, v'.ownBlock = some b ∧ W.heap.size ≤ b) :
  GrowAt w0 W0 B c0 gx cc cx vn vA vp0 v' ok nA A p' :=
 ⟨hb, grown_grown h.grown h.at_ hg, at_at h.grown.size h.at_ hat, h.gxl, bkg h.hbc hg (Kd.R_ne h.p h.hbc (by decide)), bkg h.hbx hg (fun he => (h.p.1 gx he.symm).2 rfl), Kd.R_over' h.neg (Kd.R_typed h.p) (by decide) hg, Kd.R_over' h.lits (Kd.R_typed h.p) (by decide) hg, hp⟩
end
def GrowPost (w0 W0 : World) (ok : Nat → Prop) (vp0 : Value) (r : List Stp × Int × Bool) (e : Ending) (W' : World) : Prop :=
 ∃ v, e = .returned (.tuple #[v, .int .i64 r.2.1, .bool r.2.2]) ∧ Kd.R kStp 42 W' w0.heap.size ok v r.1 ∧ W0.grownBy W' vp0.ownBlock ∧ (v.ownBlock = vp0.ownBlock ∨ ∃ b, v.ownBlock = some b ∧ W0.heap.size ≤ b) ∧ Below w0.heap.size w0 W'
theorem R_apart_gx {α β : Type} {d : Kd α} {d' : Kd β} {e e' base b' gx tx : Nat} {ok ok' ok2 : Nat → Prop} {W : World} {v u : Value} {xs : List α} {ys : List β} {cx : Array Value} (h : d.R e W base ok v xs) (ho : d'.R e' W b' ok' u ys) (hx : W.heap[gx]? = some (.cells cx tx (0, 0))) (ht : ∀ q, q ∈ e :: d.E → q ≠ e') (htx : ∀ q, q ∈ e :: d.E → q ≠ tx) (h2 : ∀ k, ok k → ok2 k) :
  d.R e W base (fun k => (ok2 k ∧ k ≠ gx) ∧ some k ≠ u.ownBlock) v xs :=
 Kd.R_mono (Kd.R_bound h) (fun k ⟨h0, _, _, q, hq, cells, hc⟩ => ⟨⟨h2 k h0, fun he => by
  subst he
  rw [hx] at hc; have h3 := htx q hq; cases hc; exact h3 rfl⟩, fun he => by
  obtain ⟨cells', hc'⟩ := Kd.R_typed ho k he.symm
  rw [hc] at hc'; have h3 := ht q hq; cases hc'; exact h3 rfl⟩)
def growR6.T : Bool × List (List Nat × List Nat) := (true, [([], []), ([], []), ([1], [1]), ([2], [2]), ([], []), ([4], [4]), ([3, 5], [3, 5]), ([0, 0], [0]), ([6, 7, 0, 1, 2, 3, 4, 5, 6, 7], [6]), ([8, 0, 1, 2, 3, 4, 5, 6, 7, 8], [])])
def growR6.B : List Nat := [0, 0, 2, 6, 0, 16, 62, 1, 255, 511]
theorem growR6.tab : rtab .any (opsOf Tryz.f47 6) = growR6.T := by kernel_rfl
theorem growR6.bits : waitsOk growR6.T.2 growR6.B = true := by kernel_rfl
def growR21.T : Bool × List (List Nat × List Nat) := (true, [([], []), ([], []), ([1], [1]), ([2], [2]), ([], []), ([4], [4]), ([3, 5], [3, 5]), ([0, 0], [0]), ([6, 7, 0, 1, 2, 3, 4, 5, 6, 7], [6]), ([8, 0, 1, 2, 3, 4, 5, 6, 7, 8], [])])
def growR21.B : List Nat := [0, 0, 2, 6, 0, 16, 62, 1, 255, 511]
theorem growR21.tab : rtab .any (opsOf Tryz.f47 21) = growR21.T := by kernel_rfl
theorem growR21.bits : waitsOk growR21.T.2 growR21.B = true := by kernel_rfl
theorem grow_calls (w0 : World) (vars : Nat) (hv : vars ≤ 15) (A1 : Option Addr) (c1 : Nat) (cls : List (List Int)) (hC : Kd.C (Kd.slice 3 (Kd.int .i64)) w0 A1 cls.length cls) (hc1 : cls.length ≤ c1) (hcl : cls.length ≤ 100000) (hcs : ∀ l ∈ cls, l.length ≤ 1000000) :
  ∀ (d : Nat) (A : List Int) (va : Value) (p : List Stp) (vp : Value) (ok : Nat → Prop) (W0 : World), A.length + d = vars → p.length + 2 ^ (d + 1) ≤ 1000000 → (∀ k, W0.heap.size ≤ k → ok k) → Below w0.heap.size w0 W0 → Kd.R (Kd.int .i64) 3 W0 w0.heap.size (fun _ => True) va A → Kd.R kStp 42 W0 w0.heap.size ok vp p →
   Calls Tryz.prog 47 #[.agg #[.int .i64 vars, .slice A1 cls.length c1], va, vp] W0 (GrowPost w0 W0 ok vp (growL cls d A p)) := by
 intro d
 induction d using Nat.strongRecOn with
 | ind d ih =>
 intro A va p vp ok W0 hAd hpl hfr hb hA hp
 obtain ⟨Aa, ca, rfl, hla, hCa⟩ := Kd.R_reads hA
 obtain ⟨Ap, cp, rfl⟩ := Kd.R_slice hp
 obtain ⟨k1, hk1⟩ := negatedT_ev A (by omega)
 obtain ⟨k2, hk2⟩ := false1_ev vars A cls (by omega) hcs (by omega)
 have HK1 : Az (PTree.netlabref33_negated.f k1 A = some (negL A)) := ⟨hk1 k1 (Nat.le_refl _)⟩
 have HK2 : Az (PTree.netlabref33_false1.f k2 vars cls A = some ((false1L A cls 0 : Nat) : Int)) := ⟨hk2 k2 (Nat.le_refl _)⟩
 have HFL := Az.mk (false1L_le A cls 0)
 have IH := Az.mk ih
 have HV := Az.mk hv
 have HC := Az.mk hC
 have HC1 := Az.mk hc1
 have HCL := Az.mk hcl
 have HAD := Az.mk hAd
 have HPL := Az.mk hpl
 have HFR := Az.mk hfr
 have HPL2 : Az (p.length ≤ 1000000) := ⟨Nat.le_trans (Nat.le_add_right _ _) hpl⟩
 have HSZ0 : Az (w0.heap.size ≤ W0.heap.size) := ⟨hb.size⟩
 have HB := Az.mk hb
 have HA := Az.mk hA
 have HP := Az.mk hp
 have HLA := Az.mk hla
 have HCA := Az.mk hCa
 have HNL : Az ((negL A).length = A.length) := ⟨by simp [negL]⟩
 clear hk1 hk2 ih hv hC hc1 hcl hcs hAd hpl hfr hb hA hp hla hCa
 have hu24 := Tryz.underlying24
 have hu42 := Tryz.underlying42
 go_enter Tryz.func47, Tryz.ntmps47
 go_wp2_with fail
 refine (netlabref33_negated.calls k1 Aa ca A (negL A) _ (Kd.C_alloc HCA.out _) HLA.out HK1.out).mono ?_
 rintro e w1 ⟨v1, rfl, hr1, hb1⟩
 obtain ⟨An, cn, hv1⟩ := Kd.R_slice hr1
 subst hv1
 have HBW : Az (Below W0.heap.size W0 w1) := ⟨bwt (below_nw _ _) hb1⟩
 have BC1 : Az (w1.heap[W0.heap.size]? = some (.cells #[.int .i64 vars, .slice A1 cls.length c1] 24 (0, 0))) := ⟨blk_below (blk_new W0 _) hb1⟩
 have HN1 : Az (Kd.R (Kd.int .i64) 3 w1 w0.heap.size (fun k => W0.heap.size ≤ k) (.slice An (negL A).length cn) (negL A)) := ⟨Kd.R_lower (Kd.R_mono (Kd.R_bound hr1) (fun k hk => by have := hk.2.1; simp at this; omega)) (by have := HB.out.size; simp; omega)⟩
 have hlt0 : W0.heap.size < w1.heap.size := by have := hb1.size; simp at this; omega
 clear hr1 hb1
 have hx0 : w1.cell? ⟨W0.heap.size, 0, none⟩ = some (.int .i64 vars) := (bkc BC1.out 0).trans rfl
 have hx1 : w1.cell? ⟨W0.heap.size, 1, none⟩ = some (.slice A1 cls.length c1) := (bkc BC1.out 1).trans rfl
 go_wp2_with fail
 have HG2 : Az (GrowAt w0 W0 (w1.alloc (.cells #[.slice An (negL A).length cn, .bool false, .slice none 0 0] 42)) W0.heap.size w1.heap.size #[.int .i64 vars, .slice A1 cls.length c1] #[.slice An (negL A).length cn, .bool false, .slice none 0 0] (.slice An (negL A).length cn) (.slice Aa A.length ca) (.slice Ap p.length cp) (.slice Ap p.length cp) ok (negL A) A p) := ⟨by
  have hbb := bwt HBW.out (below_nw w1 (.cells #[.slice An (negL A).length cn, .bool false, .slice none 0 0] 42))
  exact ⟨bwt HB.out hbb, grown_below ⟨rfl, rfl, rfl, Nat.le_refl _, fun _ _ _ => rfl⟩ hbb, .inl rfl, Nat.le_of_lt hlt0, bka BC1.out _, blk_new w1 _, Kd.R_alloc HN1.out _, Kd.R_below HA.out hbb, Kd.R_below (Kd.R_mono (Kd.R_bound HP.out) (fun k hk => ⟨hk.1, by have := hk.2.2.1; omega⟩)) hbb⟩⟩
 clear BC1 HN1 hx0 hx1 HBW
 generalize w1.heap.size = gx at HG2 hlt0 ⊢
 generalize w1.alloc (.cells #[.slice An (negL A).length cn, .bool false, .slice none 0 0] 42) = w2 at HG2 ⊢
 obtain ⟨Aa2, ca2, he2, hla2, hCa2⟩ := Kd.R_reads HG2.out.lits
 cases he2
 refine (netlabref33_false1.calls k2 vars A1 c1 cls Aa ca A _ w2 (Kd.C_below HC.out HG2.out.reads) HC1.out hCa2 hla2 HK2.out).mono ?_
 rintro e w3 ⟨rfl, hb3⟩
 have HG3 := Az.mk (HG2.out.below hb3)
 clear hb3 HG2 hla2 hCa2
 have hx0 : w3.cell? ⟨W0.heap.size, 0, none⟩ = some (.int .i64 vars) := (bkc HG3.out.hbc 0).trans rfl
 have hx1 : w3.cell? ⟨W0.heap.size, 1, none⟩ = some (.slice A1 cls.length c1) := (bkc HG3.out.hbc 1).trans rfl
 have hy0 : w3.cell? ⟨gx, 0, none⟩ = some (.slice An (negL A).length cn) := (bkc HG3.out.hbx 0).trans rfl
 have hy1 : w3.cell? ⟨gx, 1, none⟩ = some (.bool false) := (bkc HG3.out.hbx 1).trans rfl
 have hy2 : w3.cell? ⟨gx, 2, none⟩ = some (.slice none 0 0) := (bkc HG3.out.hbx 2).trans rfl
 have hyf := bkf HG3.out.hbx 2
 have hlg : gx < w3.heap.size := (Array.getElem?_eq_some_iff.1 HG3.out.hbx).1
 have hlc : W0.heap.size < w3.heap.size := by omega
 by_cases hf : 0 < false1L A cls 0
 ·have hf' : decide (0 < false1L A cls 0) = true := decide_eq_true hf
  have HF := Az.mk (growL_hit (d := d) (p := p) hf)
  generalize false1L A cls 0 = f at hf hf' HF HFL ⊢
  clear hf
  have HG5 : Az (GrowAt w0 W0 ((w3.setCell ⟨gx, 2, none⟩ (.slice (some ⟨w3.heap.size, 0, none⟩) 1 1)).alloc (.cells #[.int .i64 f] 3)) W0.heap.size gx #[.int .i64 vars, .slice A1 cls.length c1] #[.slice An (negL A).length cn, .bool false, .slice (some ⟨w3.heap.size, 0, none⟩) 1 1] (.slice An (negL A).length cn) (.slice Aa A.length ca) (.slice Ap p.length cp) (.slice Ap p.length cp) ok (negL A) A p) := ⟨by
   have := (HG3.out.set HSZ0.out 2 (.slice (some ⟨w3.heap.size, 0, none⟩) 1 1)).below (below_nw _ (.cells #[.int .i64 f] 3))
   simpa using this⟩
  have HH5 : Az (Kd.R (Kd.int .i64) 3 ((w3.setCell ⟨gx, 2, none⟩ (.slice (some ⟨w3.heap.size, 0, none⟩) 1 1)).alloc (.cells #[.int .i64 f] 3)) w0.heap.size (fun k => W0.heap.size ≤ k) (.slice (some ⟨w3.heap.size, 0, none⟩) 1 1) [(f : Int)]) := ⟨by
   have h1 := R_lit1 (w3.setCell ⟨gx, 2, none⟩ (.slice (some ⟨w3.heap.size, 0, none⟩) 1 1)) [(f : Int)] #[.int .i64 f] rfl (by simp)
   have h2 := Kd.R_lower (Kd.R_mono (Kd.R_bound h1) (ok' := fun k => W0.heap.size ≤ k) (fun k hk => by have := hk.2.1; simp at this; omega)) (base' := w0.heap.size) (by have := HG3.out.reads.size; simp; omega)
   simpa using h2⟩
  have HM5 : Az (kStp.M ((w3.setCell ⟨gx, 2, none⟩ (.slice (some ⟨w3.heap.size, 0, none⟩) 1 1)).alloc (.cells #[.int .i64 f] 3)) w0.heap.size (fun k => (ok k ∧ k ≠ gx) ∧ some k ≠ (Value.slice Ap p.length cp).ownBlock) ⟨negL A, false, [(f : Int)]⟩ [.slice An (negL A).length cn, .bool false, .slice (some ⟨w3.heap.size, 0, none⟩) 1 1]) := ⟨by
   have hm := k42_mkM _ w0.heap.size _ ⟨negL A, false, [(f : Int)]⟩ (R_apart_gx HG5.out.neg HG5.out.p HG5.out.hbx (by decide) (by decide) (fun k hk => HFR.out k hk)) (R_apart_gx HH5.out HG5.out.p HG5.out.hbx (by decide) (by decide) (fun k hk => HFR.out k hk))
   simpa using hm⟩
  clear HG3 HH5
  go_wp2_with ((with_reducible refine gate_builtin (b := .append) (xs := #[.tmp 28, .tmp 30]) rfl ?_); at_builtin; refine hold_l ?_)
  refine Hold.mk ?_
  have hz5 : w3.heap.size + 1 = ((w3.setCell ⟨gx, 2, none⟩ (.slice (some ⟨w3.heap.size, 0, none⟩) 1 1)).alloc (.cells #[.int .i64 f] 3)).heap.size := by simp
  rw [hz5]
  clear hz5
  generalize w3.heap.size = gh at HG5 HM5 ⊢
  generalize (w3.setCell ⟨gx, 2, none⟩ (.slice (some ⟨gh, 0, none⟩) 1 1)).alloc (.cells #[.int .i64 f] 3) = w5 at HG5 HM5 ⊢
  refine Kd.R_append kStp (w0 := w0) w0.heap.size rfl (.tmp 28) (.tmp 30) 25 42 (.agg #[.slice none 0 0, .bool false, .slice none 0 0]) 56 rfl Tryz.underlying25 infoStep rfl (by decide) (by omega) (.slice Ap p.length cp) p ⟨negL A, false, [(f : Int)]⟩ [.slice An (negL A).length cn, .bool false, .slice (some ⟨gh, 0, none⟩) 1 1] (fun k => ok k ∧ k ≠ gx) (fun k => (ok k ∧ k ≠ gx) ∧ some k ≠ (Value.slice Ap p.length cp).ownBlock) rfl rfl ?aP (fun _ hk => hk) ?aF ?aO ?aB ?aS ?aL ?_
  case aP => exact HM5.out
  case aF => exact fun k hk => ⟨HFR.out k (Nat.le_trans HG5.out.grown.size hk), by have := (Array.getElem?_eq_some_iff.1 HG5.out.hbx).1; omega⟩
  case aO => exact HG5.out.p
  case aB => exact HG5.out.reads
  case aS => exact HG5.out.reads.size
  case aL => have := HPL2.out; omega
  intro v9 w6 ho hb hg hat
  obtain ⟨Av9, cv9, hv9⟩ := Kd.R_slice ho
  subst hv9
  have HG6 := Az.mk (HG5.out.next hb ho hg hat)
  clear ho hb hg hat
  go_wp2_with fail
  have HGd := Az.mk (HG6.out.below (below_drew (Below.refl _ _)))
  have hcl1 : w6.drew.cell? ⟨W0.heap.size, 1, none⟩ = some (.slice A1 cls.length c1) := (bkc HGd.out.hbc 1).trans rfl
  clear HG6
  refine start_ (n := 10) (S := fun w' => w'.cell? ⟨W0.heap.size, 1, none⟩ = some (.slice A1 cls.length c1)) (ds := []) #[false, false, false, false, false, false, false, false, false, false] (by kernel_rfl) rfl rfl hcl1 (fun hHeld => ?_); refine with_tabW growR6.tab growR6.bits (fun HT_ HW_ => ?_)
  generalize w6.drew = wd at HGd hcl1 hHeld ⊢
  refine pure_ (i := 0) (N := some 32) (v := ?_) (a' := ?_) (bA 10 1) rfl rfl (aof HT_.out (by kernel_rfl)) (fun _ _ _ h => h) (Or.inl ⟨by rfl, ?_⟩) ?_ ?_
  rotate_left
  ·intro w'
   go_simp
   with_reducible rfl
  rotate_left
  ·simp only [Act.put, zq1, zq2, zq3, iw, jw]
   rfl
  refine pure_ (i := 1) (N := some 33) (v := ?_) (a' := ?_) (bA 10 3) rfl rfl (aof HT_.out (by kernel_rfl)) (fun _ _ _ h => h) (Or.inl ⟨by rfl, ?_⟩) ?_ ?_
  rotate_left
  ·intro w'
   go_simp
   with_reducible rfl
  rotate_left
  ·simp only [Act.put, zq1, zq2, zq3, iw, jw]
   rfl
  refine pure_ (i := 4) (N := some 36) (v := ?_) (a' := ?_) (bA 10 19) rfl rfl (aof HT_.out (by kernel_rfl)) (fun _ _ _ h => h) (Or.inl ⟨by rfl, ?_⟩) ?_ ?_
  rotate_left
  ·intro w'
   go_simp
   with_reducible rfl
  rotate_left
  ·simp only [Act.put, zq1, zq2, zq3, iw, jw]
   rfl
  refine pure_ (i := 5) (N := some 37) (v := ?_) (a' := ?_) (bA 10 51) rfl rfl (aof HT_.out (by kernel_rfl)) (fun _ _ _ h => h) (Or.inl ⟨by rfl, ?_⟩) ?_ ?_
  rotate_left
  ·intro w'
   go_simp
   with_reducible rfl
  rotate_left
  ·simp only [Act.put, zq1, zq2, zq3, iw, jw]
   rfl
  refine pure_ (i := 7) (N := some 6) (v := ?_) (a' := ?_) (bA 10 179) rfl rfl (aof HT_.out (by kernel_rfl)) (fun _ _ _ h => h) (Or.inl ⟨by rfl, ?_⟩) ?_ ?_
  rotate_left
  ·intro w'
   go_simp
   with_reducible rfl
  rotate_left
  ·simp only [Act.put, zq1, zq2, zq3, iw, jw]
   rfl
  refine take_ (i := 2) (N := some 34) (v := ?_) (a' := ?_) (bA 10 183) rfl rfl (tof HT_.out HW_.out (by kernel_rfl)) (fun _ _ _ h => h) (Or.inl ⟨by rfl, ?_⟩) hHeld ?_ ?_
  rotate_left
  ·rintro w' s0
   go_simp
   with_reducible rfl
  rotate_left
  ·simp only [Act.put, zq1, zq2, zq3, iw, jw]
   rfl
  refine pure_ (i := 3) (N := some 35) (v := ?_) (a' := ?_) (bA 10 191) rfl rfl (aof HT_.out (by kernel_rfl)) (fun _ _ _ h => h) (Or.inl ⟨by rfl, ?_⟩) ?_ ?_
  rotate_left
  ·intro w'
   go_simp
   with_reducible rfl
  rotate_left
  ·simp only [Act.put, zq1, zq2, zq3, iw, jw]
   rfl
  refine pure_ (i := 6) (N := some 38) (v := ?_) (a' := ?_) (bA 10 255) rfl rfl (aof HT_.out (by kernel_rfl)) (fun _ _ _ h => h) (Or.inl ⟨by rfl, ?_⟩) ?_ ?_
  rotate_left
  ·intro w'
   go_simp
   with_reducible rfl
  rotate_left
  ·simp only [Act.put, zq1, zq2, zq3, iw, jw]
   rfl
  refine pure_ (i := 8) (N := some 7) (v := ?_) (a' := ?_) (bA 10 511) rfl rfl (aof HT_.out (by kernel_rfl)) (fun _ _ _ h => h) (Or.inl ⟨by rfl, ?_⟩) ?_ ?_
  rotate_left
  ·intro w'
   go_simp
   with_reducible rfl
  rotate_left
  ·simp only [Act.put, zq1, zq2, zq3, iw, jw]
   rfl
  refine pure_ (i := 9) (N := some 8) (v := ?_) (a' := ?_) (bA 10 1023) rfl rfl (aof HT_.out (by kernel_rfl)) (fun _ _ _ h => h) (Or.inl ⟨by rfl, ?_⟩) ?_ ?_
  rotate_left
  ·intro w'
   go_simp
   with_reducible rfl
  rotate_left
  ·simp only [Act.put, zq1, zq2, zq3, iw, jw]
   rfl
  refine done_ (done_of HT_.out (by kernel_rfl)) ?_
  clear HT_ HW_ hHeld hcl1
  go_wp2_with fail
  have hwr : wrap64 ((cls.length : Int) + ((p.length : Int) + 1)) = ((cls.length + p.length + 1 : Nat) : Int) := by
   have := HPL2.out
   have := HCL.out
   unfold wrap64; omega
  ((try simp only [Exit.inBlock, Exit.then]); refine bodyPost_ret (results_tmp3 rfl _ _ _) rfl ?_)
  rw [HF.out]
  exact ⟨_, by simp [hwr], Kd.R_mono HGd.out.p (fun _ hk => hk.1), HGd.out.grown, HGd.out.at_, HGd.out.reads⟩
 ·have hf0 : false1L A cls 0 = 0 := by omega
  have HF := Az.mk hf
  rw [hf0]
  clear hf hf0
  have hw : wrap64 ((A.length : Int) + 1) = (A.length : Int) + 1 := by have := HAD.out; have := HV.out; unfold wrap64; omega
  by_cases hd : d = 0
  ·subst hd
   have hgt : decide ((vars : Int) < (A.length : Int) + 1) = true := decide_eq_true (by have := HAD.out; omega)
   go_wp2
   ((try simp only [Exit.inBlock, Exit.then]); refine bodyPost_ret (results_tmp3 rfl _ _ _) rfl ?_)
   rw [growL_zero HF.out]
   exact ⟨_, rfl, Kd.R_mono HG3.out.p (fun _ hk => hk.1), HG3.out.grown, HG3.out.at_, HG3.out.reads⟩
  ·obtain ⟨m, rfl⟩ : ∃ m, d = m + 1 := ⟨d - 1, by omega⟩
   have hgt : decide ((vars : Int) < (A.length : Int) + 1) = false := decide_eq_false (by have := HAD.out; omega)
   have hwn : wrap64 (-((A.length : Int) + 1)) = -((A.length : Int) + 1) := by have := HAD.out; have := HV.out; unfold wrap64; omega
   clear hd
   go_wp2_with (first | ((with_reducible refine gate_builtin (b := .append) (xs := #[.tmp 47, .tmp 48]) rfl ?_); at_builtin; refine Kd.R_append_rows (Kd.int .i64) (w0 := w3) w3.heap.size rfl (.tmp 47) (.tmp 48) 31 3 (.int .i64 0) 8 rfl Tryz.underlying31 infoInt rfl (by decide) (by omega) (.slice none 0 0) ([] : List Int) A _ _ _ (fun _ => True) (fun _ => False) rfl rfl ?aO ?aR (fun _ _ h => h) (fun _ h => h.elim) ?aF ?aB ?aS ?aL ?_; (case aR => exact Kd.C_below (Kd.R_reads' HG3.out.lits).2.2 (Below.refl _ _)); (case aB => exact Below.refl _ _); (case aF => exact fun _ _ => trivial); (case aO => exact Kd.R_nil _ _ _ _ _); (case aS => exact Nat.le_refl _); (case aL => have := HAD.out; have := HV.out; simp only [List.length_nil]; omega); intro va1 w4 ho hb hg hat; simp only [List.nil_append] at ho; obtain ⟨Ay1, cy1, e9⟩ := Kd.R_slice ho; subst e9; have HY4 := Az.mk ho; have HB4 := Az.mk hb; clear ho hb hg hat) | ((with_reducible refine gate_builtin (b := .append) (xs := #[.tmp 49, .tmp 51]) rfl ?_); at_builtin; refine Kd.R_append (Kd.int .i64) (w0 := w3) w3.heap.size rfl (.tmp 49) (.tmp 51) 31 3 (.int .i64 0) 8 rfl Tryz.underlying31 infoInt rfl (by decide) (by omega) (.slice Ay1 A.length cy1) A ((A.length : Int) + 1) [.int .i64 ((A.length : Int) + 1)] (fun _ => True) (fun _ => False) rfl rfl ?aP (fun _ hk => hk.elim) ?aF ?aO ?aB ?aS ?aL ?_; (case aP => exact rfl); (case aF => exact fun _ _ => trivial); (case aO => exact HY4.out); (case aB => exact HB4.out); (case aS => exact HB4.out.size); (case aL => have := HAD.out; have := HV.out; omega); intro va2 w5 ho hb hg hat; obtain ⟨Ay2, cy2, e9⟩ := Kd.R_slice ho; subst e9; have HY5 := Az.mk ho; have HB5 := Az.mk hb; clear ho hb hg hat) | ((with_reducible refine gate_builtin (b := .append) (xs := #[.tmp 53, .tmp 54]) rfl ?_); at_builtin; refine Kd.R_append_rows (Kd.int .i64) (w0 := w5) w5.heap.size rfl (.tmp 53) (.tmp 54) 31 3 (.int .i64 0) 8 rfl Tryz.underlying31 infoInt rfl (by decide) (by omega) (.slice none 0 0) ([] : List Int) A _ _ _ (fun _ => True) (fun _ => False) rfl rfl ?aO ?aR (fun _ _ h => h) (fun _ h => h.elim) ?aF ?aB ?aS ?aL ?_; (case aR => exact Kd.C_below (Kd.R_reads' HG3.out.lits).2.2 HB5.out); (case aB => exact Below.refl _ _); (case aF => exact fun _ _ => trivial); (case aO => exact Kd.R_nil _ _ _ _ _); (case aS => exact Nat.le_refl _); (case aL => have := HAD.out; have := HV.out; simp only [List.length_nil]; omega); intro va3 w6 ho hb hg hat; simp only [List.nil_append] at ho; obtain ⟨Az1, cz1, e9⟩ := Kd.R_slice ho; subst e9; have HZ6 := Az.mk ho; have HB6 := Az.mk hb; clear ho hb hg hat) | ((with_reducible refine gate_builtin (b := .append) (xs := #[.tmp 55, .tmp 58]) rfl ?_); at_builtin; refine Kd.R_append (Kd.int .i64) (w0 := w5) w5.heap.size rfl (.tmp 55) (.tmp 58) 31 3 (.int .i64 0) 8 rfl Tryz.underlying31 infoInt rfl (by decide) (by omega) (.slice Az1 A.length cz1) A (-((A.length : Int) + 1)) [.int .i64 (-((A.length : Int) + 1))] (fun _ => True) (fun _ => False) rfl rfl ?aP (fun _ hk => hk.elim) ?aF ?aO ?aB ?aS ?aL ?_; (case aP => exact rfl); (case aF => exact fun _ _ => trivial); (case aO => exact HZ6.out); (case aB => exact HB6.out); (case aS => exact HB6.out.size); (case aL => have := HAD.out; have := HV.out; omega); intro va4 w7 ho hb hg hat; obtain ⟨Az2, cz2, e9⟩ := Kd.R_slice ho; subst e9; have HZ7 := Az.mk ho; have HB7 := Az.mk hb; have HG7 := Az.mk (HG3.out.below (bwt HB5.out hb)); have hq0 : w7.cell? ⟨W0.heap.size, 0, none⟩ = some (.int .i64 vars) := (bkc HG7.out.hbc 0).trans rfl; have hq1 : w7.cell? ⟨W0.heap.size, 1, none⟩ = some (.slice A1 cls.length c1) := (bkc HG7.out.hbc 1).trans rfl; clear ho hb hg hat))
   have hgx7 : gx < w7.heap.size := (Array.getElem?_eq_some_iff.1 HG7.out.hbx).1
   have e2 : 2 ^ (m + 1 + 1) = 2 ^ (m + 1) + 2 ^ (m + 1) := by rw [Nat.pow_succ]; omega
   have e3 : 0 < 2 ^ (m + 1) := Nat.pow_pos (by decide)
   have hyr : Kd.R (Kd.int .i64) 3 w7 w0.heap.size (fun _ => True) (.slice Ay2 (A.length + 1) cy2) (A ++ [((A.length + 1 : Nat) : Int)]) := by
    have := Kd.R_lower (Kd.R_below HY5.out HB7.out) HG3.out.reads.size
    simpa using this
   have hcall := IH.out m (Nat.lt_succ_self m) (A ++ [((A.length + 1 : Nat) : Int)]) (.slice Ay2 (A.length + 1) cy2) p (.slice Ap p.length cp) (fun k => ok k ∧ k ≠ gx) w7 (by have := HAD.out; simp; omega) (by have := HPL.out; omega) (fun k hk => ⟨HFR.out k (Nat.le_trans HG7.out.grown.size hk), by omega⟩) HG7.out.reads hyr HG7.out.p
   have HLY := Az.mk (growL_len cls m (A ++ [((A.length + 1 : Nat) : Int)]) p)
   obtain ⟨y, hy⟩ : ∃ y, growL cls m (A ++ [((A.length + 1 : Nat) : Int)]) p = y := ⟨_, rfl⟩
   rw [hy] at hcall HLY
   have HY := Az.mk hy
   refine hcall.mono ?_
   clear hcall hy hyr
   rintro e w8 ⟨v8, rfl, hR8, hg8, hat8, hb8⟩
   obtain ⟨Ap8, cp8, rfl⟩ := Kd.R_slice hR8
   have HG8 := Az.mk (HG7.out.next hb8 hR8 hg8 hat8)
   have HZ8 := Az.mk (Kd.R_lower (Kd.R_over' HZ7.out (Kd.R_typed HG7.out.p) (by decide) hg8) (Nat.le_trans HG3.out.reads.size HB5.out.size))
   clear hR8 hg8 hat8 hb8 HG7 HZ7 HY5 HB7 HB5 HG3 hq0 hq1 hgx7 hx0 hx1 hy0 hy1 hy2 hyf hlg hlc
   have hq0 : w8.cell? ⟨W0.heap.size, 0, none⟩ = some (.int .i64 vars) := (bkc HG8.out.hbc 0).trans rfl
   have hq1 : w8.cell? ⟨W0.heap.size, 1, none⟩ = some (.slice A1 cls.length c1) := (bkc HG8.out.hbc 1).trans rfl
   obtain ⟨y1, y2, y3⟩ := y
   cases y3 with
   | false =>
    go_wp2
    ((try simp only [Exit.inBlock, Exit.then]); refine bodyPost_ret (results_tmp3 rfl _ _ _) rfl ?_)
    rw [growL_succ HF.out HY.out rfl, if_pos rfl]
    exact ⟨_, rfl, Kd.R_mono HG8.out.p (fun _ hk => hk.1), HG8.out.grown, HG8.out.at_, HG8.out.reads⟩
   | true =>
    go_wp2_with fail
    have hgx8 : gx < w8.heap.size := (Array.getElem?_eq_some_iff.1 HG8.out.hbx).1
    have hzr : Kd.R (Kd.int .i64) 3 w8 w0.heap.size (fun _ => True) (.slice Az2 (A.length + 1) cz2) (A ++ [-((A.length + 1 : Nat) : Int)]) := by
     have := HZ8.out
     simpa using this
    have hcall := IH.out m (Nat.lt_succ_self m) (A ++ [-((A.length + 1 : Nat) : Int)]) (.slice Az2 (A.length + 1) cz2) y1 (.slice Ap8 y1.length cp8) (fun k => ok k ∧ k ≠ gx) w8 (by have := HAD.out; simp; omega) (by have h1 := HPL.out; have h2 : y1.length + 1 ≤ p.length + 2 ^ (m + 1) := HLY.out; omega) (fun k hk => ⟨HFR.out k (Nat.le_trans HG8.out.grown.size hk), by omega⟩) HG8.out.reads hzr HG8.out.p
    have HLZ := Az.mk (growL_len cls m (A ++ [-((A.length + 1 : Nat) : Int)]) y1)
    obtain ⟨z, hz⟩ : ∃ z, growL cls m (A ++ [-((A.length + 1 : Nat) : Int)]) y1 = z := ⟨_, rfl⟩
    rw [hz] at hcall HLZ
    have HZ := Az.mk hz
    refine hcall.mono ?_
    clear hcall hz hzr
    rintro e w9 ⟨v9, rfl, hR9, hg9, hat9, hb9⟩
    obtain ⟨Ap9, cp9, rfl⟩ := Kd.R_slice hR9
    have HG9 := Az.mk (HG8.out.next hb9 hR9 hg9 hat9)
    clear hR9 hg9 hat9 hb9 HG8 HZ8 hq0 hq1 hgx8
    have hq0 : w9.cell? ⟨W0.heap.size, 0, none⟩ = some (.int .i64 vars) := (bkc HG9.out.hbc 0).trans rfl
    have hq1 : w9.cell? ⟨W0.heap.size, 1, none⟩ = some (.slice A1 cls.length c1) := (bkc HG9.out.hbc 1).trans rfl
    have hy0 : w9.cell? ⟨gx, 0, none⟩ = some (.slice An (negL A).length cn) := (bkc HG9.out.hbx 0).trans rfl
    have hy1 : w9.cell? ⟨gx, 1, none⟩ = some (.bool false) := (bkc HG9.out.hbx 1).trans rfl
    have hy2 : w9.cell? ⟨gx, 2, none⟩ = some (.slice none 0 0) := (bkc HG9.out.hbx 2).trans rfl
    have hyf := bkf HG9.out.hbx 2
    have hlg : gx < w9.heap.size := (Array.getElem?_eq_some_iff.1 HG9.out.hbx).1
    have hlc : W0.heap.size < w9.heap.size := by omega
    obtain ⟨z1, z2, z3⟩ := z
    cases z3 with
    | false =>
     go_wp2
     ((try simp only [Exit.inBlock, Exit.then]); refine bodyPost_ret (results_tmp3 rfl _ _ _) rfl ?_)
     rw [growL_succ HF.out HY.out HZ.out, if_neg (by simp), if_pos rfl]
     exact ⟨_, rfl, Kd.R_mono HG9.out.p (fun _ hk => hk.1), HG9.out.grown, HG9.out.at_, HG9.out.reads⟩
    | true =>
     have HPZ : Az (z1.length ≤ 1000000) := ⟨by have h1 := HPL.out; have h2 : y1.length + 1 ≤ p.length + 2 ^ (m + 1) := HLY.out; have h3 : z1.length + 1 ≤ y1.length + 2 ^ (m + 1) := HLZ.out; omega⟩
     have HG10 : Az (GrowAt w0 W0 ((w9.setCell ⟨gx, 2, none⟩ (.slice (some ⟨w9.heap.size, 0, none⟩) 2 2)).alloc (.cells #[.int .i64 y2, .int .i64 z2] 3)) W0.heap.size gx #[.int .i64 vars, .slice A1 cls.length c1] #[.slice An (negL A).length cn, .bool false, .slice (some ⟨w9.heap.size, 0, none⟩) 2 2] (.slice An (negL A).length cn) (.slice Aa A.length ca) (.slice Ap p.length cp) (.slice Ap9 z1.length cp9) ok (negL A) A z1) := ⟨by
      have := (HG9.out.set HSZ0.out 2 (.slice (some ⟨w9.heap.size, 0, none⟩) 2 2)).below (below_nw _ (.cells #[.int .i64 y2, .int .i64 z2] 3))
      simpa using this⟩
     have HH10 : Az (Kd.R (Kd.int .i64) 3 ((w9.setCell ⟨gx, 2, none⟩ (.slice (some ⟨w9.heap.size, 0, none⟩) 2 2)).alloc (.cells #[.int .i64 y2, .int .i64 z2] 3)) w0.heap.size (fun k => W0.heap.size ≤ k) (.slice (some ⟨w9.heap.size, 0, none⟩) 2 2) [y2, z2]) := ⟨by
      have h1 := R_lit1 (w9.setCell ⟨gx, 2, none⟩ (.slice (some ⟨w9.heap.size, 0, none⟩) 2 2)) [y2, z2] #[.int .i64 y2, .int .i64 z2] rfl (by simp)
      have h2 := Kd.R_lower (Kd.R_mono (Kd.R_bound h1) (ok' := fun k => W0.heap.size ≤ k) (fun k hk => by have := hk.2.1; simp at this; omega)) (base' := w0.heap.size) (by have := HG9.out.reads.size; simp; omega)
      simpa using h2⟩
     have HM10 : Az (kStp.M ((w9.setCell ⟨gx, 2, none⟩ (.slice (some ⟨w9.heap.size, 0, none⟩) 2 2)).alloc (.cells #[.int .i64 y2, .int .i64 z2] 3)) w0.heap.size (fun k => (ok k ∧ k ≠ gx) ∧ some k ≠ (Value.slice Ap9 z1.length cp9).ownBlock) ⟨negL A, false, [y2, z2]⟩ [.slice An (negL A).length cn, .bool false, .slice (some ⟨w9.heap.size, 0, none⟩) 2 2]) := ⟨by
      have hm := k42_mkM _ w0.heap.size _ ⟨negL A, false, [y2, z2]⟩ (R_apart_gx HG10.out.neg HG10.out.p HG10.out.hbx (by decide) (by decide) (fun k hk => HFR.out k hk)) (R_apart_gx HH10.out HG10.out.p HG10.out.hbx (by decide) (by decide) (fun k hk => HFR.out k hk))
      simpa using hm⟩
     clear HG9 HH10
     go_wp2_with ((with_reducible refine gate_builtin (b := .append) (xs := #[.tmp 86, .tmp 88]) rfl ?_); at_builtin; refine hold_l ?_)
     refine Hold.mk ?_
     have hz5 : w9.heap.size + 1 = ((w9.setCell ⟨gx, 2, none⟩ (.slice (some ⟨w9.heap.size, 0, none⟩) 2 2)).alloc (.cells #[.int .i64 y2, .int .i64 z2] 3)).heap.size := by simp
     rw [hz5]
     clear hz5 hq0 hq1 hy0 hy1 hy2 hyf hlg hlc
     generalize w9.heap.size = gh at HG10 HM10 ⊢
     generalize (w9.setCell ⟨gx, 2, none⟩ (.slice (some ⟨gh, 0, none⟩) 2 2)).alloc (.cells #[.int .i64 y2, .int .i64 z2] 3) = w11 at HG10 HM10 ⊢
     refine Kd.R_append kStp (w0 := w0) w0.heap.size rfl (.tmp 86) (.tmp 88) 25 42 (.agg #[.slice none 0 0, .bool false, .slice none 0 0]) 56 rfl Tryz.underlying25 infoStep rfl (by decide) (by omega) (.slice Ap9 z1.length cp9) z1 ⟨negL A, false, [y2, z2]⟩ [.slice An (negL A).length cn, .bool false, .slice (some ⟨gh, 0, none⟩) 2 2] (fun k => ok k ∧ k ≠ gx) (fun k => (ok k ∧ k ≠ gx) ∧ some k ≠ (Value.slice Ap9 z1.length cp9).ownBlock) rfl rfl ?aP (fun _ hk => hk) ?aF ?aO ?aB ?aS ?aL ?_
     case aP => exact HM10.out
     case aF => exact fun k hk => ⟨HFR.out k (Nat.le_trans HG10.out.grown.size hk), by have := (Array.getElem?_eq_some_iff.1 HG10.out.hbx).1; omega⟩
     case aO => exact HG10.out.p
     case aB => exact HG10.out.reads
     case aS => exact HG10.out.reads.size
     case aL => have := HPZ.out; omega
     intro v12 w12 ho hb hg hat
     obtain ⟨Av12, cv12, hv12⟩ := Kd.R_slice ho
     subst hv12
     have HG12 := Az.mk (HG10.out.next hb ho hg hat)
     clear ho hb hg hat HG10 HM10
     go_wp2_with fail
     have HGd := Az.mk (HG12.out.below (below_drew (Below.refl _ _)))
     have hcl1 : w12.drew.cell? ⟨W0.heap.size, 1, none⟩ = some (.slice A1 cls.length c1) := (bkc HGd.out.hbc 1).trans rfl
     clear HG12
     refine start_ (n := 10) (S := fun w' => w'.cell? ⟨W0.heap.size, 1, none⟩ = some (.slice A1 cls.length c1)) (ds := []) #[false, false, false, false, false, false, false, false, false, false] (by kernel_rfl) rfl rfl hcl1 (fun hHeld => ?_); refine with_tabW growR21.tab growR21.bits (fun HT_ HW_ => ?_)
     generalize w12.drew = wd at HGd hcl1 hHeld ⊢
     refine pure_ (i := 0) (N := some 90) (v := ?_) (a' := ?_) (bA 10 1) rfl rfl (aof HT_.out (by kernel_rfl)) (fun _ _ _ h => h) (Or.inl ⟨by rfl, ?_⟩) ?_ ?_
     rotate_left
     ·intro w'
      go_simp
      with_reducible rfl
     rotate_left
     ·simp only [Act.put, zq1, zq2, zq3, iw, jw]
      rfl
     refine pure_ (i := 1) (N := some 91) (v := ?_) (a' := ?_) (bA 10 3) rfl rfl (aof HT_.out (by kernel_rfl)) (fun _ _ _ h => h) (Or.inl ⟨by rfl, ?_⟩) ?_ ?_
     rotate_left
     ·intro w'
      go_simp
      with_reducible rfl
     rotate_left
     ·simp only [Act.put, zq1, zq2, zq3, iw, jw]
      rfl
     refine pure_ (i := 4) (N := some 94) (v := ?_) (a' := ?_) (bA 10 19) rfl rfl (aof HT_.out (by kernel_rfl)) (fun _ _ _ h => h) (Or.inl ⟨by rfl, ?_⟩) ?_ ?_
     rotate_left
     ·intro w'
      go_simp
      with_reducible rfl
     rotate_left
     ·simp only [Act.put, zq1, zq2, zq3, iw, jw]
      rfl
     refine pure_ (i := 5) (N := some 95) (v := ?_) (a' := ?_) (bA 10 51) rfl rfl (aof HT_.out (by kernel_rfl)) (fun _ _ _ h => h) (Or.inl ⟨by rfl, ?_⟩) ?_ ?_
     rotate_left
     ·intro w'
      go_simp
      with_reducible rfl
     rotate_left
     ·simp only [Act.put, zq1, zq2, zq3, iw, jw]
      rfl
     refine pure_ (i := 7) (N := some 6) (v := ?_) (a' := ?_) (bA 10 179) rfl rfl (aof HT_.out (by kernel_rfl)) (fun _ _ _ h => h) (Or.inl ⟨by rfl, ?_⟩) ?_ ?_
     rotate_left
     ·intro w'
      go_simp
      with_reducible rfl
     rotate_left
     ·simp only [Act.put, zq1, zq2, zq3, iw, jw]
      rfl
     refine take_ (i := 2) (N := some 92) (v := ?_) (a' := ?_) (bA 10 183) rfl rfl (tof HT_.out HW_.out (by kernel_rfl)) (fun _ _ _ h => h) (Or.inl ⟨by rfl, ?_⟩) hHeld ?_ ?_
     rotate_left
     ·rintro w' s0
      go_simp
      with_reducible rfl
     rotate_left
     ·simp only [Act.put, zq1, zq2, zq3, iw, jw]
      rfl
     refine pure_ (i := 3) (N := some 93) (v := ?_) (a' := ?_) (bA 10 191) rfl rfl (aof HT_.out (by kernel_rfl)) (fun _ _ _ h => h) (Or.inl ⟨by rfl, ?_⟩) ?_ ?_
     rotate_left
     ·intro w'
      go_simp
      with_reducible rfl
     rotate_left
     ·simp only [Act.put, zq1, zq2, zq3, iw, jw]
      rfl
     refine pure_ (i := 6) (N := some 96) (v := ?_) (a' := ?_) (bA 10 255) rfl rfl (aof HT_.out (by kernel_rfl)) (fun _ _ _ h => h) (Or.inl ⟨by rfl, ?_⟩) ?_ ?_
     rotate_left
     ·intro w'
      go_simp
      with_reducible rfl
     rotate_left
     ·simp only [Act.put, zq1, zq2, zq3, iw, jw]
      rfl
     refine pure_ (i := 8) (N := some 7) (v := ?_) (a' := ?_) (bA 10 511) rfl rfl (aof HT_.out (by kernel_rfl)) (fun _ _ _ h => h) (Or.inl ⟨by rfl, ?_⟩) ?_ ?_
     rotate_left
     ·intro w'
      go_simp
      with_reducible rfl
     rotate_left
     ·simp only [Act.put, zq1, zq2, zq3, iw, jw]
      rfl
     refine pure_ (i := 9) (N := some 8) (v := ?_) (a' := ?_) (bA 10 1023) rfl rfl (aof HT_.out (by kernel_rfl)) (fun _ _ _ h => h) (Or.inl ⟨by rfl, ?_⟩) ?_ ?_
     rotate_left
     ·intro w'
      go_simp
      with_reducible rfl
     rotate_left
     ·simp only [Act.put, zq1, zq2, zq3, iw, jw]
      rfl
     refine done_ (done_of HT_.out (by kernel_rfl)) ?_
     clear HT_ HW_ hHeld hcl1
     go_wp2_with fail
     have hwr : wrap64 ((cls.length : Int) + ((z1.length : Int) + 1)) = ((cls.length + z1.length + 1 : Nat) : Int) := by
      have := HPZ.out
      have := HCL.out
      unfold wrap64; omega
     ((try simp only [Exit.inBlock, Exit.then]); refine bodyPost_ret (results_tmp3 rfl _ _ _) rfl ?_)
     rw [growL_succ HF.out HY.out HZ.out, if_neg (by simp), if_neg (by simp)]
     exact ⟨_, by simp [hwr], Kd.R_mono HGd.out.p (fun _ hk => hk.1), HGd.out.grown, HGd.out.at_, HGd.out.reads⟩
def TreePost (w : World) (r : List Stp × Bool) (e : Ending) (w' : World) : Prop := ∃ v, e = .returned (.tuple #[v, .bool r.2]) ∧ Kd.R kStp 42 w' w.heap.size (fun _ => True) v r.1 ∧ Below w.heap.size w w'
theorem tree_calls (w : World) (vars : Nat) (hv : vars ≤ 15) (A1 : Option Addr) (c1 : Nat) (cls : List (List Int)) (hC : Kd.C (Kd.slice 3 (Kd.int .i64)) w A1 cls.length cls) (hc1 : cls.length ≤ c1) (hcl : cls.length ≤ 100000) (hcs : ∀ l ∈ cls, l.length ≤ 1000000) :
  Calls Tryz.prog 22 #[.agg #[.int .i64 vars, .slice A1 cls.length c1]] w (TreePost w ((growL cls vars [] []).1, (growL cls vars [] []).2.2)) := by
 have hpow : 2 ^ (vars + 1) ≤ 1000000 := Nat.le_trans (Nat.pow_le_pow_right (by decide) (show vars + 1 ≤ 16 by omega)) (by decide)
 have hcall := grow_calls w vars hv A1 c1 cls hC hc1 hcl hcs vars [] (.slice none 0 0) [] (.slice none 0 0) (fun _ => True) (w.alloc (.cells #[.int .i64 vars, .slice A1 cls.length c1] 24)) (by simp) (by simpa using hpow) (fun _ _ => trivial) (below_nw _ _) (Kd.R_nil _ _ _ _ _) (Kd.R_nil _ _ _ _ _)
 clear hC hc1 hcl hcs hpow hv
 have hu24 := Tryz.underlying24
 go_enter Tryz.func22, Tryz.ntmps22
 go_wp2_with fail
 refine hcall.mono ?_
 rintro e w' ⟨v, rfl, hR, hg, hat, hb⟩
 obtain ⟨Av, cv, rfl⟩ := Kd.R_slice hR
 have HR := Az.mk hR
 have HB := Az.mk hb
 clear hR hg hat hb hcall
 go_wp2
 go_ret2
 exact ⟨_, rfl, HR.out, HB.out⟩
end Go.Proofs.YtogicccdngpafaaGreatDoor.NState
end
section
set_option maxRecDepth 100000
namespace Go.Proofs.YtogicccdngpafaaGreatDoor.NState
open Go Go.RowKit Go.Shelf QW.PrintWords QW.PrintLast QW.PrintMore NMap
theorem R_store_lst {P : Program} {ops : Array Oper} {Q : Exit → Act → World → Prop} {o : Oper} {a : Act} {Kc : Act → World → Prop} {α : Type} (d : Kd α) {w0 W : World} (base : Nat) (hw : Region.wanted o (yielded ops a.tmps) = true) (hN : o.dst = none) (t : TypeId) (p x : Operand) (ho : o.op = .store t p x) (e : TypeId) {g n cap o' : Nat} (i : Int) (j : Nat) (xs : List α) (x' : α) (u : Value) (seg c : List Value) (ok okp : Nat → Prop)
  (haddr : a.eval p = .pointer (some ⟨g, o', none⟩)) (hoff : o' = i.toNat * d.sz + j) (hx : a.eval x = u) (hu : u.cells.toList = seg) (ht : (P.info? t).map (·.size) = some seg.length) (h1 : ∀ q ∈ seg, q.oneCell' = true)
  (HO : d.R e W base ok (.slice (some ⟨g, 0, none⟩) n cap) xs) (h0 : 0 ≤ i) (hi : i < n) (hcl : c.length = d.sz) (hcc : ∀ j u, c[j]? = some u → W.cell? ⟨g, i.toNat * d.sz + j, none⟩ = some u)
  (hj : j + seg.length ≤ d.sz) (hM : d.M W base okp x' (c.take j ++ seg ++ c.drop (j + seg.length))) (hokp : ∀ k, okp k → ok k ∧ k ≠ g) (HB : Below base w0 W)
  (h : ∀ w1, d.R e w1 base ok (.slice (some ⟨g, 0, none⟩) n cap) (xs.set i.toNat x') → Below base w0 w1 → W.grownBy w1 (some g) → Kc a w1) : if Region.wanted o (yielded ops a.tmps) = true then Oper.wp P o a W Kc Q else Kc (a.put none undef) W := by
 subst hoff
 obtain ⟨hrow, hg⟩ := Kd.R_seg HO i h0 hi hcl hcc hj hM hokp
 have hbg : base ≤ g := Kd.R_base HO g (by simp [Value.ownBlock])
 have hnx : n = xs.length := (Kd.R_reads' HO).1
 obtain ⟨_, inner, hown, hr⟩ := HO
 have hil : i.toNat < n := by omega
 have hB : Below base w0 (W.setCells g (i.toNat * d.sz + j) seg) := HB.trans ⟨hg.os, hg.tape, hg.output, hg.size, fun k hk => by
  have hlt : k < W.heap.size ∨ W.heap.size ≤ k := Nat.lt_or_ge _ _
  rcases hlt with hlt | hge
  ·exact hg.block k hlt (fun he => by injection he with he; omega)
  ·exact setCells_far seg _ k (by omega)⟩
 have hrun : (Instr.storeAt t (.pointer (some ⟨g, i.toNat * d.sz + j, none⟩)) u).run P W = .ok () (W.setCells g (i.toNat * d.sz + j) seg) := by
  rcases hown.2 with ⟨hv, _⟩ | ⟨g', cap', cur, hv, hb, hh, hnc, hcm, hcs, _⟩
  ·cases hv
  injection hv with ha _ hc
  injection ha with ha
  injection ha with hg'
  subst hg'; subst hc
  refine run_store_run t u seg hh hu ht ?_ h1
  have h2 : i.toNat * d.sz + d.sz ≤ n * d.sz := by rw [← Nat.succ_mul]; exact Nat.mul_le_mul_right _ hil
  have h3 : n * d.sz ≤ cap * d.sz := Nat.mul_le_mul_right _ (by omega)
  omega
 refine skip_ hw hN ?_ (h _ hrow hB hg)
 unfold execOp
 simp only [ho, haddr, hx, Sem.run_bind, Sem.run_pure, Result.andThen_ok, hrun]
end Go.Proofs.YtogicccdngpafaaGreatDoor.NState
end
