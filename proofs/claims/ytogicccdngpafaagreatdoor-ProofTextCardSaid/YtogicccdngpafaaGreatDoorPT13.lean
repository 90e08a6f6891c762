/-
  Part 13 of the proof of proofText_card: walks and lemmas, packed by the session's own wip/pack.py out of its texts and of what the kit's print.sh printed.
-/
import Derived.Test.YtogicccdngpafaaGreatDoorPT3
import Derived.Test.YtogicccdngpafaaGreatDoorPT12
set_option linter.unusedVariables false
set_option linter.unusedSimpArgs false
section
set_option maxRecDepth 100000
namespace Go.Proofs.YtogicccdngpafaaGreatDoor.NText
open Go Go.Lib
open NState (Stp)
inductive Tk (l : List UInt8) : Nat → List (Nat × List UInt8) → Prop
 | nil {i : Nat} (hi : i ≤ l.length) (h : (l.drop i).dropWhile wh = []) : Tk l i []
 | cons {i a : Nat} {r : List UInt8} {ts : List (Nat × List UInt8)} (hi : i ≤ l.length) (h : (l.drop i).dropWhile wh = r) (hr : r ≠ []) (ha : a + r.length = l.length) (ht : Tk l (a + (r.takeWhile nw).length) ts) : Tk l i ((a, r.takeWhile nw) :: ts)
theorem dropWhile_le {p : UInt8 → Bool} (l : List UInt8) : (l.dropWhile p).length ≤ l.length := by
 induction l with
 | nil => simp
 | cons b l ih => rw [List.dropWhile_cons]; split <;> simp <;> omega
theorem takeWhile_le {p : UInt8 → Bool} (l : List UInt8) : (l.takeWhile p).length ≤ l.length := by
 induction l with
 | nil => simp
 | cons b l ih => rw [List.takeWhile_cons]; split <;> simp <;> omega
theorem nw_not (b : UInt8) : nw b = !wh b := rfl
theorem word_pos {l r : List UInt8} (h : l.dropWhile wh = r) (hr : r ≠ []) : 0 < (r.takeWhile nw).length := by
 cases r with
 | nil => exact absurd rfl hr
 | cons b r =>
  have hb : wh b = false := by
   induction l with
   | nil => simp at h
   | cons c l ih =>
    rw [List.dropWhile_cons] at h
    cases hc : wh c with
    | true => rw [hc] at h; exact ih h
    | false => rw [hc] at h; simp at h; rw [← h.1]; exact hc
  rw [List.takeWhile_cons, nw_not, hb]
  simp
structure RS where
 at_ : Nat
 wrong : Int
 e : Int
def failS (s : RS) (a : Int) (e : Int) : RS := if s.e = 0 then { s with wrong := a, e := e } else s
theorem failS_at (s : RS) (a e : Int) : (failS s a e).at_ = s.at_ := by unfold failS; split <;> rfl
def peekT (len : Nat) : List (Nat × List UInt8) → List UInt8 × Nat
 | [] => ([], len)
 | (a, x) :: _ => (x, a)
def nextS (len : Nat) (s : RS) : List (Nat × List UInt8) → RS × List (Nat × List UInt8)
 | [] => ({ failS s len 4 with at_ := len }, [])
 | (a, x) :: ts => ({ s with at_ := a + x.length }, ts)
theorem nextS_tk {l : List UInt8} {s : RS} {ts : List (Nat × List UInt8)} (h : Tk l s.at_ ts) : Tk l (nextS l.length s ts).1.at_ (nextS l.length s ts).2 := by
 cases h with
 | nil hi h =>
  show Tk l l.length []
  exact .nil (Nat.le_refl _) (by rw [List.drop_length]; rfl)
 | cons hi h hr ha ht => exact ht
def litT (x : List UInt8) : Int × Bool := let v := valueL (trimPrefix x [45]); (if hasPrefix x [45] then -v.1 else v.1, v.2)
def listS (len : Nat) (s : RS) : List (Nat × List UInt8) → RS × List Int × List (Nat × List UInt8)
 | [] => if s.e = 0 then ({ failS s len 4 with at_ := len }, [], []) else (s, [], [])
 | (a, x) :: ts =>
  if s.e = 0 then
   (if (litT x).2 = true then
    (if (litT x).1 = 0 then ({ s with at_ := a + x.length }, [], ts)
    else let r := listS len { s with at_ := a + x.length } ts; (r.1, (litT x).1 :: r.2.1, r.2.2))
   else (failS { s with at_ := a + x.length } a 3, [], ts))
  else (s, [], (a, x) :: ts)
def oneS (len : Nat) (n : Int) (s : RS) (a : Nat) (x : List UInt8) (ts : List (Nat × List UInt8)) : RS × Int × Stp × List (Nat × List UInt8) :=
 let s1 : RS := { s with at_ := a + x.length }
 let s2 := if (valueL x).2 = true then s1 else failS s1 a 3
 let gone := (peekT len ts).1 = [100]
 let s3 := if (peekT len ts).1 = [] then failS s2 len 4 else if gone then (nextS len s2 ts).1 else s2
 let ts3 := if gone then (nextS len s2 ts).2 else ts
 let n1 := if (peekT len ts).1 = [] ∨ gone then n else n + 1
 let s4 := if (valueL x).1 = n1 then s3 else failS s3 a 3
 let c := if gone then (s4, [], ts3) else listS len s4 ts3
 let h := listS len c.1 c.2.2
 (h.1, n1, ⟨c.2.1, decide gone, h.2.1⟩, h.2.2)
def parseS (len : Nat) : Nat → Int → RS → List (Nat × List UInt8) → RS × List Stp
 | 0, _, s, _ => (s, [])
 | _ + 1, _, s, [] => (s, [])
 | f + 1, n, s, (a, x) :: ts =>
  if s.e = 0 then
   let o := oneS len n s a x ts
   let r := parseS len f o.2.1 o.1 o.2.2.2
   (r.1, o.2.2.1 :: r.2)
  else (s, [])
end Go.Proofs.YtogicccdngpafaaGreatDoor.NText
end
