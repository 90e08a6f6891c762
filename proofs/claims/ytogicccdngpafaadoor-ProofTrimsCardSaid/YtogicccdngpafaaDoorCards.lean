/-
  DERIVED. GIVEN WITH THE SEED: THE CARDS: each row of YtogicccdngpafaaDoorRows.lean that lists a variable, with what it lists TIED to the program's text (the seventh form; the later family's looks); each row that meets fmt, with fmt's text TOLD by the authors' own Lean function (tested against real Go, not proved from fmt's source: count such statements apart). THE CARD IS WHAT COUNTS. Prove the row's statement (the work); the ties are given (YtogicccdngpafaaDoorTie.lean); close each card by the builder's one call (the guide's Derived/Test/ToyasCard.lean, 'card_holds'). Laid BY PROGRAM, IN A SANDBOX (cutbox-door.mjs). By AI agents, Wed Nov 11 2026. No macro, syntax, notation, axiom, sorry.
-/
import Derived.Test.YtogicccdngpafaaDoorRows
import GoSem.ClaimSeven
namespace Go.Proofs.YtogicccdngpafaaDoor
namespace Rows

/-- THE TIED CARD OF 'netlablaw33.ProofHintsMatch'. -/
def proofHintsMatchCard : Claim7 := { stood := { row := proofHintsMatchRow, standIns := [], harness := (true, "9a1238d8f485167ebfb31c1d56fa85f79c3a3f58da90959c7349220cc2fff896"), looks := true }, kinds := [], alts := [], laidByText := true, laidKinds := [.data, .data, .data], laidTests := true, laidLooks := .later }
def ProofHintsMatchCardSaid : Prop := Claim7.holds Tryd.pinned (.plain (OpenSpec.ofChange proofHintsMatchSpec)) proofHintsMatchCard

/-- THE TIED CARD OF 'netlablaw33.ProofTrims'. -/
def proofTrimsCard : Claim7 := { stood := { row := proofTrimsRow, standIns := [], harness := (true, "9a1238d8f485167ebfb31c1d56fa85f79c3a3f58da90959c7349220cc2fff896"), looks := true }, kinds := [], alts := [], laidByText := true, laidKinds := [.data, .data, .data], laidTests := true, laidLooks := .later }
def ProofTrimsCardSaid : Prop := Claim7.holds Tryd.pinned (.plain (OpenSpec.ofChange proofTrimsSpec)) proofTrimsCard

/-- THE TIED CARD OF 'netlablaw33.ProofHints'. -/
def proofHintsCard : Claim7 := { stood := { row := proofHintsRow, standIns := [], harness := (true, "9a1238d8f485167ebfb31c1d56fa85f79c3a3f58da90959c7349220cc2fff896"), looks := true }, kinds := [], alts := [], laidByText := true, laidKinds := [.data, .data, .data], laidTests := true, laidLooks := .later }
def ProofHintsCardSaid : Prop := Claim7.holds Tryd.pinned (.plain (OpenSpec.ofChange proofHintsSpec)) proofHintsCard

/-- THE SECOND FORM's CARD OF 'netlablaw33.ProofHintsMatch'. -/
def proofHintsMatchUptoCard : Claim7 := { stood := { row := proofHintsMatchUptoRow, standIns := [], harness := (true, "9a1238d8f485167ebfb31c1d56fa85f79c3a3f58da90959c7349220cc2fff896"), looks := true }, kinds := [], alts := [], laidByText := true, laidKinds := [.data, .data, .data], laidTests := true, laidLooks := .later }
def ProofHintsMatchUptoCardSaid : Prop := Claim7.holds Tryd.pinned (.plain (OpenSpec.upto proofHintsMatchSpec)) proofHintsMatchUptoCard

/-- THE SECOND FORM's CARD OF 'netlablaw33.ProofTrims'. -/
def proofTrimsUptoCard : Claim7 := { stood := { row := proofTrimsUptoRow, standIns := [], harness := (true, "9a1238d8f485167ebfb31c1d56fa85f79c3a3f58da90959c7349220cc2fff896"), looks := true }, kinds := [], alts := [], laidByText := true, laidKinds := [.data, .data, .data], laidTests := true, laidLooks := .later }
def ProofTrimsUptoCardSaid : Prop := Claim7.holds Tryd.pinned (.plain (OpenSpec.upto proofTrimsSpec)) proofTrimsUptoCard

/-- THE SECOND FORM's CARD OF 'netlablaw33.ProofHints'. -/
def proofHintsUptoCard : Claim7 := { stood := { row := proofHintsUptoRow, standIns := [], harness := (true, "9a1238d8f485167ebfb31c1d56fa85f79c3a3f58da90959c7349220cc2fff896"), looks := true }, kinds := [], alts := [], laidByText := true, laidKinds := [.data, .data, .data], laidTests := true, laidLooks := .later }
def ProofHintsUptoCardSaid : Prop := Claim7.holds Tryd.pinned (.plain (OpenSpec.upto proofHintsSpec)) proofHintsUptoCard
end Rows
end Go.Proofs.YtogicccdngpafaaDoor
