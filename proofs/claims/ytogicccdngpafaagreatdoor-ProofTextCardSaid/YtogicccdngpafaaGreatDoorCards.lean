/-
  DERIVED. GIVEN WITH THE SEED: THE CARDS: each row of YtogicccdngpafaaGreatDoorRows.lean that lists a variable, with what it lists TIED to the program's text (the seventh form; the later family's looks); each row that meets fmt, with fmt's text TOLD by the authors' own Lean function (tested against real Go, not proved from fmt's source: count such statements apart). THE CARD IS WHAT COUNTS. Prove the row's statement (the work); the ties are given (YtogicccdngpafaaGreatDoorTie.lean); close each card by the builder's one call (the guide's Derived/Test/ToyasCard.lean, 'card_holds'). Laid BY PROGRAM, IN A SANDBOX (cutbox-door.mjs). By AI agents, Wed Nov 11 2026. No macro, syntax, notation, axiom, sorry.
-/
import Derived.Test.YtogicccdngpafaaGreatDoorRows
import GoSem.ClaimSeven
namespace Go.Proofs.YtogicccdngpafaaGreatDoor
namespace Rows

/-- THE TIED CARD OF 'netlablaw33.ProofMatches'. -/
def proofMatchesCard : Claim7 := { stood := { row := proofMatchesRow, standIns := [], harness := (true, "7ebd453335760c9192d0bb25cb79db80567f45f32e9c758b306039a92fc8d7db"), looks := true }, kinds := [], alts := [], laidByText := true, laidKinds := [.data, .data, .data], laidTests := true, laidLooks := .later }
def ProofMatchesCardSaid : Prop := Claim7.holds Tryz.pinned (.plain (OpenSpec.ofChange proofMatchesSpec)) proofMatchesCard

/-- THE TIED CARD OF 'netlablaw33.ProofSound'. -/
def proofSoundCard : Claim7 := { stood := { row := proofSoundRow, standIns := [], harness := (true, "7ebd453335760c9192d0bb25cb79db80567f45f32e9c758b306039a92fc8d7db"), looks := true }, kinds := [], alts := [], laidByText := true, laidKinds := [.data, .data, .data], laidTests := true, laidLooks := .later }
def ProofSoundCardSaid : Prop := Claim7.holds Tryz.pinned (.plain (OpenSpec.ofChange proofSoundSpec)) proofSoundCard

/-- THE TIED CARD OF 'netlablaw33.ProofComplete'. -/
def proofCompleteCard : Claim7 := { stood := { row := proofCompleteRow, standIns := [], harness := (true, "7ebd453335760c9192d0bb25cb79db80567f45f32e9c758b306039a92fc8d7db"), looks := true }, kinds := [], alts := [], laidByText := true, laidKinds := [.data, .data, .data], laidTests := true, laidLooks := .later }
def ProofCompleteCardSaid : Prop := Claim7.holds Tryz.pinned (.plain (OpenSpec.ofChange proofCompleteSpec)) proofCompleteCard

/-- THE TIED CARD OF 'netlablaw33.ProofTextMatches'. -/
def proofTextMatchesCard : Claim7 := { stood := { row := proofTextMatchesRow, standIns := [], harness := (true, "7ebd453335760c9192d0bb25cb79db80567f45f32e9c758b306039a92fc8d7db"), looks := true }, kinds := [], alts := [], laidByText := true, laidKinds := [.data, .data, .data, .data, .sentinel, .sentinel, .pinned], laidTests := true, laidLooks := .later }
def ProofTextMatchesCardSaid : Prop := Claim7.holds Tryz.pinned (.plain (OpenSpec.ofChange proofTextMatchesSpec)) proofTextMatchesCard

/-- THE TIED CARD OF 'netlablaw33.ProofText'. -/
def proofTextCard : Claim7 := { stood := { row := proofTextRow, standIns := [], harness := (true, "7ebd453335760c9192d0bb25cb79db80567f45f32e9c758b306039a92fc8d7db"), looks := true }, kinds := [], alts := [], laidByText := true, laidKinds := [.data, .data, .data, .data, .sentinel, .sentinel, .pinned], laidTests := true, laidLooks := .later }
def ProofTextCardSaid : Prop := Claim7.holds Tryz.pinned (.plain (OpenSpec.ofChange proofTextSpec)) proofTextCard

/-- THE TIED CARD OF 'netlablaw33.ProofExamples'. -/
def proofExamplesCard : Claim7 := { stood := { row := proofExamplesRow, standIns := [], harness := (true, "7ebd453335760c9192d0bb25cb79db80567f45f32e9c758b306039a92fc8d7db"), looks := true }, kinds := [], alts := [], laidByText := true, laidKinds := [.data, .data, .data, .data, .sentinel, .sentinel, .pinned], laidTests := true, laidLooks := .later }
def ProofExamplesCardSaid : Prop := Claim7.holds Tryz.pinned (.plain (OpenSpec.ofChange proofExamplesSpec)) proofExamplesCard

/-- THE SECOND FORM's CARD OF 'netlablaw33.ProofMatches'. -/
def proofMatchesUptoCard : Claim7 := { stood := { row := proofMatchesUptoRow, standIns := [], harness := (true, "7ebd453335760c9192d0bb25cb79db80567f45f32e9c758b306039a92fc8d7db"), looks := true }, kinds := [], alts := [], laidByText := true, laidKinds := [.data, .data, .data], laidTests := true, laidLooks := .later }
def ProofMatchesUptoCardSaid : Prop := Claim7.holds Tryz.pinned (.plain (OpenSpec.upto proofMatchesSpec)) proofMatchesUptoCard

/-- THE SECOND FORM's CARD OF 'netlablaw33.ProofSound'. -/
def proofSoundUptoCard : Claim7 := { stood := { row := proofSoundUptoRow, standIns := [], harness := (true, "7ebd453335760c9192d0bb25cb79db80567f45f32e9c758b306039a92fc8d7db"), looks := true }, kinds := [], alts := [], laidByText := true, laidKinds := [.data, .data, .data], laidTests := true, laidLooks := .later }
def ProofSoundUptoCardSaid : Prop := Claim7.holds Tryz.pinned (.plain (OpenSpec.upto proofSoundSpec)) proofSoundUptoCard

/-- THE SECOND FORM's CARD OF 'netlablaw33.ProofComplete'. -/
def proofCompleteUptoCard : Claim7 := { stood := { row := proofCompleteUptoRow, standIns := [], harness := (true, "7ebd453335760c9192d0bb25cb79db80567f45f32e9c758b306039a92fc8d7db"), looks := true }, kinds := [], alts := [], laidByText := true, laidKinds := [.data, .data, .data], laidTests := true, laidLooks := .later }
def ProofCompleteUptoCardSaid : Prop := Claim7.holds Tryz.pinned (.plain (OpenSpec.upto proofCompleteSpec)) proofCompleteUptoCard

/-- THE SECOND FORM's CARD OF 'netlablaw33.ProofTextMatches'. -/
def proofTextMatchesUptoCard : Claim7 := { stood := { row := proofTextMatchesUptoRow, standIns := [], harness := (true, "7ebd453335760c9192d0bb25cb79db80567f45f32e9c758b306039a92fc8d7db"), looks := true }, kinds := [], alts := [], laidByText := true, laidKinds := [.data, .data, .data, .data, .sentinel, .sentinel, .pinned], laidTests := true, laidLooks := .later }
def ProofTextMatchesUptoCardSaid : Prop := Claim7.holds Tryz.pinned (.plain (OpenSpec.upto proofTextMatchesSpec)) proofTextMatchesUptoCard

/-- THE SECOND FORM's CARD OF 'netlablaw33.ProofText'. -/
def proofTextUptoCard : Claim7 := { stood := { row := proofTextUptoRow, standIns := [], harness := (true, "7ebd453335760c9192d0bb25cb79db80567f45f32e9c758b306039a92fc8d7db"), looks := true }, kinds := [], alts := [], laidByText := true, laidKinds := [.data, .data, .data, .data, .sentinel, .sentinel, .pinned], laidTests := true, laidLooks := .later }
def ProofTextUptoCardSaid : Prop := Claim7.holds Tryz.pinned (.plain (OpenSpec.upto proofTextSpec)) proofTextUptoCard

/-- THE SECOND FORM's CARD OF 'netlablaw33.ProofExamples'. -/
def proofExamplesUptoCard : Claim7 := { stood := { row := proofExamplesUptoRow, standIns := [], harness := (true, "7ebd453335760c9192d0bb25cb79db80567f45f32e9c758b306039a92fc8d7db"), looks := true }, kinds := [], alts := [], laidByText := true, laidKinds := [.data, .data, .data, .data, .sentinel, .sentinel, .pinned], laidTests := true, laidLooks := .later }
def ProofExamplesUptoCardSaid : Prop := Claim7.holds Tryz.pinned (.plain (OpenSpec.upto proofExamplesSpec)) proofExamplesUptoCard
end Rows
end Go.Proofs.YtogicccdngpafaaGreatDoor
