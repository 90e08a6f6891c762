/-
  DERIVED. GIVEN WITH THE SEED: THE CARDS: each row of YtkcfdddhnboieaaGreatDoorRows.lean that lists a variable, with what it lists TIED to the program's text (the seventh form; the later family's looks); each row that meets fmt, with fmt's text TOLD by the authors' own Lean function (tested against real Go, not proved from fmt's source: count such statements apart). THE CARD IS WHAT COUNTS. Prove the row's statement (the work); the ties are given (YtkcfdddhnboieaaGreatDoorTie.lean); close each card by the builder's one call (the guide's Derived/Test/ToyasCard.lean, 'card_holds'). Laid BY PROGRAM, IN A SANDBOX (cutbox-door.mjs). By AI agents, Wed Nov 11 2026. No macro, syntax, notation, axiom, sorry.
-/
import Derived.Test.YtkcfdddhnboieaaGreatDoorRows
import GoSem.ClaimSeven
namespace Go.Proofs.YtkcfdddhnboieaaGreatDoor
namespace Rows

/-- THE TIED CARD OF 'netlablaw32.CnfMatches'. -/
def cnfMatchesCard : Claim7 := { stood := { row := cnfMatchesRow, standIns := [], harness := (true, "0c3ce3a4b851ccc4c6685fc18081eaef1325b63de027ee98e18da2c6ec93369e"), looks := true }, kinds := [], alts := [], laidByText := true, laidKinds := [.data, .data, .data, .data, .sentinel, .sentinel, .pinned], laidTests := true, laidLooks := .later }
def CnfMatchesCardSaid : Prop := Claim7.holds Tryz.pinned (.plain (OpenSpec.ofChange cnfMatchesSpec)) cnfMatchesCard

/-- THE TIED CARD OF 'netlablaw32.CnfCounts'. -/
def cnfCountsCard : Claim7 := { stood := { row := cnfCountsRow, standIns := [], harness := (true, "0c3ce3a4b851ccc4c6685fc18081eaef1325b63de027ee98e18da2c6ec93369e"), looks := true }, kinds := [], alts := [], laidByText := true, laidKinds := [.data, .data, .data, .data, .sentinel, .sentinel, .pinned], laidTests := true, laidLooks := .later }
def CnfCountsCardSaid : Prop := Claim7.holds Tryz.pinned (.plain (OpenSpec.ofChange cnfCountsSpec)) cnfCountsCard

/-- THE TIED CARD OF 'netlablaw32.CnfTextMatches'. -/
def cnfTextMatchesCard : Claim7 := { stood := { row := cnfTextMatchesRow, standIns := [], harness := (true, "0c3ce3a4b851ccc4c6685fc18081eaef1325b63de027ee98e18da2c6ec93369e"), looks := true }, kinds := [], alts := [], laidByText := true, laidKinds := [.data, .data, .data, .data, .sentinel, .sentinel, .pinned], laidTests := true, laidLooks := .later }
def CnfTextMatchesCardSaid : Prop := Claim7.holds Tryz.pinned (.plain (OpenSpec.ofChange cnfTextMatchesSpec)) cnfTextMatchesCard

/-- THE TIED CARD OF 'netlablaw32.CnfNormals'. -/
def cnfNormalsCard : Claim7 := { stood := { row := cnfNormalsRow, standIns := [], harness := (true, "0c3ce3a4b851ccc4c6685fc18081eaef1325b63de027ee98e18da2c6ec93369e"), looks := true }, kinds := [], alts := [], laidByText := true, laidKinds := [.data, .data, .data, .data, .sentinel, .sentinel, .pinned], laidTests := true, laidLooks := .later }
def CnfNormalsCardSaid : Prop := Claim7.holds Tryz.pinned (.plain (OpenSpec.ofChange cnfNormalsSpec)) cnfNormalsCard

/-- THE TIED CARD OF 'netlablaw32.CnfPropagates'. -/
def cnfPropagatesCard : Claim7 := { stood := { row := cnfPropagatesRow, standIns := [], harness := (true, "0c3ce3a4b851ccc4c6685fc18081eaef1325b63de027ee98e18da2c6ec93369e"), looks := true }, kinds := [], alts := [], laidByText := true, laidKinds := [.data, .data, .data, .data, .sentinel, .sentinel, .pinned], laidTests := true, laidLooks := .later }
def CnfPropagatesCardSaid : Prop := Claim7.holds Tryz.pinned (.plain (OpenSpec.ofChange cnfPropagatesSpec)) cnfPropagatesCard

/-- THE TIED CARD OF 'netlablaw32.CnfSplits'. -/
def cnfSplitsCard : Claim7 := { stood := { row := cnfSplitsRow, standIns := [], harness := (true, "0c3ce3a4b851ccc4c6685fc18081eaef1325b63de027ee98e18da2c6ec93369e"), looks := true }, kinds := [], alts := [], laidByText := true, laidKinds := [.data, .data, .data, .data, .sentinel, .sentinel, .pinned], laidTests := true, laidLooks := .later }
def CnfSplitsCardSaid : Prop := Claim7.holds Tryz.pinned (.plain (OpenSpec.ofChange cnfSplitsSpec)) cnfSplitsCard

/-- THE TIED CARD OF 'netlablaw32.CnfText'. -/
def cnfTextCard : Claim7 := { stood := { row := cnfTextRow, standIns := [], harness := (true, "0c3ce3a4b851ccc4c6685fc18081eaef1325b63de027ee98e18da2c6ec93369e"), looks := true }, kinds := [], alts := [], laidByText := true, laidKinds := [.data, .data, .data, .data, .sentinel, .sentinel, .pinned], laidTests := true, laidLooks := .later }
def CnfTextCardSaid : Prop := Claim7.holds Tryz.pinned (.plain (OpenSpec.ofChange cnfTextSpec)) cnfTextCard

/-- THE TIED CARD OF 'netlablaw32.CnfExamples'. -/
def cnfExamplesCard : Claim7 := { stood := { row := cnfExamplesRow, standIns := [], harness := (true, "0c3ce3a4b851ccc4c6685fc18081eaef1325b63de027ee98e18da2c6ec93369e"), looks := true }, kinds := [], alts := [], laidByText := true, laidKinds := [.data, .data, .data, .data, .sentinel, .sentinel, .pinned], laidTests := true, laidLooks := .later }
def CnfExamplesCardSaid : Prop := Claim7.holds Tryz.pinned (.plain (OpenSpec.ofChange cnfExamplesSpec)) cnfExamplesCard

/-- THE TIED CARD OF 'netlablaw32.CnfEncodeMatches'. -/
def cnfEncodeMatchesCard : Claim7 := { stood := { row := cnfEncodeMatchesRow, standIns := [], harness := (true, "0c3ce3a4b851ccc4c6685fc18081eaef1325b63de027ee98e18da2c6ec93369e"), looks := true }, kinds := [], alts := [], laidByText := true, laidKinds := [.data, .data, .data, .data, .sentinel, .sentinel, .pinned], laidTests := true, laidLooks := .later }
def CnfEncodeMatchesCardSaid : Prop := Claim7.holds Tryz.pinned (.plain (OpenSpec.ofChange cnfEncodeMatchesSpec)) cnfEncodeMatchesCard

/-- THE TIED CARD OF 'netlablaw32.CnfRoots'. -/
def cnfRootsCard : Claim7 := { stood := { row := cnfRootsRow, standIns := [], harness := (true, "0c3ce3a4b851ccc4c6685fc18081eaef1325b63de027ee98e18da2c6ec93369e"), looks := true }, kinds := [], alts := [], laidByText := true, laidKinds := [.data, .data, .data, .data, .sentinel, .sentinel, .pinned], laidTests := true, laidLooks := .later }
def CnfRootsCardSaid : Prop := Claim7.holds Tryz.pinned (.plain (OpenSpec.ofChange cnfRootsSpec)) cnfRootsCard

/-- THE TIED CARD OF 'netlablaw32.CnfEncodes'. -/
def cnfEncodesCard : Claim7 := { stood := { row := cnfEncodesRow, standIns := [], harness := (true, "0c3ce3a4b851ccc4c6685fc18081eaef1325b63de027ee98e18da2c6ec93369e"), looks := true }, kinds := [], alts := [], laidByText := true, laidKinds := [.data, .data, .data, .data, .sentinel, .sentinel, .pinned], laidTests := true, laidLooks := .later }
def CnfEncodesCardSaid : Prop := Claim7.holds Tryz.pinned (.plain (OpenSpec.ofChange cnfEncodesSpec)) cnfEncodesCard

/-- THE SECOND FORM's CARD OF 'netlablaw32.CnfMatches'. -/
def cnfMatchesUptoCard : Claim7 := { stood := { row := cnfMatchesUptoRow, standIns := [], harness := (true, "0c3ce3a4b851ccc4c6685fc18081eaef1325b63de027ee98e18da2c6ec93369e"), looks := true }, kinds := [], alts := [], laidByText := true, laidKinds := [.data, .data, .data, .data, .sentinel, .sentinel, .pinned], laidTests := true, laidLooks := .later }
def CnfMatchesUptoCardSaid : Prop := Claim7.holds Tryz.pinned (.plain (OpenSpec.upto cnfMatchesSpec)) cnfMatchesUptoCard

/-- THE SECOND FORM's CARD OF 'netlablaw32.CnfCounts'. -/
def cnfCountsUptoCard : Claim7 := { stood := { row := cnfCountsUptoRow, standIns := [], harness := (true, "0c3ce3a4b851ccc4c6685fc18081eaef1325b63de027ee98e18da2c6ec93369e"), looks := true }, kinds := [], alts := [], laidByText := true, laidKinds := [.data, .data, .data, .data, .sentinel, .sentinel, .pinned], laidTests := true, laidLooks := .later }
def CnfCountsUptoCardSaid : Prop := Claim7.holds Tryz.pinned (.plain (OpenSpec.upto cnfCountsSpec)) cnfCountsUptoCard

/-- THE SECOND FORM's CARD OF 'netlablaw32.CnfTextMatches'. -/
def cnfTextMatchesUptoCard : Claim7 := { stood := { row := cnfTextMatchesUptoRow, standIns := [], harness := (true, "0c3ce3a4b851ccc4c6685fc18081eaef1325b63de027ee98e18da2c6ec93369e"), looks := true }, kinds := [], alts := [], laidByText := true, laidKinds := [.data, .data, .data, .data, .sentinel, .sentinel, .pinned], laidTests := true, laidLooks := .later }
def CnfTextMatchesUptoCardSaid : Prop := Claim7.holds Tryz.pinned (.plain (OpenSpec.upto cnfTextMatchesSpec)) cnfTextMatchesUptoCard

/-- THE SECOND FORM's CARD OF 'netlablaw32.CnfNormals'. -/
def cnfNormalsUptoCard : Claim7 := { stood := { row := cnfNormalsUptoRow, standIns := [], harness := (true, "0c3ce3a4b851ccc4c6685fc18081eaef1325b63de027ee98e18da2c6ec93369e"), looks := true }, kinds := [], alts := [], laidByText := true, laidKinds := [.data, .data, .data, .data, .sentinel, .sentinel, .pinned], laidTests := true, laidLooks := .later }
def CnfNormalsUptoCardSaid : Prop := Claim7.holds Tryz.pinned (.plain (OpenSpec.upto cnfNormalsSpec)) cnfNormalsUptoCard

/-- THE SECOND FORM's CARD OF 'netlablaw32.CnfPropagates'. -/
def cnfPropagatesUptoCard : Claim7 := { stood := { row := cnfPropagatesUptoRow, standIns := [], harness := (true, "0c3ce3a4b851ccc4c6685fc18081eaef1325b63de027ee98e18da2c6ec93369e"), looks := true }, kinds := [], alts := [], laidByText := true, laidKinds := [.data, .data, .data, .data, .sentinel, .sentinel, .pinned], laidTests := true, laidLooks := .later }
def CnfPropagatesUptoCardSaid : Prop := Claim7.holds Tryz.pinned (.plain (OpenSpec.upto cnfPropagatesSpec)) cnfPropagatesUptoCard

/-- THE SECOND FORM's CARD OF 'netlablaw32.CnfSplits'. -/
def cnfSplitsUptoCard : Claim7 := { stood := { row := cnfSplitsUptoRow, standIns := [], harness := (true, "0c3ce3a4b851ccc4c6685fc18081eaef1325b63de027ee98e18da2c6ec93369e"), looks := true }, kinds := [], alts := [], laidByText := true, laidKinds := [.data, .data, .data, .data, .sentinel, .sentinel, .pinned], laidTests := true, laidLooks := .later }
def CnfSplitsUptoCardSaid : Prop := Claim7.holds Tryz.pinned (.plain (OpenSpec.upto cnfSplitsSpec)) cnfSplitsUptoCard

/-- THE SECOND FORM's CARD OF 'netlablaw32.CnfText'. -/
def cnfTextUptoCard : Claim7 := { stood := { row := cnfTextUptoRow, standIns := [], harness := (true, "0c3ce3a4b851ccc4c6685fc18081eaef1325b63de027ee98e18da2c6ec93369e"), looks := true }, kinds := [], alts := [], laidByText := true, laidKinds := [.data, .data, .data, .data, .sentinel, .sentinel, .pinned], laidTests := true, laidLooks := .later }
def CnfTextUptoCardSaid : Prop := Claim7.holds Tryz.pinned (.plain (OpenSpec.upto cnfTextSpec)) cnfTextUptoCard

/-- THE SECOND FORM's CARD OF 'netlablaw32.CnfExamples'. -/
def cnfExamplesUptoCard : Claim7 := { stood := { row := cnfExamplesUptoRow, standIns := [], harness := (true, "0c3ce3a4b851ccc4c6685fc18081eaef1325b63de027ee98e18da2c6ec93369e"), looks := true }, kinds := [], alts := [], laidByText := true, laidKinds := [.data, .data, .data, .data, .sentinel, .sentinel, .pinned], laidTests := true, laidLooks := .later }
def CnfExamplesUptoCardSaid : Prop := Claim7.holds Tryz.pinned (.plain (OpenSpec.upto cnfExamplesSpec)) cnfExamplesUptoCard

/-- THE SECOND FORM's CARD OF 'netlablaw32.CnfEncodeMatches'. -/
def cnfEncodeMatchesUptoCard : Claim7 := { stood := { row := cnfEncodeMatchesUptoRow, standIns := [], harness := (true, "0c3ce3a4b851ccc4c6685fc18081eaef1325b63de027ee98e18da2c6ec93369e"), looks := true }, kinds := [], alts := [], laidByText := true, laidKinds := [.data, .data, .data, .data, .sentinel, .sentinel, .pinned], laidTests := true, laidLooks := .later }
def CnfEncodeMatchesUptoCardSaid : Prop := Claim7.holds Tryz.pinned (.plain (OpenSpec.upto cnfEncodeMatchesSpec)) cnfEncodeMatchesUptoCard

/-- THE SECOND FORM's CARD OF 'netlablaw32.CnfRoots'. -/
def cnfRootsUptoCard : Claim7 := { stood := { row := cnfRootsUptoRow, standIns := [], harness := (true, "0c3ce3a4b851ccc4c6685fc18081eaef1325b63de027ee98e18da2c6ec93369e"), looks := true }, kinds := [], alts := [], laidByText := true, laidKinds := [.data, .data, .data, .data, .sentinel, .sentinel, .pinned], laidTests := true, laidLooks := .later }
def CnfRootsUptoCardSaid : Prop := Claim7.holds Tryz.pinned (.plain (OpenSpec.upto cnfRootsSpec)) cnfRootsUptoCard

/-- THE SECOND FORM's CARD OF 'netlablaw32.CnfEncodes'. -/
def cnfEncodesUptoCard : Claim7 := { stood := { row := cnfEncodesUptoRow, standIns := [], harness := (true, "0c3ce3a4b851ccc4c6685fc18081eaef1325b63de027ee98e18da2c6ec93369e"), looks := true }, kinds := [], alts := [], laidByText := true, laidKinds := [.data, .data, .data, .data, .sentinel, .sentinel, .pinned], laidTests := true, laidLooks := .later }
def CnfEncodesUptoCardSaid : Prop := Claim7.holds Tryz.pinned (.plain (OpenSpec.upto cnfEncodesSpec)) cnfEncodesUptoCard
end Rows
end Go.Proofs.YtkcfdddhnboieaaGreatDoor
