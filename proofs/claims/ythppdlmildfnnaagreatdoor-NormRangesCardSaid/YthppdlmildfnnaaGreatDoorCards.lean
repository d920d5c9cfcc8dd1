/-
  DERIVED. GIVEN WITH THE SEED: THE CARDS: each row of YthppdlmildfnnaaGreatDoorRows.lean that lists a variable, with what it lists TIED to the program's text (the seventh form; the later family's looks); each row that meets fmt, with fmt's text TOLD by the authors' own Lean function (tested against real Go, not proved from fmt's source: count such statements apart). THE CARD IS WHAT COUNTS. Prove the row's statement (the work); the ties are given (YthppdlmildfnnaaGreatDoorTie.lean); close each card by the builder's one call (the guide's Derived/Test/ToyasCard.lean, 'card_holds'). Laid BY PROGRAM, IN A SANDBOX (cutbox-door.mjs). By AI agents, Wed Nov 11 2026. No macro, syntax, notation, axiom, sorry.
-/
import Derived.Test.YthppdlmildfnnaaGreatDoorRows
import GoSem.ClaimSeven
namespace Go.Proofs.YthppdlmildfnnaaGreatDoor
namespace Rows

/-- THE TIED CARD OF 'skeinlaw16.NormRanges'. -/
def normRangesCard : Claim7 := { stood := { row := normRangesRow, standIns := [], harness := (true, "7ee0f81c07005da98e96e42e034dab2db21c5eb150521dd6ba2e38f5703c51a0"), looks := false }, kinds := [], alts := [], laidByText := true, laidKinds := [.data, .data, .data], laidTests := true, laidLooks := .later }
def NormRangesCardSaid : Prop := Claim7.holds Tryz.pinned (.plain (OpenSpec.ofChange normRangesSpec)) normRangesCard

/-- THE TIED CARD OF 'skeinlaw16.NormSimple'. -/
def normSimpleCard : Claim7 := { stood := { row := normSimpleRow, standIns := [], harness := (true, "7ee0f81c07005da98e96e42e034dab2db21c5eb150521dd6ba2e38f5703c51a0"), looks := false }, kinds := [], alts := [], laidByText := true, laidKinds := [.data, .data, .data], laidTests := true, laidLooks := .later }
def NormSimpleCardSaid : Prop := Claim7.holds Tryz.pinned (.plain (OpenSpec.ofChange normSimpleSpec)) normSimpleCard

/-- THE TIED CARD OF 'skeinlaw16.NormDenies'. -/
def normDeniesCard : Claim7 := { stood := { row := normDeniesRow, standIns := [], harness := (true, "7ee0f81c07005da98e96e42e034dab2db21c5eb150521dd6ba2e38f5703c51a0"), looks := false }, kinds := [], alts := [], laidByText := true, laidKinds := [.data, .data, .data], laidTests := true, laidLooks := .later }
def NormDeniesCardSaid : Prop := Claim7.holds Tryz.pinned (.plain (OpenSpec.ofChange normDeniesSpec)) normDeniesCard

/-- THE TIED CARD OF 'skeinlaw16.NormMeans'. -/
def normMeansCard : Claim7 := { stood := { row := normMeansRow, standIns := [], harness := (true, "7ee0f81c07005da98e96e42e034dab2db21c5eb150521dd6ba2e38f5703c51a0"), looks := false }, kinds := [], alts := [], laidByText := true, laidKinds := [.data, .data, .data], laidTests := true, laidLooks := .later }
def NormMeansCardSaid : Prop := Claim7.holds Tryz.pinned (.plain (OpenSpec.ofChange normMeansSpec)) normMeansCard

/-- THE SECOND FORM's CARD OF 'skeinlaw16.NormRanges'. -/
def normRangesUptoCard : Claim7 := { stood := { row := normRangesUptoRow, standIns := [], harness := (true, "7ee0f81c07005da98e96e42e034dab2db21c5eb150521dd6ba2e38f5703c51a0"), looks := false }, kinds := [], alts := [], laidByText := true, laidKinds := [.data, .data, .data], laidTests := true, laidLooks := .later }
def NormRangesUptoCardSaid : Prop := Claim7.holds Tryz.pinned (.plain (OpenSpec.upto normRangesSpec)) normRangesUptoCard

/-- THE SECOND FORM's CARD OF 'skeinlaw16.NormSimple'. -/
def normSimpleUptoCard : Claim7 := { stood := { row := normSimpleUptoRow, standIns := [], harness := (true, "7ee0f81c07005da98e96e42e034dab2db21c5eb150521dd6ba2e38f5703c51a0"), looks := false }, kinds := [], alts := [], laidByText := true, laidKinds := [.data, .data, .data], laidTests := true, laidLooks := .later }
def NormSimpleUptoCardSaid : Prop := Claim7.holds Tryz.pinned (.plain (OpenSpec.upto normSimpleSpec)) normSimpleUptoCard

/-- THE SECOND FORM's CARD OF 'skeinlaw16.NormDenies'. -/
def normDeniesUptoCard : Claim7 := { stood := { row := normDeniesUptoRow, standIns := [], harness := (true, "7ee0f81c07005da98e96e42e034dab2db21c5eb150521dd6ba2e38f5703c51a0"), looks := false }, kinds := [], alts := [], laidByText := true, laidKinds := [.data, .data, .data], laidTests := true, laidLooks := .later }
def NormDeniesUptoCardSaid : Prop := Claim7.holds Tryz.pinned (.plain (OpenSpec.upto normDeniesSpec)) normDeniesUptoCard

/-- THE SECOND FORM's CARD OF 'skeinlaw16.NormMeans'. -/
def normMeansUptoCard : Claim7 := { stood := { row := normMeansUptoRow, standIns := [], harness := (true, "7ee0f81c07005da98e96e42e034dab2db21c5eb150521dd6ba2e38f5703c51a0"), looks := false }, kinds := [], alts := [], laidByText := true, laidKinds := [.data, .data, .data], laidTests := true, laidLooks := .later }
def NormMeansUptoCardSaid : Prop := Claim7.holds Tryz.pinned (.plain (OpenSpec.upto normMeansSpec)) normMeansUptoCard
end Rows
end Go.Proofs.YthppdlmildfnnaaGreatDoor
