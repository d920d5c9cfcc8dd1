/-
  DERIVED. GIVEN WITH THE SEED: THE CARDS: each row of YtbimmnnjnlfddaaDoorRows.lean that lists a variable, with what it lists TIED to the program's text (the seventh form; the later family's looks); each row that meets fmt, with fmt's text TOLD by the authors' own Lean function (tested against real Go, not proved from fmt's source: count such statements apart). THE CARD IS WHAT COUNTS. Prove the row's statement (the work); the ties are given (YtbimmnnjnlfddaaDoorTie.lean); close each card by the builder's one call (the guide's Derived/Test/ToyasCard.lean, 'card_holds'). Laid BY PROGRAM, IN A SANDBOX (cutbox-door.mjs). By AI agents, Wed Nov 11 2026. No macro, syntax, notation, axiom, sorry.
-/
import Derived.Test.YtbimmnnjnlfddaaDoorRows
import GoSem.ClaimSeven
namespace Go.Proofs.YtbimmnnjnlfddaaDoor
namespace Rows

/-- THE TIED CARD OF 'skeinlaw09.MatchWholes'. -/
def matchWholesCard : Claim7 := { stood := { row := matchWholesRow, standIns := [], harness := (true, "da22da1a96fee6de9cb0dba5a7b44eeb0f6590f043531ce0a2e313469bde2055"), looks := false }, kinds := [], alts := [], laidByText := true, laidKinds := [.data, .data, .data], laidTests := true, laidLooks := .later }
def MatchWholesCardSaid : Prop := Claim7.holds Tryd.pinned (.plain (OpenSpec.ofChange matchWholesSpec)) matchWholesCard

/-- THE TIED CARD OF 'skeinlaw09.MatchOrder'. -/
def matchOrderCard : Claim7 := { stood := { row := matchOrderRow, standIns := [], harness := (true, "da22da1a96fee6de9cb0dba5a7b44eeb0f6590f043531ce0a2e313469bde2055"), looks := false }, kinds := [], alts := [], laidByText := true, laidKinds := [.data, .data, .data], laidTests := true, laidLooks := .later }
def MatchOrderCardSaid : Prop := Claim7.holds Tryd.pinned (.plain (OpenSpec.ofChange matchOrderSpec)) matchOrderCard

/-- THE TIED CARD OF 'skeinlaw09.MatchPairs'. -/
def matchPairsCard : Claim7 := { stood := { row := matchPairsRow, standIns := [], harness := (true, "da22da1a96fee6de9cb0dba5a7b44eeb0f6590f043531ce0a2e313469bde2055"), looks := false }, kinds := [], alts := [], laidByText := true, laidKinds := [.data, .data, .data], laidTests := true, laidLooks := .later }
def MatchPairsCardSaid : Prop := Claim7.holds Tryd.pinned (.plain (OpenSpec.ofChange matchPairsSpec)) matchPairsCard

/-- THE TIED CARD OF 'skeinlaw09.MatchBoth'. -/
def matchBothCard : Claim7 := { stood := { row := matchBothRow, standIns := [], harness := (true, "da22da1a96fee6de9cb0dba5a7b44eeb0f6590f043531ce0a2e313469bde2055"), looks := false }, kinds := [], alts := [], laidByText := true, laidKinds := [.data, .data, .data], laidTests := true, laidLooks := .later }
def MatchBothCardSaid : Prop := Claim7.holds Tryd.pinned (.plain (OpenSpec.ofChange matchBothSpec)) matchBothCard

/-- THE SECOND FORM's CARD OF 'skeinlaw09.MatchWholes'. -/
def matchWholesUptoCard : Claim7 := { stood := { row := matchWholesUptoRow, standIns := [], harness := (true, "da22da1a96fee6de9cb0dba5a7b44eeb0f6590f043531ce0a2e313469bde2055"), looks := false }, kinds := [], alts := [], laidByText := true, laidKinds := [.data, .data, .data], laidTests := true, laidLooks := .later }
def MatchWholesUptoCardSaid : Prop := Claim7.holds Tryd.pinned (.plain (OpenSpec.upto matchWholesSpec)) matchWholesUptoCard

/-- THE SECOND FORM's CARD OF 'skeinlaw09.MatchOrder'. -/
def matchOrderUptoCard : Claim7 := { stood := { row := matchOrderUptoRow, standIns := [], harness := (true, "da22da1a96fee6de9cb0dba5a7b44eeb0f6590f043531ce0a2e313469bde2055"), looks := false }, kinds := [], alts := [], laidByText := true, laidKinds := [.data, .data, .data], laidTests := true, laidLooks := .later }
def MatchOrderUptoCardSaid : Prop := Claim7.holds Tryd.pinned (.plain (OpenSpec.upto matchOrderSpec)) matchOrderUptoCard

/-- THE SECOND FORM's CARD OF 'skeinlaw09.MatchPairs'. -/
def matchPairsUptoCard : Claim7 := { stood := { row := matchPairsUptoRow, standIns := [], harness := (true, "da22da1a96fee6de9cb0dba5a7b44eeb0f6590f043531ce0a2e313469bde2055"), looks := false }, kinds := [], alts := [], laidByText := true, laidKinds := [.data, .data, .data], laidTests := true, laidLooks := .later }
def MatchPairsUptoCardSaid : Prop := Claim7.holds Tryd.pinned (.plain (OpenSpec.upto matchPairsSpec)) matchPairsUptoCard

/-- THE SECOND FORM's CARD OF 'skeinlaw09.MatchBoth'. -/
def matchBothUptoCard : Claim7 := { stood := { row := matchBothUptoRow, standIns := [], harness := (true, "da22da1a96fee6de9cb0dba5a7b44eeb0f6590f043531ce0a2e313469bde2055"), looks := false }, kinds := [], alts := [], laidByText := true, laidKinds := [.data, .data, .data], laidTests := true, laidLooks := .later }
def MatchBothUptoCardSaid : Prop := Claim7.holds Tryd.pinned (.plain (OpenSpec.upto matchBothSpec)) matchBothUptoCard
end Rows
end Go.Proofs.YtbimmnnjnlfddaaDoor
