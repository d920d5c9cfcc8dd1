/-
  No cell of these rows narrows 'for every input' (looked for: loops, veiled, ifaces, maps, wideKeys, modest, calm, conditions, laid).
  DERIVED. THE GIVEN ROWS OF THIS SEAT. 4 by the template 'for every input the law returns true; each argument reads behind the call as it read before'; 0 by the template 'total and deterministic' (their statements: YtcedoopcjlekcaaTotals.lean).
  GIVEN WITH THE SEED: the statements are not yours to turn. If you find one false, say at which input.
  Laid BY PROGRAM, IN A SANDBOX (cutbox-rows.mjs): the forced cells as the released guide's own fill.sh prints them over the translation 930dcbc92446edc0… (all of the seat's roots in one cut). By AI agents, Wed Nov 11 2026. No macro, syntax, notation, axiom, sorry.
-/
import Derived.Test.YtcedoopcjlekcaaChecked
import GoSem.Claim
import GoSem.ClaimJoined
import GoSem.ClaimMapViews
import Derived.JoinedTies
import Derived.KernelRfl
namespace Go.Proofs.Ytcedoopcjlekcaa
/- THE CELL 'sum', in the pinned program and in every row, IS THE sha256 OF THE DUMP (.gsa) THAT YtcedoopcjlekcaaProg.lean LOADS. Nothing in Lean hashes anything: it is a label: what it is worth is what the hold of that sum in a sandbox is worth. -/
noncomputable def Try.pinned : Pinned := { name := "ytcedoopcjlekcaa", sum := "930dcbc92446edc0a46cfcffb1e5fe1ba4dab90c958857e88809fbf71d1b7c8f", checked := Try.checked }
namespace Rows
def none {H : Type} : Left H := { results := [], args := [] }

/-- 'skeinlaw05.PacketParses': WHATEVER THE INPUT: true; the input reads as it did. -/
def packetParsesSpec : ChangeSpec := { name := "packetParses", fn := fun _ => fun
  | [d] => { results := [.lit (.bool true)], args := [d] }
  | _ => none }
def packetParsesRow : OpenClaim := { program := "ytcedoopcjlekcaa", sum := "930dcbc92446edc0a46cfcffb1e5fe1ba4dab90c958857e88809fbf71d1b7c8f", func := "skein/skeinlaw05.PacketParses", spec := "packetParses", unfollowed := true, recurses := true, apart := false }
def PacketParsesSaid : Prop := packetParsesRow.holds Try.pinned (OpenSpec.ofChange packetParsesSpec)

/-- ITS FALSE NEIGHBOUR: 'it returns false'. Refute it at one input. -/
def packetParsesWrong : ChangeSpec := { name := "packetParses", fn := fun _ => fun
  | [d] => { results := [.lit (.bool false)], args := [d] }
  | _ => none }
def PacketParsesWrongFalsely : Prop := packetParsesRow.holds Try.pinned (OpenSpec.ofChange packetParsesWrong)

/-- 'skeinlaw05.PacketPrints': WHATEVER THE INPUT: true; the input reads as it did. -/
def packetPrintsSpec : ChangeSpec := { name := "packetPrints", fn := fun _ => fun
  | [d] => { results := [.lit (.bool true)], args := [d] }
  | _ => none }
def packetPrintsRow : OpenClaim := { program := "ytcedoopcjlekcaa", sum := "930dcbc92446edc0a46cfcffb1e5fe1ba4dab90c958857e88809fbf71d1b7c8f", func := "skein/skeinlaw05.PacketPrints", spec := "packetPrints", unfollowed := true, recurses := true, apart := false }
def PacketPrintsSaid : Prop := packetPrintsRow.holds Try.pinned (OpenSpec.ofChange packetPrintsSpec)

/-- ITS FALSE NEIGHBOUR: 'it returns false'. Refute it at one input. -/
def packetPrintsWrong : ChangeSpec := { name := "packetPrints", fn := fun _ => fun
  | [d] => { results := [.lit (.bool false)], args := [d] }
  | _ => none }
def PacketPrintsWrongFalsely : Prop := packetPrintsRow.holds Try.pinned (OpenSpec.ofChange packetPrintsWrong)

/-- 'skeinlaw05.PacketEchoes': WHATEVER THE INPUT: true; the input reads as it did. -/
def packetEchoesSpec : ChangeSpec := { name := "packetEchoes", fn := fun _ => fun
  | [d] => { results := [.lit (.bool true)], args := [d] }
  | _ => none }
def packetEchoesRow : OpenClaim := { program := "ytcedoopcjlekcaa", sum := "930dcbc92446edc0a46cfcffb1e5fe1ba4dab90c958857e88809fbf71d1b7c8f", func := "skein/skeinlaw05.PacketEchoes", spec := "packetEchoes", unfollowed := true, recurses := true, apart := false }
def PacketEchoesSaid : Prop := packetEchoesRow.holds Try.pinned (OpenSpec.ofChange packetEchoesSpec)

/-- ITS FALSE NEIGHBOUR: 'it returns false'. Refute it at one input. -/
def packetEchoesWrong : ChangeSpec := { name := "packetEchoes", fn := fun _ => fun
  | [d] => { results := [.lit (.bool false)], args := [d] }
  | _ => none }
def PacketEchoesWrongFalsely : Prop := packetEchoesRow.holds Try.pinned (OpenSpec.ofChange packetEchoesWrong)

/-- 'skeinlaw05.PacketQuotes': WHATEVER THE INPUT: true; the input reads as it did. -/
def packetQuotesSpec : ChangeSpec := { name := "packetQuotes", fn := fun _ => fun
  | [d1, d2, d3] => { results := [.lit (.bool true)], args := [d1, d2, d3] }
  | _ => none }
def packetQuotesRow : OpenClaim := { program := "ytcedoopcjlekcaa", sum := "930dcbc92446edc0a46cfcffb1e5fe1ba4dab90c958857e88809fbf71d1b7c8f", func := "skein/skeinlaw05.PacketQuotes", spec := "packetQuotes", unfollowed := true, recurses := true, apart := false }
def PacketQuotesSaid : Prop := packetQuotesRow.holds Try.pinned (OpenSpec.ofChange packetQuotesSpec)

/-- ITS FALSE NEIGHBOUR: 'it returns false'. Refute it at one input. -/
def packetQuotesWrong : ChangeSpec := { name := "packetQuotes", fn := fun _ => fun
  | [d1, d2, d3] => { results := [.lit (.bool false)], args := [d1, d2, d3] }
  | _ => none }
def PacketQuotesWrongFalsely : Prop := packetQuotesRow.holds Try.pinned (OpenSpec.ofChange packetQuotesWrong)

/- THE SECOND FORM. 'bulk': how many values and letters a reading holds, each counted each time it is reached (what is shared counts as often as it is met; a slice's spare places count too). A statement '..UptoSaid' is the law's where the arguments, and the package variables that the reading takes, are together of bulk at most 1048576: NARROWER than '..Said'. Prove '..Said' where nothing that the law and all that it calls make is longer than what came in: it says more and counts as full. Else prove '..UptoSaid'. A law counts once. -/
mutual
def uptoBulk {H : Type} : DataW H → Nat
  | .lit (.string bytes) => bytes.length + 1
  | .lit _ => 1
  | .nil => 1
  | .ptr d => uptoBulk d + 1
  | .slice elems spare => uptoBulkAll elems + uptoBulkAll spare + 1
  | .agg parts => uptoBulkAll parts + 1
  | .iface _ d => uptoBulk d + 1
  | .map entries => uptoBulkEntries entries + 1
  | .held _ => 1
def uptoBulkAll {H : Type} : List (DataW H) → Nat
  | [] => 0
  | d :: r => uptoBulk d + uptoBulkAll r
def uptoBulkEntries {H : Type} : List (Lit × DataW H) → Nat
  | [] => 0
  | x :: r => uptoBulkEntry x + uptoBulkEntries r
def uptoBulkEntry {H : Type} : Lit × DataW H → Nat
  | (.string bytes, d) => bytes.length + uptoBulk d + 1
  | (_, d) => uptoBulk d + 1
 end
def uptoSmall : (H : Type) → List (DataW H) → Bool := fun _ ds => decide (uptoBulkAll ds ≤ 1048576)
def OpenSpec.upto (s : _root_.Go.ChangeSpec) : _root_.Go.OpenSpec := { _root_.Go.OpenSpec.ofChange s with cond := some uptoSmall }

/-- 'skeinlaw05.PacketParses', WHERE WHAT IT READS IS OF BULK AT MOST 1048576: true; the input reads as it did. -/
def packetParsesUptoRow : OpenClaim := { program := "ytcedoopcjlekcaa", sum := "930dcbc92446edc0a46cfcffb1e5fe1ba4dab90c958857e88809fbf71d1b7c8f", func := "skein/skeinlaw05.PacketParses", spec := "packetParses", unfollowed := true, recurses := true, apart := false, narrowed := true }
def PacketParsesUptoSaid : Prop := packetParsesUptoRow.holds Try.pinned (OpenSpec.upto packetParsesSpec)

/-- 'skeinlaw05.PacketPrints', WHERE WHAT IT READS IS OF BULK AT MOST 1048576: true; the input reads as it did. -/
def packetPrintsUptoRow : OpenClaim := { program := "ytcedoopcjlekcaa", sum := "930dcbc92446edc0a46cfcffb1e5fe1ba4dab90c958857e88809fbf71d1b7c8f", func := "skein/skeinlaw05.PacketPrints", spec := "packetPrints", unfollowed := true, recurses := true, apart := false, narrowed := true }
def PacketPrintsUptoSaid : Prop := packetPrintsUptoRow.holds Try.pinned (OpenSpec.upto packetPrintsSpec)

/-- 'skeinlaw05.PacketEchoes', WHERE WHAT IT READS IS OF BULK AT MOST 1048576: true; the input reads as it did. -/
def packetEchoesUptoRow : OpenClaim := { program := "ytcedoopcjlekcaa", sum := "930dcbc92446edc0a46cfcffb1e5fe1ba4dab90c958857e88809fbf71d1b7c8f", func := "skein/skeinlaw05.PacketEchoes", spec := "packetEchoes", unfollowed := true, recurses := true, apart := false, narrowed := true }
def PacketEchoesUptoSaid : Prop := packetEchoesUptoRow.holds Try.pinned (OpenSpec.upto packetEchoesSpec)

/-- 'skeinlaw05.PacketQuotes', WHERE WHAT IT READS IS OF BULK AT MOST 1048576: true; the input reads as it did. -/
def packetQuotesUptoRow : OpenClaim := { program := "ytcedoopcjlekcaa", sum := "930dcbc92446edc0a46cfcffb1e5fe1ba4dab90c958857e88809fbf71d1b7c8f", func := "skein/skeinlaw05.PacketQuotes", spec := "packetQuotes", unfollowed := true, recurses := true, apart := false, narrowed := true }
def PacketQuotesUptoSaid : Prop := packetQuotesUptoRow.holds Try.pinned (OpenSpec.upto packetQuotesSpec)

end Rows
end Go.Proofs.Ytcedoopcjlekcaa
