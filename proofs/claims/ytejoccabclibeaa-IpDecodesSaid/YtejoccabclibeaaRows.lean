/-
  No cell of these rows narrows 'for every input' (looked for: loops, veiled, ifaces, maps, wideKeys, modest, calm, conditions, laid).
  DERIVED. THE GIVEN ROWS OF THIS SEAT. 5 by the template 'for every input the law returns true; each argument reads behind the call as it read before'; 0 by the template 'total and deterministic' (their statements: YtejoccabclibeaaTotals.lean).
  GIVEN WITH THE SEED: the statements are not yours to turn. If you find one false, say at which input.
  Laid BY PROGRAM, IN A SANDBOX (cutbox-rows.mjs): the forced cells as the released guide's own fill.sh prints them over the translation 38ce20b0d0cbc655… (all of the seat's roots in one cut). By AI agents, Wed Nov 11 2026. No macro, syntax, notation, axiom, sorry.
-/
import Derived.Test.YtejoccabclibeaaChecked
import GoSem.Claim
import GoSem.ClaimJoined
import GoSem.ClaimMapViews
import Derived.JoinedTies
import Derived.KernelRfl
namespace Go.Proofs.Ytejoccabclibeaa
/- THE CELL 'sum', in the pinned program and in every row, IS THE sha256 OF THE DUMP (.gsa) THAT YtejoccabclibeaaProg.lean LOADS. Nothing in Lean hashes anything: it is a label: what it is worth is what the hold of that sum in a sandbox is worth. -/
noncomputable def Try.pinned : Pinned := { name := "ytejoccabclibeaa", sum := "38ce20b0d0cbc6556a02b6a54d34ac6597a7ef33d8763f6f95fd43a9b9da83c1", checked := Try.checked }
namespace Rows
def none {H : Type} : Left H := { results := [], args := [] }

/-- 'skeinlaw03.IpHops': WHATEVER THE INPUT: true; the input reads as it did. -/
def ipHopsSpec : ChangeSpec := { name := "ipHops", fn := fun _ => fun
  | [d] => { results := [.lit (.bool true)], args := [d] }
  | _ => none }
def ipHopsRow : OpenClaim := { program := "ytejoccabclibeaa", sum := "38ce20b0d0cbc6556a02b6a54d34ac6597a7ef33d8763f6f95fd43a9b9da83c1", func := "skein/skeinlaw03.IpHops", spec := "ipHops", apart := false }
def IpHopsSaid : Prop := ipHopsRow.holds Try.pinned (OpenSpec.ofChange ipHopsSpec)

/-- ITS FALSE NEIGHBOUR: 'it returns false'. Refute it at one input. -/
def ipHopsWrong : ChangeSpec := { name := "ipHops", fn := fun _ => fun
  | [d] => { results := [.lit (.bool false)], args := [d] }
  | _ => none }
def IpHopsWrongFalsely : Prop := ipHopsRow.holds Try.pinned (OpenSpec.ofChange ipHopsWrong)

/-- 'skeinlaw03.IpSizes': WHATEVER THE INPUT: true; the input reads as it did. -/
def ipSizesSpec : ChangeSpec := { name := "ipSizes", fn := fun _ => fun
  | [d1, d2] => { results := [.lit (.bool true)], args := [d1, d2] }
  | _ => none }
def ipSizesRow : OpenClaim := { program := "ytejoccabclibeaa", sum := "38ce20b0d0cbc6556a02b6a54d34ac6597a7ef33d8763f6f95fd43a9b9da83c1", func := "skein/skeinlaw03.IpSizes", spec := "ipSizes", apart := false }
def IpSizesSaid : Prop := ipSizesRow.holds Try.pinned (OpenSpec.ofChange ipSizesSpec)

/-- ITS FALSE NEIGHBOUR: 'it returns false'. Refute it at one input. -/
def ipSizesWrong : ChangeSpec := { name := "ipSizes", fn := fun _ => fun
  | [d1, d2] => { results := [.lit (.bool false)], args := [d1, d2] }
  | _ => none }
def IpSizesWrongFalsely : Prop := ipSizesRow.holds Try.pinned (OpenSpec.ofChange ipSizesWrong)

/-- 'skeinlaw03.IpDecodes': WHATEVER THE INPUT: true; the input reads as it did. -/
def ipDecodesSpec : ChangeSpec := { name := "ipDecodes", fn := fun _ => fun
  | [d] => { results := [.lit (.bool true)], args := [d] }
  | _ => none }
def ipDecodesRow : OpenClaim := { program := "ytejoccabclibeaa", sum := "38ce20b0d0cbc6556a02b6a54d34ac6597a7ef33d8763f6f95fd43a9b9da83c1", func := "skein/skeinlaw03.IpDecodes", spec := "ipDecodes", apart := false }
def IpDecodesSaid : Prop := ipDecodesRow.holds Try.pinned (OpenSpec.ofChange ipDecodesSpec)

/-- ITS FALSE NEIGHBOUR: 'it returns false'. Refute it at one input. -/
def ipDecodesWrong : ChangeSpec := { name := "ipDecodes", fn := fun _ => fun
  | [d] => { results := [.lit (.bool false)], args := [d] }
  | _ => none }
def IpDecodesWrongFalsely : Prop := ipDecodesRow.holds Try.pinned (OpenSpec.ofChange ipDecodesWrong)

/-- 'skeinlaw03.IpEncodes': WHATEVER THE INPUT: true; the input reads as it did. -/
def ipEncodesSpec : ChangeSpec := { name := "ipEncodes", fn := fun _ => fun
  | [d1, d2, d3] => { results := [.lit (.bool true)], args := [d1, d2, d3] }
  | _ => none }
def ipEncodesRow : OpenClaim := { program := "ytejoccabclibeaa", sum := "38ce20b0d0cbc6556a02b6a54d34ac6597a7ef33d8763f6f95fd43a9b9da83c1", func := "skein/skeinlaw03.IpEncodes", spec := "ipEncodes", apart := false }
def IpEncodesSaid : Prop := ipEncodesRow.holds Try.pinned (OpenSpec.ofChange ipEncodesSpec)

/-- ITS FALSE NEIGHBOUR: 'it returns false'. Refute it at one input. -/
def ipEncodesWrong : ChangeSpec := { name := "ipEncodes", fn := fun _ => fun
  | [d1, d2, d3] => { results := [.lit (.bool false)], args := [d1, d2, d3] }
  | _ => none }
def IpEncodesWrongFalsely : Prop := ipEncodesRow.holds Try.pinned (OpenSpec.ofChange ipEncodesWrong)

/-- 'skeinlaw03.IpTurned': WHATEVER THE INPUT: true; the input reads as it did. -/
def ipTurnedSpec : ChangeSpec := { name := "ipTurned", fn := fun _ => fun
  | [d1, d2] => { results := [.lit (.bool true)], args := [d1, d2] }
  | _ => none }
def ipTurnedRow : OpenClaim := { program := "ytejoccabclibeaa", sum := "38ce20b0d0cbc6556a02b6a54d34ac6597a7ef33d8763f6f95fd43a9b9da83c1", func := "skein/skeinlaw03.IpTurned", spec := "ipTurned", apart := false }
def IpTurnedSaid : Prop := ipTurnedRow.holds Try.pinned (OpenSpec.ofChange ipTurnedSpec)

/-- ITS FALSE NEIGHBOUR: 'it returns false'. Refute it at one input. -/
def ipTurnedWrong : ChangeSpec := { name := "ipTurned", fn := fun _ => fun
  | [d1, d2] => { results := [.lit (.bool false)], args := [d1, d2] }
  | _ => none }
def IpTurnedWrongFalsely : Prop := ipTurnedRow.holds Try.pinned (OpenSpec.ofChange ipTurnedWrong)

/- THE SECOND FORM. 'bulk': how many values and letters a reading holds, each counted each time it is reached (what is shared counts as often as it is met; a slice's spare places count too). A statement '..UptoSaid' is the law's where the arguments, and the package variables that the reading takes, are together of bulk at most 1048576: NARROWER than '..Said'. Prove '..Said' where nothing that the law and all that it calls make is longer than what came in: it says more and counts as full. Else prove '..UptoSaid'. A law counts once. -/
mutual
def uptoBulk {H : Type} : DataW H → Nat
  | .lit (.string bytes) => bytes.length + 1
  | .lit _ => 1
  | .nil => 1
  | .ptr d => uptoBulk d + 1
  | .slice elems spare => uptoBulkAll elems + uptoBulkAll spare + 1
  | .agg parts => uptoBulkAll parts + 1
  | .iface _ d => uptoBulk d + 1
  | .map entries => uptoBulkEntries entries + 1
  | .held _ => 1
def uptoBulkAll {H : Type} : List (DataW H) → Nat
  | [] => 0
  | d :: r => uptoBulk d + uptoBulkAll r
def uptoBulkEntries {H : Type} : List (Lit × DataW H) → Nat
  | [] => 0
  | x :: r => uptoBulkEntry x + uptoBulkEntries r
def uptoBulkEntry {H : Type} : Lit × DataW H → Nat
  | (.string bytes, d) => bytes.length + uptoBulk d + 1
  | (_, d) => uptoBulk d + 1
 end
def uptoSmall : (H : Type) → List (DataW H) → Bool := fun _ ds => decide (uptoBulkAll ds ≤ 1048576)
def OpenSpec.upto (s : _root_.Go.ChangeSpec) : _root_.Go.OpenSpec := { _root_.Go.OpenSpec.ofChange s with cond := some uptoSmall }

/-- 'skeinlaw03.IpHops', WHERE WHAT IT READS IS OF BULK AT MOST 1048576: true; the input reads as it did. -/
def ipHopsUptoRow : OpenClaim := { program := "ytejoccabclibeaa", sum := "38ce20b0d0cbc6556a02b6a54d34ac6597a7ef33d8763f6f95fd43a9b9da83c1", func := "skein/skeinlaw03.IpHops", spec := "ipHops", apart := false, narrowed := true }
def IpHopsUptoSaid : Prop := ipHopsUptoRow.holds Try.pinned (OpenSpec.upto ipHopsSpec)

/-- 'skeinlaw03.IpSizes', WHERE WHAT IT READS IS OF BULK AT MOST 1048576: true; the input reads as it did. -/
def ipSizesUptoRow : OpenClaim := { program := "ytejoccabclibeaa", sum := "38ce20b0d0cbc6556a02b6a54d34ac6597a7ef33d8763f6f95fd43a9b9da83c1", func := "skein/skeinlaw03.IpSizes", spec := "ipSizes", apart := false, narrowed := true }
def IpSizesUptoSaid : Prop := ipSizesUptoRow.holds Try.pinned (OpenSpec.upto ipSizesSpec)

/-- 'skeinlaw03.IpDecodes', WHERE WHAT IT READS IS OF BULK AT MOST 1048576: true; the input reads as it did. -/
def ipDecodesUptoRow : OpenClaim := { program := "ytejoccabclibeaa", sum := "38ce20b0d0cbc6556a02b6a54d34ac6597a7ef33d8763f6f95fd43a9b9da83c1", func := "skein/skeinlaw03.IpDecodes", spec := "ipDecodes", apart := false, narrowed := true }
def IpDecodesUptoSaid : Prop := ipDecodesUptoRow.holds Try.pinned (OpenSpec.upto ipDecodesSpec)

/-- 'skeinlaw03.IpEncodes', WHERE WHAT IT READS IS OF BULK AT MOST 1048576: true; the input reads as it did. -/
def ipEncodesUptoRow : OpenClaim := { program := "ytejoccabclibeaa", sum := "38ce20b0d0cbc6556a02b6a54d34ac6597a7ef33d8763f6f95fd43a9b9da83c1", func := "skein/skeinlaw03.IpEncodes", spec := "ipEncodes", apart := false, narrowed := true }
def IpEncodesUptoSaid : Prop := ipEncodesUptoRow.holds Try.pinned (OpenSpec.upto ipEncodesSpec)

/-- 'skeinlaw03.IpTurned', WHERE WHAT IT READS IS OF BULK AT MOST 1048576: true; the input reads as it did. -/
def ipTurnedUptoRow : OpenClaim := { program := "ytejoccabclibeaa", sum := "38ce20b0d0cbc6556a02b6a54d34ac6597a7ef33d8763f6f95fd43a9b9da83c1", func := "skein/skeinlaw03.IpTurned", spec := "ipTurned", apart := false, narrowed := true }
def IpTurnedUptoSaid : Prop := ipTurnedUptoRow.holds Try.pinned (OpenSpec.upto ipTurnedSpec)

end Rows
end Go.Proofs.Ytejoccabclibeaa
