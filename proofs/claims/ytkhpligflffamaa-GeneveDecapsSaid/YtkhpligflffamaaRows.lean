/-
  No cell of these rows narrows 'for every input' (looked for: loops, veiled, ifaces, maps, wideKeys, modest, calm, conditions, laid).
  DERIVED. THE GIVEN ROWS OF THIS SEAT. 4 by the template 'for every input the law returns true; each argument reads behind the call as it read before'; 0 by the template 'total and deterministic' (their statements: YtkhpligflffamaaTotals.lean).
  GIVEN WITH THE SEED: the statements are not yours to turn. If you find one false, say at which input.
  Laid BY PROGRAM, IN A SANDBOX (cutbox-rows.mjs): the forced cells as the released guide's own fill.sh prints them over the translation 7093d0841ed8caff… (all of the seat's roots in one cut). By AI agents, Wed Nov 11 2026. No macro, syntax, notation, axiom, sorry.
-/
import Derived.Test.YtkhpligflffamaaChecked
import GoSem.Claim
import GoSem.ClaimJoined
import GoSem.ClaimMapViews
import Derived.JoinedTies
import Derived.KernelRfl
namespace Go.Proofs.Ytkhpligflffamaa
/- THE CELL 'sum', in the pinned program and in every row, IS THE sha256 OF THE DUMP (.gsa) THAT YtkhpligflffamaaProg.lean LOADS. Nothing in Lean hashes anything: it is a label: what it is worth is what the hold of that sum in a sandbox is worth. -/
noncomputable def Try.pinned : Pinned := { name := "ytkhpligflffamaa", sum := "7093d0841ed8caff804811e27467c5a2f9a914d2dfa271838e1544780135d9da", checked := Try.checked }
namespace Rows
def none {H : Type} : Left H := { results := [], args := [] }

/-- 'skeinlaw07.GeneveEncaps': WHATEVER THE INPUT: true; the input reads as it did. -/
def geneveEncapsSpec : ChangeSpec := { name := "geneveEncaps", fn := fun _ => fun
  | [d] => { results := [.lit (.bool true)], args := [d] }
  | _ => none }
def geneveEncapsRow : OpenClaim := { program := "ytkhpligflffamaa", sum := "7093d0841ed8caff804811e27467c5a2f9a914d2dfa271838e1544780135d9da", func := "skein/skeinlaw07.GeneveEncaps", spec := "geneveEncaps", apart := false }
def GeneveEncapsSaid : Prop := geneveEncapsRow.holds Try.pinned (OpenSpec.ofChange geneveEncapsSpec)

/-- ITS FALSE NEIGHBOUR: 'it returns false'. Refute it at one input. -/
def geneveEncapsWrong : ChangeSpec := { name := "geneveEncaps", fn := fun _ => fun
  | [d] => { results := [.lit (.bool false)], args := [d] }
  | _ => none }
def GeneveEncapsWrongFalsely : Prop := geneveEncapsRow.holds Try.pinned (OpenSpec.ofChange geneveEncapsWrong)

/-- 'skeinlaw07.GeneveDecaps': WHATEVER THE INPUT: true; the input reads as it did. -/
def geneveDecapsSpec : ChangeSpec := { name := "geneveDecaps", fn := fun _ => fun
  | [d] => { results := [.lit (.bool true)], args := [d] }
  | _ => none }
def geneveDecapsRow : OpenClaim := { program := "ytkhpligflffamaa", sum := "7093d0841ed8caff804811e27467c5a2f9a914d2dfa271838e1544780135d9da", func := "skein/skeinlaw07.GeneveDecaps", spec := "geneveDecaps", apart := false }
def GeneveDecapsSaid : Prop := geneveDecapsRow.holds Try.pinned (OpenSpec.ofChange geneveDecapsSpec)

/-- ITS FALSE NEIGHBOUR: 'it returns false'. Refute it at one input. -/
def geneveDecapsWrong : ChangeSpec := { name := "geneveDecaps", fn := fun _ => fun
  | [d] => { results := [.lit (.bool false)], args := [d] }
  | _ => none }
def GeneveDecapsWrongFalsely : Prop := geneveDecapsRow.holds Try.pinned (OpenSpec.ofChange geneveDecapsWrong)

/-- 'skeinlaw07.GeneveLonger': WHATEVER THE INPUT: true; the input reads as it did. -/
def geneveLongerSpec : ChangeSpec := { name := "geneveLonger", fn := fun _ => fun
  | [d1, d2, d3] => { results := [.lit (.bool true)], args := [d1, d2, d3] }
  | _ => none }
def geneveLongerRow : OpenClaim := { program := "ytkhpligflffamaa", sum := "7093d0841ed8caff804811e27467c5a2f9a914d2dfa271838e1544780135d9da", func := "skein/skeinlaw07.GeneveLonger", spec := "geneveLonger", apart := false }
def GeneveLongerSaid : Prop := geneveLongerRow.holds Try.pinned (OpenSpec.ofChange geneveLongerSpec)

/-- ITS FALSE NEIGHBOUR: 'it returns false'. Refute it at one input. -/
def geneveLongerWrong : ChangeSpec := { name := "geneveLonger", fn := fun _ => fun
  | [d1, d2, d3] => { results := [.lit (.bool false)], args := [d1, d2, d3] }
  | _ => none }
def GeneveLongerWrongFalsely : Prop := geneveLongerRow.holds Try.pinned (OpenSpec.ofChange geneveLongerWrong)

/-- 'skeinlaw07.GenevePorts': WHATEVER THE INPUT: true; the input reads as it did. -/
def genevePortsSpec : ChangeSpec := { name := "genevePorts", fn := fun _ => fun
  | [d1, d2, d3, d4, d5] => { results := [.lit (.bool true)], args := [d1, d2, d3, d4, d5] }
  | _ => none }
def genevePortsRow : OpenClaim := { program := "ytkhpligflffamaa", sum := "7093d0841ed8caff804811e27467c5a2f9a914d2dfa271838e1544780135d9da", func := "skein/skeinlaw07.GenevePorts", spec := "genevePorts", apart := false }
def GenevePortsSaid : Prop := genevePortsRow.holds Try.pinned (OpenSpec.ofChange genevePortsSpec)

/-- ITS FALSE NEIGHBOUR: 'it returns false'. Refute it at one input. -/
def genevePortsWrong : ChangeSpec := { name := "genevePorts", fn := fun _ => fun
  | [d1, d2, d3, d4, d5] => { results := [.lit (.bool false)], args := [d1, d2, d3, d4, d5] }
  | _ => none }
def GenevePortsWrongFalsely : Prop := genevePortsRow.holds Try.pinned (OpenSpec.ofChange genevePortsWrong)

/- THE SECOND FORM. 'bulk': how many values and letters a reading holds, each counted each time it is reached (what is shared counts as often as it is met; a slice's spare places count too). A statement '..UptoSaid' is the law's where the arguments, and the package variables that the reading takes, are together of bulk at most 1048576: NARROWER than '..Said'. Prove '..Said' where nothing that the law and all that it calls make is longer than what came in: it says more and counts as full. Else prove '..UptoSaid'. A law counts once. -/
mutual
def uptoBulk {H : Type} : DataW H → Nat
  | .lit (.string bytes) => bytes.length + 1
  | .lit _ => 1
  | .nil => 1
  | .ptr d => uptoBulk d + 1
  | .slice elems spare => uptoBulkAll elems + uptoBulkAll spare + 1
  | .agg parts => uptoBulkAll parts + 1
  | .iface _ d => uptoBulk d + 1
  | .map entries => uptoBulkEntries entries + 1
  | .held _ => 1
def uptoBulkAll {H : Type} : List (DataW H) → Nat
  | [] => 0
  | d :: r => uptoBulk d + uptoBulkAll r
def uptoBulkEntries {H : Type} : List (Lit × DataW H) → Nat
  | [] => 0
  | x :: r => uptoBulkEntry x + uptoBulkEntries r
def uptoBulkEntry {H : Type} : Lit × DataW H → Nat
  | (.string bytes, d) => bytes.length + uptoBulk d + 1
  | (_, d) => uptoBulk d + 1
 end
def uptoSmall : (H : Type) → List (DataW H) → Bool := fun _ ds => decide (uptoBulkAll ds ≤ 1048576)
def OpenSpec.upto (s : _root_.Go.ChangeSpec) : _root_.Go.OpenSpec := { _root_.Go.OpenSpec.ofChange s with cond := some uptoSmall }

/-- 'skeinlaw07.GeneveEncaps', WHERE WHAT IT READS IS OF BULK AT MOST 1048576: true; the input reads as it did. -/
def geneveEncapsUptoRow : OpenClaim := { program := "ytkhpligflffamaa", sum := "7093d0841ed8caff804811e27467c5a2f9a914d2dfa271838e1544780135d9da", func := "skein/skeinlaw07.GeneveEncaps", spec := "geneveEncaps", apart := false, narrowed := true }
def GeneveEncapsUptoSaid : Prop := geneveEncapsUptoRow.holds Try.pinned (OpenSpec.upto geneveEncapsSpec)

/-- 'skeinlaw07.GeneveDecaps', WHERE WHAT IT READS IS OF BULK AT MOST 1048576: true; the input reads as it did. -/
def geneveDecapsUptoRow : OpenClaim := { program := "ytkhpligflffamaa", sum := "7093d0841ed8caff804811e27467c5a2f9a914d2dfa271838e1544780135d9da", func := "skein/skeinlaw07.GeneveDecaps", spec := "geneveDecaps", apart := false, narrowed := true }
def GeneveDecapsUptoSaid : Prop := geneveDecapsUptoRow.holds Try.pinned (OpenSpec.upto geneveDecapsSpec)

/-- 'skeinlaw07.GeneveLonger', WHERE WHAT IT READS IS OF BULK AT MOST 1048576: true; the input reads as it did. -/
def geneveLongerUptoRow : OpenClaim := { program := "ytkhpligflffamaa", sum := "7093d0841ed8caff804811e27467c5a2f9a914d2dfa271838e1544780135d9da", func := "skein/skeinlaw07.GeneveLonger", spec := "geneveLonger", apart := false, narrowed := true }
def GeneveLongerUptoSaid : Prop := geneveLongerUptoRow.holds Try.pinned (OpenSpec.upto geneveLongerSpec)

/-- 'skeinlaw07.GenevePorts', WHERE WHAT IT READS IS OF BULK AT MOST 1048576: true; the input reads as it did. -/
def genevePortsUptoRow : OpenClaim := { program := "ytkhpligflffamaa", sum := "7093d0841ed8caff804811e27467c5a2f9a914d2dfa271838e1544780135d9da", func := "skein/skeinlaw07.GenevePorts", spec := "genevePorts", apart := false, narrowed := true }
def GenevePortsUptoSaid : Prop := genevePortsUptoRow.holds Try.pinned (OpenSpec.upto genevePortsSpec)

end Rows
end Go.Proofs.Ytkhpligflffamaa
