/-
  No cell of these rows narrows 'for every input' (looked for: loops, veiled, ifaces, maps, wideKeys, modest, calm, conditions, laid).
  DERIVED. THE GIVEN ROWS OF THIS SEAT. 5 by the template 'for every input the law returns true; each argument reads behind the call as it read before'; 0 by the template 'total and deterministic' (their statements: YtdmlkcphlidcfaaTotals.lean).
  GIVEN WITH THE SEED: the statements are not yours to turn. If you find one false, say at which input.
  Laid BY PROGRAM, IN A SANDBOX (cutbox-rows.mjs): the forced cells as the released guide's own fill.sh prints them over the translation f456b56867c8f501… (all of the seat's roots in one cut). By AI agents, Wed Nov 11 2026. No macro, syntax, notation, axiom, sorry.
-/
import Derived.Test.YtdmlkcphlidcfaaChecked
import GoSem.Claim
import GoSem.ClaimJoined
import GoSem.ClaimMapViews
import Derived.JoinedTies
import Derived.KernelRfl
namespace Go.Proofs.Ytdmlkcphlidcfaa
/- THE CELL 'sum', in the pinned program and in every row, IS THE sha256 OF THE DUMP (.gsa) THAT YtdmlkcphlidcfaaProg.lean LOADS. Nothing in Lean hashes anything: it is a label: what it is worth is what the hold of that sum in a sandbox is worth. -/
noncomputable def Try.pinned : Pinned := { name := "ytdmlkcphlidcfaa", sum := "f456b56867c8f5011917b584a59c292ee4546393c3977249443213f97cbf1cd6", checked := Try.checked }
namespace Rows
def none {H : Type} : Left H := { results := [], args := [] }

/-- 'skeinlaw04.L4Decodes': WHATEVER THE INPUT: true; the input reads as it did. -/
def l4DecodesSpec : ChangeSpec := { name := "l4Decodes", fn := fun _ => fun
  | [d1, d2, d3, d4] => { results := [.lit (.bool true)], args := [d1, d2, d3, d4] }
  | _ => none }
def l4DecodesRow : OpenClaim := { program := "ytdmlkcphlidcfaa", sum := "f456b56867c8f5011917b584a59c292ee4546393c3977249443213f97cbf1cd6", func := "skein/skeinlaw04.L4Decodes", spec := "l4Decodes", apart := false }
def L4DecodesSaid : Prop := l4DecodesRow.holds Try.pinned (OpenSpec.ofChange l4DecodesSpec)

/-- ITS FALSE NEIGHBOUR: 'it returns false'. Refute it at one input. -/
def l4DecodesWrong : ChangeSpec := { name := "l4Decodes", fn := fun _ => fun
  | [d1, d2, d3, d4] => { results := [.lit (.bool false)], args := [d1, d2, d3, d4] }
  | _ => none }
def L4DecodesWrongFalsely : Prop := l4DecodesRow.holds Try.pinned (OpenSpec.ofChange l4DecodesWrong)

/-- 'skeinlaw04.L4Encodes': WHATEVER THE INPUT: true; the input reads as it did. -/
def l4EncodesSpec : ChangeSpec := { name := "l4Encodes", fn := fun _ => fun
  | [d1, d2, d3] => { results := [.lit (.bool true)], args := [d1, d2, d3] }
  | _ => none }
def l4EncodesRow : OpenClaim := { program := "ytdmlkcphlidcfaa", sum := "f456b56867c8f5011917b584a59c292ee4546393c3977249443213f97cbf1cd6", func := "skein/skeinlaw04.L4Encodes", spec := "l4Encodes", apart := false }
def L4EncodesSaid : Prop := l4EncodesRow.holds Try.pinned (OpenSpec.ofChange l4EncodesSpec)

/-- ITS FALSE NEIGHBOUR: 'it returns false'. Refute it at one input. -/
def l4EncodesWrong : ChangeSpec := { name := "l4Encodes", fn := fun _ => fun
  | [d1, d2, d3] => { results := [.lit (.bool false)], args := [d1, d2, d3] }
  | _ => none }
def L4EncodesWrongFalsely : Prop := l4EncodesRow.holds Try.pinned (OpenSpec.ofChange l4EncodesWrong)

/-- 'skeinlaw04.L4Sums': WHATEVER THE INPUT: true; the input reads as it did. -/
def l4SumsSpec : ChangeSpec := { name := "l4Sums", fn := fun _ => fun
  | [d1, d2, d3, d4] => { results := [.lit (.bool true)], args := [d1, d2, d3, d4] }
  | _ => none }
def l4SumsRow : OpenClaim := { program := "ytdmlkcphlidcfaa", sum := "f456b56867c8f5011917b584a59c292ee4546393c3977249443213f97cbf1cd6", func := "skein/skeinlaw04.L4Sums", spec := "l4Sums", apart := false }
def L4SumsSaid : Prop := l4SumsRow.holds Try.pinned (OpenSpec.ofChange l4SumsSpec)

/-- ITS FALSE NEIGHBOUR: 'it returns false'. Refute it at one input. -/
def l4SumsWrong : ChangeSpec := { name := "l4Sums", fn := fun _ => fun
  | [d1, d2, d3, d4] => { results := [.lit (.bool false)], args := [d1, d2, d3, d4] }
  | _ => none }
def L4SumsWrongFalsely : Prop := l4SumsRow.holds Try.pinned (OpenSpec.ofChange l4SumsWrong)

/-- 'skeinlaw04.L4Protos': WHATEVER THE INPUT: true; the input reads as it did. -/
def l4ProtosSpec : ChangeSpec := { name := "l4Protos", fn := fun _ => fun
  | [d] => { results := [.lit (.bool true)], args := [d] }
  | _ => none }
def l4ProtosRow : OpenClaim := { program := "ytdmlkcphlidcfaa", sum := "f456b56867c8f5011917b584a59c292ee4546393c3977249443213f97cbf1cd6", func := "skein/skeinlaw04.L4Protos", spec := "l4Protos", apart := false }
def L4ProtosSaid : Prop := l4ProtosRow.holds Try.pinned (OpenSpec.ofChange l4ProtosSpec)

/-- ITS FALSE NEIGHBOUR: 'it returns false'. Refute it at one input. -/
def l4ProtosWrong : ChangeSpec := { name := "l4Protos", fn := fun _ => fun
  | [d] => { results := [.lit (.bool false)], args := [d] }
  | _ => none }
def L4ProtosWrongFalsely : Prop := l4ProtosRow.holds Try.pinned (OpenSpec.ofChange l4ProtosWrong)

/-- 'skeinlaw04.L4Turned': WHATEVER THE INPUT: true; the input reads as it did. -/
def l4TurnedSpec : ChangeSpec := { name := "l4Turned", fn := fun _ => fun
  | [d1, d2, d3, d4] => { results := [.lit (.bool true)], args := [d1, d2, d3, d4] }
  | _ => none }
def l4TurnedRow : OpenClaim := { program := "ytdmlkcphlidcfaa", sum := "f456b56867c8f5011917b584a59c292ee4546393c3977249443213f97cbf1cd6", func := "skein/skeinlaw04.L4Turned", spec := "l4Turned", apart := false }
def L4TurnedSaid : Prop := l4TurnedRow.holds Try.pinned (OpenSpec.ofChange l4TurnedSpec)

/-- ITS FALSE NEIGHBOUR: 'it returns false'. Refute it at one input. -/
def l4TurnedWrong : ChangeSpec := { name := "l4Turned", fn := fun _ => fun
  | [d1, d2, d3, d4] => { results := [.lit (.bool false)], args := [d1, d2, d3, d4] }
  | _ => none }
def L4TurnedWrongFalsely : Prop := l4TurnedRow.holds Try.pinned (OpenSpec.ofChange l4TurnedWrong)

/- THE SECOND FORM. 'bulk': how many values and letters a reading holds, each counted each time it is reached (what is shared counts as often as it is met; a slice's spare places count too). A statement '..UptoSaid' is the law's where the arguments, and the package variables that the reading takes, are together of bulk at most 1048576: NARROWER than '..Said'. Prove '..Said' where nothing that the law and all that it calls make is longer than what came in: it says more and counts as full. Else prove '..UptoSaid'. A law counts once. -/
mutual
def uptoBulk {H : Type} : DataW H → Nat
  | .lit (.string bytes) => bytes.length + 1
  | .lit _ => 1
  | .nil => 1
  | .ptr d => uptoBulk d + 1
  | .slice elems spare => uptoBulkAll elems + uptoBulkAll spare + 1
  | .agg parts => uptoBulkAll parts + 1
  | .iface _ d => uptoBulk d + 1
  | .map entries => uptoBulkEntries entries + 1
  | .held _ => 1
def uptoBulkAll {H : Type} : List (DataW H) → Nat
  | [] => 0
  | d :: r => uptoBulk d + uptoBulkAll r
def uptoBulkEntries {H : Type} : List (Lit × DataW H) → Nat
  | [] => 0
  | x :: r => uptoBulkEntry x + uptoBulkEntries r
def uptoBulkEntry {H : Type} : Lit × DataW H → Nat
  | (.string bytes, d) => bytes.length + uptoBulk d + 1
  | (_, d) => uptoBulk d + 1
 end
def uptoSmall : (H : Type) → List (DataW H) → Bool := fun _ ds => decide (uptoBulkAll ds ≤ 1048576)
def OpenSpec.upto (s : _root_.Go.ChangeSpec) : _root_.Go.OpenSpec := { _root_.Go.OpenSpec.ofChange s with cond := some uptoSmall }

/-- 'skeinlaw04.L4Decodes', WHERE WHAT IT READS IS OF BULK AT MOST 1048576: true; the input reads as it did. -/
def l4DecodesUptoRow : OpenClaim := { program := "ytdmlkcphlidcfaa", sum := "f456b56867c8f5011917b584a59c292ee4546393c3977249443213f97cbf1cd6", func := "skein/skeinlaw04.L4Decodes", spec := "l4Decodes", apart := false, narrowed := true }
def L4DecodesUptoSaid : Prop := l4DecodesUptoRow.holds Try.pinned (OpenSpec.upto l4DecodesSpec)

/-- 'skeinlaw04.L4Encodes', WHERE WHAT IT READS IS OF BULK AT MOST 1048576: true; the input reads as it did. -/
def l4EncodesUptoRow : OpenClaim := { program := "ytdmlkcphlidcfaa", sum := "f456b56867c8f5011917b584a59c292ee4546393c3977249443213f97cbf1cd6", func := "skein/skeinlaw04.L4Encodes", spec := "l4Encodes", apart := false, narrowed := true }
def L4EncodesUptoSaid : Prop := l4EncodesUptoRow.holds Try.pinned (OpenSpec.upto l4EncodesSpec)

/-- 'skeinlaw04.L4Sums', WHERE WHAT IT READS IS OF BULK AT MOST 1048576: true; the input reads as it did. -/
def l4SumsUptoRow : OpenClaim := { program := "ytdmlkcphlidcfaa", sum := "f456b56867c8f5011917b584a59c292ee4546393c3977249443213f97cbf1cd6", func := "skein/skeinlaw04.L4Sums", spec := "l4Sums", apart := false, narrowed := true }
def L4SumsUptoSaid : Prop := l4SumsUptoRow.holds Try.pinned (OpenSpec.upto l4SumsSpec)

/-- 'skeinlaw04.L4Protos', WHERE WHAT IT READS IS OF BULK AT MOST 1048576: true; the input reads as it did. -/
def l4ProtosUptoRow : OpenClaim := { program := "ytdmlkcphlidcfaa", sum := "f456b56867c8f5011917b584a59c292ee4546393c3977249443213f97cbf1cd6", func := "skein/skeinlaw04.L4Protos", spec := "l4Protos", apart := false, narrowed := true }
def L4ProtosUptoSaid : Prop := l4ProtosUptoRow.holds Try.pinned (OpenSpec.upto l4ProtosSpec)

/-- 'skeinlaw04.L4Turned', WHERE WHAT IT READS IS OF BULK AT MOST 1048576: true; the input reads as it did. -/
def l4TurnedUptoRow : OpenClaim := { program := "ytdmlkcphlidcfaa", sum := "f456b56867c8f5011917b584a59c292ee4546393c3977249443213f97cbf1cd6", func := "skein/skeinlaw04.L4Turned", spec := "l4Turned", apart := false, narrowed := true }
def L4TurnedUptoSaid : Prop := l4TurnedUptoRow.holds Try.pinned (OpenSpec.upto l4TurnedSpec)

end Rows
end Go.Proofs.Ytdmlkcphlidcfaa
