/-
  No cell of these rows narrows 'for every input' (looked for: loops, veiled, ifaces, maps, wideKeys, modest, calm, conditions, laid).
  DERIVED. THE GIVEN ROWS OF THIS SEAT. 4 by the template 'for every input the law returns true; each argument reads behind the call as it read before'; 0 by the template 'total and deterministic' (their statements: YtlfedjannhceaaaTotals.lean).
  GIVEN WITH THE SEED: the statements are not yours to turn. If you find one false, say at which input.
  Laid BY PROGRAM, IN A SANDBOX (cutbox-rows.mjs): the forced cells as the released guide's own fill.sh prints them over the translation f1b9f363f4d19e38… (all of the seat's roots in one cut). By AI agents, Wed Nov 11 2026. No macro, syntax, notation, axiom, sorry.
-/
import Derived.Test.YtlfedjannhceaaaChecked
import GoSem.Claim
import GoSem.ClaimJoined
import GoSem.ClaimMapViews
import Derived.JoinedTies
import Derived.KernelRfl
namespace Go.Proofs.Ytlfedjannhceaaa
/- THE CELL 'sum', in the pinned program and in every row, IS THE sha256 OF THE DUMP (.gsa) THAT YtlfedjannhceaaaProg.lean LOADS. Nothing in Lean hashes anything: it is a label: what it is worth is what the hold of that sum in a sandbox is worth. -/
noncomputable def Try.pinned : Pinned := { name := "ytlfedjannhceaaa", sum := "f1b9f363f4d19e3897ac350808776fbc94f3789fb2c384ab0f7033dd4b19b46f", checked := Try.checked }
namespace Rows
def none {H : Type} : Left H := { results := [], args := [] }

/-- 'skeinlaw19.KeysUpdates': WHATEVER THE INPUT: true; the input reads as it did. -/
def keysUpdatesSpec : ChangeSpec := { name := "keysUpdates", fn := fun _ => fun
  | [d1, d2] => { results := [.lit (.bool true)], args := [d1, d2] }
  | _ => none }
def keysUpdatesRow : OpenClaim := { program := "ytlfedjannhceaaa", sum := "f1b9f363f4d19e3897ac350808776fbc94f3789fb2c384ab0f7033dd4b19b46f", func := "skein/skeinlaw19.KeysUpdates", spec := "keysUpdates", unfollowed := true, recurses := true, apart := false }
def KeysUpdatesSaid : Prop := keysUpdatesRow.holds Try.pinned (OpenSpec.ofChange keysUpdatesSpec)

/-- ITS FALSE NEIGHBOUR: 'it returns false'. Refute it at one input. -/
def keysUpdatesWrong : ChangeSpec := { name := "keysUpdates", fn := fun _ => fun
  | [d1, d2] => { results := [.lit (.bool false)], args := [d1, d2] }
  | _ => none }
def KeysUpdatesWrongFalsely : Prop := keysUpdatesRow.holds Try.pinned (OpenSpec.ofChange keysUpdatesWrong)

/-- 'skeinlaw19.KeysStay': WHATEVER THE INPUT: true; the input reads as it did. -/
def keysStaySpec : ChangeSpec := { name := "keysStay", fn := fun _ => fun
  | [d1, d2, d3] => { results := [.lit (.bool true)], args := [d1, d2, d3] }
  | _ => none }
def keysStayRow : OpenClaim := { program := "ytlfedjannhceaaa", sum := "f1b9f363f4d19e3897ac350808776fbc94f3789fb2c384ab0f7033dd4b19b46f", func := "skein/skeinlaw19.KeysStay", spec := "keysStay", unfollowed := true, recurses := true, apart := false }
def KeysStaySaid : Prop := keysStayRow.holds Try.pinned (OpenSpec.ofChange keysStaySpec)

/-- ITS FALSE NEIGHBOUR: 'it returns false'. Refute it at one input. -/
def keysStayWrong : ChangeSpec := { name := "keysStay", fn := fun _ => fun
  | [d1, d2, d3] => { results := [.lit (.bool false)], args := [d1, d2, d3] }
  | _ => none }
def KeysStayWrongFalsely : Prop := keysStayRow.holds Try.pinned (OpenSpec.ofChange keysStayWrong)

/-- 'skeinlaw19.KeysFinds': WHATEVER THE INPUT: true; the input reads as it did. -/
def keysFindsSpec : ChangeSpec := { name := "keysFinds", fn := fun _ => fun
  | [d1, d2, d3] => { results := [.lit (.bool true)], args := [d1, d2, d3] }
  | _ => none }
def keysFindsRow : OpenClaim := { program := "ytlfedjannhceaaa", sum := "f1b9f363f4d19e3897ac350808776fbc94f3789fb2c384ab0f7033dd4b19b46f", func := "skein/skeinlaw19.KeysFinds", spec := "keysFinds", unfollowed := true, recurses := true, apart := false }
def KeysFindsSaid : Prop := keysFindsRow.holds Try.pinned (OpenSpec.ofChange keysFindsSpec)

/-- ITS FALSE NEIGHBOUR: 'it returns false'. Refute it at one input. -/
def keysFindsWrong : ChangeSpec := { name := "keysFinds", fn := fun _ => fun
  | [d1, d2, d3] => { results := [.lit (.bool false)], args := [d1, d2, d3] }
  | _ => none }
def KeysFindsWrongFalsely : Prop := keysFindsRow.holds Try.pinned (OpenSpec.ofChange keysFindsWrong)

/-- 'skeinlaw19.KeysApart': WHATEVER THE INPUT: true; the input reads as it did. -/
def keysApartSpec : ChangeSpec := { name := "keysApart", fn := fun _ => fun
  | [d] => { results := [.lit (.bool true)], args := [d] }
  | _ => none }
def keysApartRow : OpenClaim := { program := "ytlfedjannhceaaa", sum := "f1b9f363f4d19e3897ac350808776fbc94f3789fb2c384ab0f7033dd4b19b46f", func := "skein/skeinlaw19.KeysApart", spec := "keysApart", unfollowed := true, recurses := true, apart := false }
def KeysApartSaid : Prop := keysApartRow.holds Try.pinned (OpenSpec.ofChange keysApartSpec)

/-- ITS FALSE NEIGHBOUR: 'it returns false'. Refute it at one input. -/
def keysApartWrong : ChangeSpec := { name := "keysApart", fn := fun _ => fun
  | [d] => { results := [.lit (.bool false)], args := [d] }
  | _ => none }
def KeysApartWrongFalsely : Prop := keysApartRow.holds Try.pinned (OpenSpec.ofChange keysApartWrong)

/- THE SECOND FORM. 'bulk': how many values and letters a reading holds, each counted each time it is reached (what is shared counts as often as it is met; a slice's spare places count too). A statement '..UptoSaid' is the law's where the arguments, and the package variables that the reading takes, are together of bulk at most 1048576: NARROWER than '..Said'. Prove '..Said' where nothing that the law and all that it calls make is longer than what came in: it says more and counts as full. Else prove '..UptoSaid'. A law counts once. -/
mutual
def uptoBulk {H : Type} : DataW H → Nat
  | .lit (.string bytes) => bytes.length + 1
  | .lit _ => 1
  | .nil => 1
  | .ptr d => uptoBulk d + 1
  | .slice elems spare => uptoBulkAll elems + uptoBulkAll spare + 1
  | .agg parts => uptoBulkAll parts + 1
  | .iface _ d => uptoBulk d + 1
  | .map entries => uptoBulkEntries entries + 1
  | .held _ => 1
def uptoBulkAll {H : Type} : List (DataW H) → Nat
  | [] => 0
  | d :: r => uptoBulk d + uptoBulkAll r
def uptoBulkEntries {H : Type} : List (Lit × DataW H) → Nat
  | [] => 0
  | x :: r => uptoBulkEntry x + uptoBulkEntries r
def uptoBulkEntry {H : Type} : Lit × DataW H → Nat
  | (.string bytes, d) => bytes.length + uptoBulk d + 1
  | (_, d) => uptoBulk d + 1
 end
def uptoSmall : (H : Type) → List (DataW H) → Bool := fun _ ds => decide (uptoBulkAll ds ≤ 1048576)
def OpenSpec.upto (s : _root_.Go.ChangeSpec) : _root_.Go.OpenSpec := { _root_.Go.OpenSpec.ofChange s with cond := some uptoSmall }

/-- 'skeinlaw19.KeysUpdates', WHERE WHAT IT READS IS OF BULK AT MOST 1048576: true; the input reads as it did. -/
def keysUpdatesUptoRow : OpenClaim := { program := "ytlfedjannhceaaa", sum := "f1b9f363f4d19e3897ac350808776fbc94f3789fb2c384ab0f7033dd4b19b46f", func := "skein/skeinlaw19.KeysUpdates", spec := "keysUpdates", unfollowed := true, recurses := true, apart := false, narrowed := true }
def KeysUpdatesUptoSaid : Prop := keysUpdatesUptoRow.holds Try.pinned (OpenSpec.upto keysUpdatesSpec)

/-- 'skeinlaw19.KeysStay', WHERE WHAT IT READS IS OF BULK AT MOST 1048576: true; the input reads as it did. -/
def keysStayUptoRow : OpenClaim := { program := "ytlfedjannhceaaa", sum := "f1b9f363f4d19e3897ac350808776fbc94f3789fb2c384ab0f7033dd4b19b46f", func := "skein/skeinlaw19.KeysStay", spec := "keysStay", unfollowed := true, recurses := true, apart := false, narrowed := true }
def KeysStayUptoSaid : Prop := keysStayUptoRow.holds Try.pinned (OpenSpec.upto keysStaySpec)

/-- 'skeinlaw19.KeysFinds', WHERE WHAT IT READS IS OF BULK AT MOST 1048576: true; the input reads as it did. -/
def keysFindsUptoRow : OpenClaim := { program := "ytlfedjannhceaaa", sum := "f1b9f363f4d19e3897ac350808776fbc94f3789fb2c384ab0f7033dd4b19b46f", func := "skein/skeinlaw19.KeysFinds", spec := "keysFinds", unfollowed := true, recurses := true, apart := false, narrowed := true }
def KeysFindsUptoSaid : Prop := keysFindsUptoRow.holds Try.pinned (OpenSpec.upto keysFindsSpec)

/-- 'skeinlaw19.KeysApart', WHERE WHAT IT READS IS OF BULK AT MOST 1048576: true; the input reads as it did. -/
def keysApartUptoRow : OpenClaim := { program := "ytlfedjannhceaaa", sum := "f1b9f363f4d19e3897ac350808776fbc94f3789fb2c384ab0f7033dd4b19b46f", func := "skein/skeinlaw19.KeysApart", spec := "keysApart", unfollowed := true, recurses := true, apart := false, narrowed := true }
def KeysApartUptoSaid : Prop := keysApartUptoRow.holds Try.pinned (OpenSpec.upto keysApartSpec)

end Rows
end Go.Proofs.Ytlfedjannhceaaa
