/-
  NARROWER THAN 'FOR EVERY INPUT', by the rows' own cells (each row's printed sentence says how): ActPrints: loops.
  DERIVED. THE GIVEN ROWS OF THIS SEAT. 4 by the template 'for every input the law returns true; each argument reads behind the call as it read before'; 0 by the template 'total and deterministic' (their statements: YtmihiknppifkdaaGreatTotals.lean).
  GIVEN WITH THE SEED: the statements are not yours to turn. If you find one false, say at which input.
  Laid BY PROGRAM, IN A SANDBOX (cutbox-rows.mjs): the forced cells as the released guide's own fill.sh prints them over the translation dcffe5c758f0a183… (all of the seat's roots in one cut). By AI agents, Wed Nov 11 2026. No macro, syntax, notation, axiom, sorry.
-/
import Derived.Test.YtmihiknppifkdaaGreatChecked
import GoSem.Claim
import GoSem.ClaimJoined
import GoSem.ClaimMapViews
import Derived.JoinedTies
import Derived.KernelRfl
namespace Go.Proofs.YtmihiknppifkdaaGreat
/- THE CELL 'sum', in the pinned program and in every row, IS THE sha256 OF THE DUMP (.gsa) THAT YtmihiknppifkdaaGreatProg.lean LOADS. Nothing in Lean hashes anything: it is a label: what it is worth is what the hold of that sum in a sandbox is worth. -/
noncomputable def Tryz.pinned : Pinned := { name := "ytmihiknppifkdaagreat", sum := "dcffe5c758f0a18311a83d598d91c94664bd47e0536f9cfd8fe7f63be86b8b81", checked := Tryz.checked }
namespace Rows
def none {H : Type} : Left H := { results := [], args := [] }

/-- 'skeinlaw11.ActPicks': WHATEVER THE INPUT: true; the input reads as it did. -/
def actPicksSpec : ChangeSpec := { name := "actPicks", fn := fun _ => fun
  | [d1, d2] => { results := [.lit (.bool true)], args := [d1, d2] }
  | _ => none }
def actPicksRow : OpenClaim := { program := "ytmihiknppifkdaagreat", sum := "dcffe5c758f0a18311a83d598d91c94664bd47e0536f9cfd8fe7f63be86b8b81", func := "skein/skeinlaw11.ActPicks", spec := "actPicks", unfollowed := true, recurses := true, apart := false }
def ActPicksSaid : Prop := actPicksRow.holds Tryz.pinned (OpenSpec.ofChange actPicksSpec)

/-- ITS FALSE NEIGHBOUR: 'it returns false'. Refute it at one input. -/
def actPicksWrong : ChangeSpec := { name := "actPicks", fn := fun _ => fun
  | [d1, d2] => { results := [.lit (.bool false)], args := [d1, d2] }
  | _ => none }
def ActPicksWrongFalsely : Prop := actPicksRow.holds Tryz.pinned (OpenSpec.ofChange actPicksWrong)

/-- 'skeinlaw11.ActHops': WHATEVER THE INPUT: true; the input reads as it did. -/
def actHopsSpec : ChangeSpec := { name := "actHops", fn := fun _ => fun
  | [d] => { results := [.lit (.bool true)], args := [d] }
  | _ => none }
def actHopsRow : OpenClaim := { program := "ytmihiknppifkdaagreat", sum := "dcffe5c758f0a18311a83d598d91c94664bd47e0536f9cfd8fe7f63be86b8b81", func := "skein/skeinlaw11.ActHops", spec := "actHops", unfollowed := true, recurses := true, apart := false }
def ActHopsSaid : Prop := actHopsRow.holds Tryz.pinned (OpenSpec.ofChange actHopsSpec)

/-- ITS FALSE NEIGHBOUR: 'it returns false'. Refute it at one input. -/
def actHopsWrong : ChangeSpec := { name := "actHops", fn := fun _ => fun
  | [d] => { results := [.lit (.bool false)], args := [d] }
  | _ => none }
def ActHopsWrongFalsely : Prop := actHopsRow.holds Tryz.pinned (OpenSpec.ofChange actHopsWrong)

/-- 'skeinlaw11.ActClones': WHATEVER THE INPUT: true; the input reads as it did. -/
def actClonesSpec : ChangeSpec := { name := "actClones", fn := fun _ => fun
  | [d1, d2] => { results := [.lit (.bool true)], args := [d1, d2] }
  | _ => none }
def actClonesRow : OpenClaim := { program := "ytmihiknppifkdaagreat", sum := "dcffe5c758f0a18311a83d598d91c94664bd47e0536f9cfd8fe7f63be86b8b81", func := "skein/skeinlaw11.ActClones", spec := "actClones", unfollowed := true, recurses := true, apart := false }
def ActClonesSaid : Prop := actClonesRow.holds Tryz.pinned (OpenSpec.ofChange actClonesSpec)

/-- ITS FALSE NEIGHBOUR: 'it returns false'. Refute it at one input. -/
def actClonesWrong : ChangeSpec := { name := "actClones", fn := fun _ => fun
  | [d1, d2] => { results := [.lit (.bool false)], args := [d1, d2] }
  | _ => none }
def ActClonesWrongFalsely : Prop := actClonesRow.holds Tryz.pinned (OpenSpec.ofChange actClonesWrong)

/-- 'skeinlaw11.ActPrints': WHATEVER THE INPUT: true; the input reads as it did. -/
def actPrintsSpec : ChangeSpec := { name := "actPrints", fn := fun _ => fun
  | [d1, d2] => { results := [.lit (.bool true)], args := [d1, d2] }
  | _ => none }
def actPrintsRow : OpenClaim := { program := "ytmihiknppifkdaagreat", sum := "dcffe5c758f0a18311a83d598d91c94664bd47e0536f9cfd8fe7f63be86b8b81", func := "skein/skeinlaw11.ActPrints", spec := "actPrints", unfollowed := true, recurses := true, loops := true, apart := false }
def ActPrintsSaid : Prop := actPrintsRow.holds Tryz.pinned (OpenSpec.ofChange actPrintsSpec)

/-- ITS FALSE NEIGHBOUR: 'it returns false'. Refute it at one input. -/
def actPrintsWrong : ChangeSpec := { name := "actPrints", fn := fun _ => fun
  | [d1, d2] => { results := [.lit (.bool false)], args := [d1, d2] }
  | _ => none }
def ActPrintsWrongFalsely : Prop := actPrintsRow.holds Tryz.pinned (OpenSpec.ofChange actPrintsWrong)

/- THE SECOND FORM. 'bulk': how many values and letters a reading holds, each counted each time it is reached (what is shared counts as often as it is met; a slice's spare places count too). A statement '..UptoSaid' is the law's where the arguments, and the package variables that the reading takes, are together of bulk at most 1048576: NARROWER than '..Said'. Prove '..Said' where nothing that the law and all that it calls make is longer than what came in: it says more and counts as full. Else prove '..UptoSaid'. A law counts once. -/
mutual
def uptoBulk {H : Type} : DataW H → Nat
  | .lit (.string bytes) => bytes.length + 1
  | .lit _ => 1
  | .nil => 1
  | .ptr d => uptoBulk d + 1
  | .slice elems spare => uptoBulkAll elems + uptoBulkAll spare + 1
  | .agg parts => uptoBulkAll parts + 1
  | .iface _ d => uptoBulk d + 1
  | .map entries => uptoBulkEntries entries + 1
  | .held _ => 1
def uptoBulkAll {H : Type} : List (DataW H) → Nat
  | [] => 0
  | d :: r => uptoBulk d + uptoBulkAll r
def uptoBulkEntries {H : Type} : List (Lit × DataW H) → Nat
  | [] => 0
  | x :: r => uptoBulkEntry x + uptoBulkEntries r
def uptoBulkEntry {H : Type} : Lit × DataW H → Nat
  | (.string bytes, d) => bytes.length + uptoBulk d + 1
  | (_, d) => uptoBulk d + 1
 end
def uptoSmall : (H : Type) → List (DataW H) → Bool := fun _ ds => decide (uptoBulkAll ds ≤ 1048576)
def OpenSpec.upto (s : _root_.Go.ChangeSpec) : _root_.Go.OpenSpec := { _root_.Go.OpenSpec.ofChange s with cond := some uptoSmall }

/-- 'skeinlaw11.ActPicks', WHERE WHAT IT READS IS OF BULK AT MOST 1048576: true; the input reads as it did. -/
def actPicksUptoRow : OpenClaim := { program := "ytmihiknppifkdaagreat", sum := "dcffe5c758f0a18311a83d598d91c94664bd47e0536f9cfd8fe7f63be86b8b81", func := "skein/skeinlaw11.ActPicks", spec := "actPicks", unfollowed := true, recurses := true, apart := false, narrowed := true }
def ActPicksUptoSaid : Prop := actPicksUptoRow.holds Tryz.pinned (OpenSpec.upto actPicksSpec)

/-- 'skeinlaw11.ActHops', WHERE WHAT IT READS IS OF BULK AT MOST 1048576: true; the input reads as it did. -/
def actHopsUptoRow : OpenClaim := { program := "ytmihiknppifkdaagreat", sum := "dcffe5c758f0a18311a83d598d91c94664bd47e0536f9cfd8fe7f63be86b8b81", func := "skein/skeinlaw11.ActHops", spec := "actHops", unfollowed := true, recurses := true, apart := false, narrowed := true }
def ActHopsUptoSaid : Prop := actHopsUptoRow.holds Tryz.pinned (OpenSpec.upto actHopsSpec)

/-- 'skeinlaw11.ActClones', WHERE WHAT IT READS IS OF BULK AT MOST 1048576: true; the input reads as it did. -/
def actClonesUptoRow : OpenClaim := { program := "ytmihiknppifkdaagreat", sum := "dcffe5c758f0a18311a83d598d91c94664bd47e0536f9cfd8fe7f63be86b8b81", func := "skein/skeinlaw11.ActClones", spec := "actClones", unfollowed := true, recurses := true, apart := false, narrowed := true }
def ActClonesUptoSaid : Prop := actClonesUptoRow.holds Tryz.pinned (OpenSpec.upto actClonesSpec)

/-- 'skeinlaw11.ActPrints', WHERE WHAT IT READS IS OF BULK AT MOST 1048576: true; the input reads as it did. -/
def actPrintsUptoRow : OpenClaim := { program := "ytmihiknppifkdaagreat", sum := "dcffe5c758f0a18311a83d598d91c94664bd47e0536f9cfd8fe7f63be86b8b81", func := "skein/skeinlaw11.ActPrints", spec := "actPrints", unfollowed := true, recurses := true, loops := true, apart := false, narrowed := true }
def ActPrintsUptoSaid : Prop := actPrintsUptoRow.holds Tryz.pinned (OpenSpec.upto actPrintsSpec)

end Rows
end Go.Proofs.YtmihiknppifkdaaGreat
