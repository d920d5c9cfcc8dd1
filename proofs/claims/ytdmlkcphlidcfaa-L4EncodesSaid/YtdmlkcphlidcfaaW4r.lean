/-
  The given statement, proved from the contract of the law: whatever the arguments, the call returns true and each argument reads as it did. No condition.
-/
import Derived.Test.YtdmlkcphlidcfaaRows
import Derived.Test.YtdmlkcphlidcfaaSlX
set_option linter.unusedVariables false
set_option linter.unusedSimpArgs false
set_option maxRecDepth 100000
set_option maxHeartbeats 1000000
namespace Go.Proofs.Ytdmlkcphlidcfaa
open Go Go.SL Go.Proofs

open Go.ChangeShapes Go.WideShapes Go.ChangeAt Go.RowKit
theorem Try.own : ownKnob Try.prog.godebug = none := by kernel_rfl
theorem Try.laidOut : laidOutB Try.prog = true := by kernel_rfl
def isInt (x : AV) : Prop := ∃ n : Int, x = .sc (.int .i64 n) ∧ -9223372036854775808 ≤ n ∧ n ≤ 9223372036854775807
def isU32 (x : AV) : Prop := ∃ n : Int, x = .sc (.int .u32 n) ∧ 0 ≤ n ∧ n ≤ 4294967295
def isBytes (x : AV) : Prop := ∃ l : List UInt8, x = .im 1 (l.map byteAV) ∧ l.length ≤ 140737488351232
/-- A packet of layer 4. -/
def isL4 (x : AV) : Prop := ∃ (a0 : Int) (a1 : Int) (a2 : Int) (a3 : Int) (a4 : Int) (a5 : Int) (a6 : Bool) (a7 : Int) (a8 : Int) (a9 : Int) (a10 : Int) (a11 : Int) (a12 : ByteArray) (a13 : ByteArray), x = .agg [.sc (.int .i64 a0), .sc (.int .i64 a1), .sc (.int .i64 a2), .sc (.int .u32 a3), .sc (.int .i64 a4), .sc (.int .i64 a5), .sc (.bool a6), .sc (.int .u32 a7), .sc (.int .u32 a8), .sc (.int .i64 a9), .sc (.int .i64 a10), .sc (.int .i64 a11), .sc (.string a12), .sc (.string a13)] ∧ (-9223372036854775808 ≤ a0 ∧ a0 ≤ 9223372036854775807) ∧ (-9223372036854775808 ≤ a1 ∧ a1 ≤ 9223372036854775807) ∧ (-9223372036854775808 ≤ a2 ∧ a2 ≤ 9223372036854775807) ∧ (0 ≤ a3 ∧ a3 ≤ 4294967295) ∧ (-9223372036854775808 ≤ a4 ∧ a4 ≤ 9223372036854775807) ∧ (-9223372036854775808 ≤ a5 ∧ a5 ≤ 9223372036854775807) ∧ (0 ≤ a7 ∧ a7 ≤ 4294967295) ∧ (0 ≤ a8 ∧ a8 ≤ 4294967295) ∧ (-9223372036854775808 ≤ a9 ∧ a9 ≤ 9223372036854775807) ∧ (-9223372036854775808 ≤ a10 ∧ a10 ≤ 9223372036854775807) ∧ (-9223372036854775808 ≤ a11 ∧ a11 ≤ 9223372036854775807) ∧ a12.size ≤ 140737488351232 ∧ a13.size ≤ 140737488351232
theorem RdV.mono {P : Program} {W : World} {t : TypeId} {S S' : AV → Prop} (h : RdV P W t S) (hs : ∀ x, S x → S' x) : RdV P W t S' := fun H enc base v d p h1 h2 h3 => by
  obtain ⟨x, h4, h5⟩ := h H enc base v d p h1 h2 h3
  exact ⟨x, h4, hs x h5⟩
theorem rv_Int (W : World) : RdV Try.prog W 3 isInt := RdV.mono (rv_int Try.underlying3) fun x ⟨n, h1, h2, h3⟩ => ⟨n, h1, h2, h3⟩
theorem rv_U32 (W : World) : RdV Try.prog W 22 isU32 := RdV.mono (rv_int Try.underlying22) fun x ⟨n, h1, h2, h3⟩ => ⟨n, h1, h2, h3⟩
theorem rv_Bytes (W : World) : RdV Try.prog W 23 isBytes := RdV.mono (rv_bytes Try.underlying23 Try.underlying5 (by kernel_rfl) (by kernel_rfl)) fun x ⟨l, h1, h2⟩ => ⟨l, h1, by simpa [reachBytes] using h2⟩
theorem rv_L4 (W : World) : RdV Try.prog W 25 isL4 := by
  refine RdV.mono (rv_struct Try.underlying25 (by kernel_rfl) (RdF.cons (rd_int Try.underlying3) (RdF.cons (rd_int Try.underlying3) (RdF.cons (rd_int Try.underlying3) (RdF.cons (rd_int Try.underlying22) (RdF.cons (rd_int Try.underlying3) (RdF.cons (rd_int Try.underlying3) (RdF.cons (rd_bool Try.underlying4) (RdF.cons (rd_int Try.underlying22) (RdF.cons (rd_int Try.underlying22) (RdF.cons (rd_int Try.underlying3) (RdF.cons (rd_int Try.underlying3) (RdF.cons (rd_int Try.underlying3) (RdF.cons (rd_string Try.underlying9) (RdF.cons (rd_string Try.underlying9) (RdF.nil)))))))))))))))) ?_
  intro x ⟨parts, hx, hp⟩
  obtain ⟨_, _, rfl, ⟨a0, rfl, k0⟩, hp1⟩ := All2.inv hp
  obtain ⟨_, _, rfl, ⟨a1, rfl, k1⟩, hp2⟩ := All2.inv hp1
  obtain ⟨_, _, rfl, ⟨a2, rfl, k2⟩, hp3⟩ := All2.inv hp2
  obtain ⟨_, _, rfl, ⟨a3, rfl, k3⟩, hp4⟩ := All2.inv hp3
  obtain ⟨_, _, rfl, ⟨a4, rfl, k4⟩, hp5⟩ := All2.inv hp4
  obtain ⟨_, _, rfl, ⟨a5, rfl, k5⟩, hp6⟩ := All2.inv hp5
  obtain ⟨_, _, rfl, ⟨a6, rfl⟩, hp7⟩ := All2.inv hp6
  obtain ⟨_, _, rfl, ⟨a7, rfl, k7⟩, hp8⟩ := All2.inv hp7
  obtain ⟨_, _, rfl, ⟨a8, rfl, k8⟩, hp9⟩ := All2.inv hp8
  obtain ⟨_, _, rfl, ⟨a9, rfl, k9⟩, hp10⟩ := All2.inv hp9
  obtain ⟨_, _, rfl, ⟨a10, rfl, k10⟩, hp11⟩ := All2.inv hp10
  obtain ⟨_, _, rfl, ⟨a11, rfl, k11⟩, hp12⟩ := All2.inv hp11
  obtain ⟨_, _, rfl, ⟨a12, rfl, k12⟩, hp13⟩ := All2.inv hp12
  obtain ⟨_, _, rfl, ⟨a13, rfl, k13⟩, hp14⟩ := All2.inv hp13
  have hp99 := All2.inv0 hp14
  subst hp99
  exact ⟨a0, a1, a2, a3, a4, a5, a6, a7, a8, a9, a10, a11, a12, a13, hx, k0, k1, k2, k3, k4, k5, k7, k8, k9, k10, k11, (by simpa [reachBytes] using k12), (by simpa [reachBytes] using k13)⟩

end Go.Proofs.Ytdmlkcphlidcfaa
