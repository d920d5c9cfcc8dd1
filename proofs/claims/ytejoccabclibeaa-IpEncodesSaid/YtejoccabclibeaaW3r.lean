/-
  The given statement, proved from the contract of the law: whatever the arguments, the call returns true and each argument reads as it did. No condition.
-/
import Derived.Test.YtejoccabclibeaaRows
import Derived.Test.YtejoccabclibeaaSlX
set_option linter.unusedVariables false
set_option linter.unusedSimpArgs false
set_option maxRecDepth 100000
set_option maxHeartbeats 1000000
namespace Go.Proofs.Ytejoccabclibeaa
open Go Go.SL Go.Proofs

open Go.ChangeShapes Go.WideShapes Go.ChangeAt Go.RowKit
theorem Try.own : ownKnob Try.prog.godebug = none := by kernel_rfl
theorem Try.laidOut : laidOutB Try.prog = true := by kernel_rfl
/-- A head. -/
def isIp (x : AV) : Prop := ∃ (a0 a1 a2 a3 a4 a5 a6 : Int) (a7 : ByteArray), x = .agg [.sc (.int .i64 a0), .sc (.int .i64 a1), .sc (.int .i64 a2), .sc (.int .i64 a3), .sc (.int .i64 a4), .sc (.int .u32 a5), .sc (.int .u32 a6), .sc (.string a7)] ∧ (0 ≤ a5 ∧ a5 < 4294967296) ∧ (0 ≤ a6 ∧ a6 < 4294967296) ∧ a7.size ≤ 200000000000000
def isInt (x : AV) : Prop := ∃ n : Int, x = .sc (.int .i64 n) ∧ -9223372036854775808 ≤ n ∧ n ≤ 9223372036854775807
def isBytes (x : AV) : Prop := ∃ l : List UInt8, x = .im 1 (l.map byteAV) ∧ l.length ≤ 140737488351232
theorem RdV.mono {P : Program} {W : World} {t : TypeId} {S S' : AV → Prop} (h : RdV P W t S) (hs : ∀ x, S x → S' x) : RdV P W t S' := fun H enc base v d p h1 h2 h3 => by
  obtain ⟨x, h4, h5⟩ := h H enc base v d p h1 h2 h3
  exact ⟨x, h4, hs x h5⟩
theorem rv_Int (W : World) : RdV Try.prog W 3 isInt := RdV.mono (rv_int Try.underlying3) fun x ⟨n, h1, h2, h3⟩ => ⟨n, h1, h2, h3⟩
theorem rv_Bytes (W : World) : RdV Try.prog W 22 isBytes := RdV.mono (rv_bytes Try.underlying22 Try.underlying5 (by kernel_rfl) (by kernel_rfl)) fun x ⟨l, h1, h2⟩ => ⟨l, h1, by simpa [reachBytes] using h2⟩
theorem rv_Ip (W : World) : RdV Try.prog W 31 isIp := by
  refine RdV.mono (rv_struct Try.underlying31 (by kernel_rfl) (RdF.cons (rd_int Try.underlying3) (RdF.cons (rd_int Try.underlying3) (RdF.cons (rd_int Try.underlying3) (RdF.cons (rd_int Try.underlying3) (RdF.cons (rd_int Try.underlying3) (RdF.cons (rd_int Try.underlying29) (RdF.cons (rd_int Try.underlying29) (RdF.cons (rd_string Try.underlying9) (RdF.nil)))))))))) ?_
  intro x ⟨parts, hx, hp⟩
  obtain ⟨_, _, rfl, ⟨a0, rfl, h0⟩, hp1⟩ := All2.inv hp
  obtain ⟨_, _, rfl, ⟨a1, rfl, h1⟩, hp2⟩ := All2.inv hp1
  obtain ⟨_, _, rfl, ⟨a2, rfl, h2⟩, hp3⟩ := All2.inv hp2
  obtain ⟨_, _, rfl, ⟨a3, rfl, h3⟩, hp4⟩ := All2.inv hp3
  obtain ⟨_, _, rfl, ⟨a4, rfl, h4⟩, hp5⟩ := All2.inv hp4
  obtain ⟨_, _, rfl, ⟨a5, rfl, h5⟩, hp6⟩ := All2.inv hp5
  obtain ⟨_, _, rfl, ⟨a6, rfl, h6⟩, hp7⟩ := All2.inv hp6
  obtain ⟨_, _, rfl, ⟨a7, rfl, h7⟩, hp8⟩ := All2.inv hp7
  have hp9 := All2.inv0 hp8
  subst hp9
  refine ⟨a0, a1, a2, a3, a4, a5, a6, a7, hx, ⟨h5.1, ?_⟩, ⟨h6.1, ?_⟩, by simp only [reachBytes] at h7; omega⟩
  · have : a5 ≤ 4294967295 := h5.2
    omega
  · have : a6 ≤ 4294967295 := h6.2
    omega

end Go.Proofs.Ytejoccabclibeaa
