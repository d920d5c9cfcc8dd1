/-
  What an argument holds when a law is called.
-/
import Derived.Test.YtkhpligflffamaaRows
import Derived.Test.YtkhpligflffamaaX2
set_option linter.unusedVariables false
set_option linter.unusedSimpArgs false
set_option maxRecDepth 100000
set_option maxHeartbeats 1000000
namespace Go.Proofs.Ytkhpligflffamaa
open Go Go.SL Go.Proofs
open Go.ChangeShapes Go.WideShapes Go.ChangeAt Go.RowKit
theorem Try.own : ownKnob Try.prog.godebug = none := by kernel_rfl
theorem Try.laidOut : laidOutB Try.prog = true := by kernel_rfl
def isK (k : IntKind) (x : AV) : Prop := ∃ n : Int, x = .sc (.int k n) ∧ k.min ≤ n ∧ n ≤ k.max
def isStr (x : AV) : Prop := ∃ s : ByteArray, x = .sc (.string s) ∧ s.size ≤ reachBytes
def isBool (x : AV) : Prop := ∃ b : Bool, x = .sc (.bool b)
def isBytes (x : AV) : Prop := ∃ l : List UInt8, x = .im 1 (l.map byteAV) ∧ l.length ≤ 140737488351232
theorem rv_I64 (W : World) : RdV Try.prog W 3 (isK .i64) := rv_int Try.underlying3
def isOpts (x : AV) : Prop := ∃ l : List Opt, x = OL l ∧ l.length ≤ 4611686018427387 ∧ ∀ o ∈ l, o.d.size ≤ reachBytes
theorem opts_of : ∀ {rows : List (List AV)}, (∀ r ∈ rows, r.length = 3 ∧ Fit [.int .i64, .int .i64, .str] r) → ∃ l : List Opt, rows.flatten = l.flatMap oC ∧ l.length = rows.length ∧ ∀ o ∈ l, o.d.size ≤ reachBytes
  | [], _ => ⟨[], rfl, rfl, fun t h => absurd h (by simp)⟩
  | r :: rows, h => by
    obtain ⟨l, h1, h2, h5⟩ := opts_of fun x hx => h x (List.mem_cons_of_mem _ hx)
    obtain ⟨_, _, _, rfl, ⟨a, rfl, ka⟩, _, _, rfl, ⟨b, rfl, kb⟩, _, _, rfl, ⟨c, rfl, kc⟩, h3⟩ := h r List.mem_cons_self
    simp only [Fit] at h3
    subst h3
    refine ⟨⟨a, b, c⟩ :: l, by rw [List.flatten_cons, h1, List.flatMap_cons]; rfl, by simp [h2], fun t ht => ?_⟩
    rcases List.mem_cons.1 ht with rfl | ht
    · exact kc
    · exact h5 t ht
theorem rv_Opts (W : World) : RdV Try.prog W 23 isOpts := by
  refine RdV.mono' (rv_slice (k := 3) Try.underlying23 (by kernel_rfl) (by decide) (rd_leaves 60 39 [.int .i64, .int .i64, .str] (by kernel_rfl))) ?_
  rintro x ⟨rows, rfl, h1, h2⟩
  obtain ⟨l, h3, h4, h5⟩ := opts_of h2
  refine ⟨l, by rw [h3], ?_, h5⟩
  have : Try.prog.bytesOf 39 = 32 := by kernel_rfl
  rw [this] at h1
  simp only [reachBytes] at h1
  omega

end Go.Proofs.Ytkhpligflffamaa
