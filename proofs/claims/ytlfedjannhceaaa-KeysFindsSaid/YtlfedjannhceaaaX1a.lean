/-
  What an argument holds when a law is called.
-/
import Derived.Test.YtlfedjannhceaaaRows
import Derived.Test.YtlfedjannhceaaaXKa
set_option linter.unusedVariables false
set_option linter.unusedSimpArgs false
set_option maxRecDepth 100000
set_option maxHeartbeats 1000000
namespace Go.Proofs.Ytlfedjannhceaaa
open Go Go.SL Go.Proofs
open Go.ChangeShapes Go.WideShapes Go.ChangeAt Go.RowKit
theorem Try.own : ownKnob Try.prog.godebug = none := by kernel_rfl
theorem Try.laidOut : laidOutB Try.prog = true := by kernel_rfl
def isK (k : IntKind) (x : AV) : Prop := ∃ n : Int, x = .sc (.int k n) ∧ k.min ≤ n ∧ n ≤ k.max
def isStr (x : AV) : Prop := ∃ s : ByteArray, x = .sc (.string s) ∧ s.size ≤ reachBytes
theorem rv_I64 (W : World) : RdV Try.prog W 3 (isK .i64) := rv_int Try.underlying3
theorem rv_Str (W : World) : RdV Try.prog W 9 isStr := rv_string Try.underlying9
def isKeyL (x : AV) : Prop := ∃ l : List Key, x = KL l ∧ l.length ≤ 5864062014634 ∧ ∀ o ∈ l, -9223372036854775808 ≤ o.num ∧ o.num ≤ 9223372036854775807
theorem keys_of : ∀ {rows : List (List AV)}, (∀ r ∈ rows, r.length = 2 ∧ Fit [.str, .int .i64] r) → ∃ l : List Key, rows.flatten = l.flatMap keyC ∧ l.length = rows.length ∧ ∀ o ∈ l, -9223372036854775808 ≤ o.num ∧ o.num ≤ 9223372036854775807
  | [], _ => ⟨[], rfl, rfl, fun t h => absurd h (by simp)⟩
  | r :: rows, h => by
    obtain ⟨l, h1, h2, h5⟩ := keys_of fun x hx => h x (List.mem_cons_of_mem _ hx)
    obtain ⟨_, _, _, rfl, ⟨a, rfl, ka⟩, _, _, rfl, ⟨b, rfl, kb⟩, h3⟩ := h r List.mem_cons_self
    simp only [Fit] at h3
    subst h3
    refine ⟨⟨a, b⟩ :: l, by rw [List.flatten_cons, h1, List.flatMap_cons]; rfl, by simp [h2], fun t ht => ?_⟩
    rcases List.mem_cons.1 ht with rfl | ht
    · exact kb
    · exact h5 t ht
theorem rv_KeyL (W : World) : RdV Try.prog W 22 isKeyL := by
  refine RdV.mono' (rv_slice (k := 2) Try.underlying22 (by kernel_rfl) (by decide) (rd_leaves 60 37 [.str, .int .i64] (by kernel_rfl))) ?_
  rintro x ⟨rows, rfl, h1, h2⟩
  obtain ⟨l, h3, h4, h5⟩ := keys_of h2
  refine ⟨l, by rw [h3], ?_, h5⟩
  have : Try.prog.bytesOf 37 = 24 := by kernel_rfl
  rw [this] at h1
  simp only [reachBytes] at h1
  omega

end Go.Proofs.Ytlfedjannhceaaa
