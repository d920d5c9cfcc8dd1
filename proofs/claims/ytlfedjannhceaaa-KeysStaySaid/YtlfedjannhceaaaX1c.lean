/-
  What an argument holds when a law is called.
-/
import Derived.Test.YtlfedjannhceaaaRows
import Derived.Test.YtlfedjannhceaaaXKc
set_option linter.unusedVariables false
set_option linter.unusedSimpArgs false
set_option maxRecDepth 100000
set_option maxHeartbeats 1000000
namespace Go.Proofs.Ytlfedjannhceaaa
open Go Go.SL Go.Proofs
open Go.ChangeShapes Go.WideShapes Go.ChangeAt Go.RowKit
theorem Try.own : ownKnob Try.prog.godebug = none := by kernel_rfl
theorem Try.laidOut : laidOutB Try.prog = true := by kernel_rfl
theorem keys_of : ∀ {rows : List (List AV)}, (∀ r ∈ rows, r.length = 2 ∧ Fit [.str, .int .i64] r) → ∃ l : List Key, rows.flatten = l.flatMap keyC ∧ l.length = rows.length ∧ ∀ o ∈ l, -9223372036854775808 ≤ o.num ∧ o.num ≤ 9223372036854775807
  | [], _ => ⟨[], rfl, rfl, fun t h => absurd h (by simp)⟩
  | r :: rows, h => by
    obtain ⟨l, h1, h2, h5⟩ := keys_of fun x hx => h x (List.mem_cons_of_mem _ hx)
    obtain ⟨_, _, _, rfl, ⟨a, rfl, ka⟩, _, _, rfl, ⟨b, rfl, kb⟩, h3⟩ := h r List.mem_cons_self
    simp only [Fit] at h3
    subst h3
    refine ⟨⟨a, b⟩ :: l, by rw [List.flatten_cons, h1, List.flatMap_cons]; rfl, by simp [h2], fun t ht => ?_⟩
    rcases List.mem_cons.1 ht with rfl | ht
    · exact kb
    · exact h5 t ht
end Go.Proofs.Ytlfedjannhceaaa
