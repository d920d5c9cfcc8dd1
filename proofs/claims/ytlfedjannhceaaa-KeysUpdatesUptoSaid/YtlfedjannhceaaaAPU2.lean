/-
  The plain law: numbers of new rows are apart; too many rows are needed to run out of them.
-/
import Derived.Test.YtlfedjannhceaaaKVU2
set_option linter.unusedVariables false
set_option linter.unusedSimpArgs false
set_option maxRecDepth 100000
namespace Go.Proofs.Ytlfedjannhceaaa
open Go Go.SL Go.Proofs
theorem nfree_not (hs : List Int) : ∀ n : Int, nfree hs n ∉ hs := by
  intro n
  generalize hm : cntN hs n = m
  induction m using Nat.strongRecOn generalizing n with
  | _ m ih =>
    by_cases hi : n ∈ hs
    · rw [nfree_in hi]; exact ih (cntN hs (n + 1)) (hm ▸ cntN_lt hi) (n + 1) rfl
    · rw [nfree_out hi]; exact hi
theorem baEq {a b : ByteArray} (h : (a == b) = true) : a = b := by
  rw [beq_toListBytes] at h
  have e : a.toList = b.toList := by simpa using h
  have : a.data.toList = b.data.toList := by rw [← Lib.toList_data, ← Lib.toList_data]; exact e
  have h3 := Array.toList_inj.1 this
  cases a; cases b
  simp only at h3
  rw [h3]
end Go.Proofs.Ytlfedjannhceaaa
