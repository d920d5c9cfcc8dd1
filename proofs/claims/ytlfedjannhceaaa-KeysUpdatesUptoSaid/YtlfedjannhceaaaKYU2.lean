/-
  Whether a row's name is there.
-/
import Derived.Test.YtlfedjannhceaaaKXU2
set_option linter.unusedVariables false
set_option linter.unusedSimpArgs false
set_option maxRecDepth 100000
set_option maxHeartbeats 1000000
namespace Go.Proofs.Ytlfedjannhceaaa
open Go Go.SL Go.Proofs
theorem ct_no (l : List Key) (r : Rw) (hc : Spec0 Try.prog 25 [KL l, .fn 30 [] [.ip (rowC r) 0]] (I .i64 (-1))) : Spec0 Try.prog 29 [KL l, .fn 30 [] [.ip (rowC r) 0]] (B false) := sx0 hm hF 1000 20 [.c 29 1 2 (I .i64 (Int.negSucc 0))] [Spec0 Try.prog 25 [KL l, AV.fn 30 [] [AV.ip (rowC r) 0]] (I .i64 (Int.negSucc 0))] (by kernel_rfl) ⟨hc, trivial⟩
theorem ct_ok (l : List Key) (r : Rw) (i : Nat) (hc : Spec0 Try.prog 25 [KL l, .fn 30 [] [.ip (rowC r) 0]] (I .i64 (i : Nat))) : Spec0 Try.prog 29 [KL l, .fn 30 [] [.ip (rowC r) 0]] (B true) := sx0 hm hF 1000 20 [.c 29 1 2 (I .i64 (↑i : Int))] [Spec0 Try.prog 25 [KL l, AV.fn 30 [] [AV.ip (rowC r) 0]] (I .i64 (↑i : Int))] (by kernel_rfl) ⟨hc, trivial⟩
theorem fi_any {α : Type} {p : α → Bool} : ∀ (l : List α) (i : Nat), (fi p l i).isSome = l.any p
  | [], _ => rfl
  | a :: l, i => by
    simp only [fi, List.any_cons]
    cases p a
    · simp only [cond_false, Bool.false_or]; exact fi_any l (i + 1)
    · simp
theorem w_contains (l : List Key) (r : Rw) (hl0 : l.length ≤ 4611686018427387) : Spec0 Try.prog 29 [KL l, .fn 30 [] [.ip (rowC r) 0]] (B (l.any fun a => a.name == r.name)) := by
  have hc := w_index30 l r hl0
  unfold ixV at hc
  rw [← fi_any l 0]
  cases h : fi (fun a : Key => a.name == r.name) l 0 with
  | none => rw [h] at hc; exact ct_no l r hc
  | some i => rw [h] at hc; exact ct_ok l r i hc

end Go.Proofs.Ytlfedjannhceaaa
