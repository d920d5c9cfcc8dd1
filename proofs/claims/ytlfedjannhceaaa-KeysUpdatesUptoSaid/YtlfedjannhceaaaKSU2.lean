/-
  What the function that sorts keys by their names answers, in whatever world; and where slices.SortFunc lies in this program.
-/
import Derived.Shelf.SlSortCmp.WholeK
import Derived.Lib.Walk
import Derived.Test.YtlfedjannhceaaaChecked
import Derived.Test.YtlfedjannhceaaaXKU2
set_option linter.unusedVariables false
set_option linter.unusedSimpArgs false
namespace Go.Proofs.Ytlfedjannhceaaa
open Go Go.Proofs Go.Shelf Go.RowKit Go.Lib Go.Sort
/-- Names held against one another. -/
def cmpS (x y : ByteArray) : Int := if Op.bytesLess x.toList y.toList then -1 else if !(Op.bytesLess x.toList y.toList || x.toList == y.toList) then 1 else 0
theorem nan38 (x : ByteArray) (w : World) : Calls Try.prog 38 #[.string x] w fun e w' => e = .returned (.bool false) ∧ w' = w := by
  go_enter Try.func38, Try.ntmps38
  go_wp2
  go_ret
  exact ⟨by simp, rfl⟩
set_option maxHeartbeats 1000000 in
theorem cmp33 (x y : ByteArray) (w : World) : Calls Try.prog 33 #[.string x, .string y] w fun e w' => e = .returned (.int .i64 (cmpS x y)) ∧ w' = w := by
  go_enter Try.func33, Try.ntmps33
  go_wp2_with (go_at_call 38; refine (nan38 _ _).mono ?_; rintro e w' ⟨rfl, hw⟩; rw [hw])
  · go_ret
    refine ⟨?_, rfl⟩
    simp_all [cmpS]
  · rw [show binOp .gtr 9 (.string x) (.string y) = pure (.bool (!(Op.bytesLess x.toList y.toList || x.toList == y.toList))) from by simp [binOp, Op.stringOp]]
    simp only [Sem.run_pure, Result.andThen_ok]
    go_wp2
    all_goals (go_ret; refine ⟨?_, rfl⟩; simp_all [cmpS])
def encK (a : Key) : List Value := [.string a.name, .int .i64 a.num]
theorem clo32 (x y : Key) (W : World) : Calls Try.prog 32 #[.agg (encK x).toArray, .agg (encK y).toArray] W fun e w' => e = .returned (.int .i64 (cmpS x.name y.name)) ∧ ∃ q os', w' = grow (W.drewN q) os' := by
  have hcon := fun W' => cmp33 x.name y.name W'
  generalize cmpS x.name y.name = r at hcon ⊢
  unfold encK
  go_enter Try.func32, Try.ntmps32
  go_wp2_with (go_at_call 33; refine (hcon _).mono ?_; rintro e w' ⟨rfl, rfl⟩)
  go_ret
  exact ⟨rfl, 0, _, by rw [alloc_eq_grow, alloc_eq_grow, grow_grow]; rfl⟩
end Go.Proofs.Ytlfedjannhceaaa
