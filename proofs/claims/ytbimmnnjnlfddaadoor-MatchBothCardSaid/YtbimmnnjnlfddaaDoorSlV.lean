/-
  What holds no rows of its own; byte strings that are equal.
-/
import Derived.Test.YtbimmnnjnlfddaaDoorSlU
set_option linter.unusedVariables false
set_option linter.unusedSectionVars false
namespace Go.SL
open Go
variable [Tabs]
theorem noOwnL_cons {x : AV} {l : List AV} (h : noOwn x = true) (hl : noOwnL l = true) : noOwnL (x :: l) = true := by simp only [noOwnL, h, hl, Bool.and_self]
theorem noOwnL_nil : noOwnL [] = true := rfl
theorem noOwn_tup {l : List AV} (h : noOwnL l = true) : noOwn (.tup l) = true := h
theorem noOwn_agg {l : List AV} (h : noOwnL l = true) : noOwn (.agg l) = true := h
end Go.SL
