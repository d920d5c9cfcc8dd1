/-
  The state behind a region, put in plain form: the slots that are read later, and the rows.
-/
import Derived.Test.YtbimmnnjnlfddaaDoorSlT
set_option linter.unusedVariables false
set_option linter.unusedSectionVars false
namespace Go.SL
open Go
variable [Tabs]
theorem sh_sc {x : AV} {v : Value} (h : x = .sc v) : x = .sc v := h
theorem sh_im {x : AV} {e : Nat} {c : List AV} (h : x = .im e c) : x = .im e c := h
theorem sh_sl {x : AV} {o off len : Nat} (h : x = .sl o off len) : x = .sl o off len := h
theorem sh_ptr {x : AV} {o off : Nat} (h : x = .ptr o off) : x = .ptr o off := h
theorem sh_ip {x : AV} {c : List AV} {i : Nat} (h : x = .ip c i) : x = .ip c i := h
theorem sh_agg {x : AV} {c : List AV} (h : x = .agg c) : x = .agg c := h
theorem sh_tup {x : AV} {c : List AV} (h : x = .tup c) : x = .tup c := h
theorem sh_nil {x : AV} (h : x = .nil) : x = .nil := h
theorem sh_any {x : AV} (h : x = .any) : x = .any := h
variable {P : Program} {n : Nat} {K : Exit → SS → Prop} {env : Nat → AV} {hp : List AObj} {ops : Array Oper}
/-- One row's bytes get a name. -/
theorem W.gatC {c : Code} (pre post : List AObj) {cells : List AV} (l : List UInt8) (hh : hp = pre ++ .row 1 cells :: post) (hc : cells = l.map byteAV) (h : ∀ L, L = l → W P n c K ⟨env, pre ++ .row 1 (L.map byteAV) :: post⟩) : W P n c K ⟨env, hp⟩ := by
  subst hh; subst hc; exact h l rfl
theorem WO.gatC {li : List Nat} (pre post : List AObj) {cells : List AV} (l : List UInt8) (hh : hp = pre ++ .row 1 cells :: post) (hc : cells = l.map byteAV) (h : ∀ L, L = l → WO P n ops li K ⟨env, pre ++ .row 1 (L.map byteAV) :: post⟩) : WO P n ops li K ⟨env, hp⟩ := by
  subst hh; subst hc; exact h l rfl
end Go.SL
