/-
  A struct that is stored whole.
-/
import Derived.Test.YtbimmnnjnlfddaaDoorSlV
set_option linter.unusedVariables false
set_option linter.unusedSectionVars false
namespace Go.SL
open Go
variable [Tabs]
variable {P : Program} {env : Nat → AV} {hp : List AObj} {dst : Option Nat} {ty : TypeId} {pos : String} {after : Array Edge} {guard : Option (Nat × Bool)}
theorem step_storeA {t : TypeId} {x y : Operand} {o esz k : Nat} {cells xs : List AV} (hs : SizeOf P t k) (hx : opd env x = .ptr o 0) (ho : hp[o]? = some (AObj.row esz cells))
    (hy : opd env y = .agg xs) (hc : xs.all cellAV = true) (hk : xs.length = k) (hl : cells.length = k) :
    Step P ⟨dst, .store t x y, ty, pos, after, guard⟩ env hp (is (.sc undef) (hp.set o (.row esz xs))) := by
  have := step_store (P := P) (hp := hp) (dst := dst) (ty := ty) (pos := pos) (after := after) (guard := guard) hs hx ho hy hc hk (by omega)
  have e : splice cells 0 (cellsOf (.agg xs)) = xs := by
    unfold splice
    simp only [cellsOf]
    rw [List.take_zero, List.nil_append, List.drop_eq_nil_of_le (by omega), List.append_nil]
  rwa [e] at this
theorem all_cell {x : AV} {xs : List AV} (h : cellAV x = true) (hs : xs.all cellAV = true) : (x :: xs).all cellAV = true := by rw [List.all_cons, h, hs]; rfl
end Go.SL
