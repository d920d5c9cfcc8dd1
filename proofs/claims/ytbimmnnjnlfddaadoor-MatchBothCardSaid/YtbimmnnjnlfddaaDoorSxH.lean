/-
  Lists of structs as cells.
-/
import Derived.Test.YtbimmnnjnlfddaaDoorSxG
set_option linter.unusedVariables false
set_option linter.unusedSectionVars false
namespace Go.SL
open Go
variable [Tabs]
variable {α : Type} {c : α → List AV} {e : Nat}

theorem fm_len (h : ∀ a, (c a).length = e) : ∀ l : List α, (l.flatMap c).length = l.length * e
  | [] => by simp
  | a :: l => by rw [List.flatMap_cons, List.length_append, h a, fm_len h l, List.length_cons, Nat.add_mul]; omega
theorem fm_drop (h : ∀ a, (c a).length = e) : ∀ (l : List α) (j : Nat), (l.flatMap c).drop (j * e) = (l.drop j).flatMap c
  | l, 0 => by simp
  | [], j + 1 => by simp
  | a :: l, j + 1 => by
    rw [List.flatMap_cons, List.drop_succ_cons, show (j + 1) * e = (c a).length + j * e by rw [h a, Nat.add_mul]; omega, ← List.drop_drop, List.drop_left]
    exact fm_drop h l j
theorem fm_take (h : ∀ a, (c a).length = e) : ∀ (l : List α) (j : Nat), (l.flatMap c).take (j * e) = (l.take j).flatMap c
  | l, 0 => by simp
  | [], j + 1 => by simp
  | a :: l, j + 1 => by
    rw [List.flatMap_cons, List.take_succ_cons, List.flatMap_cons, show (j + 1) * e = (c a).length + j * e by rw [h a, Nat.add_mul]; omega, List.take_length_add_append, fm_take h l j]
/-- The cells of element j. -/
theorem fm_at (h : ∀ a, (c a).length = e) (l : List α) {j : Nat} {a : α} (hj : l[j]? = some a) : ((l.flatMap c).drop (j * e)).take e = c a := by
  rw [fm_drop h]
  have hlt : j < l.length := by
    rcases Nat.lt_or_ge j l.length with h1 | h1
    · exact h1
    · simp [List.getElem?_eq_none h1] at hj
  have e1 : l.drop j = a :: l.drop (j + 1) := by
    rw [List.drop_eq_getElem_cons hlt]
    rw [List.getElem?_eq_getElem hlt] at hj
    injection hj with hj; rw [hj]
  rw [e1, List.flatMap_cons, List.take_left' (h a)]
theorem fm_bound (h : ∀ a, (c a).length = e) (l : List α) {j : Nat} (hj : j < l.length) : j * e + e ≤ (l.flatMap c).length := by
  rw [fm_len h, ← Nat.succ_mul]; exact Nat.mul_le_mul_right _ hj
theorem fm_cell (h : ∀ a, (c a).length = e) (l : List α) {j k : Nat} {a : α} {y : AV} (hj : l[j]? = some a) (hk : k < e) (hy : (c a)[k]? = some y) : (l.flatMap c)[j * e + k]? = some y := by
  have h1 := fm_at h l hj
  have h2 : ((l.flatMap c).drop (j * e))[k]? = (c a)[k]? := by rw [← h1, List.getElem?_take, if_pos hk]
  rw [List.getElem?_drop] at h2
  rw [h2, hy]
theorem fm_no (h : ∀ a, noOwnL (c a) = true) : ∀ l : List α, noOwnL (l.flatMap c) = true
  | [] => rfl
  | a :: l => by rw [List.flatMap_cons, noOwnL_append, h a, fm_no h l]; rfl
theorem fm_one (h : ∀ a, (c a).all cellAV = true) : ∀ l : List α, (l.flatMap c).all cellAV = true
  | [] => rfl
  | a :: l => by rw [List.flatMap_cons, List.all_append, h a, fm_one h l]; rfl
end Go.SL
