/-
  Keys, lists of them, what is found in them.
-/
import Derived.Test.YtlfedjannhceaaaXVU2
set_option linter.unusedVariables false
set_option linter.unusedSimpArgs false
set_option maxRecDepth 100000
set_option maxHeartbeats 1000000
namespace Go.Proofs.Ytlfedjannhceaaa
open Go Go.SL Go.Proofs
structure Key where
  name : ByteArray
  num : Int
def keyC (a : Key) : List AV := [S a.name, I .i64 a.num]
@[reducible] def KL (l : List Key) : AV := .im 2 (l.flatMap keyC)
/-- The first place, counted from i on, of what satisfies p. -/
def fi {α : Type} (p : α → Bool) : List α → Nat → Option Nat
  | [], _ => none
  | a :: l, i => bif p a then some i else fi p l (i + 1)
theorem drop_get {α : Type} {l : List α} {i : Nat} {a : α} (h : l[i]? = some a) : l.drop i = a :: l.drop (i + 1) := by
  have hlt : i < l.length := by
    rcases Nat.lt_or_ge i l.length with g | g
    · exact g
    · simp [List.getElem?_eq_none g] at h
  rw [List.drop_eq_getElem_cons hlt]
  rw [List.getElem?_eq_getElem hlt] at h
  injection h with h; rw [h]
theorem fi_hit {α : Type} {p : α → Bool} {l : List α} {i : Nat} {a : α} (h : fi p l 0 = fi p (l.drop i) i) (ha : l[i]? = some a) (hp : p a = true) : fi p l 0 = some i := by rw [h, drop_get ha]; simp only [fi, hp, cond_true]
theorem fi_no {α : Type} {p : α → Bool} {l : List α} {i : Nat} {a : α} (h : fi p l 0 = fi p (l.drop i) i) (ha : l[i]? = some a) (hp : p a = false) : fi p l 0 = fi p (l.drop (i + 1)) (i + 1) := by rw [h, drop_get ha]; simp only [fi, hp, cond_false]
theorem fi_end {α : Type} {p : α → Bool} {l : List α} {i : Nat} (h : fi p l 0 = fi p (l.drop i) i) (hi : i = l.length) : fi p l 0 = none := by rw [h, hi, List.drop_length]; rfl
theorem fi_some {α : Type} {p : α → Bool} : ∀ {l : List α} {i j : Nat}, fi p l i = some j → i ≤ j ∧ j < i + l.length ∧ ∃ a, l[j - i]? = some a ∧ p a = true
  | [], _, _, h => by simp [fi] at h
  | a :: l, i, j, h => by
    simp only [fi] at h
    cases hp : p a
    · rw [hp] at h
      obtain ⟨h1, h2, b, h3, h4⟩ := fi_some (i := i + 1) (j := j) h
      refine ⟨by omega, by simp; omega, b, ?_, h4⟩
      rw [show j - i = (j - (i + 1)) + 1 by omega, List.getElem?_cons_succ]; exact h3
    · rw [hp] at h
      simp only [cond_true, Option.some.injEq] at h; subst h
      exact ⟨Nat.le_refl _, by simp, a, by simp, hp⟩
theorem i64_n (n : Nat) (h : n < 4611686018427387904) : IntKind.i64.wrap ((n : Int) + 1) = ((n + 1 : Nat) : Int) := by rw [IntWalk.i64_in _ (by omega)]; rfl
/-- Where it stands; -1: nowhere. -/
def ixV {α : Type} (p : α → Bool) (l : List α) : Int := match fi p l 0 with | some i => (i : Int) | none => -1
/-- A name's number. -/
def findV (l : List Key) (x : ByteArray) : Int × Bool := match fi (fun a : Key => a.name == x) l 0 with | some i => ((l[i]?.map (·.num)).getD 0, true) | none => (0, false)
end Go.Proofs.Ytlfedjannhceaaa
