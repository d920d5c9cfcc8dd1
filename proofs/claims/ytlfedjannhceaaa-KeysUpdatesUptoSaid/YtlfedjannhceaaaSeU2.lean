/-
  A loop entered with nothing in a slot, which is told as an empty row behind the others.
-/
import Derived.Test.YtlfedjannhceaaaSdU2
set_option linter.unusedVariables false
set_option linter.unusedSimpArgs false
set_option linter.unusedSectionVars false
namespace Go.SL
open Go
variable [Tabs]
variable {P : Program} {n : Nat} {F : Nat → Prop} {μ μ' μ0 μ1 μ2 : List Nm} {w w' w0 w1 w2 : World}
theorem em_blocks {b : Nat} (h : blocks (μ ++ [Nm.em]) b) : blocks μ b := by
  obtain ⟨o, base, esz, tot, h⟩ := h
  rcases Nat.lt_or_ge o μ.length with g | g
  · exact ⟨o, base, esz, tot, by rwa [List.getElem?_append_left g] at h⟩
  · rw [List.getElem?_append_right g] at h
    cases hk : o - μ.length with
    | zero => rw [hk] at h; simp at h
    | succ k => rw [hk] at h; simp at h
theorem em_Fr (μ : List Nm) (w : World) : Fr μ w (μ ++ [Nm.em]) w :=
  ⟨Nat.le_refl _, fun _ _ _ => rfl, fun b hb => .inl (em_blocks hb), fun o m h => .inl (by
    have : o < μ.length := by
      rcases Nat.lt_or_ge o μ.length with g | g
      · exact g
      · simp [List.getElem?_eq_none g] at h
    rw [List.getElem?_append_left this]; exact h), by simp, rfl, rfl⟩
theorem HR.addEm {hp : List AObj} (e : Nat) (h : HR F hp μ w) : HR F (hp ++ [.row e []]) (μ ++ [Nm.em]) w := by
  have hL := h.len
  have left : ∀ {o : Nat} {m : Nm}, (μ ++ [Nm.em])[o]? = some m → m ≠ Nm.em → μ[o]? = some m ∧ o < hp.length := by
    intro o m ho hm
    rcases Nat.lt_or_ge o μ.length with g | g
    · exact ⟨by rwa [List.getElem?_append_left g] at ho, by omega⟩
    · rw [List.getElem?_append_right g] at ho
      cases hk : o - μ.length with
      | zero => rw [hk] at ho; simp at ho; exact absurd ho.symm hm
      | succ k => rw [hk] at ho; simp at ho
  refine ⟨by simp [hL], fun o b base esz tot ho => ?_, fun o ho => ?_, fun o x' ho hx' hd => ?_, fun o o' b base esz tot base' esz' tot' h1 h2 => ?_, fun b hb => h.fo b (em_blocks hb), h.fb, h.tb.sub fun b hb => em_blocks hb⟩
  · obtain ⟨h1, h2⟩ := left ho (by simp)
    obtain ⟨x', y', g1, g2, g3⟩ := h.obj o b base esz tot h1
    exact ⟨x', y', by rw [List.getElem?_append_left h2]; exact g1, g2, g3.mono (em_Fr μ w)⟩
  · rcases Nat.lt_or_ge o μ.length with g | g
    · rw [List.getElem?_append_left g] at ho
      obtain ⟨esz, h2⟩ := h.em o ho
      exact ⟨esz, by rw [List.getElem?_append_left (by omega)]; exact h2⟩
    · rw [List.getElem?_append_right g] at ho
      cases hk : o - μ.length with
      | zero => exact ⟨e, by rw [List.getElem?_append_right (by omega), ← hL, hk]; rfl⟩
      | succ k => rw [hk] at ho; simp at ho
  · obtain ⟨h1, h2⟩ := left hd (by simp)
    rw [List.getElem?_append_left h2] at ho
    exact h.live o x' ho hx' h1
  · obtain ⟨k1, _⟩ := left h1 (by simp)
    obtain ⟨k2, _⟩ := left h2 (by simp)
    exact h.inj _ _ _ _ _ _ _ _ _ k1 k2
/-- Nothing as an empty slice of row k. -/
def nilUpK (k : Nat) : AV → AV
  | .nil => .sl k 0 0
  | x => x
theorem Entry.nil {l : Env} {hp : List AObj} (e : Nat) : Entry n hp.length ⟨tbl (l.map fun q => (q.1, nilUpK hp.length q.2)), hp ++ [.row e []]⟩ ⟨tbl l, hp⟩ := by
  intro F μ a w hs
  have hL : μ.length = hp.length := hs.hr.len
  have hfr := (em_Fr μ w).p (p := hp.length) (by omega)
  refine ⟨μ ++ [Nm.em], ⟨hs.hr.addEm e, fun i => ?_, hs.size, hs.defers⟩, hfr, by rw [List.length_append]; omega⟩
  have key : tbl (l.map fun q => (q.1, nilUpK hp.length q.2)) i = .any ∨ tbl (l.map fun q => (q.1, nilUpK hp.length q.2)) i = nilUpK hp.length (tbl l i) := by
    clear hs
    induction l with
    | nil => exact .inl rfl
    | cons q l ih =>
      obtain ⟨d, x⟩ := q
      simp only [List.map_cons, tbl]
      cases hb : Nat.beq i d
      · exact ih
      · exact .inr rfl
  show VR F _ w (tbl (l.map fun q => (q.1, nilUpK hp.length q.2)) i) _
  rcases key with h5 | h5
  · rw [h5]; exact .any
  · rw [h5]
    have hv : VR F μ w (tbl l i) (a.tmps.getD i undef) := hs.env i
    revert hv
    generalize tbl l i = x
    generalize a.tmps.getD i undef = u
    intro hv
    cases x with
    | nil =>
      show VR F _ w (.sl hp.length 0 0) _
      cases hv with
      | nil => exact .slE (by rw [List.getElem?_append_right (by omega), ← hL, Nat.sub_self]; rfl)
    | _ => exact hv.mono (em_Fr μ w)
end Go.SL
