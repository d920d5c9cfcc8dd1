/-
  A piece of code behind which all rows of its own are read only: they become memory that stays as it is, and their rows go.
-/
import Derived.Test.YtbimmnnjnlfddaaDoorSlZ
set_option linter.unusedVariables false
set_option linter.unusedSectionVars false
namespace Go.SL
open Go
variable [Tabs]
variable {F : Nat → Prop} {P : Program} {n : Nat} {K : Exit → SS → Prop} {env : Nat → AV} {hp : List AObj}

def unDead : Nm → Nm
  | .un => .un
  | _ => .dead

/-- The slots of a list, each told anew. -/
def FzT (p : Nat) (σ : SS) : List (Nat × AV) → Prop
  | [] => True
  | q :: l => Fz p σ.hp (σ.env q.1) q.2 ∧ FzT p σ l

theorem FzT.at {p : Nat} {σ : SS} {i : Nat} : ∀ {l : List (Nat × AV)}, FzT p σ l → tbl l i = .any ∨ Fz p σ.hp (σ.env i) (tbl l i)
  | [], _ => .inl rfl
  | (d, x) :: l, ⟨h1, h2⟩ => by
    simp only [tbl]
    cases hb : Nat.beq i d with
    | true =>
      have := Nat.eq_of_beq_eq_true hb
      subst this
      exact .inr h1
    | false => exact FzT.at h2

theorem W.frzAll {c : Code} (l : List (Nat × AV)) (h : W P n c (fun x σ1 => x = .normal ∧ FzT 0 σ1 l) ⟨env, hp⟩) (hk : K .normal ⟨tbl l, List.replicate hp.length .dead⟩) : W P n c K ⟨env, hp⟩ := by
  intro F μ a w hs
  refine wp_mono (h F μ a w hs) ?_
  rintro x a' w' ⟨σ1, μ1, ⟨rfl, hz⟩, hs1, hf⟩
  have hb2 : ∀ b, ¬ blocks (μ.map unDead) b := by
    rintro b ⟨o, base, esz, tot, ho⟩
    rw [List.getElem?_map] at ho
    cases hm : μ[o]? with
    | none => rw [hm] at ho; simp at ho
    | some nm => rw [hm] at ho; cases nm <;> simp [unDead] at ho
  have hF : Fr μ w (μ.map unDead) w' := ⟨hf.size, hf.keep, fun b hb => (hb2 b hb).elim, fun o nm ho => by
    rw [List.getElem?_map, ho]
    cases nm <;> simp [unDead], by simp, hf.oo⟩
  have hlen : μ.length = hp.length := hs.hr.len
  have hrow : ∀ (o e : Nat) (cs : List AV), (List.replicate hp.length AObj.dead)[o]? ≠ some (AObj.row e cs) := by
    intro o e cs ho
    rw [List.getElem?_replicate] at ho
    split at ho <;> simp at ho
  refine ⟨_, μ.map unDead, hk, ⟨⟨by simp [hlen], fun o b base esz tot ho => (hb2 b ⟨o, base, esz, tot, ho⟩).elim, fun o ho => ?_, fun o e cs ho => (hrow o e cs ho).elim, fun o o' b base esz tot _ _ _ ho => (hb2 b ⟨o, base, esz, tot, ho⟩).elim,
    fun b hb => (hb2 b hb).elim, hs.hr.fbF hf, (hs.hr.tbF hf |>.sub fun b hb => (hb2 b hb).elim)⟩, fun i => ?_, hs1.size, hs1.defers⟩, hF⟩
  · rw [List.getElem?_map] at ho
    cases hm : μ[o]? with
    | none => rw [hm] at ho; simp at ho
    | some nm => rw [hm] at ho; cases nm <;> simp [unDead] at ho
  · rcases hz.at (i := i) with h1 | h1
    · show VR F _ w' (tbl l i) _
      rw [h1]; exact .any
    · have := h1.rel hs1.hr (hs1.env i)
      rw [List.take_zero] at this
      exact this.into (fun j nm hj => by simp at hj) fun b _ hb => ⟨hb2 b, hb.2⟩

/-- The same, between two operations. -/
theorem WO.frz {ops : Array Oper} {li : List Nat} (l : List (Nat × AV)) (hz : FzT 0 ⟨env, hp⟩ l) (hk : WO P n ops li K ⟨tbl l, List.replicate hp.length .dead⟩) : WO P n ops li K ⟨env, hp⟩ := by
  intro F μ a w hs
  have hb2 : ∀ b, ¬ blocks (μ.map unDead) b := by
    rintro b ⟨o, base, esz, tot, ho⟩
    rw [List.getElem?_map] at ho
    cases hm : μ[o]? with
    | none => rw [hm] at ho; simp at ho
    | some nm => rw [hm] at ho; cases nm <;> simp [unDead] at ho
  have hF : Fr μ w (μ.map unDead) w := ⟨Nat.le_refl _, fun _ _ _ => rfl, fun b hb => (hb2 b hb).elim, fun o nm ho => by
    rw [List.getElem?_map, ho]
    cases nm <;> simp [unDead], by simp, rfl, rfl⟩
  have hlen : μ.length = hp.length := hs.hr.len
  have hrow : ∀ (o e : Nat) (cs : List AV), (List.replicate hp.length AObj.dead)[o]? ≠ some (AObj.row e cs) := by
    intro o e cs ho
    rw [List.getElem?_replicate] at ho
    split at ho <;> simp at ho
  refine wpOps_post (fun e a w => Post.mono hF) (hk F (μ.map unDead) a w ⟨⟨by simp [hlen], fun o b base esz tot ho => (hb2 b ⟨o, base, esz, tot, ho⟩).elim, fun o ho => ?_, fun o e cs ho => (hrow o e cs ho).elim,
    fun o o' b base esz tot _ _ _ ho => (hb2 b ⟨o, base, esz, tot, ho⟩).elim, fun b hb => (hb2 b hb).elim, hs.hr.fb, hs.hr.tb.sub fun b hb => (hb2 b hb).elim⟩, fun i => ?_, hs.size, hs.defers⟩)
  · rw [List.getElem?_map] at ho
    cases hm : μ[o]? with
    | none => rw [hm] at ho; simp at ho
    | some nm => rw [hm] at ho; cases nm <;> simp [unDead] at ho
  · rcases hz.at (i := i) with h1 | h1
    · show VR F _ w (tbl l i) _
      rw [h1]; exact .any
    · have := h1.rel hs.hr (hs.env i)
      rw [List.take_zero] at this
      exact this.into (fun j nm hj => by simp at hj) fun b _ hb => ⟨hb2 b, hb.2⟩
end Go.SL
