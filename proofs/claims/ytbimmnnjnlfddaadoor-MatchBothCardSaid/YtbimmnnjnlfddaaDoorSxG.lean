/-
  Loops whose rounds make rows that are let go at the round's end.
-/
import Derived.Test.YtbimmnnjnlfddaaDoorSxE
set_option linter.unusedVariables false
set_option linter.unusedSimpArgs false
set_option linter.unusedSectionVars false
namespace Go.SL
open Go
variable [Tabs]
variable {F : Nat → Prop} {μ μ' μ0 μ1 μ2 : List Nm} {w w' w0 w1 w2 : World} {P : Program} {n : Nat} {hp : List AObj}

/-- σ' knows of the first p rows alone, no more than σ. -/
def LeD (p : Nat) (σ' σ : SS) : Prop := σ'.hp = σ.hp.take p ∧ p ≤ σ.hp.length ∧ (∀ x ∈ σ'.hp, rowLt p x = true) ∧ ∀ i, σ'.env i = .any ∨ (σ'.env i = σ.env i ∧ idsLt p (σ.env i) = true)

theorem LeD.le {p : Nat} {a b c : SS} (h : LeD p a b) (h' : Le b c) : LeD p a c := by
  obtain ⟨h1, h2, h3, h4⟩ := h
  refine ⟨by rw [h1, h'.1], by rw [← h'.1]; exact h2, h3, fun i => ?_⟩
  rcases h4 i with h5 | ⟨h5, h6⟩
  · exact .inl h5
  · rcases h'.2 i with h7 | h7
    · exact .inl (h5.trans h7)
    · exact .inr ⟨h5.trans h7, by rw [← h7]; exact h6⟩

theorem free_take {p b : Nat} (h : Free μ F b) : Free (μ.take p) F b := ⟨fun h' => by
  obtain ⟨o, base, esz, tot, _, h2⟩ := blocks_take h'; exact h.1 ⟨o, base, esz, tot, h2⟩, h.2⟩

theorem idsLt_take {p : Nat} {x : AV} {v : Value} (h : VR F μ w x v) (hx : idsLt p x = true) : VR F (μ.take p) w x v :=
  VR.idsLt (k := p) (fun j nm hj hm => by rw [List.getElem?_take, if_pos hj]; exact hm) (fun b _ hb => free_take hb) h hx
theorem idsLtL_take {p : Nat} {xs : List AV} {vs : List Value} (h : VRL F μ w xs vs) (hx : idsLtL p xs = true) : VRL F (μ.take p) w xs vs :=
  VRL.idsLt (k := p) (fun j nm hj hm => by rw [List.getElem?_take, if_pos hj]; exact hm) (fun b _ hb => free_take hb) h hx

theorem HR.takeD {p : Nat} (hr : HR F hp μ w) (hp' : p ≤ hp.length) (hlt : ∀ x ∈ hp.take p, rowLt p x = true) : HR F (hp.take p) (μ.take p) w := by
  have key : ∀ (o : Nat) nm, (μ.take p)[o]? = some nm → o < p ∧ μ[o]? = some nm := by
    intro o nm h
    rw [List.getElem?_take] at h
    split at h
    · rename_i hlt; exact ⟨hlt, h⟩
    · simp at h
  refine ⟨by simp [hr.len], fun o b base esz tot ho => ?_, fun o ho => ?_, fun o esz cells ho => ?_, fun o o' b base esz tot base' esz' tot' h1 h2 => ?_, fun b hb => ?_, hr.fb, hr.tb.sub fun b h => by obtain ⟨o, base, esz, tot, _, h2⟩ := blocks_take h; exact ⟨o, base, esz, tot, h2⟩⟩
  · obtain ⟨hl, h⟩ := key _ _ ho
    obtain ⟨cells, c, el, fr, g1, g2, g3, g4, g5, g6⟩ := hr.obj o b base esz tot h
    have hm : (AObj.row esz cells) ∈ hp.take p := by
      have : (hp.take p)[o]? = some (AObj.row esz cells) := by rw [List.getElem?_take, if_pos hl]; exact g1
      exact List.mem_of_getElem? this
    have hrow := hlt _ hm
    simp only [rowLt, Bool.or_eq_true] at hrow
    refine ⟨cells, c, el, fr, by rw [List.getElem?_take, if_pos hl]; exact g1, g2, g3, g4, ?_, g6⟩
    rcases hrow with h1 | h1
    · exact g5.move h1 fun b _ hb => free_take hb
    · exact idsLtL_take g5 h1
  · obtain ⟨hl, h⟩ := key _ _ ho
    rw [List.getElem?_take, if_pos hl]; exact hr.em o h
  · intro hd
    obtain ⟨hl, h⟩ := key _ _ hd
    rw [List.getElem?_take, if_pos hl] at ho
    exact hr.live o esz cells ho h
  · exact hr.inj _ _ _ _ _ _ _ _ _ (key _ _ h1).2 (key _ _ h2).2
  · obtain ⟨o, base, esz, tot, _, h2⟩ := blocks_take hb
    exact hr.fo b ⟨o, base, esz, tot, h2⟩

theorem LeD.sr {p : Nat} {σ σ' : SS} (h : LeD p σ' σ) {a : Act} (hs : SR F n σ μ a w) : SR F n σ' (μ.take p) a w := by
  obtain ⟨h1, h2, h3, h4⟩ := h
  refine ⟨?_, fun i => ?_, hs.size, hs.defers⟩
  · rw [h1]; exact hs.hr.takeD h2 (by rw [← h1]; exact h3)
  · rcases h4 i with h5 | ⟨h5, h6⟩
    · rw [h5]; exact .any
    · rw [h5]; exact idsLt_take (hs.env i) h6

theorem Fr.cutD {p : Nat} (hl : μ0.length = p) (h1 : Fr μ0 w0 μ1 w1) (h2 : Fr (μ1.take p) w1 μ2 w2) : Fr μ0 w0 μ2 w2 := by
  have hp1 : p ≤ μ1.length := by rw [← hl]; exact h1.len
  refine ⟨Nat.le_trans h1.size h2.size, fun b hb hn => ?_, fun b hb => ?_, fun o nm ho => ?_, ?_, h2.oo.1.trans h1.oo.1, h2.oo.2.trans h1.oo.2⟩
  · have hn1 : ¬ blocks μ1 b := h1.out hb hn
    rw [h2.keep b (Nat.lt_of_lt_of_le hb h1.size) (fun h => hn1 (by obtain ⟨o, base, esz, tot, _, h2⟩ := blocks_take h; exact ⟨o, base, esz, tot, h2⟩)), h1.keep b hb hn]
  · rcases h2.new b hb with h | h
    · obtain ⟨o, base, esz, tot, _, h3⟩ := blocks_take h
      exact h1.new b ⟨o, base, esz, tot, h3⟩
    · exact .inr (Nat.le_trans h1.size h)
  · have hop : o < p := by
      rw [← hl]
      rcases Nat.lt_or_ge o μ0.length with h | h
      · exact h
      · simp [List.getElem?_eq_none h] at ho
    rcases h1.ext o nm ho with g | ⟨g0, g⟩
    · exact h2.ext o nm (by rw [List.getElem?_take, if_pos hop]; exact g)
    · rcases h2.ext o _ (by rw [List.getElem?_take, if_pos hop]; exact g) with g' | ⟨_, g'⟩
      · exact .inr ⟨g0, g'⟩
      · exact .inr ⟨g0, g'⟩
  · rw [hl]
    have := h2.len
    simp only [List.length_take] at this
    omega

theorem Post.cutD {K : Exit → SS → Prop} {p : Nat} (hl : μ0.length = p) (f : Fr μ0 w0 μ1 w1) {x : Exit} {a : Act} (h : Post F n K (μ1.take p) w1 x a w2) : Post F n K μ0 w0 x a w2 := by
  obtain ⟨σ', μ', h1, h2, h3⟩ := h
  exact ⟨σ', μ', h1, h2, Fr.cutD hl f h3⟩

theorem W.loopD {α : Type} (p : Nat) (st : α → SS) (inv : α → Prop) (m : α → Nat) {c : Code} {K : Exit → SS → Prop} {σ : SS} (a0 : α) (h0 : inv a0) (hp0 : σ.hp.length = p) (hl : Le (st a0) σ)
    (round : ∀ x, inv x → W P n c (thenK (fun σ' => ∃ y, inv y ∧ m y < m x ∧ LeD p (st y) σ') K) (st x)) : W P n (.loop c) K σ := by
  intro F μ a w hs b kk cs
  have key : ∀ (k : Nat) (x : α), m x = k → inv x → ∀ μ a w, μ.length = p → SR F n (st x) μ a w →
      ∃ e a' w', Post F n K μ w e a' w' ∧ Arrives P (lone (b.at a (.code c :: .inLoop c :: kk)) cs w) b kk cs e a' w' := by
    intro k
    induction k using Nat.strongRecOn with
    | _ k ih =>
      intro x hk hi μ a w hμ hs
      obtain ⟨e, a1, w1, ⟨σ1, μ1, hK, hs1, hf⟩, harr⟩ := round x hi F μ a w hs b (.inLoop c :: kk) cs
      cases e with
      | normal =>
        obtain ⟨y, hy, hlt, hle⟩ := hK
        have hlen : (μ1.take p).length = p := by
          have := hf.len
          simp only [List.length_take]; omega
        obtain ⟨e3, a3, w3, hp3, harr3⟩ := ih (m y) (hk ▸ hlt) y rfl hy (μ1.take p) a1 w1 hlen (hle.sr hs1)
        exact ⟨e3, a3, w3, Post.cutD hμ hf hp3, .of_steps (Steps.trans harr (.one step_inLoop)) harr3⟩
      | exit id => exact ⟨_, a1, w1, ⟨σ1, μ1, hK, hs1, hf⟩, .pass (x := .inLoop c) rfl (fun _ _ => .inl (by simp)) harr⟩
      | goto l => exact ⟨_, a1, w1, ⟨σ1, μ1, hK, hs1, hf⟩, .pass (x := .inLoop c) rfl (fun _ _ => .inl (by simp)) harr⟩
      | ret => exact ⟨_, a1, w1, ⟨σ1, μ1, hK, hs1, hf⟩, .pass (x := .inLoop c) rfl (fun _ _ => .inl (by simp)) harr⟩
      | panic ch => exact ⟨_, a1, w1, ⟨σ1, μ1, hK, hs1, hf⟩, .pass (x := .inLoop c) rfl (fun _ _ => .inl (by simp)) harr⟩
      | outgrown => exact ⟨_, a1, w1, ⟨σ1, μ1, hK, hs1, hf⟩, .pass (x := .inLoop c) rfl (fun _ _ => .inl (by simp)) harr⟩
  have hμ : μ.length = p := by rw [hs.hr.len, hp0]
  obtain ⟨e, a', w', hq, harr⟩ := key _ a0 rfl h0 μ a w hμ (hl.sr hs)
  exact ⟨e, a', w', hq, .of_steps (.one step_loop) harr⟩

/-- Nothing of the first p rows and of the slots kept points further. -/
def cutOk (p : Nat) (out : Env) (hp : List AObj) : Bool := Nat.ble p hp.length && (hp.take p).all (rowLt p) && out.all fun q => idsLt p q.2
theorem tbl_mem {out : Env} : ∀ i, tbl out i = .any ∨ ∃ q ∈ out, tbl out i = q.2 := by
  intro i
  induction out with
  | nil => exact .inl rfl
  | cons q l ih =>
    obtain ⟨d, x⟩ := q
    simp only [tbl]
    by_cases hi : i = d
    · subst hi
      rw [Nat.beq_refl]
      exact .inr ⟨_, List.mem_cons_self, rfl⟩
    · have : Nat.beq i d = false := nbeq hi
      rw [this]
      rcases ih with h | ⟨q, hq, h⟩
      · exact .inl h
      · exact .inr ⟨q, List.mem_cons_of_mem _ hq, h⟩
theorem LeD.mk {p : Nat} {out : Env} {hp hp1 : List AObj} {σ : SS} (hc : cutOk p out hp = true) (he : hp.take p = hp1) (h : Le ⟨tbl out, hp⟩ σ) : LeD p ⟨tbl out, hp1⟩ σ := by
  simp only [cutOk, Bool.and_eq_true, List.all_eq_true] at hc
  refine LeD.le (b := ⟨tbl out, hp⟩) ⟨he.symm, Nat.le_of_ble_eq_true hc.1.1, by rw [← he]; exact hc.1.2, fun i => ?_⟩ h
  rcases tbl_mem (out := out) i with h1 | ⟨q, hq, h1⟩
  · exact .inl h1
  · exact .inr ⟨rfl, by show idsLt p (tbl out i) = true; rw [h1]; exact hc.2 q hq⟩
end Go.SL
