/-
  Loops whose rounds may end by any change of what is told; some rows frozen; what a contract hands back frozen.
-/
import Derived.Test.YtlfedjannhceaaaSgU2
set_option linter.unusedVariables false
set_option linter.unusedSimpArgs false
set_option linter.unusedSectionVars false
namespace Go.SL
open Go
variable [Tabs]
variable {P : Program} {n : Nat} {F : Nat → Prop} {μ μ' μ0 μ1 μ2 : List Nm} {w w' w0 w1 w2 : World}

theorem Entry.trans {p : Nat} {σ1 σ2 σ3 : SS} (h1 : Entry n p σ2 σ1) (h2 : Entry n p σ3 σ2) : Entry n p σ3 σ1 := fun F μ a w hs => by
  obtain ⟨μ1, s1, f1, l1⟩ := h1 F μ a w hs
  obtain ⟨μ2, s2, f2, l2⟩ := h2 F μ1 a w s1
  exact ⟨μ2, s2, f1.trans f2, l2⟩
theorem Entry.leP {p : Nat} {σ σ' : SS} (hl : Le σ' σ) (hp0 : p ≤ σ'.hp.length) : Entry n p σ' σ := fun F μ a w hs => by
  have e : μ.length = σ'.hp.length := by rw [hs.hr.len, hl.1]
  exact ⟨μ, hl.sr hs, (Fr.refl μ w).p (by omega), by omega⟩
theorem Entry.lnN {p : Nat} {is : List Nat} {σ σ' : SS} (hp0 : p ≤ σ.hp.length) (h : LeN p is σ' σ) : Entry n p σ' σ := fun F μ a w hs =>
  have hlt : ∀ q ∈ is, q < μ.length := fun q hq => by rw [hs.hr.len]; exact h.lt q hq
  have h1 := Frp.pick (w := w) hlt h.pre
  ⟨_, h.sr hs, h1, h1.len⟩

/-- A loop whose rounds end by any change of what is told, the first p rows keeping their places. -/
theorem W.loopQ {α : Type} (p : Nat) (st : α → SS) (inv : α → Prop) (m : α → Nat) {c : Code} {K : Exit → SS → Prop} {σ : SS} (a0 : α) (h0 : inv a0) (hp0 : σ.hp.length = p) (hst : ∀ x, inv x → p ≤ (st x).hp.length) (he : Entry n p (st a0) σ)
    (round : ∀ x, inv x → W P n c (thenK (fun σ' => ∃ y, inv y ∧ m y < m x ∧ Entry n p (st y) σ') K) (st x)) : W P n (.loop c) K σ := by
  intro F μ a w hs b kk cs
  have key : ∀ (k : Nat) (x : α), m x = k → inv x → ∀ μ a w, SR F n (st x) μ a w →
      ∃ e a' w', Postp p F n K μ w e a' w' ∧ Arrives P (lone (b.at a (.code c :: .inLoop c :: kk)) cs w) b kk cs e a' w' := by
    intro k
    induction k using Nat.strongRecOn with
    | _ k ih =>
      intro x hk hi μ a w hs
      have hpl : p ≤ μ.length := by rw [hs.hr.len]; exact hst x hi
      obtain ⟨e, a1, w1, ⟨σ1, μ1, hK, hs1, hf⟩, harr⟩ := round x hi F μ a w hs b (.inLoop c :: kk) cs
      cases e with
      | normal =>
        obtain ⟨y, hy, hlt, hle⟩ := hK
        obtain ⟨μx, hsx, hfx, hlx⟩ := hle F μ1 a1 w1 hs1
        obtain ⟨e3, a3, w3, ⟨σ2, μ2, g1, g2, g3⟩, harr3⟩ := ih (m y) (hk ▸ hlt) y rfl hy μx a1 w1 hsx
        exact ⟨e3, a3, w3, ⟨σ2, μ2, g1, g2, ((hf.p hpl).trans hfx).trans g3⟩, .of_steps (Steps.trans harr (.one step_inLoop)) harr3⟩
      | exit id => exact ⟨_, a1, w1, ⟨σ1, μ1, hK, hs1, hf.p hpl⟩, .pass (x := .inLoop c) rfl (fun _ _ => .inl (by simp)) harr⟩
      | goto l => exact ⟨_, a1, w1, ⟨σ1, μ1, hK, hs1, hf.p hpl⟩, .pass (x := .inLoop c) rfl (fun _ _ => .inl (by simp)) harr⟩
      | ret => exact ⟨_, a1, w1, ⟨σ1, μ1, hK, hs1, hf.p hpl⟩, .pass (x := .inLoop c) rfl (fun _ _ => .inl (by simp)) harr⟩
      | panic ch => exact ⟨_, a1, w1, ⟨σ1, μ1, hK, hs1, hf.p hpl⟩, .pass (x := .inLoop c) rfl (fun _ _ => .inl (by simp)) harr⟩
      | outgrown => exact ⟨_, a1, w1, ⟨σ1, μ1, hK, hs1, hf.p hpl⟩, .pass (x := .inLoop c) rfl (fun _ _ => .inl (by simp)) harr⟩
  have hμ : μ.length = p := by rw [hs.hr.len, hp0]
  obtain ⟨μ1, hs1, hf1, _⟩ := he F μ a w hs
  obtain ⟨e, a', w', ⟨σ2, μ2, g1, g2, g3⟩, harr⟩ := key _ a0 rfl h0 μ1 a w hs1
  exact ⟨e, a', w', ⟨σ2, μ2, g1, g2, (hf1.trans g3).fr hμ⟩, .of_steps (.one step_loop) harr⟩

/-- Values where the rows named are frozen. -/
inductive FzV (ks : List Nat) (hp : List AObj) : AV → AV → Prop
  | keep {x} : FzV ks hp x x
  | nil {e : Nat} : FzV ks hp .nil (.im e [])
  | sl {o off len esz : Nat} {cells ys : List AV} (ho : hp[o]? = some (AObj.row esz cells)) (hk : memN ks o = true) (hl : off + len * esz ≤ cells.length) (he : (cells.drop off).take (len * esz) = ys) (hn : noOwnL ys = true) : FzV ks hp (.sl o off len) (.im esz ys)
theorem FzV.fm {α : Type} {c : α → List AV} {e : Nat} (hc : ∀ a, (c a).length = e) (hn : ∀ a, noOwnL (c a) = true) {ks : List Nat} {hp : List AObj} {o n : Nat} {l : List α} (ho : hp[o]? = some (AObj.row e (l.flatMap c))) (hk : memN ks o = true) (h : l.length = n) : FzV ks hp (.sl o 0 n) (.im e (l.flatMap c)) := by
  have hl := fm_len hc l
  exact .sl ho hk (by rw [← h, ← hl]; omega) (by rw [← h, ← hl, List.drop_zero, List.take_length]) (fm_no hn l)
theorem killN_free {ks : List Nat} {b : Nat} (h : Free μ F b) : Free (killN ks 0 μ) F b := ⟨fun h' => h.1 (killN_blocks h'), h.2⟩
theorem FzV.rel {ks : List Nat} {hp : List AObj} (hr : HR F hp μ w) {x y : AV} {v : Value} (hz : FzV ks hp x y) (hv : VR F μ w x v) : VR F (killN ks 0 μ) w y v := by
  cases hz with
  | keep => exact hv.mono (kill_Fr ks μ w)
  | nil => exact nil_im (hv.mono (kill_Fr ks μ w))
  | @sl o off len esz cells ys ho hk hl he hn =>
    subst he
    rcases hr.row ho with h2 | ⟨h2, h3⟩ | ⟨b, base, tot, c, el, fr, h2, h3, h4, h5, h6, h7⟩
    · cases hv with
      | sl h hc hll => rw [h2] at h; simp at h
      | slN h => rw [h2] at h; simp at h
      | slE h => rw [h2] at h; simp at h
      | slD h => rw [h2] at h; simp at h
    · cases hv with
      | sl h hc hll => rw [h2] at h; simp at h
      | slN h => rw [h2] at h; simp at h
      | slE h => simpa using VR.im0
      | slD h => rw [h2] at h; simp at h
    · cases hv with
      | sl h hc hll =>
        rw [h2] at h
        injection h with h; injection h with e1 e2 e3 e4
        subst e1; subst e2; subst e3; subst e4
        have hlen : ((cells.drop off).take (len * esz)).length = len * esz := by simp; omega
        refine .im h3 (fun h' => ?_) ⟨hr.fo b ⟨o, base, esz, tot, h2⟩, hn⟩ hlen.symm hll ?_
        · obtain ⟨o', base', esz', tot', h''⟩ := h'
          obtain ⟨h8, h9⟩ := killN_at h'' (by simp) (by simp)
          have := hr.inj _ _ _ _ _ _ _ _ _ h2 h8
          subst this
          rw [hk] at h9; simp at h9
        · rw [hlen]
          exact (window_sub h6 hl).move hn fun b' _ hb => killN_free hb
      | slN h => simpa using VR.im0
      | slE h => rw [h2] at h; simp at h
      | slD h => rw [h2] at h; simp at h
/-- The slots of a list, each told anew. -/
def FzS (ks : List Nat) (σ : SS) : List (Nat × AV) → Prop
  | [] => True
  | q :: l => FzV ks σ.hp (σ.env q.1) q.2 ∧ FzS ks σ l
theorem FzS.at {ks : List Nat} {σ : SS} {i : Nat} : ∀ {l : List (Nat × AV)}, FzS ks σ l → tbl l i = .any ∨ FzV ks σ.hp (σ.env i) (tbl l i)
  | [], _ => .inl rfl
  | (d, x) :: l, ⟨h1, h2⟩ => by
    simp only [tbl]
    cases hb : Nat.beq i d with
    | true =>
      have := Nat.eq_of_beq_eq_true hb
      subst this
      exact .inr h1
    | false => exact FzS.at h2
theorem Entry.fzK {p : Nat} {env : Nat → AV} {hp : List AObj} (ks : List Nat) (l : List (Nat × AV)) (hz : FzS ks ⟨env, hp⟩ l) (hp0 : p ≤ hp.length) : Entry n p ⟨tbl l, killL ks 0 hp⟩ ⟨env, hp⟩ := fun F μ a w hs => by
  have hk := kill_sr (ks := ks) hs
  have hl : μ.length = hp.length := hs.hr.len
  refine ⟨killN ks 0 μ, ⟨hk.hr, fun i => ?_, hs.size, hs.defers⟩, (kill_Fr ks μ w).p (by omega), by rw [killN_len]; omega⟩
  rcases hz.at (i := i) with h1 | h1
  · show VR F _ w (tbl l i) _
    rw [h1]; exact .any
  · exact h1.rel hs.hr (hs.env i)
/-- The same in code. -/
theorem W.fzK {c : Code} {K : Exit → SS → Prop} {env : Nat → AV} {hp : List AObj} (ks : List Nat) (l : List (Nat × AV)) (hz : FzS ks ⟨env, hp⟩ l) (h : W P n c K ⟨tbl l, killL ks 0 hp⟩) : W P n c K ⟨env, hp⟩ := by
  intro F μ a w hs
  have hk := kill_sr (ks := ks) hs
  refine wp_mono (h F (killN ks 0 μ) a w ⟨hk.hr, fun i => ?_, hs.size, hs.defers⟩) ?_
  · rcases hz.at (i := i) with h1 | h1
    · show VR F _ w (tbl l i) _
      rw [h1]; exact .any
    · exact h1.rel hs.hr (hs.env i)
  · rintro x a' w' hp'
    exact Post.mono (kill_Fr ks μ w) hp'
/-- What a contract hands back, told anew. -/
theorem Spec.cv {g : Nat} {xs : List AV} {hp hp1 hp2 : List AObj} {x y : AV} (hs : Spec P g xs hp (SL.is x hp1)) (hc : Cv hp.length hp1 x hp2 y) : Spec P g xs hp (SL.is y hp2) := by
  intro F μ w args hr ha
  refine (hs F μ w args hr ha).mono ?_
  rintro e w' ⟨r', v, h', μ', rfl, ⟨hr1, hr2⟩, hHR, hv, hf⟩
  rw [hr2] at hHR
  rw [hr1] at hv
  obtain ⟨μ2, a1, a2, a3, a4, a5⟩ := hc F μ' w' v hHR hv
  have hL : μ.length = hp.length := hr.len
  refine ⟨_, v, _, μ2, rfl, ⟨rfl, rfl⟩, a1, a2, hf.size, hf.keep, fun b hb => hf.new b (a3 b hb), fun o nm h => ?_, by omega, hf.oo⟩
  have ho : o < hp.length := by
    rcases Nat.lt_or_ge o μ.length with g | g
    · omega
    · rw [List.getElem?_eq_none g] at h; simp at h
  rcases hf.ext o nm h with g | ⟨g0, g⟩
  · exact a4 o nm ho g
  · rcases a4 o _ ho g with k | ⟨_, k⟩
    · exact .inr ⟨g0, k⟩
    · exact .inr ⟨g0, k⟩
theorem Spec0.fz {g : Nat} {xs : List AV} {e len : Nat} {cells : List AV} (hs : Spec P g xs [] (SL.is (.sl 0 0 len) [.row e cells])) (hl : len * e = cells.length) (hn : noOwnL cells = true) : Spec0 P g xs (.im e cells) := by
  have h := Spec.cv hs (Cv.frz (p := 0) (y := .im e ((cells.drop 0).take (len * e))) (Nat.zero_le _) (fun o x ho => by omega) (.sl rfl (Nat.zero_le _) (by omega) (by rw [hl, List.drop_zero, List.take_length]; exact hn)))
  rw [hl, List.drop_zero, List.take_length] at h
  exact h
/-- Arguments frozen. -/
inductive FzVL (ks : List Nat) (hp : List AObj) : List AV → List AV → Prop
  | nil : FzVL ks hp [] []
  | cons {x y : AV} {xs ys : List AV} (h : FzV ks hp x y) (t : FzVL ks hp xs ys) : FzVL ks hp (x :: xs) (y :: ys)
theorem FzVL.rel {ks : List Nat} {hp : List AObj} (hr : HR F hp μ w) : ∀ {xs ys : List AV} {vs : List Value}, FzVL ks hp xs ys → VRL F μ w xs vs → VRL F (killN ks 0 μ) w ys vs
  | [], [], _, .nil, .nil => .nil
  | _ :: _, _ :: _, _, .cons h t, .cons g u => .cons (h.rel hr g) (t.rel hr u)
/-- A contract whose arguments are frozen at the call. -/
theorem Spec.fzK {g : Nat} {xs ys : List AV} {hp : List AObj} {R : AV → List AObj → Prop} (ks : List Nat) (hz : FzVL ks hp xs ys) (h : Spec P g ys (killL ks 0 hp) R) : Spec P g xs hp R := by
  intro F μ w args hr ha
  have hs : SR F 0 ⟨fun _ => .any, hp⟩ μ { tmps := #[], defers := [] } w := ⟨hr, fun i => .any, rfl, rfl⟩
  have hk := (kill_sr (ks := ks) hs).hr
  refine (h F (killN ks 0 μ) w args hk (hz.rel hr ha)).mono ?_
  rintro e w' ⟨x, v, hp', μ', he, hR, h1, h2, h3⟩
  exact ⟨x, v, hp', μ', he, hR, h1, h2, (kill_Fr ks μ w).trans h3⟩
theorem Spec0.over {g : Nat} {ys : List AV} {r : AV} {hp : List AObj} (hs : Spec0 P g ys r) (hn : noOwnL ys = true) (hr : noOwn r = true) : Spec P g ys hp (SL.is r hp) := by
  have h := Spec.frame (P := P) (g := g) (xs := ys) (hp1 := []) (hp1' := []) (hp := hp) (r := r) [] (Spec.mono hs fun x hp' h => h) rfl (fun j q x h => by simp at h) (fun q h => by simp at h) (by simp) (renL_noOwn _ _ hn)
  rw [ren_noOwn _ _ hr] at h
  simpa [fmR, updL] using h
/-- Rows of the arguments let go for good at a call. -/
theorem Spec0.fzAt {g : Nat} {xs ys : List AV} {r : AV} {hp : List AObj} (hs : Spec0 P g ys r) (ks : List Nat) (hz : FzVL ks hp xs ys) (hn : noOwnL ys = true) (hr : noOwn r = true) : Spec P g xs hp (SL.is r (killL ks 0 hp)) :=
  Spec.fzK ks hz (Spec0.over hs hn hr)
end Go.SL
