/-
  Loops and scopes entered without rows, whose rounds may hand on rows of their own under new numbers.
-/
import Derived.Test.YtbimmnnjnlfddaaDoorSxH
set_option linter.unusedVariables false
set_option linter.unusedSimpArgs false
set_option linter.unusedSectionVars false
namespace Go.SL
open Go
variable [Tabs]
variable {F : Nat → Prop} {μ μ' μ0 μ1 μ2 : List Nm} {w w' w0 w1 w2 : World} {P : Program} {n : Nat} {hp : List AObj}

/-- Row j of the new state is row is[j] of the old one. -/
def pickF (is : List Nat) (L j : Nat) : Nat := (is[j]?).getD L
def pickN (is : List Nat) (μ : List Nm) : List Nm := is.map fun q => (μ[q]?).getD .un
def rowNo : AObj → Bool
  | .dead => true
  | .row _ cs => noOwnL cs
structure LeM (is : List Nat) (σ' σ : SS) : Prop where
  hp : σ'.hp = is.map fun q => (σ.hp[q]?).getD .dead
  lt : ∀ q ∈ is, q < σ.hp.length
  nd : is.Nodup
  no : ∀ r ∈ σ'.hp, rowNo r = true
  env : ∀ i, σ'.env i = .any ∨ ren (pickF is σ.hp.length) (σ'.env i) = σ.env i

theorem pickN_get {is : List Nat} {j : Nat} {nm : Nm} (h : (pickN is μ)[j]? = some nm) : ∃ q, is[j]? = some q ∧ nm = (μ[q]?).getD .un := by
  unfold pickN at h
  rw [List.getElem?_map] at h
  cases hq : is[j]? with
  | none => rw [hq] at h; simp at h
  | some q => rw [hq] at h; simp at h; exact ⟨q, rfl, h.symm⟩
theorem pickN_lt {is : List Nat} {j : Nat} {nm : Nm} (hlt : ∀ q ∈ is, q < μ.length) (h : (pickN is μ)[j]? = some nm) : ∃ q, is[j]? = some q ∧ μ[q]? = some nm := by
  obtain ⟨q, h1, h2⟩ := pickN_get h
  have := hlt q (List.mem_of_getElem? h1)
  rw [List.getElem?_eq_getElem this] at h2
  exact ⟨q, h1, by rw [List.getElem?_eq_getElem this, h2]; rfl⟩
theorem pick_blocks {is : List Nat} {b : Nat} (h : blocks (pickN is μ) b) (hlt : ∀ q ∈ is, q < μ.length) : blocks μ b := by
  obtain ⟨o, base, esz, tot, h⟩ := h
  obtain ⟨q, _, h2⟩ := pickN_lt hlt h
  exact ⟨q, base, esz, tot, h2⟩
theorem pick_free {is : List Nat} {b : Nat} (hlt : ∀ q ∈ is, q < μ.length) (h : Free μ F b) : Free (pickN is μ) F b := ⟨fun h' => h.1 (pick_blocks h' hlt), h.2⟩
theorem pick_hn {is : List Nat} {L j : Nat} {nm : Nm} (hL : μ.length = L) (h : μ[pickF is L j]? = some nm) : (pickN is μ)[j]? = some nm := by
  unfold pickF at h
  unfold pickN
  rw [List.getElem?_map]
  cases hq : is[j]? with
  | none => rw [hq] at h; simp [← hL] at h
  | some q => rw [hq] at h; simp at h; simp [h]

theorem LeM.sr {is : List Nat} {σ σ' : SS} (h : LeM is σ' σ) {a : Act} (hs : SR F n σ μ a w) : SR F n σ' (pickN is μ) a w := by
  have hL : μ.length = σ.hp.length := hs.hr.len
  have hlt : ∀ q ∈ is, q < μ.length := fun q hq => by rw [hL]; exact h.lt q hq
  have row : ∀ (o q : Nat), is[o]? = some q → σ'.hp[o]? = σ.hp[q]? := by
    intro o q hq
    have := h.lt q (List.mem_of_getElem? hq)
    rw [h.hp, List.getElem?_map, hq, Option.map_some, List.getElem?_eq_getElem this]; rfl
  refine ⟨⟨by rw [h.hp]; simp [pickN], fun o b base esz tot ho => ?_, fun o ho => ?_, fun o esz cells ho hd => ?_, fun o o' b base esz tot base' esz' tot' h1 h2 => ?_, fun b hb => ?_, hs.hr.fb, hs.hr.tb.sub fun b h => pick_blocks h hlt⟩, fun i => ?_, hs.size, hs.defers⟩
  · obtain ⟨q, hq, hm⟩ := pickN_lt hlt ho
    obtain ⟨cells, c, el, fr, g1, g2, g3, g4, g5, g6⟩ := hs.hr.obj q b base esz tot hm
    have g1' : σ'.hp[o]? = some (AObj.row esz cells) := by rw [row o q hq, g1]
    refine ⟨cells, c, el, fr, g1', g2, g3, g4, ?_, g6⟩
    exact g5.move (h.no _ (List.mem_of_getElem? g1')) fun b _ hb => pick_free hlt hb
  · obtain ⟨q, hq, hm⟩ := pickN_lt hlt ho
    rw [row o q hq]; exact hs.hr.em q hm
  · obtain ⟨q, hq, hm⟩ := pickN_lt hlt hd
    rw [row o q hq] at ho
    exact hs.hr.live q esz cells ho hm
  · obtain ⟨q, hq, hm⟩ := pickN_lt hlt h1
    obtain ⟨q', hq', hm'⟩ := pickN_lt hlt h2
    have hqq := hs.hr.inj _ _ _ _ _ _ _ _ _ hm hm'
    subst hqq
    have ho : o < is.length := by
      rcases Nat.lt_or_ge o is.length with g | g
      · exact g
      · simp [List.getElem?_eq_none g] at hq
    have ho' : o' < is.length := by
      rcases Nat.lt_or_ge o' is.length with g | g
      · exact g
      · simp [List.getElem?_eq_none g] at hq'
    rw [List.getElem?_eq_getElem ho] at hq
    rw [List.getElem?_eq_getElem ho'] at hq'
    have e1 := (Option.some.inj hq).trans (Option.some.inj hq').symm
    have hpw := List.pairwise_iff_getElem.1 h.nd
    rcases Nat.lt_trichotomy o o' with g | g | g
    · exact absurd e1 (hpw _ _ ho ho' g)
    · exact g
    · exact absurd e1.symm (hpw _ _ ho' ho g)
  · exact hs.hr.fo b (pick_blocks hb hlt)
  · rcases h.env i with h5 | h5
    · rw [h5]; exact .any
    · have := hs.env i
      rw [← h5] at this
      exact this.pull (fun j nm hj => pick_hn hL hj) (fun b _ hb => pick_free hlt hb)

theorem LeM.mk' {is : List Nat} {out out' : Env} {hp hp' : List AObj} {σ : SS} (he : out'.map (fun q => (q.1, ren (pickF is hp.length) q.2)) = out) (h1 : hp' = is.map fun q => (hp[q]?).getD .dead)
    (h2 : ∀ q ∈ is, q < hp.length) (h3 : is.Nodup) (h5 : ∀ r ∈ hp', rowNo r = true) (h : Le ⟨tbl out, hp⟩ σ) : LeM is ⟨tbl out', hp'⟩ σ := by
  have hh : σ.hp = hp := h.1.symm
  refine ⟨by rw [hh]; exact h1, by rw [hh]; exact h2, h3, h5, fun i => ?_⟩
  have key : tbl out' i = .any ∨ ren (pickF is hp.length) (tbl out' i) = tbl out i := by
    subst he
    clear h h5 h1
    induction out' with
    | nil => exact .inl rfl
    | cons q l ih =>
      obtain ⟨d, x⟩ := q
      simp only [List.map_cons, tbl]
      cases hb : Nat.beq i d
      · exact ih
      · exact .inr rfl
  rcases key with h6 | h6
  · exact .inl h6
  · rcases h.2 i with h7 | h7
    · refine .inl ?_
      show tbl out' i = .any
      have h7' : tbl out i = .any := h7
      rw [h7'] at h6
      revert h6
      cases tbl out' i <;> simp [ren]
    · refine .inr ?_
      rw [hh]
      exact h6.trans h7

/-- What is kept of Fr when rows change their numbers. -/
structure Frb (μ : List Nm) (w : World) (μ' : List Nm) (w' : World) : Prop where
  size : w.heap.size ≤ w'.heap.size
  keep : ∀ b, b < w.heap.size → ¬ blocks μ b → w'.heap[b]? = w.heap[b]?
  new : ∀ b, blocks μ' b → blocks μ b ∨ w.heap.size ≤ b
  oo : w'.os = w.os ∧ w'.output = w.output
theorem Fr.b (h : Fr μ w μ' w') : Frb μ w μ' w' := ⟨h.size, h.keep, h.new, h.oo⟩
theorem Frb.fr (h : Frb [] w μ' w') : Fr [] w μ' w' := ⟨h.size, h.keep, h.new, fun o nm ho => by simp at ho, Nat.zero_le _, h.oo⟩
theorem Frb.cut {is : List Nat} (hlt : ∀ q ∈ is, q < μ1.length) (h1 : Frb μ0 w0 μ1 w1) (h2 : Frb (pickN is μ1) w1 μ2 w2) : Frb μ0 w0 μ2 w2 := by
  refine ⟨Nat.le_trans h1.size h2.size, fun b hb hn => ?_, fun b hb => ?_, h2.oo.1.trans h1.oo.1, h2.oo.2.trans h1.oo.2⟩
  · have hn1 : ¬ blocks μ1 b := fun h => by
      rcases h1.new b h with h | h
      · exact hn h
      · omega
    rw [h2.keep b (Nat.lt_of_lt_of_le hb h1.size) (fun h => hn1 (pick_blocks h hlt)), h1.keep b hb hn]
  · rcases h2.new b hb with h | h
    · exact h1.new b (pick_blocks h hlt)
    · exact .inr (Nat.le_trans h1.size h)
def Postb (F : Nat → Prop) (n : Nat) (K : Exit → SS → Prop) (μ : List Nm) (w : World) (x : Exit) (a : Act) (w' : World) : Prop := ∃ σ' μ', K x σ' ∧ SR F n σ' μ' a w' ∧ Frb μ w μ' w'

theorem W.loopM {α : Type} (st : α → SS) (inv : α → Prop) (m : α → Nat) {c : Code} {K : Exit → SS → Prop} {σ : SS} (a0 : α) (h0 : inv a0) (hp0 : σ.hp = []) (hl : Le (st a0) σ)
    (round : ∀ x, inv x → W P n c (thenK (fun σ' => ∃ y is, inv y ∧ m y < m x ∧ LeM is (st y) σ') K) (st x)) : W P n (.loop c) K σ := by
  intro F μ a w hs b kk cs
  have key : ∀ (k : Nat) (x : α), m x = k → inv x → ∀ μ a w, SR F n (st x) μ a w →
      ∃ e a' w', Postb F n K μ w e a' w' ∧ Arrives P (lone (b.at a (.code c :: .inLoop c :: kk)) cs w) b kk cs e a' w' := by
    intro k
    induction k using Nat.strongRecOn with
    | _ k ih =>
      intro x hk hi μ a w hs
      obtain ⟨e, a1, w1, ⟨σ1, μ1, hK, hs1, hf⟩, harr⟩ := round x hi F μ a w hs b (.inLoop c :: kk) cs
      cases e with
      | normal =>
        obtain ⟨y, is, hy, hlt, hle⟩ := hK
        obtain ⟨e3, a3, w3, ⟨σ2, μ2, g1, g2, g3⟩, harr3⟩ := ih (m y) (hk ▸ hlt) y rfl hy (pickN is μ1) a1 w1 (hle.sr hs1)
        exact ⟨e3, a3, w3, ⟨σ2, μ2, g1, g2, hf.b.cut (fun q hq => by rw [hs1.hr.len]; exact hle.lt q hq) g3⟩, .of_steps (Steps.trans harr (.one step_inLoop)) harr3⟩
      | exit id => exact ⟨_, a1, w1, ⟨σ1, μ1, hK, hs1, hf.b⟩, .pass (x := .inLoop c) rfl (fun _ _ => .inl (by simp)) harr⟩
      | goto l => exact ⟨_, a1, w1, ⟨σ1, μ1, hK, hs1, hf.b⟩, .pass (x := .inLoop c) rfl (fun _ _ => .inl (by simp)) harr⟩
      | ret => exact ⟨_, a1, w1, ⟨σ1, μ1, hK, hs1, hf.b⟩, .pass (x := .inLoop c) rfl (fun _ _ => .inl (by simp)) harr⟩
      | panic ch => exact ⟨_, a1, w1, ⟨σ1, μ1, hK, hs1, hf.b⟩, .pass (x := .inLoop c) rfl (fun _ _ => .inl (by simp)) harr⟩
      | outgrown => exact ⟨_, a1, w1, ⟨σ1, μ1, hK, hs1, hf.b⟩, .pass (x := .inLoop c) rfl (fun _ _ => .inl (by simp)) harr⟩
  have hμ : μ = [] := List.eq_nil_of_length_eq_zero (by rw [hs.hr.len, hp0]; rfl)
  subst hμ
  obtain ⟨e, a', w', ⟨σ2, μ2, g1, g2, g3⟩, harr⟩ := key _ a0 rfl h0 [] a w (hl.sr hs)
  exact ⟨e, a', w', ⟨σ2, μ2, g1, g2, g3.fr⟩, .of_steps (.one step_loop) harr⟩

theorem W.scopeM {α : Type} (st : α → SS) (lab : α → Nat) (inv : α → Prop) (m : α → Nat) {c : Code} {K : Exit → SS → Prop} {σ : SS} (hp0 : σ.hp = [])
    (first : W P n c (fun x σ' => match x with | .goto l => ∃ y is, inv y ∧ lab y = l ∧ LeM is (st y) σ' | x => K x σ') σ)
    (pass : ∀ x, inv x → ∃ rest, findLabel c (lab x) = some rest ∧
      W P n rest (fun e σ' => match e with | .goto l => ∃ y is, inv y ∧ lab y = l ∧ m y < m x ∧ LeM is (st y) σ' | e => K e σ') (st x)) : W P n (.scope c) K σ := by
  intro F μ a w hs b kk cs
  have key : ∀ (k : Nat) (x : α), m x = k → inv x → ∀ rest, findLabel c (lab x) = some rest → ∀ μ a w, SR F n (st x) μ a w →
      ∃ e a' w', Postb F n K μ w e a' w' ∧ Arrives P (lone (b.at a (.code rest :: .inScope c :: kk)) cs w) b kk cs e a' w' := by
    intro k
    induction k using Nat.strongRecOn with
    | _ k ih =>
      intro x hk hi rest hrest μ a w hs
      obtain ⟨rest', hr', hW⟩ := pass x hi
      have : rest' = rest := by rw [hr'] at hrest; exact Option.some.inj hrest
      subst this
      obtain ⟨e, a1, w1, ⟨σ1, μ1, hK, hs1, hf⟩, harr⟩ := hW F μ a w hs b (.inScope c :: kk) cs
      cases e with
      | normal => exact ⟨.normal, a1, w1, ⟨σ1, μ1, hK, hs1, hf.b⟩, Steps.trans harr (.one step_inScope)⟩
      | exit id => exact ⟨.exit id, a1, w1, ⟨σ1, μ1, hK, hs1, hf.b⟩, fun k' hk => harr k' (by simp [exitTo, hk])⟩
      | goto l =>
        obtain ⟨y, is, hy, hl, hlt, hle⟩ := hK
        subst hl
        obtain ⟨rest2, hr2, _⟩ := pass y hy
        obtain ⟨e3, a3, w3, ⟨σ2, μ2, g1, g2, g3⟩, harr3⟩ := ih (m y) (hk ▸ hlt) y rfl hy rest2 hr2 (pickN is μ1) a1 w1 (hle.sr hs1)
        exact ⟨e3, a3, w3, ⟨σ2, μ2, g1, g2, hf.b.cut (fun q hq => by rw [hs1.hr.len]; exact hle.lt q hq) g3⟩, .of_steps (harr _ (by simp [gotoIn, hr2])) harr3⟩
      | ret => exact ⟨_, a1, w1, ⟨σ1, μ1, hK, hs1, hf.b⟩, harr⟩
      | panic ch => exact ⟨_, a1, w1, ⟨σ1, μ1, hK, hs1, hf.b⟩, harr⟩
      | outgrown => exact ⟨_, a1, w1, ⟨σ1, μ1, hK, hs1, hf.b⟩, harr⟩
  have hμ : μ = [] := List.eq_nil_of_length_eq_zero (by rw [hs.hr.len, hp0]; rfl)
  subst hμ
  obtain ⟨e, a1, w1, ⟨σ1, μ1, hK, hs1, hf⟩, harr⟩ := first F [] a w hs b (.inScope c :: kk) cs
  cases e with
  | normal => exact ⟨.normal, a1, w1, ⟨σ1, μ1, hK, hs1, hf⟩, .head step_scope (Steps.trans harr (.one step_inScope))⟩
  | exit id => exact ⟨.exit id, a1, w1, ⟨σ1, μ1, hK, hs1, hf⟩, fun k' hk => .head step_scope (harr k' (by simp [exitTo, hk]))⟩
  | goto l =>
    obtain ⟨y, is, hy, hl, hle⟩ := hK
    subst hl
    obtain ⟨rest2, hr2, _⟩ := pass y hy
    obtain ⟨e3, a3, w3, ⟨σ2, μ2, g1, g2, g3⟩, harr3⟩ := key _ y rfl hy rest2 hr2 (pickN is μ1) a1 w1 (hle.sr hs1)
    exact ⟨e3, a3, w3, ⟨σ2, μ2, g1, g2, (hf.b.cut (fun q hq => by rw [hs1.hr.len]; exact hle.lt q hq) g3).fr⟩, .of_steps (.head step_scope (harr _ (by simp [gotoIn, hr2]))) harr3⟩
  | ret => exact ⟨_, a1, w1, ⟨σ1, μ1, hK, hs1, hf⟩, .of_steps (.one step_scope) harr⟩
  | panic ch => exact ⟨_, a1, w1, ⟨σ1, μ1, hK, hs1, hf⟩, .of_steps (.one step_scope) harr⟩
  | outgrown => exact ⟨_, a1, w1, ⟨σ1, μ1, hK, hs1, hf⟩, .of_steps (.one step_scope) harr⟩

/-- Values of which none has own rows; nothing as an empty slice of row 0. -/
def nilUp : AV → AV
  | .nil => .sl 0 0 0
  | x => x
theorem no_em {b : Nat} : ¬ blocks [Nm.em] b := by
  rintro ⟨o, base, esz, tot, h⟩
  cases o <;> simp at h
theorem nil_sr {l : Env} (e : Nat) (h : (l.all fun q => noOwn q.2) = true) {a : Act} (hs : SR F n ⟨tbl l, []⟩ [] a w) : SR F n ⟨tbl (l.map fun q => (q.1, nilUp q.2)), [.row e []]⟩ [Nm.em] a w := by
  refine ⟨⟨rfl, fun o b base esz tot ho => ?_, fun o ho => ?_, fun o esz cells ho hd => ?_, fun o o' b base esz tot base' esz' tot' h1 h2 => ?_, fun b hb => absurd hb no_em, hs.hr.fb, hs.hr.tb.sub fun b hb => absurd hb no_em⟩, fun i => ?_, hs.size, hs.defers⟩
  · cases o <;> simp at ho
  · cases o with
    | zero => exact ⟨e, rfl⟩
    | succ o => simp at ho
  · cases o <;> simp at hd
  · cases o <;> simp at h1
  · have key : tbl (l.map fun q => (q.1, nilUp q.2)) i = .any ∨ (tbl (l.map fun q => (q.1, nilUp q.2)) i = nilUp (tbl l i) ∧ noOwn (tbl l i) = true) := by
      clear hs
      induction l with
      | nil => exact .inl rfl
      | cons q l ih =>
        obtain ⟨d, x⟩ := q
        simp only [List.all_cons, Bool.and_eq_true] at h
        simp only [List.map_cons, tbl]
        cases hb : Nat.beq i d
        · exact ih h.2
        · exact .inr ⟨rfl, h.1⟩
    show VR F _ w (tbl (l.map fun q => (q.1, nilUp q.2)) i) _
    rcases key with h5 | ⟨h5, h6⟩
    · rw [h5]; exact .any
    · rw [h5]
      have hv : VR F [] w (tbl l i) (a.tmps.getD i undef) := hs.env i
      revert hv h6
      generalize tbl l i = x
      generalize a.tmps.getD i undef = u
      intro h6 hv
      cases x with
      | nil =>
        show VR F _ w (.sl 0 0 0) _
        cases hv with
        | nil => exact .slE rfl
      | _ => exact VR.moveN (fun b _ hb => ⟨no_em, hb.2⟩) hv h6
theorem em_fr (h : Frb [Nm.em] w μ' w') : Fr [] w μ' w' := by
  refine Frb.fr ⟨h.size, fun b hb _ => h.keep b hb no_em, fun b hb => ?_, h.oo⟩
  rcases h.new b hb with h5 | h5
  · exact absurd h5 no_em
  · exact .inr h5
theorem W.nilRow {c : Code} {K : Exit → SS → Prop} {l : Env} (e : Nat) (h : (l.all fun q => noOwn q.2) = true) (hw : W P n c K ⟨tbl (l.map fun q => (q.1, nilUp q.2)), [.row e []]⟩) : W P n c K ⟨tbl l, []⟩ := by
  intro F μ a w hs b kk cs
  have hμ : μ = [] := List.eq_nil_of_length_eq_zero hs.hr.len
  subst hμ
  obtain ⟨ex, a', w', ⟨σ', μ', h1, h2, h3⟩, h4⟩ := hw F [Nm.em] a w (nil_sr e h hs) b kk cs
  exact ⟨ex, a', w', ⟨σ', μ', h1, h2, em_fr h3.b⟩, h4⟩

theorem Res.le {rs : List ResultVar} {σ σ' : SS} {xs : List AV} (h : Res P rs σ' xs) (hl : Le σ' σ) : Res P rs σ xs := by
  intro F μ w t hr he
  refine h F μ w t (hl.1 ▸ hr) fun i => ?_
  rcases hl.2 i with h1 | h1
  · rw [h1]; exact .any
  · rw [h1]; exact he i
/-- What is handed back, its rows frozen. -/
theorem retK.fz {rs : List ResultVar} {out : Env} {hp : List AObj} {x : AV} {σ : SS} {xs : List AV} {e : Exit} (he : e = .ret ∨ e = .normal) (hl : Le ⟨tbl out, hp⟩ σ) (h1 : resV P out hp rs = some xs) (h2 : Fz 0 hp (oneAV xs) x) :
    retK P 0 rs (fun r hp' => r = x ∧ hp' = []) e σ :=
  retK.mk he (Res.le (resV.ok h1) hl) (by rw [← hl.1]; exact Cv.frz0 h2)
/-- A result told otherwise. -/
theorem Spec0.weak {k : Nat} {args : List AV} {x y : AV} (h : Spec0 P k args x) (hxy : ∀ (F : Nat → Prop) μ w v, VR F μ w x v → VR F μ w y v) : Spec0 P k args y := by
  intro F μ w args' hr ha
  refine (h F μ w args' hr ha).mono ?_
  rintro e w' ⟨r, v, hp', μ', h1, ⟨rfl, h2⟩, h3, h4, h5⟩
  exact ⟨y, v, hp', μ', h1, ⟨rfl, h2⟩, h3, hxy _ _ _ _ h4, h5⟩
theorem nil_im {F : Nat → Prop} {μ : List Nm} {w : World} {v : Value} {e : Nat} (h : VR F μ w .nil v) : VR F μ w (.im e []) v := by
  cases h; exact .im0
theorem nil_im3 {F : Nat → Prop} {μ : List Nm} {w : World} {v : Value} {e : Nat} {x y : AV} (h : VR F μ w (.tup [.nil, x, y]) v) : VR F μ w (.tup [.im e [], x, y]) v := by
  cases h with
  | tup h =>
    refine .tup ?_
    revert h
    generalize hg : Array.toList _ = l
    intro h
    cases h with
    | cons h t => exact .cons (nil_im h) t
/-- A scope with one label, entered from above once and by jumps. -/
theorem W.scopeM1 {α : Type} (st : α → SS) (inv : α → Prop) (m : α → Nat) (l : Nat) {c rest : Code} {K : Exit → SS → Prop} {σ : SS} (hp0 : σ.hp = []) (hl : findLabel c l = some (.seq .skip rest))
    (body : ∀ x, inv x → W P n rest (fun e σ' => match e with | .goto l' => l' = l ∧ ∃ y is, inv y ∧ m y < m x ∧ LeM is (st y) σ' | e => K e σ') (st x))
    (first : ∀ K' : Exit → SS → Prop, (∀ x, inv x → W P n rest K' (st x)) → (∀ e σ', isGoto e = false → K e σ' → K' e σ') → W P n c K' σ) : W P n (.scope c) K σ := by
  refine W.scopeM st (fun _ => l) inv m hp0 (first _ (fun x hx => W.mono (body x hx) fun e σ' h => ?_) (fun e σ' he h => ?_)) (fun x hx => ⟨.seq .skip rest, hl, W.seq (W.skip (W.mono (body x hx) fun e σ' h => ?_))⟩)
  · cases e with
    | goto l' => obtain ⟨rfl, y, is, h1, h2, h3⟩ := h; exact ⟨y, is, h1, rfl, h3⟩
    | _ => exact h
  · cases e with
    | goto l' => simp [isGoto] at he
    | _ => exact h
  · cases e with
    | goto l' => obtain ⟨rfl, y, is, h1, h2, h3⟩ := h; exact ⟨y, is, h1, rfl, h2, h3⟩
    | _ => exact h
/-- A whole row frozen. -/
theorem Fz.row {p o k esz : Nat} {cells : List AV} (ho : hp[o]? = some (AObj.row esz cells)) (hpo : p ≤ o) (hl : cells.length = k * esz) (hn : noOwnL cells = true) : Fz p hp (.sl o 0 k) (.im esz cells) := by
  have h1 : (cells.drop 0).take (k * esz) = cells := by rw [List.drop_zero, ← hl, List.take_length]
  have := Fz.sl (p := p) (off := 0) (len := k) ho hpo (by omega) (by rw [h1]; exact hn)
  rw [h1] at this
  exact this
theorem retK.fzN {rs : List ResultVar} {out : Env} {hp : List AObj} {x y : AV} {σ : SS} {xs : List AV} {e : Exit} (he : e = .ret ∨ e = .normal) (hl : Le ⟨tbl out, hp⟩ σ) (h1 : resV P out hp rs = some xs) (h2 : Fz 0 hp (oneAV xs) x)
    (h3 : ∀ (F : Nat → Prop) μ w v, VR F μ w x v → VR F μ w y v) : retK P 0 rs (fun r hp' => r = y ∧ hp' = []) e σ := by
  obtain ⟨a1, xs', x', hp', a2, a3, rfl, rfl⟩ := retK.fz (P := P) he hl h1 h2
  refine ⟨a1, xs', y, [], a2, fun F μ w v g1 g2 => ?_, rfl, rfl⟩
  obtain ⟨μ', b1, b2, b3⟩ := a3 F μ w v g1 g2
  exact ⟨μ', b1, h3 _ _ _ _ b2, b3⟩
/-- A loop entered with nothing, whose rounds hand on a slice of their own. -/
theorem W.loopE {α : Type} (st : α → SS) (inv : α → Prop) (m : α → Nat) {c : Code} {K : Exit → SS → Prop} {l : Env} (e : Nat) (hno : (l.all fun q => noOwn q.2) = true) (a0 : α) (h0 : inv a0) (hl : Le (st a0) ⟨tbl (l.map fun q => (q.1, nilUp q.2)), [.row e []]⟩)
    (round : ∀ x, inv x → W P n c (thenK (fun σ' => ∃ y is, inv y ∧ m y < m x ∧ LeM is (st y) σ') K) (st x)) : W P n (.loop c) K ⟨tbl l, []⟩ := by
  intro F μ a w hs b kk cs
  have key : ∀ (k : Nat) (x : α), m x = k → inv x → ∀ μ a w, SR F n (st x) μ a w →
      ∃ e a' w', Postb F n K μ w e a' w' ∧ Arrives P (lone (b.at a (.code c :: .inLoop c :: kk)) cs w) b kk cs e a' w' := by
    intro k
    induction k using Nat.strongRecOn with
    | _ k ih =>
      intro x hk hi μ a w hs
      obtain ⟨e, a1, w1, ⟨σ1, μ1, hK, hs1, hf⟩, harr⟩ := round x hi F μ a w hs b (.inLoop c :: kk) cs
      cases e with
      | normal =>
        obtain ⟨y, is, hy, hlt, hle⟩ := hK
        obtain ⟨e3, a3, w3, ⟨σ2, μ2, g1, g2, g3⟩, harr3⟩ := ih (m y) (hk ▸ hlt) y rfl hy (pickN is μ1) a1 w1 (hle.sr hs1)
        exact ⟨e3, a3, w3, ⟨σ2, μ2, g1, g2, hf.b.cut (fun q hq => by rw [hs1.hr.len]; exact hle.lt q hq) g3⟩, .of_steps (Steps.trans harr (.one step_inLoop)) harr3⟩
      | exit id => exact ⟨_, a1, w1, ⟨σ1, μ1, hK, hs1, hf.b⟩, .pass (x := .inLoop c) rfl (fun _ _ => .inl (by simp)) harr⟩
      | goto l => exact ⟨_, a1, w1, ⟨σ1, μ1, hK, hs1, hf.b⟩, .pass (x := .inLoop c) rfl (fun _ _ => .inl (by simp)) harr⟩
      | ret => exact ⟨_, a1, w1, ⟨σ1, μ1, hK, hs1, hf.b⟩, .pass (x := .inLoop c) rfl (fun _ _ => .inl (by simp)) harr⟩
      | panic ch => exact ⟨_, a1, w1, ⟨σ1, μ1, hK, hs1, hf.b⟩, .pass (x := .inLoop c) rfl (fun _ _ => .inl (by simp)) harr⟩
      | outgrown => exact ⟨_, a1, w1, ⟨σ1, μ1, hK, hs1, hf.b⟩, .pass (x := .inLoop c) rfl (fun _ _ => .inl (by simp)) harr⟩
  have hμ : μ = [] := List.eq_nil_of_length_eq_zero hs.hr.len
  subst hμ
  obtain ⟨e, a', w', ⟨σ2, μ2, g1, g2, g3⟩, harr⟩ := key _ a0 rfl h0 [Nm.em] a w (hl.sr (nil_sr e hno hs))
  exact ⟨e, a', w', ⟨σ2, μ2, g1, g2, em_fr g3⟩, .of_steps (.one step_loop) harr⟩

end Go.SL
