/-
  Regions whose order is open: the rule.
-/
import Derived.Test.YtbimmnnjnlfddaaDoorSlM
set_option linter.unusedSimpArgs false
set_option linter.unnecessarySimpa false
set_option linter.unusedVariables false
set_option linter.unusedSectionVars false
namespace Go.SL
open Go
variable [Tabs]

variable {F F' : Nat → Prop} {μ μ' μ'' μ1 : List Nm} {w w' w'' : World} {P : Program} {n : Nat} {env : Nat → AV} {hp hp1 hp2 hp3 : List AObj} {ops : Array Oper} {T : TR} {M : List Nat}

/-- Foreign, or of a row from the k-th on. -/
def Cut (F : Nat → Prop) (μ : List Nm) (k b : Nat) : Prop := F b ∨ ∃ o base esz tot : Nat, k ≤ o ∧ μ[o]? = some (Nm.at b base esz tot)

theorem idx_lt {α : Type} {l : List α} {i : Nat} {x : α} (h : l[i]? = some x) : i < l.length := by
  rcases Nat.lt_or_ge i l.length with h1 | h1
  · exact h1
  · simp [List.getElem?_eq_none h1] at h

theorem take_idx {α : Type} {l : List α} {k i : Nat} (h : i < k) : (l.take k)[i]? = l[i]? := by
  rw [List.getElem?_take]; simp [h]

theorem take_some {α : Type} {l : List α} {k i : Nat} {x : α} (h : (l.take k)[i]? = some x) : i < k ∧ l[i]? = some x := by
  have h1 := idx_lt h
  have h2 : i < k := by simp at h1; omega
  rw [take_idx h2] at h
  exact ⟨h2, h⟩

theorem free_cut {k b : Nat} (h : Free μ F b) : Free (μ.take k) (Cut F μ k) b := by
  refine ⟨fun ⟨o, base, esz, tot, ho⟩ => h.1 ⟨o, base, esz, tot, (take_some ho).2⟩, fun hc => ?_⟩
  rcases hc with hc | ⟨o, base, esz, tot, _, ho⟩
  · exact h.2 hc
  · exact h.1 ⟨o, base, esz, tot, ho⟩

theorem HR.cut (h : HR F hp μ w) (hk : hp1.length ≤ hp.length) (heq : ∀ x, x < hp1.length → hp[x]? = hp1[x]?) (hlt : ∀ x ∈ hp1, rowLt hp1.length x = true) :
    HR (Cut F μ hp1.length) hp1 (μ.take hp1.length) w := by
  have hlen := h.len
  refine ⟨by simp; omega, fun o b base esz tot ho => ?_, fun o ho => ?_, fun o esz cells ho hd => ?_, fun o o' b base esz tot base' esz' tot' ho ho' => ?_, fun b hb hc => ?_, fun b hc => ?_, h.tb.sub fun b ⟨o, base, esz, tot, ho⟩ => ⟨o, base, esz, tot, (take_some ho).2⟩⟩
  · obtain ⟨h1, h2⟩ := take_some ho
    obtain ⟨cells, c, el, fr, g1, g2, g3, g4, g5, g6⟩ := h.obj o b base esz tot h2
    rw [heq o h1] at g1
    refine ⟨cells, c, el, fr, g1, g2, g3, g4, ?_, g6⟩
    have hr := hlt _ (List.mem_of_getElem? g1)
    simp only [rowLt, Bool.or_eq_true] at hr
    rcases hr with hr | hr
    · exact g5.move hr fun b _ => free_cut
    · exact VRL.idsLt (fun j nm hj hm => by rw [take_idx hj]; exact hm) (fun b _ => free_cut) g5 hr
  · obtain ⟨h1, h2⟩ := take_some ho
    obtain ⟨esz, g⟩ := h.em o h2
    rw [heq o h1] at g
    exact ⟨esz, g⟩
  · obtain ⟨h1, h2⟩ := take_some hd
    rw [← heq o h1] at ho
    exact h.live o esz cells ho h2
  · exact h.inj _ _ _ _ _ _ _ _ _ (take_some ho).2 (take_some ho').2
  · obtain ⟨o, base, esz, tot, ho⟩ := hb
    obtain ⟨h1, h2⟩ := take_some ho
    rcases hc with hc | ⟨o', base', esz', tot', h3, h4⟩
    · exact h.fo b ⟨o, base, esz, tot, h2⟩ hc
    · have := h.inj _ _ _ _ _ _ _ _ _ h2 h4
      omega
  · rcases hc with hc | ⟨o', base', esz', tot', h3, h4⟩
    · exact h.fb b hc
    · exact h.lt ⟨_, _, _, _, h4⟩

theorem EnvR.cut {k : Nat} {o : Oper} {t : Array Value} (h : EnvR F (rs ops env o) μ w t) (hl : ∀ t ∈ o.looksAt ops, idsLt k (env t) = true) : EnvR (Cut F μ k) (rs ops env o) (μ.take k) w t := by
  intro i
  have hi := h i
  simp only [rs] at hi ⊢
  cases hm : memN (o.looksAt ops) i with
  | false => exact .any
  | true =>
    rw [hm] at hi
    simp only [cond_true] at hi ⊢
    exact VR.idsLt (fun j nm hj hm => by rw [take_idx hj]; exact hm) (fun b _ => free_cut) hi (hl i (memN_iff.1 hm))

theorem sew_idx {k x : Nat} (hl : μ1.length = k) (hx : x < k) : (μ1 ++ μ.drop k)[x]? = μ1[x]? := List.getElem?_append_left (by omega)
theorem sew_idx2 {k x : Nat} (hl : μ1.length = k) (hx : k ≤ x) : (μ1 ++ μ.drop k)[x]? = μ[x]? := by
  rw [List.getElem?_append_right (by omega), List.getElem?_drop]
  congr 1; omega

theorem free_sew {k k' b : Nat} (hl : μ1.length = k') (hkk : k ≤ k') (h : Free μ1 (Cut F μ k) b) : Free (μ1 ++ μ.drop k') F b := by
  refine ⟨fun ⟨o, base, esz, tot, ho⟩ => ?_, fun hF => h.2 (.inl hF)⟩
  rcases Nat.lt_or_ge o k' with h1 | h1
  · rw [sew_idx hl h1] at ho
    exact h.1 ⟨o, base, esz, tot, ho⟩
  · rw [sew_idx2 hl h1] at ho
    exact h.2 (.inr ⟨o, base, esz, tot, by omega, ho⟩)

theorem HR.sew (h : HR F hp μ w) (hk : hp1.length ≤ hp.length) (h2 : HR (Cut F μ hp1.length) hp2 μ1 w') (hf : Fr (μ.take hp1.length) w μ1 w') (hl2 : hp1.length ≤ hp2.length) (hl3 : hp2.length ≤ hp.length)
    (hu : ∀ x, hp1.length ≤ x → x < hp2.length → μ[x]? = some Nm.un)
    (hlen : hp3.length = hp.length) (ha : ∀ x, x < hp2.length → hp3[x]? = hp2[x]?) (hb : ∀ x, hp2.length ≤ x → hp3[x]? = hp[x]?) :
    HR F hp3 (μ1 ++ μ.drop hp2.length) w' ∧ Fr1 μ w (μ1 ++ μ.drop hp2.length) w' ∧ (∀ x v, VR (Cut F μ hp1.length) μ1 w' x v → VR F (μ1 ++ μ.drop hp2.length) w' x v) ∧
    (∀ x, (x < hp1.length ∨ hp2.length ≤ x) → μ[x]? = some Nm.un → (μ1 ++ μ.drop hp2.length)[x]? = some Nm.un) := by
  have hl1 : μ1.length = hp2.length := h2.len
  have hlm : μ.length = hp.length := h.len
  have hn : ∀ (j : Nat) nm, μ1[j]? = some nm → nm ≠ .un → (μ1 ++ μ.drop hp2.length)[j]? = some nm := fun j nm hj _ => by
    rw [sew_idx hl1 (by have := idx_lt hj; omega)]; exact hj
  have hfree : ∀ b, b < w'.heap.size → Free μ1 (Cut F μ hp1.length) b → Free (μ1 ++ μ.drop hp2.length) F b := fun b _ hb => free_sew hl1 hl2 hb
  have F1 : Fr1 μ w (μ1 ++ μ.drop hp2.length) w' := by
    refine ⟨hf.size, fun b hb' hnb => hf.keep b hb' fun ⟨o, base, esz, tot, ho⟩ => hnb ⟨o, base, esz, tot, (take_some ho).2⟩, fun b ⟨o, base, esz, tot, ho⟩ => ?_, fun o nm ho hne => ?_, by simp; omega, hf.oo⟩
    · rcases Nat.lt_or_ge o hp2.length with h1 | h1
      · rw [sew_idx hl1 h1] at ho
        rcases hf.new b ⟨o, base, esz, tot, ho⟩ with ⟨o', base', esz', tot', h3⟩ | h3
        · exact .inl ⟨o', base', esz', tot', (take_some h3).2⟩
        · exact .inr h3
      · rw [sew_idx2 hl1 h1] at ho
        exact .inl ⟨o, base, esz, tot, ho⟩
    · rcases Nat.lt_or_ge o hp1.length with h1 | h1
      · rw [sew_idx hl1 (by omega)]
        exact (hf.ext o nm (by rw [take_idx h1]; exact ho)).imp id (·.2)
      · rcases Nat.lt_or_ge o hp2.length with h3 | h3
        · rw [hu o h1 h3] at ho
          exact absurd (Option.some.inj ho).symm hne
        · left
          rw [sew_idx2 hl1 h3]; exact ho
  refine ⟨⟨by simp; omega, fun o b base esz tot ho => ?_, fun o ho => ?_, fun o esz cells ho hd => ?_, fun o o' b base esz tot base' esz' tot' ho ho' => ?_, fun b hbl hFb => ?_, fun b hFb => Nat.lt_of_lt_of_le (h.fb b hFb) hf.size, h.tb.next F1.keep F1.new⟩, F1,
    fun x v hx => hx.into hn hfree, fun x hx hux => ?_⟩
  · rcases Nat.lt_or_ge o hp2.length with h1 | h1
    · rw [sew_idx hl1 h1] at ho
      obtain ⟨cells, c, el, fr, g1, g2, g3, g4, g5, g6⟩ := h2.obj o b base esz tot ho
      exact ⟨cells, c, el, fr, by rw [ha o h1]; exact g1, g2, g3, g4, g5.into hn hfree, g6⟩
    · rw [sew_idx2 hl1 h1] at ho
      obtain ⟨cells, c, el, fr, g1, g2, g3, g4, g5, g6⟩ := h.obj o b base esz tot ho
      refine ⟨cells, c, el, fr, by rw [hb o h1]; exact g1, ?_, g3, g4, g5.mono1 F1, g6⟩
      rw [hf.keep b (heap_lt g2)]
      · exact g2
      · rintro ⟨o', base', esz', tot', h3⟩
        obtain ⟨h4, h5⟩ := take_some h3
        have := h.inj _ _ _ _ _ _ _ _ _ ho h5
        omega
  · rcases Nat.lt_or_ge o hp2.length with h1 | h1
    · rw [sew_idx hl1 h1] at ho
      obtain ⟨esz, g⟩ := h2.em o ho
      exact ⟨esz, by rw [ha o h1]; exact g⟩
    · rw [sew_idx2 hl1 h1] at ho
      obtain ⟨esz, g⟩ := h.em o ho
      exact ⟨esz, by rw [hb o h1]; exact g⟩
  · rcases Nat.lt_or_ge o hp2.length with h1 | h1
    · rw [sew_idx hl1 h1] at hd
      rw [ha o h1] at ho
      exact h2.live o esz cells ho hd
    · rw [sew_idx2 hl1 h1] at hd
      rw [hb o h1] at ho
      exact h.live o esz cells ho hd
  · have mixed : ∀ (o o' b base esz tot base' esz' tot' : Nat), o < hp2.length → hp2.length ≤ o' → μ1[o]? = some (Nm.at b base esz tot) → μ[o']? = some (Nm.at b base' esz' tot') → False :=
      fun o o' b base esz tot base' esz' tot' h1 h3 h4 h5 => h2.fo b ⟨o, base, esz, tot, h4⟩ (.inr ⟨o', base', esz', tot', by omega, h5⟩)
    rcases Nat.lt_or_ge o hp2.length with h1 | h1
    · rw [sew_idx hl1 h1] at ho
      rcases Nat.lt_or_ge o' hp2.length with h3 | h3
      · rw [sew_idx hl1 h3] at ho'
        exact h2.inj _ _ _ _ _ _ _ _ _ ho ho'
      · rw [sew_idx2 hl1 h3] at ho'
        exact (mixed _ _ _ _ _ _ _ _ _ h1 h3 ho ho').elim
    · rw [sew_idx2 hl1 h1] at ho
      rcases Nat.lt_or_ge o' hp2.length with h3 | h3
      · rw [sew_idx hl1 h3] at ho'
        exact (mixed _ _ _ _ _ _ _ _ _ h3 h1 ho' ho).elim
      · rw [sew_idx2 hl1 h3] at ho'
        exact h.inj _ _ _ _ _ _ _ _ _ ho ho'
  · obtain ⟨o, base, esz, tot, ho⟩ := hbl
    rcases Nat.lt_or_ge o hp2.length with h1 | h1
    · rw [sew_idx hl1 h1] at ho
      exact h2.fo b ⟨o, base, esz, tot, ho⟩ (.inl hFb)
    · rw [sew_idx2 hl1 h1] at ho
      exact h.fo b ⟨o, base, esz, tot, ho⟩ hFb
  · rcases Nat.lt_or_ge x hp2.length with h1 | h1
    · have h3 : x < hp1.length := by omega
      rw [sew_idx hl1 h1]
      rcases hf.ext x .un (by rw [take_idx h3]; exact hux) with h4 | ⟨h4, _⟩
      · exact h4
      · exact absurd rfl h4
    · rw [sew_idx2 hl1 h1]; exact hux

theorem ready_nil {listed : Array Bool} (hback : ∀ (i : Nat) (o : Oper), ops[i]? = some o → ∀ j ∈ predsOf o, j < i) (hl : listed.size = ops.size) (h : Region.ready .any ops listed = []) :
    ∀ i, i < ops.size → listed.getD i false = true := by
  intro i
  induction i using Nat.strongRecOn with
  | _ i ih =>
    intro hi
    cases hb : listed.getD i false with
    | true => rfl
    | false =>
      exfalso
      have : i ∈ Region.ready .any ops listed := by
        rw [mem_ready]
        refine ⟨by rw [getD_tf (by omega)]; exact hb, _, Array.getElem?_eq_getElem hi, fun e he hbd => ?_⟩
        have hm : e.on ∈ predsOf ops[i] := by
          unfold predsOf
          rw [List.mem_map]
          exact ⟨e, by rw [List.mem_filter]; exact ⟨by simpa using he, hbd⟩, rfl⟩
        have := hback i _ (Array.getElem?_eq_getElem hi) _ hm
        exact ih _ this (by omega)
      rw [h] at this
      simp at this

theorem ready_pre {listed : Array Bool} {i : Nat} (hl : listed.size = ops.size) (h : i ∈ Region.ready .any ops listed) :
    listed.getD i false = false ∧ ∃ o, ops[i]? = some o ∧ ∀ j ∈ predsOf o, listed.getD j false = true := by
  rw [mem_ready] at h
  obtain ⟨h1, o, h2, h3⟩ := h
  have hi : i < ops.size := (Array.getElem?_eq_some_iff.1 h2).1
  rw [getD_tf (by omega)] at h1
  refine ⟨h1, o, h2, fun j hj => ?_⟩
  unfold predsOf at hj
  rw [List.mem_map] at hj
  obtain ⟨e, he, rfl⟩ := hj
  rw [List.mem_filter] at he
  exact h3 e (by simpa using he.1) he.2

theorem draw_end {K : Exit → SS → Prop} {μ0 : List Nm} {w0 : World} {listed : Array Bool} {m : Nat} {a : Act} (hT : T.map (·.1) = ops.toList) (hst : Sta ops (T.map (·.2.isEf)) M) (hg : Grows T hp)
    (hK : K .normal ⟨envAt T hp env T.length, hpAt T hp T.length⟩) (h : DI n ops T hp env F μ0 w0 listed m μ a w) (hall : ∀ i, i < ops.size → listed.getD i false = true) : Post F n K μ0 w0 .normal a w := by
  have hlen := T_len hT
  have hm : m = efs T T.length := by
    obtain ⟨e, h1, h2, h3⟩ := efs_find T m h.mle
    rcases h3 with ⟨h3, _⟩ | ⟨o, k, h3, h4⟩
    · exact h3
    · have := (h.cnt e o k h3 h4).1 (hall e (by have := idx_lt h3; omega))
      omega
  have hCL : CL T hp m = hpAt T hp T.length := by
    apply List.ext_getElem?
    intro x
    rw [hm]
    rcases Nat.lt_or_ge x (hpAt T hp T.length).length with h1 | h1
    · exact CL_at hg (Nat.le_refl _) h1
    · rw [List.getElem?_eq_none h1, List.getElem?_eq_none (by rw [CL_length hg (Nat.le_refl _)]; exact h1)]
  refine ⟨_, μ, hK, ⟨by have := h.hr; rwa [hCL] at this, fun t => ?_, h.size, h.defers⟩, h.fr⟩
  show VR F μ w (envAt T hp env T.length t) _
  by_cases hex : ∃ (j : Nat) (o' : Oper) (k' : Kd), T[j]? = some (o', k') ∧ o'.dst = some t
  · obtain ⟨j, o', k', hj, hd⟩ := hex
    have hjl := idx_lt hj
    rw [envAt_val (draw_dst hT hst) hj hd T.length (Nat.le_refl _) hjl]
    exact h.t1 t j o' k' hj (hall j (by omega)) hd
  · have hno : ∀ (j : Nat) (o' : Oper) (k' : Kd), T[j]? = some (o', k') → o'.dst ≠ some t := fun j o' k' hj hd => hex ⟨j, o', k', hj, hd⟩
    rw [envAt_none T.length t (Nat.le_refl _) fun j o' k' _ hj => hno j o' k' hj]
    exact h.t2 t fun j o' k' hj _ => hno j o' k' hj

theorem draw_op {K : Act → World → Prop} {Q : Exit → Act → World → Prop} {μ0 : List Nm} {w0 : World} {listed : Array Bool} {m : Nat} {a : Act} (hT : T.map (·.1) = ops.toList) (hrun : RunOK P n ops T hp env) (hst : Sta ops (T.map (·.2.isEf)) M) (hob : oblP T hp M)
    (hl0 : μ0.length = hp.length) (h : DI n ops T hp env F μ0 w0 listed m μ a w) {i : Nat} (hi : i ∈ Region.ready .any ops listed)
    (hK : ∀ m' μ' a' w', DI n ops T hp env F μ0 w0 (listed.setIfInBounds i true) m' μ' a' w' → K a' w') : wpOp P ops Q i K a w := by
  have hg := hrun.grows
  have hlen := T_len hT
  obtain ⟨hni, o, hio, hpre⟩ := ready_pre h.len hi
  obtain ⟨k, hT'⟩ := ops_T hT hio
  have hil := idx_lt hT'
  have he := draw_env hT hst h hT' hni hpre
  have hw := draw_win hT hst h hT' hni hpre
  have hO := hob.get hil h.mle hw
  obtain ⟨hd, hgr, hop⟩ := hrun.at i o k hT'
  have hs1 := hpAt_succ T hp i o k hT'
  have hs2 := efs_succ T i o k hT'
  unfold wpOp
  simp only [hio]
  cases k with
  | sk =>
    have hwt := wants_eq hop he
    rw [hwt]
    simp only [Bool.false_eq_true, if_false]
    exact hK m μ _ _ (draw_next hT hst hg hl0 h hT' hni hpre hd (Fr.refl _ _).one h.hr (.sc plain_undef) rfl (by simp [Kd.isEf]) fun x _ hx => hx)
  | q r O =>
    have hwt := wants_eq hop.1 he
    rw [hwt]
    simp only [if_true]
    have hO' : ∀ p ∈ O, (CL T hp m)[p.1]? = some p.2 := fun p hp' => hO p (by simp only [obsAt, hT']; exact hp')
    refine .inl (hop.2 _ hO' F μ w a h.hr he _ _ ?_)
    rintro x v hp' μ' w' ⟨rfl, rfl⟩ hr hv hf
    exact hK m μ' _ _ (draw_next hT hst hg hl0 h hT' hni hpre hd hf.one hr hv rfl (by simp [Kd.isEf]) fun x _ hx => by
      rcases hf.ext x _ hx with h1 | ⟨h1, _⟩
      · exact h1
      · exact absurd rfl h1)
  | al esz cells mk =>
    have hwt := wants_eq hop.1 he
    rw [hwt]
    simp only [if_true]
    obtain ⟨v, w', c, el, fr, g1, g2, hoo, g3, g4, g5, g6⟩ := hop.2 F μ w a he
    have hO' : (CL T hp m)[(hpAt T hp i).length]? = some (.row esz cells) := hO (_, _) (by simp only [obsAt, hT']; simp)
    have hs1' : hpAt T hp (i + 1) = hpAt T hp i ++ [.row esz cells] := hs1
    have hid : μ[(hpAt T hp i).length]? = some Nm.un := h.un i o _ _ hT' hni (Nat.le_refl _) (by rw [hs1']; simp)
    obtain ⟨k1, k2⟩ := h.hr.fill hid hO' g3 g4 g5 g2 hoo
    refine .inl ?_
    unfold Oper.wp
    rw [g1]
    simp only [Oper.upon]
    have hlt := idx_lt hid
    refine hK m _ _ _ (draw_next hT hst hg hl0 h hT' hni hpre hd k2 k1 (g6 F _ _ (by rw [List.getElem?_set_self hlt])) rfl (by simp [Kd.isEf]) fun x hx hux => ?_)
    rw [hs1'] at hx
    simp at hx
    rw [List.getElem?_set_ne (by omega)]
    exact hux
  | ef r hp' =>
    have hwt := wants_eq hop.1 he
    rw [hwt]
    simp only [if_true]
    have ht := draw_turn hT hst h hT' rfl hni hpre
    have hs1' : hpAt T hp (i + 1) = hp' := hs1
    have hs2' : efs T (i + 1) = m + 1 := by rw [hs2, ht]; rfl
    have hgl := hg.mono i T.length (by omega) (Nat.le_refl _)
    have hgl' := hg.mono (i + 1) T.length (by omega) (Nat.le_refl _)
    have hCl := CL_length hg h.mle
    have hm1 : m + 1 ≤ efs T T.length := by
      have := efs_mono T (i + 1) T.length (by omega) (Nat.le_refl _)
      omega
    have hCl' := CL_length hg hm1
    have hgr' : (hpAt T hp i).length ≤ hp'.length := hgr
    rw [hs1'] at hgl'
    have hcut := h.hr.cut (hp1 := hpAt T hp i) (by omega) (fun x hx => by rw [← ht]; exact CL_at hg (by omega) hx) hop.2.2.2
    refine .inl (hop.2.1 _ _ w a hcut (he.cut hop.2.2.1) _ _ ?_)
    rintro x v hp'' μ1 w' ⟨rfl, rfl⟩ hr hv hf
    obtain ⟨s1, s2, s3, s4⟩ := h.hr.sew (hp3 := CL T hp (m + 1)) (by omega) hr hf hgr' (by omega)
      (fun x h1 h2 => h.un i o _ x hT' hni h1 (by rw [hs1']; exact h2)) (by omega)
      (fun x hx => by
        have := CL_at hg (i := i + 1) (by omega) (x := x) (by rw [hs1']; exact hx)
        rw [hs2', hs1'] at this; exact this)
      (fun x hx => by
        rcases Nat.lt_or_ge x (hpAt T hp T.length).length with h1 | h1
        · have e1 := CL_born hg (i0 := i + 1) (by omega) (x := x) (by rw [hs1']; exact hx) h1
          have e2 := CL_born hg (i0 := i) (by omega) (x := x) (by omega) h1
          rw [hs2'] at e1; rw [ht] at e2
          rw [e1, e2]
        · rw [List.getElem?_eq_none (by omega), List.getElem?_eq_none (by omega)])
    exact hK (m + 1) _ _ _ (draw_next hT hst hg hl0 h hT' hni hpre hd s2 s1 (s3 _ _ hv) rfl (fun _ => ht) fun x hx hux => s4 x (by rw [hs1'] at hx; exact hx) hux)

theorem cntL {listed : Array Bool} {i : Nat} (hl : listed.size = ops.size) (hi : i < ops.size) (hni : listed.getD i false = false) :
    (List.range ops.size).countP (fun j => (listed.setIfInBounds i true).getD j false) = (List.range ops.size).countP (fun j => listed.getD j false) + 1 := by
  have h1 : (fun j => (listed.setIfInBounds i true).getD j false) = fun j => (listed.getD j false || Nat.beq j i) := funext fun j => getD_set (by omega) j
  rw [h1, cnt_set i _ hni _ List.nodup_range]
  simp [hi]

theorem draw_go {K : Exit → SS → Prop} {μ0 : List Nm} {w0 : World} (hT : T.map (·.1) = ops.toList) (hrun : RunOK P n ops T hp env) (hst : Sta ops (T.map (·.2.isEf)) M) (hob : oblP T hp M)
    (hK : K .normal ⟨envAt T hp env T.length, hpAt T hp T.length⟩) (hl0 : μ0.length = hp.length) :
    ∀ (fuel m : Nat) (listed : Array Bool) (μ : List Nm) (a : Act) (w : World), DI n ops T hp env F μ0 w0 listed m μ a w →
      fuel + (List.range ops.size).countP (fun j => listed.getD j false) = ops.size → wpAny P .any ops (Post F n K μ0 w0) fuel listed a w := by
  have hback := hst.back
  intro fuel
  induction fuel with
  | zero =>
    intro m listed μ a w h hc
    have hall : ∀ i, i < ops.size → listed.getD i false = true := by
      have hle : (List.range ops.size).countP (fun j => listed.getD j false) = (List.range ops.size).length := by rw [List.length_range]; omega
      rw [List.countP_eq_length] at hle
      intro i hi
      exact hle i (by simpa using hi)
    refine ⟨?_, draw_end hT hst hrun.grows hK h hall⟩
    cases hr : Region.ready .any ops listed with
    | nil => rfl
    | cons i l =>
      obtain ⟨h1, o, h2, _⟩ := ready_pre h.len (i := i) (by rw [hr]; simp)
      rw [hall i (Array.getElem?_eq_some_iff.1 h2).1] at h1
      simp at h1
  | succ fuel ih =>
    intro m listed μ a w h hc
    refine ⟨fun hr => draw_end hT hst hrun.grows hK h (ready_nil hback h.len hr), fun i hi => ?_⟩
    refine draw_op hT hrun hst hob hl0 h hi fun m' μ' a' w' h' => ih m' _ μ' a' w' h' ?_
    obtain ⟨h1, o, h2, _⟩ := ready_pre h.len hi
    rw [cntL h.len (Array.getElem?_eq_some_iff.1 h2).1 h1]
    omega

theorem rep_idx {k x : Nat} : (μ ++ List.replicate k Nm.un)[x]? = if x < μ.length then μ[x]? else if x < μ.length + k then some Nm.un else none := by
  split
  · exact List.getElem?_append_left (by assumption)
  · rw [List.getElem?_append_right (by omega), List.getElem?_replicate]
    split
    · rw [if_pos (by omega)]
    · rw [if_neg (by omega)]

theorem W.drawT {id : Nat} {K : Exit → SS → Prop} (hm : P.follows .mixedOrders = true) (hT : T.map (·.1) = ops.toList) (hrun : RunOK P n ops T hp env) (hst : Sta ops (T.map (·.2.isEf)) M) (hob : oblP T hp M)
    (hK : K .normal ⟨envAt T hp env T.length, hpAt T hp T.length⟩) : W P n (.region id ops true) K ⟨env, hp⟩ := by
  intro F μ0 a w hs
  have hg := hrun.grows
  have hlen := T_len hT
  refine wp_region_any hm ?_
  refine draw_go (μ0 := μ0) (w0 := w) hT hrun hst hob hK hs.hr.len ops.size 0 _ (μ0 ++ List.replicate ((hpAt T hp T.length).length - hp.length) .un) a _ ?_ ?_
  · have hun : ∀ o b base esz tot : Nat, (μ0 ++ List.replicate ((hpAt T hp T.length).length - hp.length) Nm.un)[o]? = some (Nm.at b base esz tot) → μ0[o]? = some (Nm.at b base esz tot) := by
      intro o b base esz tot ho
      rw [rep_idx] at ho
      split at ho
      · exact ho
      · split at ho <;> simp at ho
    have hmono := hg.mono 0 T.length (Nat.zero_le _) (Nat.le_refl _)
    rw [hpAt_zero] at hmono
    have hl : μ0.length = hp.length := hs.hr.len
    have hbl : ∀ b, blocks (μ0 ++ List.replicate ((hpAt T hp T.length).length - hp.length) Nm.un) b → blocks μ0 b := fun b ⟨o, base, esz, tot, ho⟩ => ⟨o, base, esz, tot, hun o b base esz tot ho⟩
    have hF : Fr μ0 w (μ0 ++ List.replicate ((hpAt T hp T.length).length - hp.length) Nm.un) { w with drawn := w.drawn + 1 } := by
      refine ⟨Nat.le_refl _, fun _ _ _ => rfl, fun b hb => .inl (hbl b hb), fun o nm ho => .inl ?_, by simp, rfl, rfl⟩
      rw [rep_idx, if_pos (idx_lt ho)]; exact ho
    have hCL0 : ∀ x, x < hp.length → (CL T hp 0)[x]? = hp[x]? := fun x hx => by
      have := CL_at hg (i := 0) (Nat.zero_le _) (x := x) (by rw [hpAt_zero]; exact hx)
      have e0 : efs T 0 = 0 := by cases T <;> rfl
      rwa [e0, hpAt_zero] at this
    have hfal : ∀ j, (Array.replicate ops.size false).getD j false = false := fun j => by
      simp [Array.getD]
    refine ⟨by simp, fun i o _ h => by rw [hfal] at h; simp at h, fun i o k hi hk => by rw [hfal]; simp, Nat.zero_le _, ?_, fun i o k x hi _ h1 h2 => ?_, fun t j o k _ h => by rw [hfal] at h; simp at h, fun t _ => (hs.env t).mono hF, hF, hs.size, hs.defers⟩
    · refine ⟨?_, fun o b base esz tot ho => ?_, fun o ho => ?_, fun o esz cells ho hd => ?_, fun o o' b base esz tot base' esz' tot' h1 h2 => hs.hr.inj _ _ _ _ _ _ _ _ _ (hun _ _ _ _ _ h1) (hun _ _ _ _ _ h2), hs.hr.foF hF, hs.hr.fbF hF, hs.hr.tbF hF⟩
      · have := CL_length hg (m := 0) (Nat.zero_le _)
        simp; omega
      · have ho' := hun o b base esz tot ho
        obtain ⟨cells, c, el, fr, g1, g2, g3, g4, g5, g6⟩ := hs.hr.obj o b base esz tot ho'
        exact ⟨cells, c, el, fr, by rw [hCL0 o (by have := idx_lt ho'; omega)]; exact g1, g2, g3, g4, g5.mono hF, g6⟩
      · rw [rep_idx] at ho
        split at ho
        · obtain ⟨esz, g⟩ := hs.hr.em o ho
          exact ⟨esz, by rw [hCL0 o (by omega)]; exact g⟩
        · split at ho <;> simp at ho
      · rw [rep_idx] at hd
        split at hd
        · rw [hCL0 o (by omega)] at ho
          exact hs.hr.live o esz cells ho hd
        · split at hd <;> simp at hd
    · have hi' := idx_lt hi
      have m1 := hg.mono 0 i (Nat.zero_le _) (by omega)
      have m2 := hg.mono (i + 1) T.length (by omega) (Nat.le_refl _)
      rw [hpAt_zero] at m1
      rw [rep_idx, if_neg (by omega), if_pos (by omega)]
  · have : (List.range ops.size).countP (fun j => (Array.replicate ops.size false).getD j false) = 0 := by
      rw [List.countP_eq_zero]
      intro j _
      simp [Array.getD]
    rw [this]; rfl

end Go.SL
