/-
  Regions whose order is open: the walk.
-/
import Derived.Test.YtbimmnnjnlfddaaDoorSlL
set_option linter.unusedSimpArgs false
set_option linter.unnecessarySimpa false
set_option linter.unusedVariables false
set_option linter.unusedSectionVars false
namespace Go.SL
open Go
variable [Tabs]

variable {F F' : Nat → Prop} {μ μ' μ'' : List Nm} {w w' w'' : World} {P : Program} {n : Nat} {env : Nat → AV} {hp : List AObj} {ops : Array Oper} {T : TR} {M : List Nat}

/-- As Fr, but a row that lies nowhere yet may be laid. -/
structure Fr1 (μ : List Nm) (w : World) (μ' : List Nm) (w' : World) : Prop where
  size : w.heap.size ≤ w'.heap.size
  keep : ∀ b, b < w.heap.size → ¬ blocks μ b → w'.heap[b]? = w.heap[b]?
  new : ∀ b, blocks μ' b → blocks μ b ∨ w.heap.size ≤ b
  ext : ∀ (o : Nat) (n : Nm), μ[o]? = some n → n ≠ Nm.un → μ'[o]? = some n ∨ μ'[o]? = some Nm.dead
  len : μ.length ≤ μ'.length
  oo : w'.os = w.os ∧ w'.output = w.output

theorem Fr.one (h : Fr μ w μ' w') : Fr1 μ w μ' w' := ⟨h.size, h.keep, h.new, fun o n hn _ => (h.ext o n hn).imp id (·.2), h.len, h.oo⟩

theorem Fr1.out {b : Nat} (h : Fr1 μ w μ' w') (hb : b < w.heap.size) (hn : ¬ blocks μ b) : ¬ blocks μ' b := fun h' => by
  rcases h.new b h' with h1 | h1
  · exact hn h1
  · omega

theorem Fr.trans1 (h : Fr μ w μ' w') (h' : Fr1 μ' w' μ'' w'') (hu : ∀ o, o < μ.length → μ'[o]? = some Nm.un → μ''[o]? = some Nm.un) : Fr μ w μ'' w'' := by
  refine ⟨Nat.le_trans h.size h'.size, fun b hb hn => ?_, fun b hb => ?_, fun o n hn => ?_, Nat.le_trans h.len h'.len, h'.oo.1.trans h.oo.1, h'.oo.2.trans h.oo.2⟩
  · rw [h'.keep b (Nat.lt_of_lt_of_le hb h.size), h.keep b hb hn]
    exact h.out hb hn
  · rcases h'.new b hb with h1 | h1
    · exact h.new b h1
    · exact .inr (Nat.le_trans h.size h1)
  · have hlt : o < μ.length := by
      rcases Nat.lt_or_ge o μ.length with h1 | h1
      · exact h1
      · simp [List.getElem?_eq_none h1] at hn
    rcases h.ext o n hn with h1 | ⟨h0, h1⟩
    · by_cases hne : n = Nm.un
      · subst hne
        exact .inl (hu o hlt h1)
      · exact (h'.ext o n h1 hne).imp id fun h2 => ⟨hne, h2⟩
    · rcases h'.ext o _ h1 (by simp) with h2 | h2
      · exact .inr ⟨h0, h2⟩
      · exact .inr ⟨h0, h2⟩

mutual
theorem VR.mono1 (f : Fr1 μ w μ' w') : ∀ {x : AV} {v : Value}, VR F μ w x v → VR F μ' w' x v
  | _, _, .any => .any
  | _, _, .sc h => .sc h
  | _, _, .ptr h => by
    rcases f.ext _ _ h (by simp) with h1 | h1
    · exact .ptr h1
    · exact .ptrD h1
  | _, _, .ptrD h => by
    rcases f.ext _ _ h (by simp) with h1 | h1
    · exact .ptrD h1
    · exact .ptrD h1
  | _, _, .sl h hc hl => by
    rcases f.ext _ _ h (by simp) with h1 | h1
    · exact .sl h1 hc hl
    · exact .slD h1
  | _, _, .slN h => by
    rcases f.ext _ _ h (by simp) with h1 | h1
    · exact .slN h1
    · exact .slD h1
  | _, _, .slD h => by
    rcases f.ext _ _ h (by simp) with h1 | h1
    · exact .slD h1
    · exact .slD h1
  | _, _, .slE h => by
    rcases f.ext _ _ h (by simp) with h1 | h1
    · exact .slE h1
    · exact .slD h1
  | _, _, .nil => .nil
  | _, _, .im0 => .im0
  | _, _, .im h hb hF hn hn2 hx => .im ((f.keep _ (heap_lt h) hb).trans h) (f.out (heap_lt h) hb) hF hn hn2 (VRL.mono1 f hx)
  | _, _, .ip h hb hF hx => .ip ((f.keep _ (heap_lt h) hb).trans h) (f.out (heap_lt h) hb) hF (VRL.mono1 f hx)
  | _, _, .fn h1 h2 => .fn (VRL.mono1 f h1) (VRL.mono1 f h2)
  | _, _, .agg h => .agg (VRL.mono1 f h)
  | _, _, .tup h => .tup (VRL.mono1 f h)
  | _, _, .ifc h => .ifc (VR.mono1 f h)
theorem VRL.mono1 (f : Fr1 μ w μ' w') : ∀ {xs : List AV} {vs : List Value}, VRL F μ w xs vs → VRL F μ' w' xs vs
  | _, _, .nil => .nil
  | _, _, .cons h t => .cons (VR.mono1 f h) (VRL.mono1 f t)
end

mutual
theorem ren_id : ∀ x : AV, ren id x = x
  | .any => rfl
  | .nil => rfl
  | .sc _ => rfl
  | .ptr _ _ => rfl
  | .sl _ _ _ => rfl
  | .im e cs => rfl
  | .ip cs i => rfl
  | .fn k xs ys => by simp only [ren, renL_id xs, renL_id ys]
  | .agg cs => by simp only [ren, renL_id cs]
  | .tup vs => by simp only [ren, renL_id vs]
  | .ifc t v => by simp only [ren, ren_id v]
theorem renL_id : ∀ xs : List AV, renL id xs = xs
  | [] => rfl
  | x :: xs => by simp only [renL, ren_id x, renL_id xs]
end

theorem VR.into (hn : ∀ (j : Nat) nm, μ[j]? = some nm → nm ≠ .un → μ'[j]? = some nm) (hb : ∀ b, b < w.heap.size → Free μ F b → Free μ' F' b) {x : AV} {v : Value} (h : VR F μ w x v) : VR F' μ' w x v := by
  have := VR.push (f := id) hn hb h
  rwa [ren_id] at this
theorem VRL.into (hn : ∀ (j : Nat) nm, μ[j]? = some nm → nm ≠ .un → μ'[j]? = some nm) (hb : ∀ b, b < w.heap.size → Free μ F b → Free μ' F' b) {x : List AV} {v : List Value} (h : VRL F μ w x v) : VRL F' μ' w x v := by
  have := VRL.push (f := id) hn hb h
  rwa [renL_id] at this

/-- A row that lies nowhere yet is laid. -/
theorem HR.fill {id esz : Nat} {xs : List AV} (h : HR F hp μ w) (hid : μ[id]? = some Nm.un) (hrow : hp[id]? = some (AObj.row esz xs)) {c : Array Value} {el : Nat} (hx : VRL F μ w xs (c.toList.take xs.length)) (hl : xs.length ≤ c.size)
    {fr : Nat × Nat} (hf : NF fr c.size) {w' : World} (hw : w'.heap = w.heap.push (.cells c el fr)) (hoo : w'.os = w.os ∧ w'.output = w.output := by exact ⟨rfl, rfl⟩) :
    HR F hp (μ.set id (.at w.heap.size 0 esz c.size)) w' ∧ Fr1 μ w (μ.set id (.at w.heap.size 0 esz c.size)) w' := by
  have hlt : id < μ.length := by
    rcases Nat.lt_or_ge id μ.length with h1 | h1
    · exact h1
    · simp [List.getElem?_eq_none h1] at hid
  have key : ∀ (o : Nat) (nm : Nm), (μ.set id (.at w.heap.size 0 esz c.size))[o]? = some nm → (o = id ∧ nm = .at w.heap.size 0 esz c.size) ∨ (o ≠ id ∧ μ[o]? = some nm) := by
    intro o nm ho
    by_cases hoo : id = o
    · subst hoo
      rw [List.getElem?_set_self hlt] at ho
      exact .inl ⟨rfl, (Option.some.inj ho).symm⟩
    · rw [List.getElem?_set_ne hoo] at ho
      exact .inr ⟨Ne.symm hoo, ho⟩
  have hF : Fr1 μ w (μ.set id (.at w.heap.size 0 esz c.size)) w' := by
    refine ⟨by rw [hw]; simp, fun b hb _ => by rw [hw, Array.getElem?_push_lt hb, Array.getElem?_eq_getElem hb], fun b hb => ?_, fun o nm ho hne => ?_, by simp, hoo⟩
    · obtain ⟨o, base, esz', tot, ho⟩ := hb
      rcases key _ _ ho with ⟨_, h2⟩ | ⟨_, h2⟩
      · right; injection h2 with h2; omega
      · exact .inl ⟨o, base, esz', tot, h2⟩
    · left
      have : id ≠ o := by rintro rfl; rw [hid] at ho; exact hne (Option.some.inj ho).symm
      rw [List.getElem?_set_ne this]; exact ho
  have hnew : ∀ b, blocks (μ.set id (.at w.heap.size 0 esz c.size)) b → blocks μ b ∨ w.heap.size ≤ b := hF.new
  refine ⟨⟨by simp [h.len], fun o b base esz' tot ho => ?_, fun o ho => ?_, fun o esz' cells ho hd => ?_, fun o o' b base esz1 tot1 base' esz2 tot2 ho ho' => ?_, fun b hb hFb => ?_, fun b hFb => Nat.lt_of_lt_of_le (h.fb b hFb) hF.size, h.tb.next hF.keep hF.new⟩, hF⟩
  · rcases key _ _ ho with ⟨rfl, h2⟩ | ⟨_, h2⟩
    · injection h2 with h3 h4 h5 h6
      subst h3; subst h4; subst h5; subst h6
      exact ⟨xs, c, el, fr, hrow, by rw [hw]; simp, rfl, by omega, by simpa using hx.mono1 hF, hf⟩
    · obtain ⟨cells, c', el', fr', g1, g2, g3, g4, g5, g6⟩ := h.obj o b base esz' tot h2
      refine ⟨cells, c', el', fr', g1, ?_, g3, g4, g5.mono1 hF, g6⟩
      rw [hw, Array.getElem?_push_lt (heap_lt g2), ← g2, Array.getElem?_eq_getElem (heap_lt g2)]
  · rcases key _ _ ho with ⟨rfl, h2⟩ | ⟨_, h2⟩
    · simp at h2
    · exact h.em o h2
  · rcases key _ _ hd with ⟨rfl, h2⟩ | ⟨_, h2⟩
    · simp at h2
    · exact h.live o esz' cells ho h2
  · rcases key _ _ ho with ⟨rfl, h2⟩ | ⟨_, h2⟩
    · rcases key _ _ ho' with ⟨rfl, h3⟩ | ⟨_, h3⟩
      · rfl
      · injection h2 with h2
        have := h.lt ⟨_, _, _, _, h3⟩
        omega
    · rcases key _ _ ho' with ⟨rfl, h3⟩ | ⟨_, h3⟩
      · injection h3 with h3
        have := h.lt ⟨_, _, _, _, h2⟩
        omega
      · exact h.inj _ _ _ _ _ _ _ _ _ h2 h3
  · rcases hnew b hb with h1 | h1
    · exact h.fo b h1 hFb
    · have := h.fb b hFb; omega

theorem put_getD_other (a : Act) (d : Option Nat) (v : Value) {t : Nat} (h : d ≠ some t) : (a.put d v).tmps.getD t undef = a.tmps.getD t undef := by
  cases d with
  | none => rfl
  | some d =>
    have hne : d ≠ t := fun e => h (by rw [e])
    show (a.tmps.setIfInBounds d v).getD t undef = a.tmps.getD t undef
    simp only [Array.getD, Array.size_setIfInBounds]
    by_cases hlt : t < a.tmps.size
    · simp [hlt, hne]
    · simp [hlt]

theorem put_getD_self (a : Act) (v : Value) {t : Nat} (h : t < a.tmps.size) : (a.put (some t) v).tmps.getD t undef = v := by
  simp [Act.put, Array.getD, h]

theorem efs_inj {i j : Nat} {o o' : Oper} {k k' : Kd} (hi : T[i]? = some (o, k)) (hj : T[j]? = some (o', k')) (hk : k.isEf = true) (hk' : k'.isEf = true) (h : efs T i = efs T j) : i = j := by
  have hil : i < T.length := (List.getElem?_eq_some_iff.1 hi).1
  have hjl : j < T.length := (List.getElem?_eq_some_iff.1 hj).1
  have h1 := efs_succ T i o k hi
  have h2 := efs_succ T j o' k' hj
  rw [hk] at h1; rw [hk'] at h2
  simp only [cond_true] at h1 h2
  rcases Nat.lt_trichotomy i j with h3 | h3 | h3
  · have := efs_mono T (i + 1) j h3 (by omega); omega
  · exact h3
  · have := efs_mono T (j + 1) i h3 (by omega); omega

theorem draw_next {μ0 : List Nm} {w0 : World} {listed : Array Bool} {m m' : Nat} {a : Act} {v : Value} (hT : T.map (·.1) = ops.toList) (hst : Sta ops (T.map (·.2.isEf)) M) (hg : Grows T hp) (hl0 : μ0.length = hp.length)
    (h : DI n ops T hp env F μ0 w0 listed m μ a w) {i : Nat} {o : Oper} {k : Kd} (hi : T[i]? = some (o, k))
    (hni : listed.getD i false = false) (hpre : ∀ j ∈ predsOf o, listed.getD j false = true) (hdst : dstOk n o.dst) (hf : Fr1 μ w μ' w') (hr : HR F (CL T hp m') μ' w') (hv : VR F μ' w' (k.val (hpAt T hp i)) v)
    (hm : m' = m + (bif k.isEf then 1 else 0)) (hm2 : k.isEf = true → efs T i = m)
    (hun : ∀ x, (x < (hpAt T hp i).length ∨ (hpAt T hp (i + 1)).length ≤ x) → μ[x]? = some Nm.un → μ'[x]? = some Nm.un) :
    DI n ops T hp env F μ0 w0 (listed.setIfInBounds i true) m' μ' (a.put o.dst v) w' := by
  have hlen := T_len hT
  have hil : i < T.length := (List.getElem?_eq_some_iff.1 hi).1
  have his : i < listed.size := by rw [h.len]; omega
  have hio := T_ops hT hi
  have hset := fun j => getD_set his j
  have hbeq : ∀ {j : Nat}, (listed.getD j false || Nat.beq j i) = true ↔ listed.getD j false = true ∨ j = i := by
    intro j
    rw [Bool.or_eq_true]
    exact or_congr Iff.rfl ⟨fun h => Nat.eq_of_beq_eq_true h, fun h => by rw [h]; exact Nat.beq_refl i⟩
  have hSet : ∀ {j : Nat}, (listed.setIfInBounds i true).getD j false = true ↔ listed.getD j false = true ∨ j = i := by
    intro j; rw [hset]; exact hbeq
  have hNot : ∀ {j : Nat}, (listed.setIfInBounds i true).getD j false = false → listed.getD j false = false ∧ j ≠ i := by
    intro j hj
    rw [hset, Bool.or_eq_false_iff] at hj
    exact ⟨hj.1, fun e => by rw [e, Nat.beq_refl] at hj; simp at hj⟩
  have hmono0 : (hpAt T hp 0).length ≤ (hpAt T hp i).length := hg.mono 0 i (Nat.zero_le _) (by omega)
  rw [hpAt_zero] at hmono0
  refine ⟨by simp [h.len], fun j oj hj hjl p hp' => ?_, fun j oj kj hj hk => ?_, ?_, hr, fun j oj kj x hj hjl h1 h2 => ?_, fun t j oj kj hj hjl hd => ?_, fun t ht => ?_, ?_, by rw [put_size]; exact h.size, by rw [put_defers]; exact h.defers⟩
  · rcases hSet.1 hjl with h1 | rfl
    · exact hSet.2 (.inl (h.down j oj hj h1 p hp'))
    · rw [hio] at hj
      cases hj
      exact hSet.2 (.inl (hpre p hp'))
  · rw [hSet, h.cnt j oj kj hj hk]
    cases hki : k.isEf with
    | false =>
      rw [hki] at hm
      simp only [cond_false, Nat.add_zero] at hm
      subst hm
      constructor
      · rintro (h1 | rfl)
        · exact h1
        · rw [hi] at hj; cases hj; rw [hki] at hk; simp at hk
      · exact .inl
    | true =>
      rw [hki] at hm
      simp only [cond_true] at hm
      have hm3 := hm2 hki
      constructor
      · rintro (h1 | rfl)
        · omega
        · omega
      · intro h1
        rcases Nat.lt_or_ge (efs T j) m with h2 | h2
        · exact .inl h2
        · exact .inr (efs_inj hj hi hk hki (by omega))
  · cases hki : k.isEf with
    | false => rw [hki] at hm; simp only [cond_false, Nat.add_zero] at hm; subst hm; exact h.mle
    | true =>
      rw [hki] at hm
      simp only [cond_true] at hm
      have h1 := efs_succ T i o k hi
      rw [hki, hm2 hki] at h1
      simp only [cond_true] at h1
      have := efs_mono T (i + 1) T.length (by omega) (Nat.le_refl _)
      omega
  · obtain ⟨g1, g2⟩ := hNot hjl
    have hjl' : j < T.length := (List.getElem?_eq_some_iff.1 hj).1
    refine hun x ?_ (h.un j oj kj x hj g1 h1 h2)
    rcases Nat.lt_or_ge j i with h3 | h3
    · left
      have := hg.mono (j + 1) i h3 (by omega)
      omega
    · right
      have := hg.mono (i + 1) j (by omega) (by omega)
      omega
  · by_cases hji : j = i
    · subst hji
      rw [hi] at hj
      cases hj
      rw [hd]
      rw [hd] at hdst
      rw [put_getD_self a v (by rw [h.size]; exact hdst)]
      exact hv
    · have hjS : listed.getD j false = true := (hSet.1 hjl).resolve_right hji
      rw [put_getD_other a o.dst v fun e => hji (draw_dst hT hst _ _ _ _ _ _ _ hj hi hd e)]
      exact (h.t1 t j oj kj hj hjS hd).mono1 hf
  · rw [put_getD_other a o.dst v (ht i o k hi (hSet.2 (.inr rfl)))]
    exact (h.t2 t fun j oj kj hj hjl => ht j oj kj hj (hSet.2 (.inl hjl))).mono1 hf
  · refine h.fr.trans1 hf fun x hx hu => hun x (.inl (by omega)) hu

end Go.SL
