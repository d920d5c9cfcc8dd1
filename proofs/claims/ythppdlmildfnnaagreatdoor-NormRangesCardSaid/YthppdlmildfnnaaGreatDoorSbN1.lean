/-
  Regions whose order is open: the walk.
-/
import Derived.Test.YthppdlmildfnnaaGreatDoorSaN1
import Derived.Laws.BytesString
import Derived.IntWalk
import Derived.Laws.IdiomStrings
set_option linter.unusedSimpArgs false
set_option linter.unnecessarySimpa false
set_option linter.unusedVariables false
set_option linter.unusedSectionVars false
namespace Go.SL
open Go
variable [Tabs]

variable {F F' : Nat → Prop} {μ μ' μ'' : List Nm} {w w' w'' : World} {P : Program} {n : Nat} {env : Nat → AV} {hp : List AObj} {ops : Array Oper} {T : TR} {M : List Nat}

/-- As Fr, but a row that lies nowhere yet may be laid. -/
structure Fr1 (μ : List Nm) (w : World) (μ' : List Nm) (w' : World) : Prop where
  size : w.heap.size ≤ w'.heap.size
  keep : ∀ b, b < w.heap.size → ¬ blocks μ b → w'.heap[b]? = w.heap[b]?
  new : ∀ b, blocks μ' b → blocks μ b ∨ w.heap.size ≤ b
  ext : ∀ (o : Nat) (n : Nm), μ[o]? = some n → n ≠ Nm.un → μ'[o]? = some n ∨ μ'[o]? = some Nm.dead
  len : μ.length ≤ μ'.length
  oo : w'.os = w.os ∧ w'.output = w.output

theorem Fr.one (h : Fr μ w μ' w') : Fr1 μ w μ' w' := ⟨h.size, h.keep, h.new, fun o n hn _ => (h.ext o n hn).imp id (·.2), h.len, h.oo⟩

theorem Fr1.out {b : Nat} (h : Fr1 μ w μ' w') (hb : b < w.heap.size) (hn : ¬ blocks μ b) : ¬ blocks μ' b := fun h' => by
  rcases h.new b h' with h1 | h1
  · exact hn h1
  · omega

theorem Fr.trans1 (h : Fr μ w μ' w') (h' : Fr1 μ' w' μ'' w'') (hu : ∀ o, o < μ.length → μ'[o]? = some Nm.un → μ''[o]? = some Nm.un) : Fr μ w μ'' w'' := by
  refine ⟨Nat.le_trans h.size h'.size, fun b hb hn => ?_, fun b hb => ?_, fun o n hn => ?_, Nat.le_trans h.len h'.len, h'.oo.1.trans h.oo.1, h'.oo.2.trans h.oo.2⟩
  · rw [h'.keep b (Nat.lt_of_lt_of_le hb h.size), h.keep b hb hn]
    exact h.out hb hn
  · rcases h'.new b hb with h1 | h1
    · exact h.new b h1
    · exact .inr (Nat.le_trans h.size h1)
  · have hlt : o < μ.length := by
      rcases Nat.lt_or_ge o μ.length with h1 | h1
      · exact h1
      · simp [List.getElem?_eq_none h1] at hn
    rcases h.ext o n hn with h1 | ⟨h0, h1⟩
    · by_cases hne : n = Nm.un
      · subst hne
        exact .inl (hu o hlt h1)
      · exact (h'.ext o n h1 hne).imp id fun h2 => ⟨hne, h2⟩
    · rcases h'.ext o _ h1 (by simp) with h2 | h2
      · exact .inr ⟨h0, h2⟩
      · exact .inr ⟨h0, h2⟩

mutual
theorem VR.mono1 (f : Fr1 μ w μ' w') : ∀ {x : AV} {v : Value}, VR F μ w x v → VR F μ' w' x v
  | _, _, .any => .any
  | _, _, .sc h => .sc h
  | _, _, .ptr h => by
    rcases f.ext _ _ h (by simp) with h1 | h1
    · exact .ptr h1
    · exact .ptrD h1
  | _, _, .ptrD h => by
    rcases f.ext _ _ h (by simp) with h1 | h1
    · exact .ptrD h1
    · exact .ptrD h1
  | _, _, .sl h hc hl => by
    rcases f.ext _ _ h (by simp) with h1 | h1
    · exact .sl h1 hc hl
    · exact .slD h1
  | _, _, .slN h => by
    rcases f.ext _ _ h (by simp) with h1 | h1
    · exact .slN h1
    · exact .slD h1
  | _, _, .slD h => by
    rcases f.ext _ _ h (by simp) with h1 | h1
    · exact .slD h1
    · exact .slD h1
  | _, _, .slE h => by
    rcases f.ext _ _ h (by simp) with h1 | h1
    · exact .slE h1
    · exact .slD h1
  | _, _, .nil => .nil
  | _, _, .im0 => .im0
  | _, _, .im h hb hF hn hn2 hx => .im ((f.keep _ (heap_lt h) hb).trans h) (f.out (heap_lt h) hb) hF hn hn2 (VRL.mono1 f hx)
  | _, _, .ip h hb hF hx => .ip ((f.keep _ (heap_lt h) hb).trans h) (f.out (heap_lt h) hb) hF (VRL.mono1 f hx)
  | _, _, .fn h1 h2 => .fn (VRL.mono1 f h1) (VRL.mono1 f h2)
  | _, _, .agg h => .agg (VRL.mono1 f h)
  | _, _, .tup h => .tup (VRL.mono1 f h)
  | _, _, .ifc h => .ifc (VR.mono1 f h)
  | _, _, .mp h => by
    rcases f.ext _ _ h (by simp) with h1 | h1
    · exact .mp h1
    · exact .mpD h1
  | _, _, .mpD h => by
    rcases f.ext _ _ h (by simp) with h1 | h1
    · exact .mpD h1
    · exact .mpD h1
theorem VRL.mono1 (f : Fr1 μ w μ' w') : ∀ {xs : List AV} {vs : List Value}, VRL F μ w xs vs → VRL F μ' w' xs vs
  | _, _, .nil => .nil
  | _, _, .cons h t => .cons (VR.mono1 f h) (VRL.mono1 f t)
end

mutual
theorem ren_id : ∀ x : AV, ren id x = x
  | .any => rfl
  | .nil => rfl
  | .sc _ => rfl
  | .ptr _ _ => rfl
  | .sl _ _ _ => rfl
  | .im e cs => rfl
  | .ip cs i => rfl
  | .fn k xs ys => by simp only [ren, renL_id xs, renL_id ys]
  | .agg cs => by simp only [ren, renL_id cs]
  | .tup vs => by simp only [ren, renL_id vs]
  | .ifc t v => by simp only [ren, ren_id v]
  | .mp _ => rfl
theorem renL_id : ∀ xs : List AV, renL id xs = xs
  | [] => rfl
  | x :: xs => by simp only [renL, ren_id x, renL_id xs]
end

theorem VR.into (hn : ∀ (j : Nat) nm, μ[j]? = some nm → nm ≠ .un → μ'[j]? = some nm) (hb : ∀ b, b < w.heap.size → Free μ F b → Free μ' F' b) {x : AV} {v : Value} (h : VR F μ w x v) : VR F' μ' w x v := by
  have := VR.push (f := id) hn hb h
  rwa [ren_id] at this
theorem VRL.into (hn : ∀ (j : Nat) nm, μ[j]? = some nm → nm ≠ .un → μ'[j]? = some nm) (hb : ∀ b, b < w.heap.size → Free μ F b → Free μ' F' b) {x : List AV} {v : List Value} (h : VRL F μ w x v) : VRL F' μ' w x v := by
  have := VRL.push (f := id) hn hb h
  rwa [renL_id] at this

/-- A row that lies nowhere yet is laid. -/
theorem HR.fill {id esz : Nat} {xs : List AV} (h : HR F hp μ w) (hid : μ[id]? = some Nm.un) (hrow : hp[id]? = some (AObj.row esz xs)) {c : Array Value} {el : Nat} (hx : VRL F μ w xs (c.toList.take xs.length)) (hl : xs.length ≤ c.size)
    {fr : Nat × Nat} (hf : NF fr c.size) {w' : World} (hw : w'.heap = w.heap.push (.cells c el fr)) (hoo : w'.os = w.os ∧ w'.output = w.output := by exact ⟨rfl, rfl⟩) :
    HR F hp (μ.set id (.at w.heap.size 0 esz c.size)) w' ∧ Fr1 μ w (μ.set id (.at w.heap.size 0 esz c.size)) w' := by
  have hlt : id < μ.length := by
    rcases Nat.lt_or_ge id μ.length with h1 | h1
    · exact h1
    · simp [List.getElem?_eq_none h1] at hid
  have key : ∀ (o : Nat) (nm : Nm), (μ.set id (.at w.heap.size 0 esz c.size))[o]? = some nm → (o = id ∧ nm = .at w.heap.size 0 esz c.size) ∨ (o ≠ id ∧ μ[o]? = some nm) := by
    intro o nm ho
    by_cases hoo : id = o
    · subst hoo
      rw [List.getElem?_set_self hlt] at ho
      exact .inl ⟨rfl, (Option.some.inj ho).symm⟩
    · rw [List.getElem?_set_ne hoo] at ho
      exact .inr ⟨Ne.symm hoo, ho⟩
  have hF : Fr1 μ w (μ.set id (.at w.heap.size 0 esz c.size)) w' := by
    refine ⟨by rw [hw]; simp, fun b hb _ => by rw [hw, Array.getElem?_push_lt hb, Array.getElem?_eq_getElem hb], fun b hb => ?_, fun o nm ho hne => ?_, by simp, hoo⟩
    · obtain ⟨o, base, esz', tot, ho⟩ := hb
      rcases key _ _ ho with ⟨_, h2⟩ | ⟨_, h2⟩
      · right; injection h2 with h2; omega
      · exact .inl ⟨o, base, esz', tot, h2⟩
    · left
      have : id ≠ o := by rintro rfl; rw [hid] at ho; exact hne (Option.some.inj ho).symm
      rw [List.getElem?_set_ne this]; exact ho
  have hnew : ∀ b, blocks (μ.set id (.at w.heap.size 0 esz c.size)) b → blocks μ b ∨ w.heap.size ≤ b := hF.new
  refine ⟨⟨by simp [h.len], fun o b base esz' tot ho => ?_, fun o ho => ?_, fun o x' ho hx' hd => ?_, fun o o' b base esz1 tot1 base' esz2 tot2 ho ho' => ?_, fun b hb hFb => ?_, fun b hFb => Nat.lt_of_lt_of_le (h.fb b hFb) hF.size, h.tb.next hF.keep hF.new⟩, hF⟩
  · rcases key _ _ ho with ⟨rfl, h2⟩ | ⟨_, h2⟩
    · injection h2 with h3 h4 h5 h6
      subst h3; subst h4; subst h5; subst h6
      exact ⟨.row _ xs, .cells c el fr, hrow, by rw [hw]; simp, .row rfl (by simpa using hl) (by simpa using hx.mono1 hF) hf⟩
    · obtain ⟨x', y', g1, g2, g3⟩ := h.obj o b base esz' tot h2
      refine ⟨x', y', g1, ?_, g3.conv fun vs hv => hv.mono1 hF⟩
      rw [hw, Array.getElem?_push_lt (heap_lt g2), ← g2, Array.getElem?_eq_getElem (heap_lt g2)]
  · rcases key _ _ ho with ⟨rfl, h2⟩ | ⟨_, h2⟩
    · simp at h2
    · exact h.em o h2
  · rcases key _ _ hd with ⟨rfl, h2⟩ | ⟨_, h2⟩
    · simp at h2
    · exact h.live o x' ho hx' h2
  · rcases key _ _ ho with ⟨rfl, h2⟩ | ⟨_, h2⟩
    · rcases key _ _ ho' with ⟨rfl, h3⟩ | ⟨_, h3⟩
      · rfl
      · injection h2 with h2
        have := h.lt ⟨_, _, _, _, h3⟩
        omega
    · rcases key _ _ ho' with ⟨rfl, h3⟩ | ⟨_, h3⟩
      · injection h3 with h3
        have := h.lt ⟨_, _, _, _, h2⟩
        omega
      · exact h.inj _ _ _ _ _ _ _ _ _ h2 h3
  · rcases hnew b hb with h1 | h1
    · exact h.fo b h1 hFb
    · have := h.fb b hFb; omega

theorem put_getD_other (a : Act) (d : Option Nat) (v : Value) {t : Nat} (h : d ≠ some t) : (a.put d v).tmps.getD t undef = a.tmps.getD t undef := by
  cases d with
  | none => rfl
  | some d =>
    have hne : d ≠ t := fun e => h (by rw [e])
    show (a.tmps.setIfInBounds d v).getD t undef = a.tmps.getD t undef
    simp only [Array.getD, Array.size_setIfInBounds]
    by_cases hlt : t < a.tmps.size
    · simp [hlt, hne]
    · simp [hlt]

theorem put_getD_self (a : Act) (v : Value) {t : Nat} (h : t < a.tmps.size) : (a.put (some t) v).tmps.getD t undef = v := by
  simp [Act.put, Array.getD, h]

theorem efs_inj {i j : Nat} {o o' : Oper} {k k' : Kd} (hi : T[i]? = some (o, k)) (hj : T[j]? = some (o', k')) (hk : k.isEf = true) (hk' : k'.isEf = true) (h : efs T i = efs T j) : i = j := by
  have hil : i < T.length := (List.getElem?_eq_some_iff.1 hi).1
  have hjl : j < T.length := (List.getElem?_eq_some_iff.1 hj).1
  have h1 := efs_succ T i o k hi
  have h2 := efs_succ T j o' k' hj
  rw [hk] at h1; rw [hk'] at h2
  simp only [cond_true] at h1 h2
  rcases Nat.lt_trichotomy i j with h3 | h3 | h3
  · have := efs_mono T (i + 1) j h3 (by omega); omega
  · exact h3
  · have := efs_mono T (j + 1) i h3 (by omega); omega

theorem draw_next {μ0 : List Nm} {w0 : World} {listed : Array Bool} {m m' : Nat} {a : Act} {v : Value} (hT : T.map (·.1) = ops.toList) (hst : Sta ops (T.map (·.2.isEf)) M) (hg : Grows T hp) (hl0 : μ0.length = hp.length)
    (h : DI n ops T hp env F μ0 w0 listed m μ a w) {i : Nat} {o : Oper} {k : Kd} (hi : T[i]? = some (o, k))
    (hni : listed.getD i false = false) (hpre : ∀ j ∈ predsOf o, listed.getD j false = true) (hdst : dstOk n o.dst) (hf : Fr1 μ w μ' w') (hr : HR F (CL T hp m') μ' w') (hv : VR F μ' w' (k.val (hpAt T hp i)) v)
    (hm : m' = m + (bif k.isEf then 1 else 0)) (hm2 : k.isEf = true → efs T i = m)
    (hun : ∀ x, (x < (hpAt T hp i).length ∨ (hpAt T hp (i + 1)).length ≤ x) → μ[x]? = some Nm.un → μ'[x]? = some Nm.un) :
    DI n ops T hp env F μ0 w0 (listed.setIfInBounds i true) m' μ' (a.put o.dst v) w' := by
  have hlen := T_len hT
  have hil : i < T.length := (List.getElem?_eq_some_iff.1 hi).1
  have his : i < listed.size := by rw [h.len]; omega
  have hio := T_ops hT hi
  have hset := fun j => getD_set his j
  have hbeq : ∀ {j : Nat}, (listed.getD j false || Nat.beq j i) = true ↔ listed.getD j false = true ∨ j = i := by
    intro j
    rw [Bool.or_eq_true]
    exact or_congr Iff.rfl ⟨fun h => Nat.eq_of_beq_eq_true h, fun h => by rw [h]; exact Nat.beq_refl i⟩
  have hSet : ∀ {j : Nat}, (listed.setIfInBounds i true).getD j false = true ↔ listed.getD j false = true ∨ j = i := by
    intro j; rw [hset]; exact hbeq
  have hNot : ∀ {j : Nat}, (listed.setIfInBounds i true).getD j false = false → listed.getD j false = false ∧ j ≠ i := by
    intro j hj
    rw [hset, Bool.or_eq_false_iff] at hj
    exact ⟨hj.1, fun e => by rw [e, Nat.beq_refl] at hj; simp at hj⟩
  have hmono0 : (hpAt T hp 0).length ≤ (hpAt T hp i).length := hg.mono 0 i (Nat.zero_le _) (by omega)
  rw [hpAt_zero] at hmono0
  refine ⟨by simp [h.len], fun j oj hj hjl p hp' => ?_, fun j oj kj hj hk => ?_, ?_, hr, fun j oj kj x hj hjl h1 h2 => ?_, fun t j oj kj hj hjl hd => ?_, fun t ht => ?_, ?_, by rw [put_size]; exact h.size, by rw [put_defers]; exact h.defers⟩
  · rcases hSet.1 hjl with h1 | rfl
    · exact hSet.2 (.inl (h.down j oj hj h1 p hp'))
    · rw [hio] at hj
      cases hj
      exact hSet.2 (.inl (hpre p hp'))
  · rw [hSet, h.cnt j oj kj hj hk]
    cases hki : k.isEf with
    | false =>
      rw [hki] at hm
      simp only [cond_false, Nat.add_zero] at hm
      subst hm
      constructor
      · rintro (h1 | rfl)
        · exact h1
        · rw [hi] at hj; cases hj; rw [hki] at hk; simp at hk
      · exact .inl
    | true =>
      rw [hki] at hm
      simp only [cond_true] at hm
      have hm3 := hm2 hki
      constructor
      · rintro (h1 | rfl)
        · omega
        · omega
      · intro h1
        rcases Nat.lt_or_ge (efs T j) m with h2 | h2
        · exact .inl h2
        · exact .inr (efs_inj hj hi hk hki (by omega))
  · cases hki : k.isEf with
    | false => rw [hki] at hm; simp only [cond_false, Nat.add_zero] at hm; subst hm; exact h.mle
    | true =>
      rw [hki] at hm
      simp only [cond_true] at hm
      have h1 := efs_succ T i o k hi
      rw [hki, hm2 hki] at h1
      simp only [cond_true] at h1
      have := efs_mono T (i + 1) T.length (by omega) (Nat.le_refl _)
      omega
  · obtain ⟨g1, g2⟩ := hNot hjl
    have hjl' : j < T.length := (List.getElem?_eq_some_iff.1 hj).1
    refine hun x ?_ (h.un j oj kj x hj g1 h1 h2)
    rcases Nat.lt_or_ge j i with h3 | h3
    · left
      have := hg.mono (j + 1) i h3 (by omega)
      omega
    · right
      have := hg.mono (i + 1) j (by omega) (by omega)
      omega
  · by_cases hji : j = i
    · subst hji
      rw [hi] at hj
      cases hj
      rw [hd]
      rw [hd] at hdst
      rw [put_getD_self a v (by rw [h.size]; exact hdst)]
      exact hv
    · have hjS : listed.getD j false = true := (hSet.1 hjl).resolve_right hji
      rw [put_getD_other a o.dst v fun e => hji (draw_dst hT hst _ _ _ _ _ _ _ hj hi hd e)]
      exact (h.t1 t j oj kj hj hjS hd).mono1 hf
  · rw [put_getD_other a o.dst v (ht i o k hi (hSet.2 (.inr rfl)))]
    exact (h.t2 t fun j oj kj hj hjl => ht j oj kj hj (hSet.2 (.inl hjl))).mono1 hf
  · refine h.fr.trans1 hf fun x hx hu => hun x (.inl (by omega)) hu

end Go.SL

set_option linter.unusedSimpArgs false
set_option linter.unnecessarySimpa false
set_option linter.unusedVariables false
set_option linter.unusedSectionVars false
namespace Go.SL
open Go
variable [Tabs]

variable {F F' : Nat → Prop} {μ μ' μ'' μ1 : List Nm} {w w' w'' : World} {P : Program} {n : Nat} {env : Nat → AV} {hp hp1 hp2 hp3 : List AObj} {ops : Array Oper} {T : TR} {M : List Nat}

/-- Foreign, or of a row from the k-th on. -/
def Cut (F : Nat → Prop) (μ : List Nm) (k b : Nat) : Prop := F b ∨ ∃ o base esz tot : Nat, k ≤ o ∧ μ[o]? = some (Nm.at b base esz tot)

theorem idx_lt {α : Type} {l : List α} {i : Nat} {x : α} (h : l[i]? = some x) : i < l.length := by
  rcases Nat.lt_or_ge i l.length with h1 | h1
  · exact h1
  · simp [List.getElem?_eq_none h1] at h

theorem take_idx {α : Type} {l : List α} {k i : Nat} (h : i < k) : (l.take k)[i]? = l[i]? := by
  rw [List.getElem?_take]; simp [h]

theorem take_some {α : Type} {l : List α} {k i : Nat} {x : α} (h : (l.take k)[i]? = some x) : i < k ∧ l[i]? = some x := by
  have h1 := idx_lt h
  have h2 : i < k := by simp at h1; omega
  rw [take_idx h2] at h
  exact ⟨h2, h⟩

theorem free_cut {k b : Nat} (h : Free μ F b) : Free (μ.take k) (Cut F μ k) b := by
  refine ⟨fun ⟨o, base, esz, tot, ho⟩ => h.1 ⟨o, base, esz, tot, (take_some ho).2⟩, fun hc => ?_⟩
  rcases hc with hc | ⟨o, base, esz, tot, _, ho⟩
  · exact h.2 hc
  · exact h.1 ⟨o, base, esz, tot, ho⟩

theorem HR.cut (h : HR F hp μ w) (hk : hp1.length ≤ hp.length) (heq : ∀ x, x < hp1.length → hp[x]? = hp1[x]?) (hlt : ∀ x ∈ hp1, rowLt hp1.length x = true) :
    HR (Cut F μ hp1.length) hp1 (μ.take hp1.length) w := by
  have hlen := h.len
  refine ⟨by simp; omega, fun o b base esz tot ho => ?_, fun o ho => ?_, fun o x' ho hx' hd => ?_, fun o o' b base esz tot base' esz' tot' ho ho' => ?_, fun b hb hc => ?_, fun b hc => ?_, h.tb.sub fun b ⟨o, base, esz, tot, ho⟩ => ⟨o, base, esz, tot, (take_some ho).2⟩⟩
  · obtain ⟨h1, h2⟩ := take_some ho
    obtain ⟨x', y', g1, g2, g3⟩ := h.obj o b base esz tot h2
    rw [heq o h1] at g1
    refine ⟨x', y', g1, g2, g3.conv fun vs g5 => ?_⟩
    have hr := hlt _ (List.mem_of_getElem? g1)
    rw [rowLt_cs, Bool.or_eq_true] at hr
    rcases hr with hr | hr
    · exact g5.move hr fun b _ => free_cut
    · exact VRL.idsLt (fun j nm hj hm => by rw [take_idx hj]; exact hm) (fun b _ => free_cut) g5 hr
  · obtain ⟨h1, h2⟩ := take_some ho
    obtain ⟨esz, g⟩ := h.em o h2
    rw [heq o h1] at g
    exact ⟨esz, g⟩
  · obtain ⟨h1, h2⟩ := take_some hd
    rw [← heq o h1] at ho
    exact h.live o x' ho hx' h2
  · exact h.inj _ _ _ _ _ _ _ _ _ (take_some ho).2 (take_some ho').2
  · obtain ⟨o, base, esz, tot, ho⟩ := hb
    obtain ⟨h1, h2⟩ := take_some ho
    rcases hc with hc | ⟨o', base', esz', tot', h3, h4⟩
    · exact h.fo b ⟨o, base, esz, tot, h2⟩ hc
    · have := h.inj _ _ _ _ _ _ _ _ _ h2 h4
      omega
  · rcases hc with hc | ⟨o', base', esz', tot', h3, h4⟩
    · exact h.fb b hc
    · exact h.lt ⟨_, _, _, _, h4⟩

theorem EnvR.cut {k : Nat} {o : Oper} {t : Array Value} (h : EnvR F (rs ops env o) μ w t) (hl : ∀ t ∈ o.looksAt ops, idsLt k (env t) = true) : EnvR (Cut F μ k) (rs ops env o) (μ.take k) w t := by
  intro i
  have hi := h i
  simp only [rs] at hi ⊢
  cases hm : memN (o.looksAt ops) i with
  | false => exact .any
  | true =>
    rw [hm] at hi
    simp only [cond_true] at hi ⊢
    exact VR.idsLt (fun j nm hj hm => by rw [take_idx hj]; exact hm) (fun b _ => free_cut) hi (hl i (memN_iff.1 hm))

theorem sew_idx {k x : Nat} (hl : μ1.length = k) (hx : x < k) : (μ1 ++ μ.drop k)[x]? = μ1[x]? := List.getElem?_append_left (by omega)
theorem sew_idx2 {k x : Nat} (hl : μ1.length = k) (hx : k ≤ x) : (μ1 ++ μ.drop k)[x]? = μ[x]? := by
  rw [List.getElem?_append_right (by omega), List.getElem?_drop]
  congr 1; omega

theorem free_sew {k k' b : Nat} (hl : μ1.length = k') (hkk : k ≤ k') (h : Free μ1 (Cut F μ k) b) : Free (μ1 ++ μ.drop k') F b := by
  refine ⟨fun ⟨o, base, esz, tot, ho⟩ => ?_, fun hF => h.2 (.inl hF)⟩
  rcases Nat.lt_or_ge o k' with h1 | h1
  · rw [sew_idx hl h1] at ho
    exact h.1 ⟨o, base, esz, tot, ho⟩
  · rw [sew_idx2 hl h1] at ho
    exact h.2 (.inr ⟨o, base, esz, tot, by omega, ho⟩)

theorem HR.sew (h : HR F hp μ w) (hk : hp1.length ≤ hp.length) (h2 : HR (Cut F μ hp1.length) hp2 μ1 w') (hf : Fr (μ.take hp1.length) w μ1 w') (hl2 : hp1.length ≤ hp2.length) (hl3 : hp2.length ≤ hp.length)
    (hu : ∀ x, hp1.length ≤ x → x < hp2.length → μ[x]? = some Nm.un)
    (hlen : hp3.length = hp.length) (ha : ∀ x, x < hp2.length → hp3[x]? = hp2[x]?) (hb : ∀ x, hp2.length ≤ x → hp3[x]? = hp[x]?) :
    HR F hp3 (μ1 ++ μ.drop hp2.length) w' ∧ Fr1 μ w (μ1 ++ μ.drop hp2.length) w' ∧ (∀ x v, VR (Cut F μ hp1.length) μ1 w' x v → VR F (μ1 ++ μ.drop hp2.length) w' x v) ∧
    (∀ x, (x < hp1.length ∨ hp2.length ≤ x) → μ[x]? = some Nm.un → (μ1 ++ μ.drop hp2.length)[x]? = some Nm.un) := by
  have hl1 : μ1.length = hp2.length := h2.len
  have hlm : μ.length = hp.length := h.len
  have hn : ∀ (j : Nat) nm, μ1[j]? = some nm → nm ≠ .un → (μ1 ++ μ.drop hp2.length)[j]? = some nm := fun j nm hj _ => by
    rw [sew_idx hl1 (by have := idx_lt hj; omega)]; exact hj
  have hfree : ∀ b, b < w'.heap.size → Free μ1 (Cut F μ hp1.length) b → Free (μ1 ++ μ.drop hp2.length) F b := fun b _ hb => free_sew hl1 hl2 hb
  have F1 : Fr1 μ w (μ1 ++ μ.drop hp2.length) w' := by
    refine ⟨hf.size, fun b hb' hnb => hf.keep b hb' fun ⟨o, base, esz, tot, ho⟩ => hnb ⟨o, base, esz, tot, (take_some ho).2⟩, fun b ⟨o, base, esz, tot, ho⟩ => ?_, fun o nm ho hne => ?_, by simp; omega, hf.oo⟩
    · rcases Nat.lt_or_ge o hp2.length with h1 | h1
      · rw [sew_idx hl1 h1] at ho
        rcases hf.new b ⟨o, base, esz, tot, ho⟩ with ⟨o', base', esz', tot', h3⟩ | h3
        · exact .inl ⟨o', base', esz', tot', (take_some h3).2⟩
        · exact .inr h3
      · rw [sew_idx2 hl1 h1] at ho
        exact .inl ⟨o, base, esz, tot, ho⟩
    · rcases Nat.lt_or_ge o hp1.length with h1 | h1
      · rw [sew_idx hl1 (by omega)]
        exact (hf.ext o nm (by rw [take_idx h1]; exact ho)).imp id (·.2)
      · rcases Nat.lt_or_ge o hp2.length with h3 | h3
        · rw [hu o h1 h3] at ho
          exact absurd (Option.some.inj ho).symm hne
        · left
          rw [sew_idx2 hl1 h3]; exact ho
  refine ⟨⟨by simp; omega, fun o b base esz tot ho => ?_, fun o ho => ?_, fun o x' ho hx' hd => ?_, fun o o' b base esz tot base' esz' tot' ho ho' => ?_, fun b hbl hFb => ?_, fun b hFb => Nat.lt_of_lt_of_le (h.fb b hFb) hf.size, h.tb.next F1.keep F1.new⟩, F1,
    fun x v hx => hx.into hn hfree, fun x hx hux => ?_⟩
  · rcases Nat.lt_or_ge o hp2.length with h1 | h1
    · rw [sew_idx hl1 h1] at ho
      obtain ⟨x', y', g1, g2, g3⟩ := h2.obj o b base esz tot ho
      exact ⟨x', y', by rw [ha o h1]; exact g1, g2, g3.conv fun vs g5 => g5.into hn hfree⟩
    · rw [sew_idx2 hl1 h1] at ho
      obtain ⟨x', y', g1, g2, g3⟩ := h.obj o b base esz tot ho
      refine ⟨x', y', by rw [hb o h1]; exact g1, ?_, g3.conv fun vs g5 => g5.mono1 F1⟩
      rw [hf.keep b (heap_lt g2)]
      · exact g2
      · rintro ⟨o', base', esz', tot', h3⟩
        obtain ⟨h4, h5⟩ := take_some h3
        have := h.inj _ _ _ _ _ _ _ _ _ ho h5
        omega
  · rcases Nat.lt_or_ge o hp2.length with h1 | h1
    · rw [sew_idx hl1 h1] at ho
      obtain ⟨esz, g⟩ := h2.em o ho
      exact ⟨esz, by rw [ha o h1]; exact g⟩
    · rw [sew_idx2 hl1 h1] at ho
      obtain ⟨esz, g⟩ := h.em o ho
      exact ⟨esz, by rw [hb o h1]; exact g⟩
  · rcases Nat.lt_or_ge o hp2.length with h1 | h1
    · rw [sew_idx hl1 h1] at hd
      rw [ha o h1] at ho
      exact h2.live o x' ho hx' hd
    · rw [sew_idx2 hl1 h1] at hd
      rw [hb o h1] at ho
      exact h.live o x' ho hx' hd
  · have mixed : ∀ (o o' b base esz tot base' esz' tot' : Nat), o < hp2.length → hp2.length ≤ o' → μ1[o]? = some (Nm.at b base esz tot) → μ[o']? = some (Nm.at b base' esz' tot') → False :=
      fun o o' b base esz tot base' esz' tot' h1 h3 h4 h5 => h2.fo b ⟨o, base, esz, tot, h4⟩ (.inr ⟨o', base', esz', tot', by omega, h5⟩)
    rcases Nat.lt_or_ge o hp2.length with h1 | h1
    · rw [sew_idx hl1 h1] at ho
      rcases Nat.lt_or_ge o' hp2.length with h3 | h3
      · rw [sew_idx hl1 h3] at ho'
        exact h2.inj _ _ _ _ _ _ _ _ _ ho ho'
      · rw [sew_idx2 hl1 h3] at ho'
        exact (mixed _ _ _ _ _ _ _ _ _ h1 h3 ho ho').elim
    · rw [sew_idx2 hl1 h1] at ho
      rcases Nat.lt_or_ge o' hp2.length with h3 | h3
      · rw [sew_idx hl1 h3] at ho'
        exact (mixed _ _ _ _ _ _ _ _ _ h3 h1 ho' ho).elim
      · rw [sew_idx2 hl1 h3] at ho'
        exact h.inj _ _ _ _ _ _ _ _ _ ho ho'
  · obtain ⟨o, base, esz, tot, ho⟩ := hbl
    rcases Nat.lt_or_ge o hp2.length with h1 | h1
    · rw [sew_idx hl1 h1] at ho
      exact h2.fo b ⟨o, base, esz, tot, ho⟩ (.inl hFb)
    · rw [sew_idx2 hl1 h1] at ho
      exact h.fo b ⟨o, base, esz, tot, ho⟩ hFb
  · rcases Nat.lt_or_ge x hp2.length with h1 | h1
    · have h3 : x < hp1.length := by omega
      rw [sew_idx hl1 h1]
      rcases hf.ext x .un (by rw [take_idx h3]; exact hux) with h4 | ⟨h4, _⟩
      · exact h4
      · exact absurd rfl h4
    · rw [sew_idx2 hl1 h1]; exact hux

theorem ready_nil {listed : Array Bool} (hback : ∀ (i : Nat) (o : Oper), ops[i]? = some o → ∀ j ∈ predsOf o, j < i) (hl : listed.size = ops.size) (h : Region.ready .any ops listed = []) :
    ∀ i, i < ops.size → listed.getD i false = true := by
  intro i
  induction i using Nat.strongRecOn with
  | _ i ih =>
    intro hi
    cases hb : listed.getD i false with
    | true => rfl
    | false =>
      exfalso
      have : i ∈ Region.ready .any ops listed := by
        rw [mem_ready]
        refine ⟨by rw [getD_tf (by omega)]; exact hb, _, Array.getElem?_eq_getElem hi, fun e he hbd => ?_⟩
        have hm : e.on ∈ predsOf ops[i] := by
          unfold predsOf
          rw [List.mem_map]
          exact ⟨e, by rw [List.mem_filter]; exact ⟨by simpa using he, hbd⟩, rfl⟩
        have := hback i _ (Array.getElem?_eq_getElem hi) _ hm
        exact ih _ this (by omega)
      rw [h] at this
      simp at this

theorem ready_pre {listed : Array Bool} {i : Nat} (hl : listed.size = ops.size) (h : i ∈ Region.ready .any ops listed) :
    listed.getD i false = false ∧ ∃ o, ops[i]? = some o ∧ ∀ j ∈ predsOf o, listed.getD j false = true := by
  rw [mem_ready] at h
  obtain ⟨h1, o, h2, h3⟩ := h
  have hi : i < ops.size := (Array.getElem?_eq_some_iff.1 h2).1
  rw [getD_tf (by omega)] at h1
  refine ⟨h1, o, h2, fun j hj => ?_⟩
  unfold predsOf at hj
  rw [List.mem_map] at hj
  obtain ⟨e, he, rfl⟩ := hj
  rw [List.mem_filter] at he
  exact h3 e (by simpa using he.1) he.2

theorem draw_end {K : Exit → SS → Prop} {μ0 : List Nm} {w0 : World} {listed : Array Bool} {m : Nat} {a : Act} (hT : T.map (·.1) = ops.toList) (hst : Sta ops (T.map (·.2.isEf)) M) (hg : Grows T hp)
    (hK : K .normal ⟨envAt T hp env T.length, hpAt T hp T.length⟩) (h : DI n ops T hp env F μ0 w0 listed m μ a w) (hall : ∀ i, i < ops.size → listed.getD i false = true) : Post F n K μ0 w0 .normal a w := by
  have hlen := T_len hT
  have hm : m = efs T T.length := by
    obtain ⟨e, h1, h2, h3⟩ := efs_find T m h.mle
    rcases h3 with ⟨h3, _⟩ | ⟨o, k, h3, h4⟩
    · exact h3
    · have := (h.cnt e o k h3 h4).1 (hall e (by have := idx_lt h3; omega))
      omega
  have hCL : CL T hp m = hpAt T hp T.length := by
    apply List.ext_getElem?
    intro x
    rw [hm]
    rcases Nat.lt_or_ge x (hpAt T hp T.length).length with h1 | h1
    · exact CL_at hg (Nat.le_refl _) h1
    · rw [List.getElem?_eq_none h1, List.getElem?_eq_none (by rw [CL_length hg (Nat.le_refl _)]; exact h1)]
  refine ⟨_, μ, hK, ⟨by have := h.hr; rwa [hCL] at this, fun t => ?_, h.size, h.defers⟩, h.fr⟩
  show VR F μ w (envAt T hp env T.length t) _
  by_cases hex : ∃ (j : Nat) (o' : Oper) (k' : Kd), T[j]? = some (o', k') ∧ o'.dst = some t
  · obtain ⟨j, o', k', hj, hd⟩ := hex
    have hjl := idx_lt hj
    rw [envAt_val (draw_dst hT hst) hj hd T.length (Nat.le_refl _) hjl]
    exact h.t1 t j o' k' hj (hall j (by omega)) hd
  · have hno : ∀ (j : Nat) (o' : Oper) (k' : Kd), T[j]? = some (o', k') → o'.dst ≠ some t := fun j o' k' hj hd => hex ⟨j, o', k', hj, hd⟩
    rw [envAt_none T.length t (Nat.le_refl _) fun j o' k' _ hj => hno j o' k' hj]
    exact h.t2 t fun j o' k' hj _ => hno j o' k' hj

theorem draw_op {K : Act → World → Prop} {Q : Exit → Act → World → Prop} {μ0 : List Nm} {w0 : World} {listed : Array Bool} {m : Nat} {a : Act} (hT : T.map (·.1) = ops.toList) (hrun : RunOK P n ops T hp env) (hst : Sta ops (T.map (·.2.isEf)) M) (hob : oblP T hp M)
    (hl0 : μ0.length = hp.length) (h : DI n ops T hp env F μ0 w0 listed m μ a w) {i : Nat} (hi : i ∈ Region.ready .any ops listed)
    (hK : ∀ m' μ' a' w', DI n ops T hp env F μ0 w0 (listed.setIfInBounds i true) m' μ' a' w' → K a' w') : wpOp P ops Q i K a w := by
  have hg := hrun.grows
  have hlen := T_len hT
  obtain ⟨hni, o, hio, hpre⟩ := ready_pre h.len hi
  obtain ⟨k, hT'⟩ := ops_T hT hio
  have hil := idx_lt hT'
  have he := draw_env hT hst h hT' hni hpre
  have hw := draw_win hT hst h hT' hni hpre
  have hO := hob.get hil h.mle hw
  obtain ⟨hd, hgr, hop⟩ := hrun.at i o k hT'
  have hs1 := hpAt_succ T hp i o k hT'
  have hs2 := efs_succ T i o k hT'
  unfold wpOp
  simp only [hio]
  cases k with
  | sk =>
    have hwt := wants_eq hop he
    rw [hwt]
    simp only [Bool.false_eq_true, if_false]
    exact hK m μ _ _ (draw_next hT hst hg hl0 h hT' hni hpre hd (Fr.refl _ _).one h.hr (.sc plain_undef) rfl (by simp [Kd.isEf]) fun x _ hx => hx)
  | q r O =>
    have hwt := wants_eq hop.1 he
    rw [hwt]
    simp only [if_true]
    have hO' : ∀ p ∈ O, (CL T hp m)[p.1]? = some p.2 := fun p hp' => hO p (by simp only [obsAt, hT']; exact hp')
    refine .inl (hop.2 _ hO' F μ w a h.hr he _ _ ?_)
    rintro x v hp' μ' w' ⟨rfl, rfl⟩ hr hv hf
    exact hK m μ' _ _ (draw_next hT hst hg hl0 h hT' hni hpre hd hf.one hr hv rfl (by simp [Kd.isEf]) fun x _ hx => by
      rcases hf.ext x _ hx with h1 | ⟨h1, _⟩
      · exact h1
      · exact absurd rfl h1)
  | al esz cells mk =>
    have hwt := wants_eq hop.1 he
    rw [hwt]
    simp only [if_true]
    obtain ⟨v, w', c, el, fr, g1, g2, hoo, g3, g4, g5, g6⟩ := hop.2 F μ w a he
    have hO' : (CL T hp m)[(hpAt T hp i).length]? = some (.row esz cells) := hO (_, _) (by simp only [obsAt, hT']; simp)
    have hs1' : hpAt T hp (i + 1) = hpAt T hp i ++ [.row esz cells] := hs1
    have hid : μ[(hpAt T hp i).length]? = some Nm.un := h.un i o _ _ hT' hni (Nat.le_refl _) (by rw [hs1']; simp)
    obtain ⟨k1, k2⟩ := h.hr.fill hid hO' g3 g4 g5 g2 hoo
    refine .inl ?_
    unfold Oper.wp
    rw [g1]
    simp only [Oper.upon]
    have hlt := idx_lt hid
    refine hK m _ _ _ (draw_next hT hst hg hl0 h hT' hni hpre hd k2 k1 (g6 F _ _ (by rw [List.getElem?_set_self hlt])) rfl (by simp [Kd.isEf]) fun x hx hux => ?_)
    rw [hs1'] at hx
    simp at hx
    rw [List.getElem?_set_ne (by omega)]
    exact hux
  | ef r hp' =>
    have hwt := wants_eq hop.1 he
    rw [hwt]
    simp only [if_true]
    have ht := draw_turn hT hst h hT' rfl hni hpre
    have hs1' : hpAt T hp (i + 1) = hp' := hs1
    have hs2' : efs T (i + 1) = m + 1 := by rw [hs2, ht]; rfl
    have hgl := hg.mono i T.length (by omega) (Nat.le_refl _)
    have hgl' := hg.mono (i + 1) T.length (by omega) (Nat.le_refl _)
    have hCl := CL_length hg h.mle
    have hm1 : m + 1 ≤ efs T T.length := by
      have := efs_mono T (i + 1) T.length (by omega) (Nat.le_refl _)
      omega
    have hCl' := CL_length hg hm1
    have hgr' : (hpAt T hp i).length ≤ hp'.length := hgr
    rw [hs1'] at hgl'
    have hcut := h.hr.cut (hp1 := hpAt T hp i) (by omega) (fun x hx => by rw [← ht]; exact CL_at hg (by omega) hx) hop.2.2.2
    refine .inl (hop.2.1 _ _ w a hcut (he.cut hop.2.2.1) _ _ ?_)
    rintro x v hp'' μ1 w' ⟨rfl, rfl⟩ hr hv hf
    obtain ⟨s1, s2, s3, s4⟩ := h.hr.sew (hp3 := CL T hp (m + 1)) (by omega) hr hf hgr' (by omega)
      (fun x h1 h2 => h.un i o _ x hT' hni h1 (by rw [hs1']; exact h2)) (by omega)
      (fun x hx => by
        have := CL_at hg (i := i + 1) (by omega) (x := x) (by rw [hs1']; exact hx)
        rw [hs2', hs1'] at this; exact this)
      (fun x hx => by
        rcases Nat.lt_or_ge x (hpAt T hp T.length).length with h1 | h1
        · have e1 := CL_born hg (i0 := i + 1) (by omega) (x := x) (by rw [hs1']; exact hx) h1
          have e2 := CL_born hg (i0 := i) (by omega) (x := x) (by omega) h1
          rw [hs2'] at e1; rw [ht] at e2
          rw [e1, e2]
        · rw [List.getElem?_eq_none (by omega), List.getElem?_eq_none (by omega)])
    exact hK (m + 1) _ _ _ (draw_next hT hst hg hl0 h hT' hni hpre hd s2 s1 (s3 _ _ hv) rfl (fun _ => ht) fun x hx hux => s4 x (by rw [hs1'] at hx; exact hx) hux)

theorem cntL {listed : Array Bool} {i : Nat} (hl : listed.size = ops.size) (hi : i < ops.size) (hni : listed.getD i false = false) :
    (List.range ops.size).countP (fun j => (listed.setIfInBounds i true).getD j false) = (List.range ops.size).countP (fun j => listed.getD j false) + 1 := by
  have h1 : (fun j => (listed.setIfInBounds i true).getD j false) = fun j => (listed.getD j false || Nat.beq j i) := funext fun j => getD_set (by omega) j
  rw [h1, cnt_set i _ hni _ List.nodup_range]
  simp [hi]

theorem draw_go {K : Exit → SS → Prop} {μ0 : List Nm} {w0 : World} (hT : T.map (·.1) = ops.toList) (hrun : RunOK P n ops T hp env) (hst : Sta ops (T.map (·.2.isEf)) M) (hob : oblP T hp M)
    (hK : K .normal ⟨envAt T hp env T.length, hpAt T hp T.length⟩) (hl0 : μ0.length = hp.length) :
    ∀ (fuel m : Nat) (listed : Array Bool) (μ : List Nm) (a : Act) (w : World), DI n ops T hp env F μ0 w0 listed m μ a w →
      fuel + (List.range ops.size).countP (fun j => listed.getD j false) = ops.size → wpAny P .any ops (Post F n K μ0 w0) fuel listed a w := by
  have hback := hst.back
  intro fuel
  induction fuel with
  | zero =>
    intro m listed μ a w h hc
    have hall : ∀ i, i < ops.size → listed.getD i false = true := by
      have hle : (List.range ops.size).countP (fun j => listed.getD j false) = (List.range ops.size).length := by rw [List.length_range]; omega
      rw [List.countP_eq_length] at hle
      intro i hi
      exact hle i (by simpa using hi)
    refine ⟨?_, draw_end hT hst hrun.grows hK h hall⟩
    cases hr : Region.ready .any ops listed with
    | nil => rfl
    | cons i l =>
      obtain ⟨h1, o, h2, _⟩ := ready_pre h.len (i := i) (by rw [hr]; simp)
      rw [hall i (Array.getElem?_eq_some_iff.1 h2).1] at h1
      simp at h1
  | succ fuel ih =>
    intro m listed μ a w h hc
    refine ⟨fun hr => draw_end hT hst hrun.grows hK h (ready_nil hback h.len hr), fun i hi => ?_⟩
    refine draw_op hT hrun hst hob hl0 h hi fun m' μ' a' w' h' => ih m' _ μ' a' w' h' ?_
    obtain ⟨h1, o, h2, _⟩ := ready_pre h.len hi
    rw [cntL h.len (Array.getElem?_eq_some_iff.1 h2).1 h1]
    omega

theorem rep_idx {k x : Nat} : (μ ++ List.replicate k Nm.un)[x]? = if x < μ.length then μ[x]? else if x < μ.length + k then some Nm.un else none := by
  split
  · exact List.getElem?_append_left (by assumption)
  · rw [List.getElem?_append_right (by omega), List.getElem?_replicate]
    split
    · rw [if_pos (by omega)]
    · rw [if_neg (by omega)]

theorem W.drawT {id : Nat} {K : Exit → SS → Prop} (hm : P.follows .mixedOrders = true) (hT : T.map (·.1) = ops.toList) (hrun : RunOK P n ops T hp env) (hst : Sta ops (T.map (·.2.isEf)) M) (hob : oblP T hp M)
    (hK : K .normal ⟨envAt T hp env T.length, hpAt T hp T.length⟩) : W P n (.region id ops true) K ⟨env, hp⟩ := by
  intro F μ0 a w hs
  have hg := hrun.grows
  have hlen := T_len hT
  refine wp_region_any hm ?_
  refine draw_go (μ0 := μ0) (w0 := w) hT hrun hst hob hK hs.hr.len ops.size 0 _ (μ0 ++ List.replicate ((hpAt T hp T.length).length - hp.length) .un) a _ ?_ ?_
  · have hun : ∀ o b base esz tot : Nat, (μ0 ++ List.replicate ((hpAt T hp T.length).length - hp.length) Nm.un)[o]? = some (Nm.at b base esz tot) → μ0[o]? = some (Nm.at b base esz tot) := by
      intro o b base esz tot ho
      rw [rep_idx] at ho
      split at ho
      · exact ho
      · split at ho <;> simp at ho
    have hmono := hg.mono 0 T.length (Nat.zero_le _) (Nat.le_refl _)
    rw [hpAt_zero] at hmono
    have hl : μ0.length = hp.length := hs.hr.len
    have hbl : ∀ b, blocks (μ0 ++ List.replicate ((hpAt T hp T.length).length - hp.length) Nm.un) b → blocks μ0 b := fun b ⟨o, base, esz, tot, ho⟩ => ⟨o, base, esz, tot, hun o b base esz tot ho⟩
    have hF : Fr μ0 w (μ0 ++ List.replicate ((hpAt T hp T.length).length - hp.length) Nm.un) { w with drawn := w.drawn + 1 } := by
      refine ⟨Nat.le_refl _, fun _ _ _ => rfl, fun b hb => .inl (hbl b hb), fun o nm ho => .inl ?_, by simp, rfl, rfl⟩
      rw [rep_idx, if_pos (idx_lt ho)]; exact ho
    have hCL0 : ∀ x, x < hp.length → (CL T hp 0)[x]? = hp[x]? := fun x hx => by
      have := CL_at hg (i := 0) (Nat.zero_le _) (x := x) (by rw [hpAt_zero]; exact hx)
      have e0 : efs T 0 = 0 := by cases T <;> rfl
      rwa [e0, hpAt_zero] at this
    have hfal : ∀ j, (Array.replicate ops.size false).getD j false = false := fun j => by
      simp [Array.getD]
    refine ⟨by simp, fun i o _ h => by rw [hfal] at h; simp at h, fun i o k hi hk => by rw [hfal]; simp, Nat.zero_le _, ?_, fun i o k x hi _ h1 h2 => ?_, fun t j o k _ h => by rw [hfal] at h; simp at h, fun t _ => (hs.env t).mono hF, hF, hs.size, hs.defers⟩
    · refine ⟨?_, fun o b base esz tot ho => ?_, fun o ho => ?_, fun o x' ho hx' hd => ?_, fun o o' b base esz tot base' esz' tot' h1 h2 => hs.hr.inj _ _ _ _ _ _ _ _ _ (hun _ _ _ _ _ h1) (hun _ _ _ _ _ h2), hs.hr.foF hF, hs.hr.fbF hF, hs.hr.tbF hF⟩
      · have := CL_length hg (m := 0) (Nat.zero_le _)
        simp; omega
      · have ho' := hun o b base esz tot ho
        obtain ⟨x', y', g1, g2, g3⟩ := hs.hr.obj o b base esz tot ho'
        exact ⟨x', y', by rw [hCL0 o (by have := idx_lt ho'; omega)]; exact g1, g2, g3.mono hF⟩
      · rw [rep_idx] at ho
        split at ho
        · obtain ⟨esz, g⟩ := hs.hr.em o ho
          exact ⟨esz, by rw [hCL0 o (by omega)]; exact g⟩
        · split at ho <;> simp at ho
      · rw [rep_idx] at hd
        split at hd
        · rw [hCL0 o (by omega)] at ho
          exact hs.hr.live o x' ho hx' hd
        · split at hd <;> simp at hd
    · have hi' := idx_lt hi
      have m1 := hg.mono 0 i (Nat.zero_le _) (by omega)
      have m2 := hg.mono (i + 1) T.length (by omega) (Nat.le_refl _)
      rw [hpAt_zero] at m1
      rw [rep_idx, if_neg (by omega), if_pos (by omega)]
  · have : (List.range ops.size).countP (fun j => (Array.replicate ops.size false).getD j false) = 0 := by
      rw [List.countP_eq_zero]
      intro j _
      simp [Array.getD]
    rw [this]; rfl

end Go.SL

set_option linter.unusedSimpArgs false
set_option linter.unnecessarySimpa false
set_option linter.unusedVariables false
set_option linter.unusedSectionVars false
namespace Go.SL
open Go
variable [Tabs]

variable {F F' : Nat → Prop} {P : Program} {n : Nat} {env : Nat → AV} {hp hp0 : List AObj} {ops : Array Oper} {K : Exit → SS → Prop} {o : Oper}

theorem W.condT {c : Operand} {x y : Code} {σ : SS} (hc : opd σ.env c = .sc (.bool true)) (ht : W P n x K σ) : W P n (.cond c x y) K σ :=
  W.cond hc (fun _ => ht) (fun h => by simp at h)
theorem W.condF {c : Operand} {x y : Code} {σ : SS} (hc : opd σ.env c = .sc (.bool false)) (hf : W P n y K σ) : W P n (.cond c x y) K σ :=
  W.cond hc (fun h => by simp at h) (fun _ => hf)

def mOf (ops : Array Oper) : List Nat :=
  ops.toList.foldl (fun acc o => acc ++ [(predsOf o).foldl (fun b j => b ||| (1 <<< j) ||| acc.getD j 0) 0]) []

/-- What is left of a drawn region's walk. -/
def DC (P : Program) (n : Nat) (ops : Array Oper) (K : Exit → SS → Prop) (hp0 : List AObj) (Td : TR → TR) (l : List Oper) (hp : List AObj) (env : Nat → AV) : Prop :=
  ∃ T : TR, T.map (·.1) = l ∧ RunOK P n ops T hp env ∧ (∃ M, stat ops ((Td T).map (·.2.isEf)) M = true ∧ oblP (Td T) hp0 M) ∧ K .normal ⟨envAt T hp env T.length, hpAt T hp T.length⟩

theorem W.draw {id : Nat} (hm : P.follows .mixedOrders = true) (h : DC P n ops K hp (fun T => T) ops.toList hp env) : W P n (.region id ops true) K ⟨env, hp⟩ := by
  obtain ⟨T, h1, h2, ⟨M, h3, h4⟩, h5⟩ := h
  exact W.drawT hm h1 h2 (Sta.mk' h3) h4 h5

/-- A scope whose jumps go on: k of them. -/
def scopeK (P : Program) (n : Nat) (c : Code) (K : Exit → SS → Prop) : Nat → Exit → SS → Prop
  | k + 1, .goto l, σ => ∃ rest, findLabel c l = some rest ∧ W P n rest (scopeK P n c K k) σ
  | _, x, σ => K x σ

theorem W.scopeN {c : Code} {σ : SS} (k : Nat) (hK : ∀ l σ, ¬ K (.goto l) σ) (h : W P n c (scopeK P n c K k) σ) : W P n (.scope c) K σ := by
  intro F μ a w hs b kk cs
  have key : ∀ (k : Nat) (d : Code), ∀ σ μ a w, SR F n σ μ a w → W P n d (scopeK P n c K k) σ →
      ∃ e a' w', Post F n K μ w e a' w' ∧ Arrives P (lone (b.at a (.code d :: .inScope c :: kk)) cs w) b kk cs e a' w' := by
    intro k
    induction k with
    | zero =>
      intro d σ μ a w hs hW
      obtain ⟨e, a1, w1, ⟨σ1, μ1, hK1, hs1, hf⟩, harr⟩ := hW F μ a w hs b (.inScope c :: kk) cs
      have hK2 : K e σ1 := by cases e <;> exact hK1
      cases e with
      | normal => exact ⟨.normal, a1, w1, ⟨σ1, μ1, hK2, hs1, hf⟩, Steps.trans harr (.one step_inScope)⟩
      | exit id => exact ⟨.exit id, a1, w1, ⟨σ1, μ1, hK2, hs1, hf⟩, fun k' hk => harr k' (by simp [exitTo, hk])⟩
      | goto l => exact absurd hK2 (hK l σ1)
      | ret => exact ⟨_, a1, w1, ⟨σ1, μ1, hK2, hs1, hf⟩, harr⟩
      | panic ch => exact ⟨_, a1, w1, ⟨σ1, μ1, hK2, hs1, hf⟩, harr⟩
      | outgrown => exact ⟨_, a1, w1, ⟨σ1, μ1, hK2, hs1, hf⟩, harr⟩
    | succ k ih =>
      intro d σ μ a w hs hW
      obtain ⟨e, a1, w1, ⟨σ1, μ1, hK1, hs1, hf⟩, harr⟩ := hW F μ a w hs b (.inScope c :: kk) cs
      cases e with
      | normal => exact ⟨.normal, a1, w1, ⟨σ1, μ1, hK1, hs1, hf⟩, Steps.trans harr (.one step_inScope)⟩
      | exit id => exact ⟨.exit id, a1, w1, ⟨σ1, μ1, hK1, hs1, hf⟩, fun k' hk => harr k' (by simp [exitTo, hk])⟩
      | goto l =>
        obtain ⟨rest, hr, hW2⟩ := hK1
        obtain ⟨e3, a3, w3, hp3, harr3⟩ := ih rest σ1 μ1 a1 w1 hs1 hW2
        exact ⟨e3, a3, w3, Post.mono hf hp3, .of_steps (harr _ (by simp [gotoIn, hr])) harr3⟩
      | ret => exact ⟨_, a1, w1, ⟨σ1, μ1, hK1, hs1, hf⟩, harr⟩
      | panic ch => exact ⟨_, a1, w1, ⟨σ1, μ1, hK1, hs1, hf⟩, harr⟩
      | outgrown => exact ⟨_, a1, w1, ⟨σ1, μ1, hK1, hs1, hf⟩, harr⟩
  obtain ⟨e3, a3, w3, hp3, harr3⟩ := key k c σ μ a w hs h
  exact ⟨e3, a3, w3, hp3, .of_steps (.one step_scope) harr3⟩

end Go.SL

set_option linter.unusedSimpArgs false
set_option linter.unnecessarySimpa false
set_option linter.unusedVariables false
set_option linter.unusedSectionVars false
namespace Go.SL
open Go
variable [Tabs]

variable {F F' : Nat → Prop} {μ μ' μ'' : List Nm} {w w' w'' : World} {P : Program} {n : Nat} {env : Nat → AV} {hp : List AObj}
variable {dst : Option Nat} {ty : TypeId} {pos : String} {after : Array Edge} {guard : Option (Nat × Bool)}

theorem bytes_vals : ∀ {l : List UInt8} {vs : List Value}, VRL F μ w (l.map byteAV) vs → vs = l.map fun b => Value.int .u8 b.toNat
  | [], _, h => by cases h; rfl
  | b :: l, _, h => by
    cases h with
    | cons h t => rw [bytes_vals t, h.sc_inv]; rfl

theorem push_bytes : ∀ (l : List UInt8) (s : ByteArray), (l.map fun b => (b.toNat : Int)).foldl (fun r (n : Int) => r.push (UInt8.ofNat n.toNat)) s = ⟨s.data ++ l.toArray⟩
  | [], s => by simp
  | b :: l, s => by
    simp only [List.map_cons, List.foldl_cons]
    rw [push_bytes l]
    have : UInt8.ofNat ((b.toNat : Int)).toNat = b := by simp
    rw [this]
    simp [ByteArray.push]

theorem run_str {a : Addr} {len cap : Nat} {l : List UInt8} (h : (loadCells a len).run P w = .ok (l.map fun b => Value.int .u8 b.toNat).toArray w) :
    (Conv.bytesToString (.slice (some a) len cap)).run P w = .ok (.string ⟨l.toArray⟩) w := by
  have := run_bytesToString w a len cap (l.map fun b => (b.toNat : Int)) (by simpa [Function.comp_def] using h)
  rw [this, push_bytes]
  simp

theorem run_loadL0 {b off k el : Nat} {fr : Nat × Nat} {c : Array Value} (hb : w.heap[b]? = some (Obj.cells c el fr)) (hl : k = 0 ∨ off + k ≤ c.size) :
    (loadCells ⟨b, off, none⟩ k).run P w = .ok ((c.toList.drop off).take k).toArray w := by
  rcases hl with rfl | hl
  · have := run_loadCells_list (P := P) (w := w) ⟨b, off, none⟩ [] (fun j v h => by simp at h)
    simpa using this
  · exact run_loadL P k hb hl

theorem step_strI {s t e : TypeId} {x : Operand} {l : List UInt8} (hs : P.underlying s = some (.slice e)) (he : P.underlying e = some (.int .u8)) (ht : P.underlying t = some .string) (hx : opd env x = .im 1 (l.map byteAV)) :
    Step P ⟨dst, .convert s t x, ty, pos, after, guard⟩ env hp (is (.sc (.string ⟨l.toArray⟩)) hp) := by
  refine Step.val fun F μ w a hr hen => ?_
  have h1 := hen.opd x
  rw [hx] at h1
  generalize ha : a.eval x = v at h1
  refine ⟨.string ⟨l.toArray⟩, ?_, .sc rfl⟩
  have hconv : ∀ (ad : Option Addr) (n c : Nat), v = .slice ad n c → (Conv.bytesToString (.slice ad n c)).run P w = .ok (.string ⟨l.toArray⟩) w → (execOp a.eval ⟨dst, .convert s t x, ty, pos, after, guard⟩).run P w = .ok (.value (.string ⟨l.toArray⟩)) w := by
    intro ad n c hv hrun
    have := run_convert_bytes_string (P := P) w s t e ad n c hs he ht
    rw [hrun] at this
    simp [execOp, ha, hv, this]
  generalize hL : l.map byteAV = L at h1
  cases h1 with
  | im0 =>
    rename_i ad c
    have hl0 : l = [] := by simpa using hL
    subst hl0
    refine hconv _ _ _ rfl ?_
    cases ad with
    | none => rfl
    | some ad => exact run_str (by have := run_loadCells_list (P := P) (w := w) ad [] (fun j v h => by simp at h); simpa using this)
  | im h hb hF hn hn2 hv =>
    rename_i b off nn cap c el fr
    subst hL
    have hv' := bytes_vals hv
    refine hconv _ _ _ rfl ?_
    refine run_str ?_
    rw [Nat.mul_one] at hn
    have hlen := hv.length
    simp only [List.length_map, List.length_take, List.length_drop, Array.length_toList] at hlen hn
    rw [← hv', hn]
    have := run_loadL0 (P := P) (k := l.length) (off := off) h (by omega)
    simpa using this

theorem step_strO {s t e : TypeId} {x : Operand} {o off len : Nat} {cells : List AV} {l : List UInt8} (hs : P.underlying s = some (.slice e)) (he : P.underlying e = some (.int .u8)) (ht : P.underlying t = some .string) (hx : opd env x = .sl o off len)
    (ho : hp[o]? = some (AObj.row 1 cells)) (hc : (cells.drop off).take len = l.map byteAV) (hl : off + len ≤ cells.length) :
    Step P ⟨dst, .convert s t x, ty, pos, after, guard⟩ env hp (is (.sc (.string ⟨l.toArray⟩)) hp) := by
  refine Step.val fun F μ w a hr hen => ?_
  refine ⟨.string ⟨l.toArray⟩, ?_, .sc rfl⟩
  have hll : l.length = len := by have := congrArg List.length hc; simp at this; omega
  have hconv : ∀ (ad : Option Addr) (n c : Nat), a.eval x = .slice ad n c → (Conv.bytesToString (.slice ad n c)).run P w = .ok (.string ⟨l.toArray⟩) w → (execOp a.eval ⟨dst, .convert s t x, ty, pos, after, guard⟩).run P w = .ok (.value (.string ⟨l.toArray⟩)) w := by
    intro ad n c hv hrun
    have := run_convert_bytes_string (P := P) w s t e ad n c hs he ht
    rw [hrun] at this
    simp [execOp, hv, this]
  rcases hen.sl hr hx ho with ⟨b, base, tot, c, el, fr, k, h1, h2, h3, h4, h5, h6, h7, h8, h9⟩ | ⟨h1, ad, h2, _⟩
  · refine hconv _ _ _ h1 (run_str ?_)
    have hw := window_sub h8 (off := off) (k := len) hl
    rw [hc] at hw
    have hv' := bytes_vals hw
    rw [← hv']
    exact run_loadL0 h5 (by omega)
  · have hl0 : l = [] := List.eq_nil_of_length_eq_zero (by omega)
    subst hl0
    refine hconv _ _ _ h2 ?_
    cases ad with
    | none => rfl
    | some ad => exact run_str (by have := run_loadCells_list (P := P) (w := w) ad [] (fun j v h => by simp at h); simpa using this)

end Go.SL

set_option linter.unusedSimpArgs false
set_option linter.unnecessarySimpa false
set_option linter.unusedVariables false
set_option linter.unusedSectionVars false
namespace Go.SL
open Go
variable [Tabs]

variable {F F' : Nat → Prop} {μ μ' μ'' : List Nm} {w w' w'' : World} {P : Program} {n : Nat} {env : Nat → AV} {hp : List AObj}
variable {dst : Option Nat} {ty : TypeId} {pos : String} {after : Array Edge} {guard : Option (Nat × Bool)}

end Go.SL

set_option linter.unusedSimpArgs false
set_option linter.unnecessarySimpa false
set_option linter.unusedVariables false
set_option linter.unusedSectionVars false
namespace Go.SL
open Go
variable [Tabs]

variable {F F' : Nat → Prop} {μ μ' μ'' : List Nm} {w w' w'' : World} {P : Program} {n : Nat} {env : Nat → AV} {hp hp0 : List AObj}
variable {dst : Option Nat} {ty : TypeId} {pos : String} {after : Array Edge} {guard : Option (Nat × Bool)}

/-- How many naturals a kind holds. -/
@[reducible] def cap : IntKind → Nat
  | .i8 => 128 | .i16 => 32768 | .i32 => 2147483648 | .i64 => 9223372036854775808
  | .u8 => 256 | .u16 => 65536 | .u32 => 4294967296 | .u64 => 18446744073709551616

theorem wrap_nat {k : IntKind} {x : Nat} (h : x < cap k) : k.wrap (x : Int) = x := by
  cases k <;> simp only [cap] at h <;> simp [IntKind.wrap, IntKind.bits, IntKind.signed] <;> omega

theorem int2_addN {k : IntKind} {x y : Nat} (h : x + y < cap k) : int2 .add k x y = some (.int k ((x + y : Nat) : Int)) := by
  rw [← wrap_nat h]; simp [int2]
theorem int2_subN {k : IntKind} {x y : Nat} (hy : y ≤ x) (h : x < cap k) : int2 .sub k x y = some (.int k ((x - y : Nat) : Int)) := by
  rw [← wrap_nat (k := k) (x := x - y) (by omega)]
  have : ((x - y : Nat) : Int) = (x : Int) - y := by omega
  rw [this]; simp only [int2]
theorem int2_mulN {k : IntKind} {x y : Nat} (h : x * y < cap k) : int2 .mul k x y = some (.int k ((x * y : Nat) : Int)) := by
  rw [← wrap_nat h]; simp [int2]

theorem cap_bits (k : IntKind) : cap k ≤ 2 ^ k.bits := by cases k <;> decide

theorem ofInt_nat {b x : Nat} (h : x < 2 ^ b) : (BitVec.ofInt b (x : Int)).toNat = x := by
  rw [BitVec.toNat_ofInt]
  have h1 : ((x : Int) % ((2 ^ b : Nat) : Int)) = (x : Int) := by
    rw [Int.emod_eq_of_lt]
    · exact Int.natCast_nonneg x
    · exact_mod_cast h
  rw [h1]; rfl

theorem int2_andN {k : IntKind} {x y : Nat} (hx : x < cap k) (hy : y < cap k) : int2 .and k x y = some (.int k ((x &&& y : Nat) : Int)) := by
  have h1 := Nat.lt_of_lt_of_le hx (cap_bits k)
  have h2 := Nat.lt_of_lt_of_le hy (cap_bits k)
  have h3 : x &&& y < cap k := Nat.lt_of_le_of_lt Nat.and_le_left hx
  simp only [int2, BitVec.toNat_and, ofInt_nat h1, ofInt_nat h2, wrap_nat h3]

theorem pow_cap (k : IntKind) : ∃ m, cap k = 2 ^ m := by cases k <;> first | exact ⟨7, rfl⟩ | exact ⟨15, rfl⟩ | exact ⟨31, rfl⟩ | exact ⟨63, rfl⟩ | exact ⟨8, rfl⟩ | exact ⟨16, rfl⟩ | exact ⟨32, rfl⟩ | exact ⟨64, rfl⟩

theorem int2_orN {k : IntKind} {x y : Nat} (hx : x < cap k) (hy : y < cap k) : int2 .or k x y = some (.int k ((x ||| y : Nat) : Int)) := by
  have h1 := Nat.lt_of_lt_of_le hx (cap_bits k)
  have h2 := Nat.lt_of_lt_of_le hy (cap_bits k)
  have h3 : x ||| y < cap k := by obtain ⟨m, hm⟩ := pow_cap k; rw [hm] at hx hy ⊢; exact Nat.or_lt_two_pow hx hy
  simp only [int2, BitVec.toNat_or, ofInt_nat h1, ofInt_nat h2, wrap_nat h3]

theorem int2_xorN {k : IntKind} {x y : Nat} (hx : x < cap k) (hy : y < cap k) : int2 .xor k x y = some (.int k ((x ^^^ y : Nat) : Int)) := by
  have h1 := Nat.lt_of_lt_of_le hx (cap_bits k)
  have h2 := Nat.lt_of_lt_of_le hy (cap_bits k)
  have h3 : x ^^^ y < cap k := by obtain ⟨m, hm⟩ := pow_cap k; rw [hm] at hx hy ⊢; exact Nat.xor_lt_two_pow hx hy
  simp only [int2, BitVec.toNat_xor, ofInt_nat h1, ofInt_nat h2, wrap_nat h3]

theorem step_quoN {t t' : TypeId} {x y : Operand} {k : IntKind} {p q : Nat} (hx : opd env x = .sc (.int k p)) (hy : opd env y = .sc (.int k q)) (hq : 0 < q) (hp' : p < cap k) :
    Step P ⟨dst, .binOp .quo t x y t', ty, pos, after, guard⟩ env hp (is (.sc (.int k ((p / q : Nat) : Int))) hp) := by
  have h1 : ((p : Int).tdiv (q : Int)) = ((p / q : Nat) : Int) := rfl
  have h2 : p / q < cap k := Nat.lt_of_le_of_lt (Nat.div_le_self p q) hp'
  have := step_quo (P := P) (hp := hp) (dst := dst) (ty := ty) (pos := pos) (after := after) (guard := guard) (t := t) (t' := t') hx hy (by omega)
  rwa [h1, wrap_nat h2] at this

theorem step_remN {t t' : TypeId} {x y : Operand} {k : IntKind} {p q : Nat} (hx : opd env x = .sc (.int k p)) (hy : opd env y = .sc (.int k q)) (hq : 0 < q) :
    Step P ⟨dst, .binOp .rem t x y t', ty, pos, after, guard⟩ env hp (is (.sc (.int k ((p % q : Nat) : Int))) hp) :=
  step_rem (t := t) (t' := t') hx hy (by omega)

theorem step_shlN {t t' : TypeId} {x y : Operand} {k k' : IntKind} {p s : Nat} (hx : opd env x = .sc (.int k p)) (hy : opd env y = .sc (.int k' s)) (hs : s ≤ k.bits) (hp' : p * 2 ^ s < cap k) :
    Step P ⟨dst, .binOp .shl t x y t', ty, pos, after, guard⟩ env hp (is (.sc (.int k ((p * 2 ^ s : Nat) : Int))) hp) := by
  have := step_shl (P := P) (hp := hp) (dst := dst) (ty := ty) (pos := pos) (after := after) (guard := guard) (t := t) (t' := t') hx hy (by omega)
  have h1 : (p : Int) * 2 ^ min ((s : Int)).toNat k.bits = ((p * 2 ^ s : Nat) : Int) := by
    rw [Int.toNat_natCast, Nat.min_eq_left hs]; simp
  rwa [h1, wrap_nat hp'] at this

@[reducible] def uns : IntKind → Bool
  | .u8 | .u16 | .u32 | .u64 => true
  | _ => false

theorem xor_ones {m x : Nat} (h : x < 2 ^ m) : (2 ^ m - 1) ^^^ x = 2 ^ m - 1 - x := by
  apply Nat.eq_of_testBit_eq
  intro i
  have e : 2 ^ m - 1 - x = 2 ^ m - (x + 1) := by omega
  rw [e, Nat.testBit_xor, Nat.testBit_two_pow_sub_succ h, Nat.testBit_two_pow_sub_one]
  by_cases hi : i < m
  · simp [hi]
  · have : x.testBit i = false := Nat.testBit_lt_two_pow (Nat.lt_of_lt_of_le h (Nat.pow_le_pow_right (by decide) (by omega)))
    simp [hi, this]

theorem step_notN {t : TypeId} {x : Operand} {k : IntKind} {m : Nat} (hx : opd env x = .sc (.int k m)) (hm : m < cap k) (hu : uns k = true) :
    Step P ⟨dst, .unOp .xor t x, ty, pos, after, guard⟩ env hp (is (.sc (.int k ((cap k - 1 - m : Nat) : Int))) hp) := by
  have := step_xor1 (P := P) (hp := hp) (dst := dst) (ty := ty) (pos := pos) (after := after) (guard := guard) (t := t) hx
  have h1 := Nat.lt_of_lt_of_le hm (cap_bits k)
  have h2 : k.wrap (BitVec.ofInt k.bits (if k.signed then -1 else k.max) ^^^ BitVec.ofInt k.bits m).toNat = ((cap k - 1 - m : Nat) : Int) := by
    have h3 : cap k = 2 ^ k.bits := by cases k <;> first | rfl | simp [uns] at hu
    have h4 : (if k.signed then -1 else k.max) = ((2 ^ k.bits - 1 : Nat) : Int) := by cases k <;> first | rfl | simp [uns] at hu
    rw [BitVec.toNat_xor, h4, ofInt_nat h1, ofInt_nat (by have := Nat.two_pow_pos k.bits; omega), xor_ones h1, ← h3]
    exact wrap_nat (by omega)
  rwa [h2] at this

theorem step_shrN {t t' : TypeId} {x y : Operand} {k k' : IntKind} {p s : Nat} (hx : opd env x = .sc (.int k p)) (hy : opd env y = .sc (.int k' s)) (hp' : p < cap k) :
    Step P ⟨dst, .binOp .shr t x y t', ty, pos, after, guard⟩ env hp (is (.sc (.int k ((p / 2 ^ s : Nat) : Int))) hp) := by
  have := step_shr (P := P) (hp := hp) (dst := dst) (ty := ty) (pos := pos) (after := after) (guard := guard) (t := t) (t' := t') hx hy (by omega)
  have h1 : (p : Int).fdiv (2 ^ min ((s : Int)).toNat k.bits) = ((p / 2 ^ s : Nat) : Int) := by
    rw [Int.toNat_natCast]
    have h2 : ((2 : Int) ^ min s k.bits) = ((2 ^ min s k.bits : Nat) : Int) := by simp
    rw [h2]
    have h3 : ∀ a b : Nat, (a : Int).fdiv (b : Int) = ((a / b : Nat) : Int) := fun a b => by rw [Int.fdiv_eq_ediv_of_nonneg _ (by omega)]; rfl
    rw [h3]
    rcases Nat.le_total s k.bits with h | h
    · rw [Nat.min_eq_left h]
    · rw [Nat.min_eq_right h]
      have h4 := Nat.lt_of_lt_of_le hp' (cap_bits k)
      rw [Nat.div_eq_of_lt h4, Nat.div_eq_of_lt (Nat.lt_of_lt_of_le h4 (Nat.pow_le_pow_right (by decide) h))]
  rwa [h1] at this

theorem convN {k : IntKind} {x : Nat} (h : x < cap k) : k.wrap (x : Int) = x := wrap_nat h

section
variable {t t' : TypeId} {x y : Operand} {k : IntKind} {p q : Nat}
theorem step_addN (hx : opd env x = .sc (.int k p)) (hy : opd env y = .sc (.int k q)) (h : p + q < cap k) :
    Step P ⟨dst, .binOp .add t x y t', ty, pos, after, guard⟩ env hp (is (.sc (.int k ((p + q : Nat) : Int))) hp) := step_int2 hx hy (int2_addN h)
theorem step_subN (hx : opd env x = .sc (.int k p)) (hy : opd env y = .sc (.int k q)) (h1 : q ≤ p) (h : p < cap k) :
    Step P ⟨dst, .binOp .sub t x y t', ty, pos, after, guard⟩ env hp (is (.sc (.int k ((p - q : Nat) : Int))) hp) := step_int2 hx hy (int2_subN h1 h)
theorem step_mulN (hx : opd env x = .sc (.int k p)) (hy : opd env y = .sc (.int k q)) (h : p * q < cap k) :
    Step P ⟨dst, .binOp .mul t x y t', ty, pos, after, guard⟩ env hp (is (.sc (.int k ((p * q : Nat) : Int))) hp) := step_int2 hx hy (int2_mulN h)
theorem step_andN (hx : opd env x = .sc (.int k p)) (hy : opd env y = .sc (.int k q)) (h1 : p < cap k) (h2 : q < cap k) :
    Step P ⟨dst, .binOp .and t x y t', ty, pos, after, guard⟩ env hp (is (.sc (.int k ((p &&& q : Nat) : Int))) hp) := step_int2 hx hy (int2_andN h1 h2)
theorem step_orN (hx : opd env x = .sc (.int k p)) (hy : opd env y = .sc (.int k q)) (h1 : p < cap k) (h2 : q < cap k) :
    Step P ⟨dst, .binOp .or t x y t', ty, pos, after, guard⟩ env hp (is (.sc (.int k ((p ||| q : Nat) : Int))) hp) := step_int2 hx hy (int2_orN h1 h2)
theorem step_xorN (hx : opd env x = .sc (.int k p)) (hy : opd env y = .sc (.int k q)) (h1 : p < cap k) (h2 : q < cap k) :
    Step P ⟨dst, .binOp .xor t x y t', ty, pos, after, guard⟩ env hp (is (.sc (.int k ((p ^^^ q : Nat) : Int))) hp) := step_int2 hx hy (int2_xorN h1 h2)
end

end Go.SL

set_option linter.unusedSimpArgs false
set_option linter.unnecessarySimpa false
set_option linter.unusedVariables false
set_option linter.unusedSectionVars false
namespace Go.SL
open Go
variable [Tabs]

variable {P : Program} {n : Nat} {env : Nat → AV} {hp hp' hp0 : List AObj} {ops : Array Oper} {K : Exit → SS → Prop} {o : Oper} {i d : Nat} {rest : List Nat} {x : AV}

section
variable {Td : TR → TR} {l : List Oper}

end

variable {dst : Option Nat} {ty : TypeId} {pos : String} {after : Array Edge} {guard : Option (Nat × Bool)}

section
variable {x : Operand}
end

end Go.SL

set_option linter.unusedSimpArgs false
set_option linter.unnecessarySimpa false
set_option linter.unusedVariables false
set_option linter.unusedSectionVars false
namespace Go.SL
open Go
variable [Tabs]

variable {P : Program} {n : Nat} {env : Nat → AV} {hp hp' hp0 : List AObj} {ops : Array Oper} {K : Exit → SS → Prop}
variable {dst : Option Nat} {ty : TypeId} {pos : String} {after : Array Edge} {guard : Option (Nat × Bool)}

theorem allP_of : ∀ {l : List Prop}, (∀ p ∈ l, p) → allP l
  | [], _ => trivial
  | q :: l, h => ⟨h q (by simp), allP_of fun p hp => h p (by simp [hp])⟩

end Go.SL

set_option linter.unusedVariables false
set_option linter.unusedSectionVars false
namespace Go.SL
open Go
variable [Tabs]
variable {P : Program} {n : Nat} {K : Exit → SS → Prop} {env : Nat → AV} {hp : List AObj} {ops : Array Oper}
end Go.SL

set_option linter.unusedVariables false
set_option linter.unusedSectionVars false
namespace Go.SL
open Go
variable [Tabs]
end Go.SL

set_option linter.unusedVariables false
set_option linter.unusedSectionVars false
namespace Go.SL
open Go
variable [Tabs]
variable {P : Program} {env : Nat → AV} {hp : List AObj} {dst : Option Nat} {ty : TypeId} {pos : String} {after : Array Edge} {guard : Option (Nat × Bool)}
end Go.SL

set_option linter.unusedVariables false
set_option linter.unusedSectionVars false
namespace Go.SL
open Go
variable [Tabs]
variable {F F' : Nat → Prop} {μ μ' : List Nm} {w w' : World} {P : Program} {env : Nat → AV} {hp : List AObj} {dst : Option Nat} {ty : TypeId} {pos : String} {after : Array Edge} {guard : Option (Nat × Bool)}



/-- A contract of a callee that hands back one row of its own, used over rows. -/
theorem Spec.own {g : Nat} {ys : List AV} {r y : AV} {esz : Nat} {cells : List AV} (hs : Spec P g ys [] (fun r' h => r' = r ∧ h = [.row esz cells])) (hno' : noOwnL ys = true) (hno : noOwnL cells = true) (hy : ren (fun j => j + hp.length) r = y) :
    Spec P g ys hp (is y (hp ++ [.row esz cells])) := by
  subst hy
  intro F μ w args' hrr hargs
  let Fc : Nat → Prop := fun b => F b ∨ blocks μ b
  have h0 : HR Fc [] [] w := ⟨rfl, fun o b base esz tot h => by simp at h, fun o h => by simp at h, fun o x h => by simp at h, fun o o' b base esz tot _ _ _ h => by simp at h,
    fun b ⟨_, _, _, _, h⟩ => by simp at h, fun b h => h.elim (hrr.fb b) hrr.lt, hrr.tb.nil⟩
  have hmove : ∀ b, Free μ F b → Free [] Fc b := fun b hb => ⟨fun ⟨_, _, _, _, h⟩ => by simp at h, fun h => h.elim hb.2 hb.1⟩
  refine (hs Fc [] w _ h0 (hargs.move hno' fun b _ h => hmove b h)).mono ?_
  rintro e w' ⟨r', v, hp', μ1, rfl, ⟨rfl, rfl⟩, hHR, hv, hf⟩
  have hl1 : μ1.length = 1 := hHR.len
  obtain ⟨nm, rfl⟩ : ∃ nm, μ1 = [nm] := by
    match μ1, hl1 with
    | [nm], _ => exact ⟨nm, rfl⟩
  have hlen := hrr.len
  have hold : ∀ o, o < μ.length → (μ ++ [nm])[o]? = μ[o]? := fun o h => List.getElem?_append_left h
  have hnew : (μ ++ [nm])[μ.length]? = some nm := by simp
  have hcase : ∀ {o : Nat} {m : Nm}, (μ ++ [nm])[o]? = some m → (o < μ.length ∧ μ[o]? = some m) ∨ (o = μ.length ∧ nm = m) := by
    intro o m h
    rcases Nat.lt_or_ge o μ.length with h1 | h1
    · rw [hold o h1] at h; exact .inl ⟨h1, h⟩
    · rw [List.getElem?_append_right h1] at h
      cases hk : o - μ.length with
      | zero => rw [hk] at h; simp at h; exact .inr ⟨by omega, h⟩
      | succ q => rw [hk] at h; simp at h
  have hblk : ∀ b, blocks (μ ++ [nm]) b → blocks μ b ∨ blocks [nm] b := fun b ⟨o, base, e, t, h⟩ => by
    rcases hcase h with ⟨_, h1⟩ | ⟨_, rfl⟩
    · exact .inl ⟨o, base, e, t, h1⟩
    · exact .inr ⟨0, base, e, t, rfl⟩
  have hkeep : ∀ b, b < w.heap.size → w'.heap[b]? = w.heap[b]? := fun b hb => hf.keep b hb (fun ⟨_, _, _, _, h⟩ => by simp at h)
  have hF : Fr μ w (μ ++ [nm]) w' := ⟨hf.size, fun b hb _ => hkeep b hb, fun b hb => by
      rcases hblk b hb with h | h
      · exact .inl h
      · rcases hf.new b h with ⟨_, _, _, _, h2⟩ | h2
        · simp at h2
        · exact .inr h2, fun o m h => .inl (by
      have : o < μ.length := by
        rcases Nat.lt_or_ge o μ.length with h1 | h1
        · exact h1
        · simp [List.getElem?_eq_none h1] at h
      rw [hold o this]; exact h), by simp, hf.oo⟩
  have hfree : ∀ b, b < w'.heap.size → Free [nm] Fc b → Free (μ ++ [nm]) F b := fun b _ hb => ⟨fun h => by
    rcases hblk b h with h1 | h1
    · exact hb.2 (.inr h1)
    · exact hb.1 h1, fun h => hb.2 (.inl h)⟩
  refine ⟨_, v, _, μ ++ [nm], rfl, ⟨rfl, rfl⟩, ?_, ?_, hF⟩
  · refine ⟨by simp [hlen], fun o b base e t ho => ?_, fun o ho => ?_, fun o x' ho hx' => ?_, fun o o' b base e t base' e' t' h1 h2 => ?_, hrr.foF hF, hrr.fbF hF, hrr.tbF hF⟩
    · rcases hcase ho with ⟨h1, h2⟩ | ⟨h1, rfl⟩
      · obtain ⟨x', y', g1, g2, g3⟩ := hrr.obj o b base e t h2
        exact ⟨x', y', by rw [List.getElem?_append_left (by omega)]; exact g1, by rw [hkeep b (heap_lt g2)]; exact g2, g3.mono hF⟩
      · obtain ⟨x', y', g1, g2, g3⟩ := hHR.obj 0 b base e t rfl
        simp only [List.getElem?_cons_zero, Option.some.injEq] at g1
        subst g1
        exact ⟨.row esz cells, y', by rw [h1, hlen]; simp, g2, g3.conv fun vs g5 => g5.move hno hfree⟩
    · rcases hcase ho with ⟨h1, h2⟩ | ⟨h1, h2⟩
      · obtain ⟨e, g⟩ := hrr.em o h2
        exact ⟨e, by rw [List.getElem?_append_left (by omega)]; exact g⟩
      · obtain ⟨e, g⟩ := hHR.em 0 (by rw [h2]; rfl)
        exact ⟨e, by rw [h1, hlen]; simpa using g⟩
    · intro hd
      rcases hcase hd with ⟨h1, h2⟩ | ⟨h1, h2⟩
      · rw [List.getElem?_append_left (by omega)] at ho
        exact hrr.live o x' ho hx' h2
      · rw [h1, hlen] at ho
        simp at ho
        exact hHR.live 0 _ rfl (by simp) (by rw [h2]; rfl)
    · rcases hcase h1 with ⟨a1, a2⟩ | ⟨a1, a2⟩ <;> rcases hcase h2 with ⟨b1, b2⟩ | ⟨b1, b2⟩
      · exact hrr.inj _ _ _ _ _ _ _ _ _ a2 b2
      · exact (hHR.fo b ⟨0, base', e', t', by rw [b2]; rfl⟩ (.inr ⟨o, base, e, t, a2⟩)).elim
      · exact (hHR.fo b ⟨0, base, e, t, by rw [a2]; rfl⟩ (.inr ⟨o', base', e', t', b2⟩)).elim
      · omega
  · refine hv.push (fun j m hj _ => ?_) hfree
    cases j with
    | succ q => simp at hj
    | zero => rw [Nat.zero_add, ← hlen, hnew]; simpa using hj
end Go.SL

set_option linter.unusedVariables false
set_option linter.unusedSectionVars false
namespace Go.SL
open Go
variable [Tabs]
variable {F : Nat → Prop} {P : Program} {n : Nat} {K : Exit → SS → Prop} {env : Nat → AV} {hp : List AObj}

def unDead : Nm → Nm
  | .un => .un
  | _ => .dead

/-- The slots of a list, each told anew. -/
def FzT (p : Nat) (σ : SS) : List (Nat × AV) → Prop
  | [] => True
  | q :: l => Fz p σ.hp (σ.env q.1) q.2 ∧ FzT p σ l

theorem FzT.at {p : Nat} {σ : SS} {i : Nat} : ∀ {l : List (Nat × AV)}, FzT p σ l → tbl l i = .any ∨ Fz p σ.hp (σ.env i) (tbl l i)
  | [], _ => .inl rfl
  | (d, x) :: l, ⟨h1, h2⟩ => by
    simp only [tbl]
    cases hb : Nat.beq i d with
    | true =>
      have := Nat.eq_of_beq_eq_true hb
      subst this
      exact .inr h1
    | false => exact FzT.at h2

/-- The same, between two operations. -/
theorem WO.frz {ops : Array Oper} {li : List Nat} (l : List (Nat × AV)) (hz : FzT 0 ⟨env, hp⟩ l) (hk : WO P n ops li K ⟨tbl l, List.replicate hp.length .dead⟩) : WO P n ops li K ⟨env, hp⟩ := by
  intro F μ a w hs
  have hb2 : ∀ b, ¬ blocks (μ.map unDead) b := by
    rintro b ⟨o, base, esz, tot, ho⟩
    rw [List.getElem?_map] at ho
    cases hm : μ[o]? with
    | none => rw [hm] at ho; simp at ho
    | some nm => rw [hm] at ho; cases nm <;> simp [unDead] at ho
  have hF : Fr μ w (μ.map unDead) w := ⟨Nat.le_refl _, fun _ _ _ => rfl, fun b hb => (hb2 b hb).elim, fun o nm ho => by
    rw [List.getElem?_map, ho]
    cases nm <;> simp [unDead], by simp, rfl, rfl⟩
  have hlen : μ.length = hp.length := hs.hr.len
  have hrow : ∀ (o : Nat) (x : AObj), (List.replicate hp.length AObj.dead)[o]? = some x → x ≠ .dead → False := by
    intro o x ho hx
    rw [List.getElem?_replicate] at ho
    split at ho
    · exact hx (Option.some.inj ho).symm
    · simp at ho
  refine wpOps_post (fun e a w => Post.mono hF) (hk F (μ.map unDead) a w ⟨⟨by simp [hlen], fun o b base esz tot ho => (hb2 b ⟨o, base, esz, tot, ho⟩).elim, fun o ho => ?_, fun o x ho hx => (hrow o x ho hx).elim,
    fun o o' b base esz tot _ _ _ ho => (hb2 b ⟨o, base, esz, tot, ho⟩).elim, fun b hb => (hb2 b hb).elim, hs.hr.fb, hs.hr.tb.sub fun b hb => (hb2 b hb).elim⟩, fun i => ?_, hs.size, hs.defers⟩)
  · rw [List.getElem?_map] at ho
    cases hm : μ[o]? with
    | none => rw [hm] at ho; simp at ho
    | some nm => rw [hm] at ho; cases nm <;> simp [unDead] at ho
  · rcases hz.at (i := i) with h1 | h1
    · show VR F _ w (tbl l i) _
      rw [h1]; exact .any
    · have := h1.rel hs.hr (hs.env i)
      rw [List.take_zero] at this
      exact this.into (fun j nm hj => by simp at hj) fun b _ hb => ⟨hb2 b, hb.2⟩
end Go.SL

set_option linter.unusedVariables false
set_option linter.unusedSectionVars false
namespace Go.SL
open Go
variable [Tabs]
variable {P : Program} {env : Nat → AV} {hp : List AObj} {dst : Option Nat} {ty : TypeId} {pos : String} {after : Array Edge} {guard : Option (Nat × Bool)}

theorem grown_ge (w : World) (n old : Nat) (e : TypeId) : n ≤ grownCap w n old e := by
  unfold grownCap
  simp [Question.cut]

theorem al_strB {s t e : TypeId} {x : Operand} {b : ByteArray} (hs : P.underlying s = some .string) (ht : P.underlying t = some (.slice e)) (he : P.underlying e = some (.int .u8)) (hx : opd env x = .sc (.string b)) :
    StepAl P ⟨dst, .convert s t x, ty, pos, after, guard⟩ env 1 (b.data.toList.map byteAV) (fun k => .sl k 0 b.size) := by
  intro F μ w a hen
  have hv := hen.sc hx
  have hr := run_bytes_of_string w s t e b hs ht he
  have hc := grown_ge w b.size 0 e
  generalize grownCap w b.size 0 e = cap at hr hc
  have hsz : (bytesRow b cap).size = cap := by
    unfold bytesRow
    rw [Array.size_append, Array.size_map, Array.size_replicate]
    show b.size + _ = _
    omega
  have hl : (b.data.toList.map byteAV).length = b.size := by rw [List.length_map, Array.length_toList]; rfl
  refine ⟨.slice (some ⟨w.heap.size, 0, none⟩) b.size cap, w.drew.alloc (.cells (bytesRow b cap) e ((bytesRow b cap).size, (bytesRow b cap).size + 1)), bytesRow b cap, e, ((bytesRow b cap).size, (bytesRow b cap).size + 1), ?_, rfl, ⟨rfl, rfl⟩, ?_, by rw [hl, hsz]; exact hc, ⟨Nat.le_succ _, fun i hi h => by omega⟩, fun F' μ' k hk => ?_⟩
  · simp only [execOp, hv, Sem.run_bind, hr, Result.andThen_ok]
    rfl
  · have e1 : (bytesRow b cap).toList.take (b.data.toList.map byteAV).length = b.data.toList.map fun c => .int .u8 c.toNat := by
      rw [hl]
      unfold bytesRow
      rw [Array.toList_append, Array.toList_map]
      exact List.take_left' (by rw [List.length_map, Array.length_toList]; rfl)
    rw [e1]
    exact bytes_rel _
  · exact .sl (base := 0) (off := 0) hk (by rw [hsz]; omega) hc
end Go.SL
