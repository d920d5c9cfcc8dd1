/-
  Memory: a row that is made, a row that is written, a row that is read.
-/
import Derived.Test.YtbimmnnjnlfddaaDoorSlB
import Derived.Laws.Cells
set_option linter.unusedSimpArgs false
set_option linter.unnecessarySimpa false
set_option linter.unusedVariables false
set_option linter.unusedSectionVars false
namespace Go.SL
open Go
variable [Tabs]

variable {F : Nat → Prop} {μ μ' μ'' : List Nm} {w w' w'' : World} {P : Program} {n : Nat}

theorem HR.lt {hp : List AObj} (h : HR F hp μ w) {b : Nat} (hb : blocks μ b) : b < w.heap.size := by
  obtain ⟨o, base, esz, tot, ho⟩ := hb
  obtain ⟨_, _, _, _, _, h1, _⟩ := h.obj o b base esz tot ho
  exact heap_lt h1

theorem Fr.same (h : w'.heap = w.heap) (hoo : w'.os = w.os ∧ w'.output = w.output := by exact ⟨rfl, rfl⟩) : Fr μ w μ w' :=
  ⟨by rw [h]; exact Nat.le_refl _, fun _ _ _ => by rw [h], fun _ hb => .inl hb, fun _ _ hn => .inl hn, Nat.le_refl _, hoo⟩

theorem HR.same {hp : List AObj} (h : HR F hp μ w) (hw : w'.heap = w.heap) (hoo : w'.os = w.os ∧ w'.output = w.output := by exact ⟨rfl, rfl⟩) : HR F hp μ w' := by
  refine ⟨h.len, fun o b base esz tot ho => ?_, h.em, h.live, h.inj, h.fo, by rw [hw]; exact h.fb, h.tbF (Fr.same hw hoo)⟩
  obtain ⟨cells, c, el, fr, h1, h2, h3, h4, h5, h6⟩ := h.obj o b base esz tot ho
  exact ⟨cells, c, el, fr, h1, hw ▸ h2, h3, h4, h5.mono (Fr.same hw hoo), h6⟩

/-- A live row: where it lies. -/
theorem HR.row {hp : List AObj} (h : HR F hp μ w) {o esz : Nat} {cells : List AV} (ho : hp[o]? = some (AObj.row esz cells)) :
    (μ[o]? = some Nm.un) ∨ (μ[o]? = some Nm.em ∧ cells = []) ∨ ∃ b base tot c el fr, μ[o]? = some (Nm.at b base esz tot) ∧ w.heap[b]? = some (Obj.cells c el fr) ∧ c.size = tot ∧ base + cells.length ≤ tot ∧
      VRL F μ w cells ((c.toList.drop base).take cells.length) ∧ NF fr tot := by
  have hlt : o < μ.length := by
    rw [h.len]
    rcases Nat.lt_or_ge o hp.length with h1 | h1
    · exact h1
    · simp [List.getElem?_eq_none h1] at ho
  cases hm : μ[o] with
  | un => left; rw [List.getElem?_eq_getElem hlt, hm]
  | dead => exact absurd (by rw [List.getElem?_eq_getElem hlt, hm]) (h.live o esz cells ho)
  | em =>
    right; left
    have hμ : μ[o]? = some Nm.em := by rw [List.getElem?_eq_getElem hlt, hm]
    obtain ⟨e, he⟩ := h.em o hμ
    rw [ho] at he
    injection he with he
    injection he with _ he
    exact ⟨hμ, he⟩
  | «at» b base esz' tot =>
    right; right
    have hμ : μ[o]? = some (Nm.at b base esz' tot) := by rw [List.getElem?_eq_getElem hlt, hm]
    obtain ⟨cells', c, el, fr, h1, h2, h3, h4, h5, h6⟩ := h.obj o b base esz' tot hμ
    rw [ho] at h1
    injection h1 with h1
    injection h1 with h1 h1'
    subst h1; subst h1'
    exact ⟨b, base, tot, c, el, fr, hμ, h2, h3, h4, h5, h6⟩

/-- A new row. -/
theorem HR.push {hp : List AObj} (h : HR F hp μ w) {c : Array Value} {el esz : Nat} {xs : List AV} (hx : VRL F μ w xs (c.toList.take xs.length)) (hl : xs.length ≤ c.size)
    {fr : Nat × Nat} (hf : NF fr c.size) {w' : World} (hw : w'.heap = w.heap.push (.cells c el fr)) (hoo : w'.os = w.os ∧ w'.output = w.output := by exact ⟨rfl, rfl⟩) :
    HR F (hp ++ [.row esz xs]) (μ ++ [.at w.heap.size 0 esz c.size]) w' ∧ Fr μ w (μ ++ [.at w.heap.size 0 esz c.size]) w' := by
  have hF : Fr μ w (μ ++ [.at w.heap.size 0 esz c.size]) w' := by
    refine ⟨by rw [hw]; simp, fun b hb _ => by rw [hw, Array.getElem?_push_lt hb, Array.getElem?_eq_getElem hb], fun b hb => ?_, fun o nm ho => ?_, by simp, hoo⟩
    · obtain ⟨o, base, esz', tot, ho⟩ := hb
      rcases Nat.lt_or_ge o μ.length with h1 | h1
      · rw [List.getElem?_append_left h1] at ho
        exact .inl ⟨o, base, esz', tot, ho⟩
      · rw [List.getElem?_append_right h1] at ho
        right
        cases hk : o - μ.length with
        | zero => rw [hk] at ho; simp at ho; omega
        | succ k => rw [hk] at ho; simp at ho
    · left
      have : o < μ.length := by
        rcases Nat.lt_or_ge o μ.length with h1 | h1
        · exact h1
        · simp [List.getElem?_eq_none h1] at ho
      rw [List.getElem?_append_left this]; exact ho
  refine ⟨⟨by simp [h.len], fun o b base esz' tot ho => ?_, fun o ho => ?_, fun o esz' cells ho => ?_, fun o o' b base esz1 tot1 base' esz2 tot2 ho ho' => ?_, h.foF hF, h.fbF hF, h.tbF hF⟩, hF⟩
  · rcases Nat.lt_or_ge o μ.length with h1 | h1
    · rw [List.getElem?_append_left h1] at ho
      obtain ⟨cells, c', el', fr', g1, g2, g3, g4, g5, g6⟩ := h.obj o b base esz' tot ho
      refine ⟨cells, c', el', fr', ?_, ?_, g3, g4, g5.mono hF, g6⟩
      · rw [List.getElem?_append_left (by rw [← h.len]; exact h1)]; exact g1
      · rw [hw, Array.getElem?_push_lt (heap_lt g2), ← g2, Array.getElem?_eq_getElem (heap_lt g2)]
    · rw [List.getElem?_append_right h1] at ho
      cases hk : o - μ.length with
      | succ k => rw [hk] at ho; simp at ho
      | zero =>
        rw [hk] at ho
        simp at ho
        obtain ⟨rfl, rfl, rfl, rfl⟩ := ho
        have ho2 : o = μ.length := by omega
        refine ⟨xs, c, el, fr, ?_, ?_, rfl, by omega, ?_, hf⟩
        · rw [ho2, h.len]; simp
        · rw [hw]; simp
        · simpa using hx.mono hF
  · rcases Nat.lt_or_ge o μ.length with h1 | h1
    · rw [List.getElem?_append_left h1] at ho
      rw [List.getElem?_append_left (by rw [← h.len]; exact h1)]
      exact h.em o ho
    · rw [List.getElem?_append_right h1] at ho
      cases hk : o - μ.length with
      | succ k => rw [hk] at ho; simp at ho
      | zero => rw [hk] at ho; simp at ho
  · intro hd
    rcases Nat.lt_or_ge o μ.length with h1 | h1
    · rw [List.getElem?_append_left h1] at hd
      rw [List.getElem?_append_left (by rw [← h.len]; exact h1)] at ho
      exact h.live o esz' cells ho hd
    · rw [List.getElem?_append_right h1] at hd
      cases hk : o - μ.length with
      | succ k => rw [hk] at hd; simp at hd
      | zero => rw [hk] at hd; simp at hd
  · have key : ∀ o b base esz' tot, (μ ++ [Nm.at w.heap.size 0 esz c.size])[o]? = some (Nm.at b base esz' tot) → (o < μ.length ∧ μ[o]? = some (Nm.at b base esz' tot) ∧ b < w.heap.size) ∨ (o = μ.length ∧ b = w.heap.size) := by
      intro o b base esz' tot ho
      rcases Nat.lt_or_ge o μ.length with h1 | h1
      · rw [List.getElem?_append_left h1] at ho
        exact .inl ⟨h1, ho, h.lt ⟨o, base, esz', tot, ho⟩⟩
      · rw [List.getElem?_append_right h1] at ho
        cases hk : o - μ.length with
        | succ k => rw [hk] at ho; simp at ho
        | zero => rw [hk] at ho; simp at ho; exact .inr ⟨by omega, ho.1.symm⟩
    rcases key _ _ _ _ _ ho with ⟨h1, h2, h3⟩ | ⟨h1, h2⟩ <;> rcases key _ _ _ _ _ ho' with ⟨g1, g2, g3⟩ | ⟨g1, g2⟩
    · exact h.inj _ _ _ _ _ _ _ _ _ h2 g2
    · omega
    · omega
    · omega

def splice {α : Type} (l : List α) (i : Nat) (xs : List α) : List α := l.take i ++ xs ++ l.drop (i + xs.length)

theorem splice_length {α : Type} {l : List α} {i : Nat} {xs : List α} (h : i + xs.length ≤ l.length) : (splice l i xs).length = l.length := by
  simp [splice]; omega

theorem VRL.splice {xs ys : List AV} {vs us : List Value} {i : Nat} (h : VRL F μ w xs vs) (h' : VRL F μ w ys us) : VRL F μ w (splice xs i ys) (SL.splice vs i us) := by
  unfold SL.splice
  rw [h'.length]
  exact ((h.take i).append h').append (h.drop _)

theorem splice_nil {α : Type} (l : List α) (i : Nat) : splice l i [] = l := by simp [splice]

theorem splice_cons {α : Type} (l : List α) (i : Nat) (x : α) (xs : List α) (h : i < l.length) : splice l i (x :: xs) = splice (l.set i x) (i + 1) xs := by
  unfold splice
  have h1 : (l.set i x).take (i + 1) = l.take i ++ [x] := by
    rw [List.take_succ_eq_append_getElem (by simpa using h)]
    simp [List.take_set_of_le]
  rw [h1, List.drop_set_of_lt (by omega)]
  simp [Nat.add_assoc, Nat.add_comm 1]

/-- Cells stored one by one. -/
theorem run_storeL (P : Program) {b o el : Nat} {fr : Nat × Nat} : ∀ (vs : List Value) (i : Nat) (w : World) (c : Array Value), w.heap[b]? = some (Obj.cells c el fr) → o + i + vs.length ≤ c.size → NF fr c.size →
    (∀ v ∈ vs, v.oneCell' = true) → ∃ w' c', (storeCells ⟨b, o, none⟩ vs i).run P w = .ok () w' ∧ w'.heap = w.heap.setIfInBounds b (Obj.cells c' el fr) ∧ c'.size = c.size ∧ c'.toList = splice c.toList (o + i) vs ∧ w'.os = w.os ∧ w'.output = w.output
  | [], i, w, c, hb, _, _, _ => by
    refine ⟨w, c, rfl, ?_, rfl, (splice_nil _ _).symm, rfl, rfl⟩
    have hlt := heap_lt hb
    apply Array.ext (by simp)
    intro j h1 h2
    rw [Array.getElem_setIfInBounds (by simpa using h1)]
    split
    · rename_i hj; subst hj; rw [Array.getElem?_eq_getElem hlt] at hb; exact Option.some.inj hb
    · rfl
  | v :: vs, i, w, c, hb, hl, hf, h1 => by
    simp only [List.length_cons] at hl
    have hadd : (⟨b, o, none⟩ : Addr).add i = ⟨b, o + i, none⟩ := by unfold Addr.add; split <;> simp_all
    have hlt : o + i < c.size := by omega
    have hcell : w.cell? ⟨b, o + i, none⟩ = some c[o + i] := by simp [World.cell?, hb, hlt]
    have hfz : w.frozen? ⟨b, o + i, none⟩ = false := by
      have := hf (o + i) hlt
      simp only [World.frozen?, hb]
      rw [Bool.eq_false_iff]
      intro h2
      simp at h2
      exact this h2
    have hst : (store ((⟨b, o, none⟩ : Addr).add i) v).run P w = .ok () (w.setCell ⟨b, o + i, none⟩ v) := by
      rw [hadd, run_store P w _ v _ (h1 v (by simp))]
      simp [hcell, hfz]
    have hheap : (w.setCell ⟨b, o + i, none⟩ v).heap = w.heap.setIfInBounds b (Obj.cells (c.setIfInBounds (o + i) v) el fr) := by
      have hlt' := heap_lt hb
      apply Array.ext (by simp [World.setCell])
      intro j g1 g2
      simp only [World.setCell, Array.getElem_modify]
      rw [Array.getElem_setIfInBounds (by simpa [World.setCell] using g1)]
      split
      · rename_i hj
        subst hj
        have : w.heap[b] = Obj.cells c el fr := by rw [Array.getElem?_eq_getElem hlt'] at hb; exact Option.some.inj hb
        simp [this]
      · rfl
    have hb' : (w.setCell ⟨b, o + i, none⟩ v).heap[b]? = some (Obj.cells (c.setIfInBounds (o + i) v) el fr) := by
      rw [hheap, Array.getElem?_setIfInBounds_self_of_lt (heap_lt hb)]
    obtain ⟨w', c', r1, r2, r3, r4, r5⟩ := run_storeL P (o := o) vs (i + 1) (w.setCell ⟨b, o + i, none⟩ v) (c.setIfInBounds (o + i) v) hb' (by simp; omega) (by simpa using hf) (fun x hx => h1 x (by simp [hx]))
    refine ⟨w', c', ?_, ?_, by simpa using r3, ?_, r5⟩
    · simp only [storeCells, Sem.run_bind, hst, Result.andThen_ok, r1]
    · rw [r2, hheap]
      apply Array.ext (by simp)
      intro j g1 g2
      by_cases hj : b = j <;> simp [Array.getElem_setIfInBounds, hj]
    · rw [r4, splice_cons _ _ _ _ (by simpa using hlt)]
      simp [Nat.add_assoc]

/-- A row that is written. -/
theorem HR.write {hp : List AObj} (h : HR F hp μ w) {o b base esz tot el : Nat} {cells : List AV} {c c' : Array Value} {fr : Nat × Nat} {off : Nat} {xs : List AV} {vs : List Value}
    (ho : hp[o]? = some (AObj.row esz cells)) (hμ : μ[o]? = some (Nm.at b base esz tot)) (hb : w.heap[b]? = some (Obj.cells c el fr)) (hv : VRL F μ w xs vs)
    (hlen : off + xs.length ≤ cells.length) (hw : w'.heap = w.heap.setIfInBounds b (Obj.cells c' el fr)) (hc : c'.size = c.size) (hc' : c'.toList = splice c.toList (base + off) vs) (hoo : w'.os = w.os ∧ w'.output = w.output := by exact ⟨rfl, rfl⟩) :
    HR F (hp.set o (.row esz (splice cells off xs))) μ w' ∧ Fr μ w μ w' := by
  obtain ⟨cells0, c0, el0, fr0, h1, h2, h3, h4, h5, h6⟩ := h.obj o b base esz tot hμ
  rw [ho] at h1; injection h1 with h1; injection h1 with _ h1; subst h1
  rw [hb] at h2; injection h2 with h2; injection h2 with h2 h2' h2''; subst h2; subst h2'; subst h2''
  have hF : Fr μ w μ w' := by
    refine ⟨by rw [hw]; simp, fun b' hb' hn => ?_, fun _ hb => .inl hb, fun _ _ hn => .inl hn, Nat.le_refl _, hoo⟩
    rw [hw]
    have : b ≠ b' := by rintro rfl; exact hn ⟨o, base, esz, tot, hμ⟩
    rw [Array.getElem?_setIfInBounds_ne this]
  refine ⟨⟨by simp [h.len], fun o' b' base' esz' tot' ho' => ?_, fun o' ho' => ?_, fun o' esz' cells' ho' => ?_, h.inj, h.foF hF, h.fbF hF, h.tbF hF⟩, hF⟩
  · obtain ⟨cells', c1, el1, fr1, g1, g2, g3, g4, g5, g6⟩ := h.obj o' b' base' esz' tot' ho'
    by_cases hoo : o = o'
    · subst hoo
      rw [hμ] at ho'
      injection ho' with ho'
      injection ho' with e1 e2 e3 e4
      subst e1; subst e2; subst e3; subst e4
      refine ⟨splice cells off xs, c', el, fr, ?_, ?_, by rw [hc, h3], by rw [splice_length hlen]; exact h4, ?_, h6⟩
      · have : o < hp.length := by
          rcases Nat.lt_or_ge o hp.length with k | k
          · exact k
          · simp [List.getElem?_eq_none k] at ho
        simp [this]
      · rw [hw, Array.getElem?_setIfInBounds_self_of_lt (heap_lt hb)]
      · rw [splice_length hlen]
        have e : ((c'.toList.drop base).take cells.length) = splice ((c.toList.drop base).take cells.length) off vs := by
          rw [hc']
          have hl : c.toList.length = tot := by simpa using h3
          have hvl : vs.length = xs.length := hv.length.symm
          apply List.ext_getElem?
          intro j
          simp only [splice, List.getElem?_take, List.getElem?_drop, List.getElem?_append, List.length_append, List.length_take, List.length_drop]
          grind
        rw [e]
        exact (h5.mono hF).splice (hv.mono hF)
    · refine ⟨cells', c1, el1, fr1, ?_, ?_, g3, g4, g5.mono hF, g6⟩
      · rw [List.getElem?_set_ne hoo]; exact g1
      · have : b ≠ b' := by rintro rfl; exact hoo (h.inj _ _ _ _ _ _ _ _ _ hμ ho')
        rw [hw, Array.getElem?_setIfInBounds_ne this]; exact g2
  · have hoo : o ≠ o' := by rintro rfl; rw [hμ] at ho'; simp at ho'
    rw [List.getElem?_set_ne hoo]; exact h.em o' ho'
  · by_cases hoo : o = o'
    · subst hoo; rw [hμ]; simp
    · rw [List.getElem?_set_ne hoo] at ho'; exact h.live o' esz' cells' ho'

def cellAV : AV → Bool
  | .any | .agg _ | .tup _ => false
  | .sc v => v.oneCell'
  | _ => true

theorem VR.oneCell {x : AV} {v : Value} (h : VR F μ w x v) (hx : cellAV x = true) : v.oneCell' = true := by
  cases h <;> first | rfl | (simpa [cellAV] using hx)

theorem VRL.oneCell {xs : List AV} {vs : List Value} (h : VRL F μ w xs vs) (hx : xs.all cellAV = true) : ∀ v ∈ vs, v.oneCell' = true := by
  induction xs generalizing vs with
  | nil => cases h; simp
  | cons x xs ih =>
    cases h with
    | cons h t =>
      simp only [List.all_cons, Bool.and_eq_true] at hx
      intro v hv
      simp only [List.mem_cons] at hv
      rcases hv with rfl | hv
      · exact h.oneCell hx.1
      · exact ih t hx.2 v hv

/-- Cells read one by one. -/
theorem run_loadL (P : Program) {b off el : Nat} {fr : Nat × Nat} {c : Array Value} {w : World} (k : Nat) (hb : w.heap[b]? = some (Obj.cells c el fr)) (hl : off + k ≤ c.size) :
    (loadCells ⟨b, off, none⟩ k).run P w = .ok ((c.toList.drop off).take k).toArray w := by
  have hk : ((c.toList.drop off).take k).length = k := by simp; omega
  have := run_loadCells_list (P := P) w ⟨b, off, none⟩ ((c.toList.drop off).take k) (fun j v hj => by
    have hj' : j < k := by
      rcases Nat.lt_or_ge j k with h | h
      · exact h
      · rw [List.getElem?_eq_none (by rw [hk]; exact h)] at hj; simp at hj
    have hadd : (⟨b, off, none⟩ : Addr).add j = ⟨b, off + j, none⟩ := by unfold Addr.add; split <;> simp_all
    rw [hadd]
    simp only [World.cell?, hb]
    simp only [List.getElem?_take, hj', if_true, List.getElem?_drop] at hj
    simpa using hj)
  rw [hk] at this
  exact this

end Go.SL
