/-
  Operations that make or move rows: append, copy, literals of slices, make; texts from bytes and back.
-/
import Derived.Test.YtbimmnnjnlfddaaDoorSlE
import Derived.Laws.Append
import Derived.Deep.DeepAppendWide
set_option linter.unusedSimpArgs false
set_option linter.unnecessarySimpa false
set_option linter.unusedVariables false
set_option linter.unusedSectionVars false
namespace Go.SL
open Go
variable [Tabs]

variable {F : Nat → Prop} {μ μ' μ'' : List Nm} {w w' w'' : World} {P : Program} {n : Nat} {env : Nat → AV} {hp : List AObj}
variable {dst : Option Nat} {ty : TypeId} {pos : String} {after : Array Edge} {guard : Option (Nat × Bool)}

/-- A type's zero value, its cells, its bytes. -/
def EI (P : Program) (e : TypeId) (z : Value) (esz bs : Nat) : Prop := (P.info? e).map (fun i => (i.zero, i.size, i.bytes)) = some (some z, esz, bs)

theorem EI.size {e : TypeId} {z : Value} {esz bs : Nat} (h : EI P e z esz bs) : SizeOf P e esz := by
  intro w
  unfold EI at h
  cases hi : P.info? e with
  | none => rw [hi] at h; simp at h
  | some i => rw [hi] at h; simp at h; simp [sizeOf, typeInfo, hi, h.2.1]

theorem EI.zero {e : TypeId} {z : Value} {esz bs : Nat} (h : EI P e z esz bs) : ZeroV P e z := by
  intro w
  unfold EI at h
  cases hi : P.info? e with
  | none => rw [hi] at h; simp at h
  | some i => rw [hi] at h; simp at h; simp [zeroValue, typeInfo, hi, h.1]

theorem EI.info {e : TypeId} {z : Value} {esz bs : Nat} (h : EI P e z esz bs) : ∃ i, (∀ w, (typeInfo e).run P w = .ok i w) ∧ i.bytes = bs := by
  unfold EI at h
  cases hi : P.info? e with
  | none => rw [hi] at h; simp at h
  | some i => rw [hi] at h; simp at h; exact ⟨i, fun w => by simp [typeInfo, hi], h.2.2⟩

/-- What an operand brings to append and copy: m elements, their cells. -/
structure Src (P : Program) (env : Nat → AV) (hp : List AObj) (esz : Nat) (x : Operand) (m : Nat) (X : List AV) : Prop where
  go : ∀ (F : Nat → Prop) (μ : List Nm) (w : World) (a : Act), HR F hp μ w → EnvR F env μ w a.tmps → ∃ vs : List Value, VRL F μ w X vs ∧ (∀ w', w'.heap = w.heap → (Builtin.lenOf (a.eval x)).run P w' = .ok m w' ∧
    ∀ k, k ≤ m → (Builtin.firstCells esz k (a.eval x)).run P w' = .ok (vs.take (k * esz)).toArray w')
  len : X.length = m * esz
  one : X.all cellAV = true

theorem Src.im {x : Operand} {esz m : Nat} {X : List AV} (hx : opd env x = .im esz X) (hm : m * esz = X.length) (hz : 0 < esz) (h1 : X.all cellAV = true) : Src P env hp esz x m X := by
  refine ⟨fun F μ w a hr he => ?_, hm.symm, h1⟩
  have h := he.opd x
  rw [hx] at h
  generalize a.eval x = v at h
  cases h with
  | im0 =>
    have h0' : m * esz = 0 := hm
    have hm0 : m = 0 := by rcases Nat.mul_eq_zero.mp h0' with h3 | h3 <;> omega
    subst hm0
    refine ⟨[], .nil, fun w' hw => ⟨rfl, fun k hk => ?_⟩⟩
    have : k = 0 := by omega
    subst this
    rename_i ad cap
    cases ad with
    | none => simp [Builtin.firstCells]
    | some ad => simp [Builtin.firstCells, loadCells, loadCellsFrom]
  | im h hb hF hn hn2 hv =>
    rename_i b off nn cap c el fr
    have : m = nn := Nat.eq_of_mul_eq_mul_right hz (hm.trans hn.symm)
    subst this
    refine ⟨_, hv, fun w' hw => ⟨rfl, fun k hk => ?_⟩⟩
    have hl := hv.length
    simp only [List.length_take, List.length_drop, Array.length_toList] at hl
    have hkm : k * esz ≤ m * esz := Nat.mul_le_mul_right _ hk
    rcases Nat.eq_zero_or_pos (k * esz) with h0 | h0
    · simp [Builtin.firstCells, h0, loadCells, loadCellsFrom]
    · have := run_loadL P (w := w') (off := off) (k * esz) (hw ▸ h) (by omega)
      simp only [Builtin.firstCells, this]
      rw [List.take_take, Nat.min_eq_left (by omega)]

theorem Src.own {x : Operand} {esz m o off : Nat} {cells : List AV} (hx : opd env x = .sl o off m) (ho : hp[o]? = some (AObj.row esz cells)) (hl : off + m * esz ≤ cells.length)
    (h1 : ((cells.drop off).take (m * esz)).all cellAV = true) : Src P env hp esz x m ((cells.drop off).take (m * esz)) := by
  refine ⟨fun F μ w a hr he => ?_, by simp; omega, h1⟩
  rcases he.sl hr hx ho with ⟨b, base, tot, c, el, fr, kc, g1, g2, g3, g4, g5, g6, g7, g8, g9⟩ | ⟨g1, ad, g2, g3⟩
  · refine ⟨_, window_sub g8 hl, fun w' hw => ⟨by rw [g1]; rfl, fun k hk => ?_⟩⟩
    have hkm : k * esz ≤ m * esz := Nat.mul_le_mul_right _ hk
    have := run_loadL P (w := w') (off := base + off) (k * esz) (hw ▸ g5) (by omega)
    rw [g1]
    simp only [Builtin.firstCells, this]
    rw [List.take_take, Nat.min_eq_left (by omega)]
  · subst g1
    refine ⟨[], by simpa using VRL.nil, fun w' hw => ⟨by rw [g2]; rfl, fun k hk => ?_⟩⟩
    have : k = 0 := by omega
    subst this
    rw [g2]
    cases ad with
    | none => simp [Builtin.firstCells]
    | some ad => simp [Builtin.firstCells, loadCells, loadCellsFrom]

@[reducible] def byteAV (b : UInt8) : AV := .sc (.int .u8 b.toNat)

theorem bytes_rel (l : List UInt8) : VRL F μ w (l.map byteAV) (l.map fun b => .int .u8 b.toNat) := by
  induction l with
  | nil => exact .nil
  | cons b l ih => exact .cons (.sc rfl) ih

theorem bytes_one (l : List UInt8) : (l.map byteAV).all cellAV = true := by
  simp [List.all_map, Function.comp_def, cellAV, Value.oneCell']

theorem Src.str {x : Operand} {s : ByteArray} (hx : opd env x = .sc (.string s)) : Src P env hp 1 x s.size (s.data.toList.map byteAV) := by
  refine ⟨fun F μ w a hr he => ⟨_, bytes_rel _, fun w' hw => ⟨by rw [he.sc hx]; rfl, fun k hk => ?_⟩⟩, by simp only [List.length_map, Nat.mul_one]; rfl, bytes_one _⟩
  rw [he.sc hx]
  simp only [Builtin.firstCells, Sem.run_pure]
  congr 1
  apply Array.ext'
  simp [ByteArray.data_extract, List.map_take, List.extract_eq_take_drop]

theorem Src.nil {x : Operand} {esz : Nat} (hx : opd env x = .nil) : Src P env hp esz x 0 [] := by
  refine ⟨fun F μ w a hr he => ?_, by simp, rfl⟩
  have h := he.opd x
  rw [hx] at h
  generalize a.eval x = v at h
  cases h
  refine ⟨[], .nil, fun w' hw => ⟨rfl, fun k hk => ?_⟩⟩
  have : k = 0 := by omega
  subst this
  rename_i ad
  cases ad with
  | none => simp [Builtin.firstCells]
  | some ad => simp [Builtin.firstCells, loadCells, loadCellsFrom]

theorem HR.kill {o : Nat} (h : HR F hp μ w) (hne : μ[o]? ≠ some Nm.un) : HR F (hp.set o .dead) (μ.set o .dead) w ∧ Fr μ w (μ.set o .dead) w := by
  have key : ∀ o' b base esz tot, (μ.set o Nm.dead)[o']? = some (Nm.at b base esz tot) → o ≠ o' ∧ μ[o']? = some (Nm.at b base esz tot) := by
    intro o' b base esz tot h'
    by_cases hoo : o = o'
    · subst hoo
      rw [List.getElem?_set_self'] at h'
      cases hm : μ[o]? <;> simp [hm] at h'
    · rw [List.getElem?_set_ne hoo] at h'; exact ⟨hoo, h'⟩
  have hF : Fr μ w (μ.set o .dead) w := by
    refine ⟨Nat.le_refl _, fun _ _ _ => rfl, fun b hb => ?_, fun o' nm hn => ?_, by simp, rfl, rfl⟩
    · obtain ⟨o', base, esz, tot, h'⟩ := hb
      exact .inl ⟨o', base, esz, tot, (key _ _ _ _ _ h').2⟩
    · by_cases hoo : o = o'
      · subst hoo
        right
        refine ⟨by rintro rfl; exact hne hn, ?_⟩
        rw [List.getElem?_set_self']
        simp [hn]
      · rw [List.getElem?_set_ne hoo]; exact .inl hn
  refine ⟨⟨by simp [h.len], fun o' b base esz tot ho' => ?_, fun o' ho' => ?_, fun o' esz cells ho' => ?_, fun o1 o2 b base esz tot base' esz' tot' h1 h2 => ?_, h.foF hF, h.fbF hF, h.tbF hF⟩, hF⟩
  · obtain ⟨hoo, h'⟩ := key _ _ _ _ _ ho'
    obtain ⟨cells, c, el, fr, g1, g2, g3, g4, g5, g6⟩ := h.obj _ _ _ _ _ h'
    exact ⟨cells, c, el, fr, by rw [List.getElem?_set_ne hoo]; exact g1, g2, g3, g4, g5.mono hF, g6⟩
  · by_cases hoo : o = o'
    · subst hoo
      rw [List.getElem?_set_self'] at ho'
      cases hm : μ[o]? <;> simp [hm] at ho'
    · rw [List.getElem?_set_ne hoo] at ho' ⊢; exact h.em o' ho'
  · by_cases hoo : o = o'
    · subst hoo
      rw [List.getElem?_set_self'] at ho'
      cases hm : hp[o]? <;> simp [hm] at ho'
    · rw [List.getElem?_set_ne hoo] at ho' ⊢; exact h.live o' esz cells ho'
  · exact h.inj _ _ _ _ _ _ _ _ _ (key _ _ _ _ _ h1).2 (key _ _ _ _ _ h2).2

/-- A new row without a block: it is empty. -/
theorem HR.pushE {esz : Nat} (h : HR F hp μ w) : HR F (hp ++ [.row esz []]) (μ ++ [.em]) w ∧ Fr μ w (μ ++ [.em]) w := by
  have key : ∀ o' b base esz tot, (μ ++ [Nm.em])[o']? = some (Nm.at b base esz tot) → o' < μ.length ∧ μ[o']? = some (Nm.at b base esz tot) := by
    intro o' b base esz tot h'
    rcases Nat.lt_or_ge o' μ.length with h1 | h1
    · rw [List.getElem?_append_left h1] at h'; exact ⟨h1, h'⟩
    · rw [List.getElem?_append_right h1] at h'
      cases hk : o' - μ.length <;> simp [hk] at h'
  have hF : Fr μ w (μ ++ [.em]) w := by
    refine ⟨Nat.le_refl _, fun _ _ _ => rfl, fun b hb => ?_, fun o' nm hn => ?_, by simp, rfl, rfl⟩
    · obtain ⟨o', base, esz, tot, h'⟩ := hb
      exact .inl ⟨o', base, esz, tot, (key _ _ _ _ _ h').2⟩
    · have : o' < μ.length := by
        rcases Nat.lt_or_ge o' μ.length with h1 | h1
        · exact h1
        · simp [List.getElem?_eq_none h1] at hn
      rw [List.getElem?_append_left this]; exact .inl hn
  refine ⟨⟨by simp [h.len], fun o' b base esz tot ho' => ?_, fun o' ho' => ?_, fun o' esz cells ho' => ?_, fun o1 o2 b base esz tot base' esz' tot' h1 h2 => ?_, h.foF hF, h.fbF hF, h.tbF hF⟩, hF⟩
  · obtain ⟨hlt, h'⟩ := key _ _ _ _ _ ho'
    obtain ⟨cells, c, el, fr, g1, g2, g3, g4, g5, g6⟩ := h.obj _ _ _ _ _ h'
    exact ⟨cells, c, el, fr, by rw [List.getElem?_append_left (by rw [← h.len]; exact hlt)]; exact g1, g2, g3, g4, g5.mono hF, g6⟩
  · rcases Nat.lt_or_ge o' μ.length with h1 | h1
    · rw [List.getElem?_append_left h1] at ho'
      rw [List.getElem?_append_left (by rw [← h.len]; exact h1)]
      exact h.em o' ho'
    · rw [List.getElem?_append_right h1] at ho'
      cases hk : o' - μ.length with
      | succ k => simp [hk] at ho'
      | zero => rw [List.getElem?_append_right (by rw [← h.len]; exact h1), ← h.len, hk]; exact ⟨esz, rfl⟩
  · intro hd
    rcases Nat.lt_or_ge o' μ.length with h1 | h1
    · rw [List.getElem?_append_left h1] at hd
      rw [List.getElem?_append_left (by rw [← h.len]; exact h1)] at ho'
      exact h.live o' esz cells ho' hd
    · rw [List.getElem?_append_right h1] at hd
      cases hk : o' - μ.length <;> simp [hk] at hd
  · exact h.inj _ _ _ _ _ _ _ _ _ (key _ _ _ _ _ h1).2 (key _ _ _ _ _ h2).2

theorem idx_new {l : List Nm} {k : Nat} (h : k = l.length) (x : Nm) : (l ++ [x])[k]? = some x := by subst h; simp

def notInt (d : TypeDesc) : Prop := (∃ e, d = .slice e) ∨ d = .string

/-- append where there is room. -/
theorem run_append_in {sT xT e : TypeId} {z : Value} {esz bs len k m : Nat} {base : Option Addr} {x : Value} {d : TypeDesc} {vs : List Value} {w w1 : World}
    (ht : Und P sT (.slice e)) (hi : EI P e z esz bs) (hxt : Und P xT d) (hd : notInt d) (hl : (Builtin.lenOf x).run P w = .ok m w)
    (hf : (Builtin.firstCells esz m x).run P w = .ok vs.toArray w) (hk : len + m ≤ k)
    (hst : (match base with | some a => storeCells (a.add (len * esz)) vs | none => pure ()).run P w = .ok () w1) :
    (Builtin.append_ #[sT, xT] ty #[.slice base len k, x]).run P w = .ok (.slice base (len + m) k) w1 := by
  unfold Builtin.append_
  cases base with
  | none =>
    simp at hst; subst hst
    rcases hd with ⟨e', rfl⟩ | rfl <;> simp [ht w, hi.size w, hxt w, hl, hf, hk]
  | some a =>
    simp only at hst
    rcases hd with ⟨e', rfl⟩ | rfl <;> simp [ht w, hi.size w, hxt w, hl, hf, hk, hst]

theorem zeroCells_len (z : Array Value) (k : Nat) : (Builtin.zeroCells z k).size = k * z.size := by simp [Builtin.zeroCells]

/-- append where there is none: a new row. -/
theorem run_append_out {sT xT e : TypeId} {z : Value} {esz bs len k m : Nat} {base : Option Addr} {x : Value} {d : TypeDesc} {vs old : List Value} {w : World}
    (ht : Und P sT (.slice e)) (hi : EI P e z esz bs) (hxt : Und P xT d) (hd : notInt d) (hl : (Builtin.lenOf x).run P w = .ok m w)
    (hf : ∀ w', w'.heap = w.heap → (Builtin.firstCells esz m x).run P w' = .ok vs.toArray w') (hk : k < len + m) (hb : (len + m) * bs ≤ 140737488355328 ∨ (bs = 1 ∧ len + m ≤ 200000000000000))
    (hold : ∀ w', w'.heap = w.heap → (Builtin.firstCells esz len (.slice base len k)).run P w' = .ok old.toArray w') (hbz : bs ≠ 0) :
    ∃ w' rest newCap, (Builtin.append_ #[sT, xT] ty #[.slice base len k, x]).run P w = .ok (.slice (some ⟨w.heap.size, 0, none⟩) (len + m) newCap) w' ∧
      w'.heap = w.heap.push (.cells (old.toArray ++ vs.toArray ++ rest) e) ∧ len + m ≤ newCap ∧ rest.size = (newCap - (len + m)) * z.cells.size ∧ w'.os = w.os ∧ w'.output = w.output := by
  obtain ⟨i, hinf, hib⟩ := hi.info
  have hgf : Builtin.nextslicecap (len + m) k * bs ≤ 281474976710656 := by
    rcases hb with hb | ⟨rfl, hb⟩
    · exact growslice_fits hk hb
    · exact growslice_fits_wide hk (by omega)
  have hgf' : ¬ (Builtin.nextslicecap (len + m) k * i.bytes > 2 ^ 48) := by rw [hib]; omega
  have e0 : ¬ (len + m ≤ k) := by omega
  have hq : (Question.appendCap (len + m) k e).forced = false := rfl
  generalize hc : (Question.appendCap (len + m) k e).cut (w.tape w.drawn (.appendCap (len + m) k e)) = newCap
  have hcap : len + m ≤ newCap := by rw [← hc]; simp [Question.cut]
  refine ⟨w.drew.alloc (.cells (old.toArray ++ vs.toArray ++ Builtin.zeroCells z.cells (newCap - (len + m))) e), Builtin.zeroCells z.cells (newCap - (len + m)), newCap, ?_, rfl, hcap, zeroCells_len _ _, rfl, rfl⟩
  have hf2 := hf w.drew rfl
  have ho2 := hold w.drew rfl
  have hbz' : i.bytes ≠ 0 := by rw [hib]; exact hbz
  unfold Builtin.append_
  rcases hd with ⟨e', rfl⟩ | rfl <;> simp [ht w, hi.size w, hxt w, hl, e0, hinf w, hinf _, hgf', hbz', hq, hc, hf2, ho2, hi.zero _, newRow]
  all_goals (congr 2; apply Array.ext'; simp)

theorem take_all {xs : List AV} {vs : List Value} {k : Nat} (h : VRL F μ w xs vs) (hk : xs.length = k) : vs.take k = vs := by
  rw [← hk, h.length]; exact List.take_of_length_le (Nat.le_refl _)

theorem step_append {sT xT e : TypeId} {z : Value} {esz bs len m o off : Nat} {s x : Operand} {d : TypeDesc} {cells X : List AV} (ht : Und P sT (.slice e)) (hi : EI P e z esz bs) (hxt : Und P xT d) (hd : notInt d)
    (hx : opd env s = .sl o off len) (ho : hp[o]? = some (AObj.row esz cells)) (hend : off + len * esz = cells.length) (hs : Src P env hp esz x m X) (hb : (len + m) * bs ≤ 140737488355328 ∨ (bs = 1 ∧ len + m ≤ 200000000000000)) (hz : 0 < esz) (hbz : bs ≠ 0) (hzs : z.cells.size = esz) :
    Step P ⟨dst, .call ⟨.builtin .append, #[s, x], #[sT, xT]⟩, ty, pos, after, guard⟩ env hp (is (.sl hp.length 0 (len + m)) (hp.set o .dead ++ [.row esz (cells.drop off ++ X)])) := by
  refine Step.of fun F μ w a hr he => ?_
  obtain ⟨vs, hv, hgo⟩ := hs.go F μ w a hr he
  obtain ⟨hl, hf⟩ := hgo w rfl
  have hvl : vs.length = m * esz := by rw [← hv.length]; exact hs.len
  have hf' : ∀ w', w'.heap = w.heap → (Builtin.firstCells esz m (a.eval x)).run P w' = .ok vs.toArray w' := by
    intro w' hw
    have := (hgo w' hw).2 m (Nat.le_refl _)
    rwa [take_all hv hs.len] at this
  have h1v := hv.oneCell hs.one
  have hne : μ[o]? ≠ some Nm.un := by
    rcases he.sl hr hx ho with ⟨b, base, tot, c, el, fr, kc, g1, g2, g3, g4, _⟩ | ⟨_, ad, _, ⟨b, base, tot, g3⟩ | g3⟩
    · rw [g4]; simp
    · rw [g3]; simp
    · rw [g3]; simp
  obtain ⟨hk, hkF⟩ := hr.kill (o := o) hne
  have hlen : (hp.set o AObj.dead).length = hp.length := by simp
  have hlenμ : (μ.set o Nm.dead).length = hp.length := by simp [hr.len]
  have hexec : ∀ base k w1 v, (Builtin.append_ #[sT, xT] ty #[.slice base len k, a.eval x]).run P w = .ok v w1 → a.eval s = .slice base len k →
      (execOp a.eval ⟨dst, .call ⟨.builtin .append, #[s, x], #[sT, xT]⟩, ty, pos, after, guard⟩).run P w = .ok (.value v) w1 := by
    intro base k w1 v h1 h2
    simp [execOp, resolve, invoke, builtin, h2, h1]
  -- a new row
  have hout : ∀ base k, a.eval s = .slice base len k → k < len + m → (∃ old : List Value, VRL F μ w (cells.drop off) old ∧ ∀ w', w'.heap = w.heap → (Builtin.firstCells esz len (.slice base len k)).run P w' = .ok old.toArray w') →
      ∃ v w' μ', (execOp a.eval ⟨dst, .call ⟨.builtin .append, #[s, x], #[sT, xT]⟩, ty, pos, after, guard⟩).run P w = .ok (.value v) w' ∧
        HR F (hp.set o .dead ++ [.row esz (cells.drop off ++ X)]) μ' w' ∧ VR F μ' w' (.sl hp.length 0 (len + m)) v ∧ Fr μ w μ' w' := by
    intro base k hbase hkm ⟨old, hov, hold⟩
    obtain ⟨w', rest, nc, r1, r2, r3, r4, r5⟩ := run_append_out (ty := ty) ht hi hxt hd hl hf' hkm hb hold hbz
    have hol : old.length = len * esz := by rw [← hov.length]; simp; omega
    have hX : VRL F (μ.set o Nm.dead) w (cells.drop off ++ X) ((old.toArray ++ vs.toArray ++ rest).toList.take (cells.drop off ++ X).length) := by
      have e1 : (cells.drop off ++ X).length = (old ++ vs).length := by rw [List.length_append, List.length_append, hol, hvl, hs.len, List.length_drop]; omega
      rw [e1]
      have e2 : (old.toArray ++ vs.toArray ++ rest).toList.take (old ++ vs).length = old ++ vs := by rw [show (old.toArray ++ vs.toArray ++ rest).toList = (old ++ vs) ++ rest.toList by simp, List.take_left]
      rw [e2]
      exact (hov.mono hkF).append (hv.mono hkF)
    have hsz : (old.toArray ++ vs.toArray ++ rest).size = nc * esz := by
      simp only [Array.size_append, List.size_toArray, hol, hvl, r4, hzs]
      rw [← Nat.add_mul, ← Nat.add_mul]; congr 1; omega
    obtain ⟨g1, g2⟩ := hk.push (esz := esz) hX (by rw [hsz]; simp [hs.len]; have : (len + m) * esz ≤ nc * esz := Nat.mul_le_mul_right _ r3; rw [Nat.add_mul] at this; omega) (NF_zero _) r2 r5
    refine ⟨_, w', _, hexec _ _ _ _ r1 hbase, g1, ?_, hkF.trans g2⟩
    refine VR.sl (base := 0) (off := 0) (esz := esz) (idx_new (by rw [hlenμ]) _) ?_ r3
    rw [hsz]; omega
  rcases he.sl hr hx ho with ⟨b, base, tot, c, el, fr, kc, g1, g2, g3, g4, g5, g6, g7, g8, g9⟩ | ⟨g1, ad, g2, g3⟩
  · by_cases hin : len + m ≤ kc
    · -- in place
      have hkk : (len + m) * esz ≤ kc * esz := Nat.mul_le_mul_right _ hin
      rw [Nat.add_mul] at hkk
      obtain ⟨w1, c', r1, r2, r3, r4, r5⟩ := run_storeL P (o := base + off + len * esz) vs 0 w c g5 (by omega) (g6 ▸ g9) h1v
      have r1' : (storeCells ((⟨b, base + off, none⟩ : Addr).add (len * esz)) vs).run P w = .ok () w1 := by rw [addr_add]; exact r1
      have hap := run_append_in (ty := ty) (base := some ⟨b, base + off, none⟩) ht hi hxt hd hl (hf' w rfl) hin r1'
      have hbl : blocks μ b := ⟨o, base, esz, tot, g4⟩
      have hF : Fr μ w ((μ.set o .dead) ++ [.at b (base + off) esz tot]) w1 := by
        refine ⟨by rw [r2]; simp, fun b' hb' hn => ?_, fun b' hb' => ?_, fun o' nm hn => ?_, by simp, r5⟩
        · rw [r2]
          have : b ≠ b' := by rintro rfl; exact hn hbl
          rw [Array.getElem?_setIfInBounds_ne this]
        · obtain ⟨o', base', esz', tot', ho'⟩ := hb'
          rcases Nat.lt_or_ge o' (μ.set o Nm.dead).length with h1 | h1
          · rw [List.getElem?_append_left h1] at ho'
            rcases hkF.new b' ⟨o', base', esz', tot', ho'⟩ with h2 | h2
            · exact .inl h2
            · exact .inl (by have := hk.lt ⟨o', base', esz', tot', ho'⟩; omega)
          · rw [List.getElem?_append_right h1] at ho'
            cases hkk : o' - (μ.set o Nm.dead).length with
            | succ q => rw [hkk] at ho'; simp at ho'
            | zero => rw [hkk] at ho'; simp at ho'; rw [← ho'.1]; exact .inl hbl
        · have hlt : o' < μ.length := by
            rcases Nat.lt_or_ge o' μ.length with h1 | h1
            · exact h1
            · simp [List.getElem?_eq_none h1] at hn
          rw [List.getElem?_append_left (by simpa using hlt)]
          exact hkF.ext o' nm hn
      refine ⟨_, w1, _, hexec _ _ _ _ hap g1, ?_, ?_, hF⟩
      · have key : ∀ o' b' base' esz' tot', ((μ.set o Nm.dead) ++ [Nm.at b (base + off) esz tot])[o']? = some (Nm.at b' base' esz' tot') →
            (o ≠ o' ∧ o' < μ.length ∧ μ[o']? = some (Nm.at b' base' esz' tot')) ∨ (o' = μ.length ∧ b' = b ∧ base' = base + off ∧ esz' = esz ∧ tot' = tot) := by
          intro o' b' base' esz' tot' ho'
          rcases Nat.lt_or_ge o' (μ.set o Nm.dead).length with h1 | h1
          · left
            rw [List.getElem?_append_left h1] at ho'
            by_cases hoo : o = o'
            · subst hoo
              rw [List.getElem?_set_self'] at ho'
              cases hm : μ[o]? <;> simp [hm] at ho'
            · rw [List.getElem?_set_ne hoo] at ho'; exact ⟨hoo, by simpa using h1, ho'⟩
          · right
            rw [List.getElem?_append_right h1] at ho'
            cases hkk : o' - (μ.set o Nm.dead).length with
            | succ q => rw [hkk] at ho'; simp at ho'
            | zero =>
              rw [hkk] at ho'; simp at ho' hkk h1
              exact ⟨by omega, ho'.1.symm, ho'.2.1.symm, ho'.2.2.1.symm, ho'.2.2.2.symm⟩
        refine ⟨by simp [hr.len], fun o' b' base' esz' tot' ho' => ?_, fun o' ho' => ?_, fun o' esz' cells' ho' => ?_, fun o1 o2 b' base1 esz1 tot1 base2 esz2 tot2 h1 h2 => ?_, hr.foF hF, hr.fbF hF, hr.tbF hF⟩
        · rcases key _ _ _ _ _ ho' with ⟨hoo, hlt, hm⟩ | ⟨e1, e2, e3, e4, e5⟩
          · obtain ⟨cells', c1, el1, fr1, k1, k2, k3, k4, k5, k6⟩ := hr.obj _ _ _ _ _ hm
            refine ⟨cells', c1, el1, fr1, ?_, ?_, k3, k4, k5.mono hF, k6⟩
            · rw [List.getElem?_append_left (by rw [hlen, ← hr.len]; exact hlt), List.getElem?_set_ne hoo]; exact k1
            · have : b ≠ b' := by rintro rfl; exact hoo (hr.inj _ _ _ _ _ _ _ _ _ g4 hm)
              rw [r2, Array.getElem?_setIfInBounds_ne this]; exact k2
          · have e4' := e4.symm
            have e5' := e5.symm
            have e2' := e2.symm
            have e3' := e3.symm
            subst e1; subst e2'; subst e3'; subst e4'; subst e5'
            refine ⟨cells.drop off ++ X, c', el, fr, ?_, ?_, by rw [r3, g6], ?_, ?_, g9⟩
            · rw [hr.len, ← hlen]; simp
            · rw [r2, Array.getElem?_setIfInBounds_self_of_lt (heap_lt g5)]
            · simp [hs.len]; omega
            · have e : (c'.toList.drop (base + off)).take (cells.drop off ++ X).length = (c.toList.drop (base + off)).take (len * esz) ++ vs := by
                have hcl : c.toList.length = tot := by simpa using g6
                rw [r4]
                apply List.ext_getElem?
                intro j
                simp only [splice, List.getElem?_take, List.getElem?_drop, List.getElem?_append, List.length_append, List.length_take, List.length_drop, hs.len, hvl]
                grind
              rw [e]
              have h3 := window_sub (off := off) (k := len * esz) g8 (by omega)
              rw [List.take_of_length_le (by simp; omega)] at h3
              exact (h3.mono hF).append (hv.mono hF)
        · rcases Nat.lt_or_ge o' (μ.set o Nm.dead).length with h1 | h1
          · rw [List.getElem?_append_left h1] at ho'
            rw [List.getElem?_append_left (by rw [hlen, ← hlenμ]; exact h1)]
            exact hk.em o' ho'
          · rw [List.getElem?_append_right h1] at ho'
            cases hkk : o' - (μ.set o Nm.dead).length <;> (rw [hkk] at ho'; simp at ho')
        · intro hdd
          rcases Nat.lt_or_ge o' (μ.set o Nm.dead).length with h1 | h1
          · rw [List.getElem?_append_left h1] at hdd
            rw [List.getElem?_append_left (by rw [hlen, ← hlenμ]; exact h1)] at ho'
            exact hk.live o' esz' cells' ho' hdd
          · rw [List.getElem?_append_right h1] at hdd
            cases hkk : o' - (μ.set o Nm.dead).length <;> (rw [hkk] at hdd; simp at hdd)
        · rcases key _ _ _ _ _ h1 with ⟨hoo, hlt, hm⟩ | ⟨e1, e2, _⟩ <;> rcases key _ _ _ _ _ h2 with ⟨hoo', hlt', hm'⟩ | ⟨e1', e2', _⟩
          · exact hr.inj _ _ _ _ _ _ _ _ _ hm hm'
          · subst e2'; exact absurd (hr.inj _ _ _ _ _ _ _ _ _ g4 hm) hoo
          · subst e2; exact absurd (hr.inj _ _ _ _ _ _ _ _ _ g4 hm') hoo'
          · omega
      · have := VR.sl (F := F) (μ := (μ.set o .dead) ++ [.at b (base + off) esz tot]) (w := w1) (o := hp.length) (off := 0) (len := len + m) (c := kc) (idx_new (by rw [hlenμ]) _) (by omega) hin
        simpa using this
    · refine hout _ _ g1 (by omega) ⟨(c.toList.drop (base + off)).take (len * esz), ?_, fun w' hw => ?_⟩
      · have h3 := window_sub (off := off) (k := len * esz) g8 (by omega)
        rwa [List.take_of_length_le (by simp; omega)] at h3
      · exact run_loadL P (w := w') (off := base + off) (len * esz) (hw ▸ g5) (by omega)
  · subst g1
    have hce : cells.drop off = [] := by
      apply List.eq_nil_of_length_eq_zero
      simp; omega
    rcases Nat.eq_zero_or_pos m with hm | hm
    · subst hm
      have hX : X = [] := by apply List.eq_nil_of_length_eq_zero; rw [hs.len]; simp
      have hvs : vs = [] := by apply List.eq_nil_of_length_eq_zero; rw [hvl]; simp
      subst hX; subst hvs
      have hap := run_append_in (ty := ty) (base := ad) (k := 0) (len := 0) (w1 := w) ht hi hxt hd hl (hf' w rfl) (by omega) (by cases ad <;> rfl)
      obtain ⟨p1, p2⟩ := hk.pushE (esz := esz)
      rw [hce]
      exact ⟨_, w, _, hexec _ _ _ _ hap g2, p1, .slE (idx_new (by rw [hlenμ]) _), hkF.trans p2⟩
    · refine hout _ _ g2 (by omega) ⟨[], by rw [hce]; exact .nil, fun w' hw => ?_⟩
      cases ad with
      | none => simp [Builtin.firstCells]
      | some ad => simp [Builtin.firstCells, loadCells, loadCellsFrom]

/-- append onto nothing. -/
theorem step_append0 {sT xT e : TypeId} {z : Value} {esz bs m : Nat} {s x : Operand} {d : TypeDesc} {X : List AV} (ht : Und P sT (.slice e)) (hi : EI P e z esz bs) (hxt : Und P xT d) (hd : notInt d)
    (hx : opd env s = .nil) (hs : Src P env hp esz x m X) (hb : m * bs ≤ 140737488355328) (hz : 0 < esz) (hbz : bs ≠ 0) (hzs : z.cells.size = esz) :
    Step P ⟨dst, .call ⟨.builtin .append, #[s, x], #[sT, xT]⟩, ty, pos, after, guard⟩ env hp (is (.sl hp.length 0 m) (hp ++ [.row esz X])) := by
  refine Step.of fun F μ w a hr he => ?_
  obtain ⟨vs, hv, hgo⟩ := hs.go F μ w a hr he
  obtain ⟨hl, hf⟩ := hgo w rfl
  have hvl : vs.length = m * esz := by rw [← hv.length]; exact hs.len
  have hf' : ∀ w', w'.heap = w.heap → (Builtin.firstCells esz m (a.eval x)).run P w' = .ok vs.toArray w' := by
    intro w' hw
    have := (hgo w' hw).2 m (Nat.le_refl _)
    rwa [take_all hv hs.len] at this
  have h1 := he.opd s
  rw [hx] at h1
  generalize hev : a.eval s = v at h1
  cases h1 with
  | nil =>
    rename_i ad
    have hexec : ∀ w1 v, (Builtin.append_ #[sT, xT] ty #[.slice ad 0 0, a.eval x]).run P w = .ok v w1 →
        (execOp a.eval ⟨dst, .call ⟨.builtin .append, #[s, x], #[sT, xT]⟩, ty, pos, after, guard⟩).run P w = .ok (.value v) w1 := by
      intro w1 v h1
      simp [execOp, resolve, invoke, builtin, hev, h1]
    rcases Nat.eq_zero_or_pos m with hm | hm
    · subst hm
      have hX : X = [] := by apply List.eq_nil_of_length_eq_zero; rw [hs.len]; simp
      have hvs : vs = [] := by apply List.eq_nil_of_length_eq_zero; rw [hvl]; simp
      subst hX; subst hvs
      have hap := run_append_in (ty := ty) (base := ad) (k := 0) (len := 0) (w1 := w) ht hi hxt hd hl (hf' w rfl) (by omega) (by cases ad <;> rfl)
      obtain ⟨p1, p2⟩ := hr.pushE (esz := esz)
      exact ⟨_, w, _, hexec _ _ hap, p1, .slE (idx_new hr.len.symm _), p2⟩
    · obtain ⟨w', rest, nc, r1, r2, r3, r4, r5⟩ := run_append_out (ty := ty) (base := ad) (len := 0) (k := 0) (old := []) ht hi hxt hd hl hf' (by omega) (.inl (by simpa using hb)) (fun w' hw => by
        cases ad with
        | none => simp [Builtin.firstCells]
        | some ad => simp [Builtin.firstCells, loadCells, loadCellsFrom]) hbz
      have hX : VRL F μ w X (([].toArray ++ vs.toArray ++ rest).toList.take X.length) := by
        have e2 : ([].toArray ++ vs.toArray ++ rest).toList.take X.length = vs := by rw [hv.length]; simp
        rw [e2]; exact hv
      have hsz : ([].toArray ++ vs.toArray ++ rest : Array Value).size = nc * esz := by
        simp only [Array.size_append, List.size_toArray, List.length_nil, hvl, r4, hzs, Nat.zero_add]
        rw [← Nat.add_mul]; congr 1; omega
      obtain ⟨g1, g2⟩ := hr.push (esz := esz) hX (by rw [hsz, hs.len]; exact Nat.mul_le_mul_right _ (by omega)) (NF_zero _) r2 r5
      refine ⟨_, w', _, hexec _ _ r1, g1, ?_, g2⟩
      have := VR.sl (F := F) (μ := μ ++ [.at w.heap.size 0 esz ([].toArray ++ vs.toArray ++ rest : Array Value).size]) (w := w') (o := hp.length) (off := 0) (len := 0 + m) (c := nc) (idx_new hr.len.symm _) (by rw [hsz]; omega) r3
      simpa using this

end Go.SL
