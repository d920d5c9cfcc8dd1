/-
  Regions whose order is open: one walk in the text's order, with what makes every other order come to the same.
-/
import Derived.Test.YtbimmnnjnlfddaaDoorSlI
set_option linter.unusedSimpArgs false
set_option linter.unnecessarySimpa false
set_option linter.unusedVariables false
set_option linter.unusedSectionVars false
namespace Go.SL
open Go
variable [Tabs]

variable {F F' : Nat → Prop} {μ μ' μ'' : List Nm} {w w' w'' : World} {P : Program} {n : Nat} {env : Nat → AV} {hp : List AObj}
variable {dst : Option Nat} {ty : TypeId} {pos : String} {after : Array Edge} {guard : Option (Nat × Bool)}

/-- An operation that makes one row and reads none. -/
def StepAl (P : Program) (o : Oper) (env : Nat → AV) (esz : Nat) (cells : List AV) (mk : Nat → AV) : Prop :=
  ∀ (F : Nat → Prop) (μ : List Nm) (w : World) (a : Act), EnvR F env μ w a.tmps → ∃ v w' c el fr, (execOp a.eval o).run P w = .ok (.value v) w' ∧ w'.heap = w.heap.push (.cells c el fr) ∧ (w'.os = w.os ∧ w'.output = w.output) ∧
    VRL F μ w cells (c.toList.take cells.length) ∧ cells.length ≤ c.size ∧ NF fr c.size ∧
    ∀ (F' : Nat → Prop) (μ' : List Nm) (k : Nat), μ'[k]? = some (Nm.at w.heap.size 0 esz c.size) → VR F' μ' w' (mk k) v

theorem StepAl.step {o : Oper} {esz : Nat} {cells : List AV} {mk : Nat → AV} (h : StepAl P o env esz cells mk) : Step P o env hp (is (mk hp.length) (hp ++ [.row esz cells])) := by
  refine Step.of fun F μ w a hr he => ?_
  obtain ⟨v, w', c, el, fr, h1, h2, hoo, h3, h4, h5, h6⟩ := h F μ w a he
  obtain ⟨g1, g2⟩ := hr.push (esz := esz) h3 h4 h5 h2 hoo
  exact ⟨v, w', _, h1, g1, h6 _ _ _ (idx_new hr.len.symm _), g2⟩

theorem al_alloc {t : TypeId} {z : Value} (hz : ZeroV P t z) : StepAl P ⟨dst, .alloc t, ty, pos, after, guard⟩ env 1 (z.cells.toList.map litC) (fun k => .ptr k 0) := by
  intro F μ w a he
  refine ⟨.pointer (some ⟨w.heap.size, 0, none⟩), { w with heap := w.heap.push (.cells z.cells t) }, z.cells, t, (0, 0), ?_, rfl, ⟨rfl, rfl⟩, litL_take _, by simp, NF_zero _, fun F' μ' k hk => .ptr (base := 0) (off := 0) hk⟩
  simp [execOp, Instr.alloc, hz w, newVar, newRow]

theorem al_box {t : TypeId} {x : Operand} {v : AV} (hx : opd env x = v) (hc : (cellsOf v).all cellAV = true) : StepAl P ⟨dst, .box t x, ty, pos, after, guard⟩ env 1 (cellsOf v) (fun k => .ptr k 0) := by
  intro F μ w a he
  have hv := he.opd x
  rw [hx] at hv
  have hvl := hv.cells hc
  have hlen := hvl.length
  refine ⟨.pointer (some ⟨w.heap.size, 0, none⟩), { w with heap := w.heap.push (.cells (a.eval x).cells t) }, (a.eval x).cells, t, (0, 0), ?_, rfl, ⟨rfl, rfl⟩, ?_, by simp at hlen; omega, NF_zero _, fun F' μ' k hk => .ptr (base := 0) (off := 0) hk⟩
  · simp [execOp, Instr.box, newVar, newRow]
  · rw [hlen, List.take_of_length_le (Nat.le_refl _)]; exact hvl

theorem al_buildSlice {t e : TypeId} {z : Value} {esz bs len : Nat} {parts : Array (Nat × Operand)} {out : List AV} (ht : Und P t (.slice e)) (hi : EI P e z esz bs) (hzs : z.cells.size = esz) (hl : len * esz ≤ 16777216)
    (hf : fillAV (fun i => some (i * esz, esz)) (zerosAV z len) (parts.toList.map fun p => (p.1, opd env p.2)) = some out) (hout : out.length = len * esz) :
    StepAl P ⟨dst, .buildSlice t len parts, ty, pos, after, guard⟩ env esz out (fun k => .sl k 0 len) := by
  subst hzs
  intro F μ w a he
  have hzr := zerosAV_rel (F := F) (μ := μ) (w := w) z len len (Nat.le_refl _)
  rw [List.take_of_length_le (by simp)] at hzr
  obtain ⟨cs', hc1, hc2⟩ := fill_rel (F := F) (μ := μ) (w := w) (parts := parts.toList.map fun p => (p.1, opd env p.2)) (parts' := (parts.map fun (i, x) => (i, a.eval x)).toList)
    (cs := (Array.range (len * z.cells.size)).map fun i => z.cells[i % z.cells.size]!)
    (by simp [Function.comp_def]) (by simpa using mapPartsVRL he parts.toList) hzr hf
  have hcl : cs'.size = len * z.cells.size := by have := hc2.length; simp at this; omega
  refine ⟨.slice (some ⟨w.heap.size, 0, none⟩) len len, { w with heap := w.heap.push (.cells cs' e) }, cs', e, (0, 0), ?_, rfl, ⟨rfl, rfl⟩, by rw [List.take_of_length_le (by simp [hout, hcl])]; exact hc2, by omega, NF_zero _,
    fun F' μ' k hk => .sl (base := 0) (off := 0) hk (by omega) (Nat.le_refl _)⟩
  have hl' : ¬ (len * z.cells.size > 2 ^ 24) := by omega
  have : (Instr.buildSlice t len (parts.map fun (i, x) => (i, a.eval x))).run P w = .ok (.slice (some ⟨w.heap.size, 0, none⟩) len len) { w with heap := w.heap.push (.cells cs' e) } := by
    unfold Instr.buildSlice
    simp only [Sem.run_bind, ht w, hi.size w, Result.andThen_ok]
    rw [if_neg hl']
    rcases Nat.eq_zero_or_pos (len * z.cells.size) with h0 | h0
    · rw [if_pos h0]
      simp only [Sem.run_bind, Sem.run_pure, Result.andThen_ok]
      rw [h0]
      rw [h0] at hc1
      have e1 : (Array.map (fun x => (#[] : Array Value)[x % (#[] : Array Value).size]!) (Array.range 0)) = #[] := by simp
      have e2 : (Array.map (fun i => z.cells[i % z.cells.size]!) (Array.range 0)) = #[] := by simp
      rw [e2] at hc1
      rw [e1, hc1]
      rfl
    · rw [if_neg (by omega)]
      simp only [Sem.run_bind, Sem.run_pure, Result.andThen_ok, hi.zero w]
      rw [hc1]
      rfl
  simp [execOp, this]

/-- What an operation of a region does: nothing, as its guard is off; a value, where some rows read so; a new row; more. -/
inductive Kd where
  | sk
  | q (r : AV) (O : List (Nat × AObj))
  | al (esz : Nat) (cells : List AV) (mk : Nat → AV)
  | ef (r : AV) (hp' : List AObj)

def Kd.val (hp : List AObj) : Kd → AV
  | .sk => .sc undef
  | .q r _ => r
  | .al _ _ mk => mk hp.length
  | .ef r _ => r
def Kd.heap (hp : List AObj) : Kd → List AObj
  | .sk => hp
  | .q _ _ => hp
  | .al e c _ => hp ++ [.row e c]
  | .ef _ hp' => hp'
def Kd.isEf : Kd → Bool
  | .ef _ _ => true
  | _ => false

abbrev TR := List (Oper × Kd)

def hpAt : TR → List AObj → Nat → List AObj
  | _, hp, 0 => hp
  | [], hp, _ + 1 => hp
  | (_, k) :: T, hp, i + 1 => hpAt T (k.heap hp) i
def envAt : TR → List AObj → (Nat → AV) → Nat → (Nat → AV)
  | _, _, e, 0 => e
  | [], _, e, _ + 1 => e
  | (o, k) :: T, hp, e, i + 1 => envAt T (k.heap hp) (put e o.dst (k.val hp)) i
def hsOf : TR → List AObj → List (List AObj)
  | [], hp => [hp]
  | (_, k) :: T, hp => bif k.isEf then hp :: hsOf T (k.heap hp) else hsOf T (k.heap hp)
def biOf : TR → List AObj → List AObj → List AObj
  | [], _, bi => bi
  | (_, k) :: T, hp, bi => biOf T (k.heap hp) (bi ++ (k.heap hp).drop hp.length)
/-- The rows when m of the effects have been carried out, each row that is made later as it is when it is made. -/
def CL (T : TR) (hp : List AObj) (m : Nat) : List AObj := (hsOf T hp).getD m [] ++ (biOf T hp hp).drop ((hsOf T hp).getD m []).length
/-- How many effects stand ahead of place i. -/
def efs : TR → Nat → Nat
  | _, 0 => 0
  | [], _ + 1 => 0
  | (_, k) :: T, i + 1 => (bif k.isEf then 1 else 0) + efs T i

theorem hpAt_succ : ∀ (T : TR) (hp : List AObj) (i : Nat) (o : Oper) (k : Kd), T[i]? = some (o, k) → hpAt T hp (i + 1) = k.heap (hpAt T hp i)
  | [], _, _, _, _, h => by simp at h
  | (o', k') :: T, hp, 0, o, k, h => by
    simp at h
    obtain ⟨_, rfl⟩ := h
    cases T <;> rfl
  | (o', k') :: T, hp, i + 1, o, k, h => by
    have := hpAt_succ T (k'.heap hp) i o k (by simpa using h)
    exact this

theorem envAt_succ : ∀ (T : TR) (hp : List AObj) (e : Nat → AV) (i : Nat) (o : Oper) (k : Kd), T[i]? = some (o, k) → envAt T hp e (i + 1) = put (envAt T hp e i) o.dst (k.val (hpAt T hp i))
  | [], _, _, _, _, _, h => by simp at h
  | (o', k') :: T, hp, e, 0, o, k, h => by
    simp at h
    obtain ⟨rfl, rfl⟩ := h
    cases T <;> rfl
  | (o', k') :: T, hp, e, i + 1, o, k, h => by
    have := envAt_succ T (k'.heap hp) (put e o'.dst (k'.val hp)) i o k (by simpa using h)
    exact this

theorem efs_succ : ∀ (T : TR) (i : Nat) (o : Oper) (k : Kd), T[i]? = some (o, k) → efs T (i + 1) = efs T i + (bif k.isEf then 1 else 0)
  | [], _, _, _, h => by simp at h
  | (o', k') :: T, 0, o, k, h => by
    simp at h
    obtain ⟨_, rfl⟩ := h
    cases T <;> simp [efs]
  | (o', k') :: T, i + 1, o, k, h => by
    have := efs_succ T i o k (by simpa using h)
    simp only [efs] at this ⊢
    omega

/-- Rows are never fewer. -/
def Grows (T : TR) (hp : List AObj) : Prop := ∀ i o k, T[i]? = some (o, k) → (hpAt T hp i).length ≤ (hpAt T hp (i + 1)).length

theorem Grows.tail {o : Oper} {k : Kd} {T : TR} (h : Grows ((o, k) :: T) hp) : Grows T (k.heap hp) := fun i o' k' hi => h (i + 1) o' k' (by simpa using hi)
theorem Grows.head {o : Oper} {k : Kd} {T : TR} (h : Grows ((o, k) :: T) hp) : hp.length ≤ (k.heap hp).length := by
  have := h 0 o k rfl
  cases T <;> simpa [hpAt] using this

theorem Grows.mono {T : TR} (h : Grows T hp) : ∀ (i j : Nat), i ≤ j → j ≤ T.length → (hpAt T hp i).length ≤ (hpAt T hp j).length := by
  intro i j hij
  induction j with
  | zero => intro _; have : i = 0 := by omega
            subst this; exact Nat.le_refl _
  | succ j ih =>
    intro hj
    rcases Nat.lt_or_ge i (j + 1) with h1 | h1
    · obtain ⟨p, hp'⟩ : ∃ p, T[j]? = some p := ⟨_, List.getElem?_eq_getElem (by omega)⟩
      obtain ⟨o, k⟩ := p
      exact Nat.le_trans (ih (by omega) (by omega)) (h j o k hp')
    · have : i = j + 1 := by omega
      subst this; exact Nat.le_refl _

/-- The births: as many as there are rows at the end. -/
theorem biOf_length : ∀ (T : TR) (hp bi : List AObj), Grows T hp → bi.length = hp.length → (biOf T hp bi).length = (hpAt T hp T.length).length
  | [], hp, bi, _, hb => by simpa [biOf, hpAt] using hb
  | (o, k) :: T, hp, bi, hg, hb => by
    simp only [biOf, List.length_cons, hpAt]
    refine biOf_length T (k.heap hp) _ hg.tail ?_
    have := hg.head
    simp; omega

/-- A birth is never turned. -/
theorem biOf_keep : ∀ (T : TR) (hp bi : List AObj) (o : Nat), o < bi.length → (biOf T hp bi)[o]? = bi[o]?
  | [], _, _, _, _ => rfl
  | (_, k) :: T, hp, bi, o, h => by
    simp only [biOf]
    rw [biOf_keep T _ _ o (by simp; omega), List.getElem?_append_left h]

/-- A row that is made at place i: as it is then. -/
theorem biOf_born : ∀ (T : TR) (hp bi : List AObj) (i o : Nat), Grows T hp → bi.length = hp.length → i < T.length → (hpAt T hp i).length ≤ o → o < (hpAt T hp (i + 1)).length →
    (biOf T hp bi)[o]? = (hpAt T hp (i + 1))[o]?
  | [], _, _, _, _, _, _, h, _, _ => by simp at h
  | (x, k) :: T, hp, bi, 0, o, hg, hb, _, h1, h2 => by
    have e : hpAt ((x, k) :: T) hp 1 = k.heap hp := by cases T <;> rfl
    rw [e] at h2 ⊢
    have h1' : hp.length ≤ o := h1
    simp only [biOf]
    have hh := hg.head
    rw [biOf_keep T _ _ o (by simp; omega), List.getElem?_append_right (by omega), List.getElem?_drop]
    congr 1; omega
  | (x, k) :: T, hp, bi, i + 1, o, hg, hb, hi, h1, h2 => by
    simp only [biOf, hpAt] at h1 h2 ⊢
    refine biOf_born T (k.heap hp) _ i o hg.tail ?_ (by simpa using hi) h1 h2
    have := hg.head
    simp; omega

theorem hsOf_length : ∀ (T : TR) (hp : List AObj), (hsOf T hp).length = efs T T.length + 1
  | [], hp => rfl
  | (o, k) :: T, hp => by
    simp only [hsOf, List.length_cons, efs]
    cases k.isEf
    · simp [hsOf_length T]
    · simp [hsOf_length T]; omega

/-- Between two effects only new rows come: the rows at place i are those ahead of the next effect, as far as they are there. -/
theorem hsOf_at : ∀ (T : TR) (hp : List AObj) (i : Nat), Grows T hp → i ≤ T.length → ∀ o, o < (hpAt T hp i).length → ((hsOf T hp).getD (efs T i) [])[o]? = (hpAt T hp i)[o]? ∧ (hpAt T hp i).length ≤ ((hsOf T hp).getD (efs T i) []).length
  | [], hp, i, _, hi, o, ho => by
    have : i = 0 := by simpa using hi
    subst this
    simp [hsOf, efs, hpAt]
  | (x, k) :: T, hp, 0, hg, _, o, ho => by
    simp only [efs, hpAt] at ho ⊢
    simp only [hsOf]
    cases hk : k.isEf
    · have ih := hsOf_at T (k.heap hp) 0 hg.tail (Nat.zero_le _) o
      have hh : k.heap hp = hp ∨ ∃ e c, k.heap hp = hp ++ [.row e c] := by
        cases k with
        | sk => exact .inl rfl
        | q r O => exact .inl rfl
        | al e c mk => exact .inr ⟨e, c, rfl⟩
        | ef r h => simp [Kd.isEf] at hk
      simp only [hpAt, efs] at ih
      simp only [cond_false]
      rcases hh with hh | ⟨e, c, hh⟩
      · rw [hh] at ih; rw [hh]; exact ih ho
      · rw [hh] at ih; rw [hh]
        obtain ⟨i1, i2⟩ := ih (by simp; omega)
        rw [List.getElem?_append_left ho] at i1
        rw [List.length_append] at i2
        exact ⟨i1, by omega⟩
    · simp
  | (x, k) :: T, hp, i + 1, hg, hi, o, ho => by
    simp only [hpAt] at ho ⊢
    have ih := hsOf_at T (k.heap hp) i hg.tail (by simpa using hi) o ho
    simp only [hsOf, efs]
    cases k.isEf
    · simpa using ih
    · simp only [cond_true, Nat.add_comm 1]
      simpa using ih

/-- At an effect: the rows ahead of it. -/
theorem hsOf_ef : ∀ (T : TR) (hp : List AObj) (i : Nat) (o : Oper) (k : Kd), T[i]? = some (o, k) → k.isEf = true → (hsOf T hp).getD (efs T i) [] = hpAt T hp i
  | [], _, _, _, _, h, _ => by simp at h
  | (x, k') :: T, hp, 0, o, k, h, hk => by
    simp at h
    obtain ⟨_, rfl⟩ := h
    simp [hsOf, hk, efs, hpAt]
  | (x, k') :: T, hp, i + 1, o, k, h, hk => by
    have ih := hsOf_ef T (k'.heap hp) i o k (by simpa using h) hk
    simp only [hsOf, efs, hpAt]
    cases k'.isEf
    · simpa using ih
    · simp only [cond_true, Nat.add_comm 1]
      simpa using ih

theorem hsOf_end (T : TR) (hp : List AObj) : (hsOf T hp).getD (efs T T.length) [] = hpAt T hp T.length := by
  induction T generalizing hp with
  | nil => rfl
  | cons p T ih =>
    obtain ⟨o, k⟩ := p
    simp only [hsOf, List.length_cons, efs, hpAt]
    cases k.isEf
    · simpa using ih (k.heap hp)
    · simp only [cond_true, Nat.add_comm 1]
      simpa using ih (k.heap hp)

end Go.SL
