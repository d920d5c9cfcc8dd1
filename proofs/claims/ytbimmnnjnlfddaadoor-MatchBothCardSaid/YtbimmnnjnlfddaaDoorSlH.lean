/-
  Contracts of functions, calls by them, and what a body's end hands back.
-/
import Derived.Test.YtbimmnnjnlfddaaDoorSlG
set_option linter.unusedSimpArgs false
set_option linter.unnecessarySimpa false
set_option linter.unusedVariables false
set_option linter.unusedSectionVars false
namespace Go.SL
open Go
variable [Tabs]

variable {F F' : Nat → Prop} {μ μ' μ'' : List Nm} {w w' w'' : World} {P : Program} {n : Nat} {env : Nat → AV} {hp : List AObj}
variable {dst : Option Nat} {ty : TypeId} {pos : String} {after : Array Edge} {guard : Option (Nat × Bool)}

mutual
def ren (f : Nat → Nat) : AV → AV
  | .any => .any
  | .nil => .nil
  | .sc v => .sc v
  | .ptr o off => .ptr (f o) off
  | .sl o off len => .sl (f o) off len
  | .im e cs => .im e cs
  | .ip cs i => .ip cs i
  | .fn k xs ys => .fn k (renL f xs) (renL f ys)
  | .agg cs => .agg (renL f cs)
  | .tup vs => .tup (renL f vs)
  | .ifc t v => .ifc t (ren f v)
def renL (f : Nat → Nat) : List AV → List AV
  | [] => []
  | x :: xs => ren f x :: renL f xs
end

mutual
theorem ren_noOwn (f : Nat → Nat) : ∀ x, noOwn x = true → ren f x = x
  | .any, _ => rfl
  | .nil, _ => rfl
  | .sc _, _ => rfl
  | .ptr _ _, h => by simp [noOwn] at h
  | .sl _ _ _, h => by simp [noOwn] at h
  | .im e cs, h => rfl
  | .ip cs i, h => rfl
  | .fn k xs ys, h => by simp only [noOwn, Bool.and_eq_true] at h; simp only [ren, renL_noOwn f xs h.1, renL_noOwn f ys h.2]
  | .agg cs, h => by simp only [noOwn] at h; simp only [ren, renL_noOwn f cs h]
  | .tup vs, h => by simp only [noOwn] at h; simp only [ren, renL_noOwn f vs h]
  | .ifc t v, h => by simp only [noOwn] at h; simp only [ren, ren_noOwn f v h]
theorem renL_noOwn (f : Nat → Nat) : ∀ xs, noOwnL xs = true → renL f xs = xs
  | [], _ => rfl
  | x :: xs, h => by simp only [noOwnL, Bool.and_eq_true] at h; simp only [renL, ren_noOwn f x h.1, renL_noOwn f xs h.2]
end

theorem noOwnL_map_sc {α : Type} (g : α → Value) (l : List α) : noOwnL (l.map fun x => .sc (g x)) = true := by
  induction l with
  | nil => rfl
  | cons x l ih => simp [noOwnL, noOwn, ih]

theorem noOwnL_bytes (l : List UInt8) : noOwnL (l.map byteAV) = true := noOwnL_map_sc _ l

theorem noOwnL_all (xs : List AV) : noOwnL xs = xs.all noOwn := by
  induction xs with
  | nil => rfl
  | cons x xs ih => simp [noOwnL, ih]

theorem renL_append (f : Nat → Nat) (xs ys : List AV) : renL f (xs ++ ys) = renL f xs ++ renL f ys := by
  induction xs with
  | nil => rfl
  | cons x xs ih => simp [renL, ih]
theorem renL_length (f : Nat → Nat) (xs : List AV) : (renL f xs).length = xs.length := by
  induction xs with
  | nil => rfl
  | cons x xs ih => simp [renL, ih]

def renO (f : Nat → Nat) : AObj → AObj
  | .dead => .dead
  | .row e cs => .row e (renL f cs)

/-- A block that holds something and is neither ours nor foreign. -/
def Free (μ : List Nm) (F : Nat → Prop) (b : Nat) : Prop := ¬ blocks μ b ∧ ¬ F b

mutual
/-- What holds of a value without own rows holds over other names too. -/
theorem VR.moveN (hb : ∀ b, b < w.heap.size → Free μ F b → Free μ' F' b) : ∀ {x : AV} {v : Value}, VR F μ w x v → noOwn x = true → VR F' μ' w x v
  | _, _, .any, _ => .any
  | _, _, .nil, _ => .nil
  | _, _, .sc h, _ => .sc h
  | _, _, .ptr _, hx => by simp [noOwn] at hx
  | _, _, .ptrD _, hx => by simp [noOwn] at hx
  | _, _, .sl _ _ _, hx => by simp [noOwn] at hx
  | _, _, .slN _, hx => by simp [noOwn] at hx
  | _, _, .slE _, hx => by simp [noOwn] at hx
  | _, _, .slD _, hx => by simp [noOwn] at hx
  | _, _, .im0, _ => .im0
  | _, _, .im h hb' hF hk hk2 hx, _ => by
    obtain ⟨g1, g2⟩ := hb _ (heap_lt h) ⟨hb', hF.1⟩
    exact .im h g1 ⟨g2, hF.2⟩ hk hk2 (VRL.moveN hb hx hF.2)
  | _, _, .ip h hb' hF hx, _ => by
    obtain ⟨g1, g2⟩ := hb _ (heap_lt h) ⟨hb', hF.1⟩
    exact .ip h g1 ⟨g2, hF.2⟩ (VRL.moveN hb hx hF.2)
  | _, _, .fn h1 h2, hx => by
    simp only [noOwn, Bool.and_eq_true] at hx
    exact .fn (VRL.moveN hb h1 hx.1) (VRL.moveN hb h2 hx.2)
  | _, _, .agg h, hx => .agg (VRL.moveN hb h (by simpa [noOwn] using hx))
  | _, _, .tup h, hx => .tup (VRL.moveN hb h (by simpa [noOwn] using hx))
  | _, _, .ifc h, hx => .ifc (VR.moveN hb h (by simpa [noOwn] using hx))
theorem VRL.moveN (hb : ∀ b, b < w.heap.size → Free μ F b → Free μ' F' b) : ∀ {xs : List AV} {vs : List Value}, VRL F μ w xs vs → noOwnL xs = true → VRL F' μ' w xs vs
  | _, _, .nil, _ => .nil
  | _, _, .cons h t, hx => by
    simp only [noOwnL, Bool.and_eq_true] at hx
    exact .cons (VR.moveN hb h hx.1) (VRL.moveN hb t hx.2)
end

mutual
/-- Read back through a renaming. -/
theorem VR.pull {f : Nat → Nat} (hn : ∀ j nm, μ[f j]? = some nm → μ'[j]? = some nm) (hb : ∀ b, b < w.heap.size → Free μ F b → Free μ' F' b) :
    ∀ {x : AV} {v : Value}, VR F μ w (ren f x) v → VR F' μ' w x v
  | .any, _, _ => .any
  | .nil, _, h => by simp only [ren] at h; cases h; exact .nil
  | .sc _, _, h => by simp only [ren] at h; cases h with | sc h => exact .sc h
  | .ptr _ _, _, h => by
    simp only [ren] at h
    cases h with
    | ptr h => exact .ptr (hn _ _ h)
    | ptrD h => exact .ptrD (hn _ _ h)
  | .sl _ _ _, _, h => by
    simp only [ren] at h
    cases h with
    | sl h hc hl => exact .sl (hn _ _ h) hc hl
    | slN h => exact .slN (hn _ _ h)
    | slE h => exact .slE (hn _ _ h)
    | slD h => exact .slD (hn _ _ h)
  | .im e cs, _, h => VR.moveN hb h rfl
  | .ip cs i, _, h => VR.moveN hb h rfl
  | .fn k xs ys, _, h => by
    simp only [ren] at h
    cases h with
    | fn h1 h2 => exact .fn (VRL.pull hn hb h1) (VRL.pull hn hb h2)
  | .agg cs, _, h => by
    simp only [ren] at h
    cases h with
    | agg h => exact .agg (VRL.pull hn hb h)
  | .tup vs, _, h => by
    simp only [ren] at h
    cases h with
    | tup h => exact .tup (VRL.pull hn hb h)
  | .ifc t v, _, h => by
    simp only [ren] at h
    cases h with
    | ifc h => exact .ifc (VR.pull hn hb h)
theorem VRL.pull {f : Nat → Nat} (hn : ∀ j nm, μ[f j]? = some nm → μ'[j]? = some nm) (hb : ∀ b, b < w.heap.size → Free μ F b → Free μ' F' b) :
    ∀ {xs : List AV} {vs : List Value}, VRL F μ w (renL f xs) vs → VRL F' μ' w xs vs
  | [], _, h => by simp only [renL] at h; cases h; exact .nil
  | x :: xs, _, h => by
    simp only [renL] at h
    cases h with
    | cons h t => exact .cons (VR.pull hn hb h) (VRL.pull hn hb t)
end

mutual
/-- Told through a renaming. -/
theorem VR.push {f : Nat → Nat} (hn : ∀ j nm, μ[j]? = some nm → nm ≠ .un → μ'[f j]? = some nm) (hb : ∀ b, b < w.heap.size → Free μ F b → Free μ' F' b) :
    ∀ {x : AV} {v : Value}, VR F μ w x v → VR F' μ' w (ren f x) v
  | _, _, .any => .any
  | _, _, .nil => .nil
  | _, _, .sc h => .sc h
  | _, _, .ptr h => .ptr (hn _ _ h (by simp))
  | _, _, .ptrD h => .ptrD (hn _ _ h (by simp))
  | _, _, .sl h hc hl => .sl (hn _ _ h (by simp)) hc hl
  | _, _, .slN h => .slN (hn _ _ h (by simp))
  | _, _, .slE h => .slE (hn _ _ h (by simp))
  | _, _, .slD h => .slD (hn _ _ h (by simp))
  | _, _, .im0 => .im0
  | _, _, .im h hb' hF hk hk2 hx => VR.moveN hb (.im h hb' hF hk hk2 hx) rfl
  | _, _, .ip h hb' hF hx => VR.moveN hb (.ip h hb' hF hx) rfl
  | _, _, .fn h1 h2 => .fn (VRL.push hn hb h1) (VRL.push hn hb h2)
  | _, _, .agg h => .agg (VRL.push hn hb h)
  | _, _, .tup h => .tup (VRL.push hn hb h)
  | _, _, .ifc h => .ifc (VR.push hn hb h)
theorem VRL.push {f : Nat → Nat} (hn : ∀ j nm, μ[j]? = some nm → nm ≠ .un → μ'[f j]? = some nm) (hb : ∀ b, b < w.heap.size → Free μ F b → Free μ' F' b) :
    ∀ {xs : List AV} {vs : List Value}, VRL F μ w xs vs → VRL F' μ' w (renL f xs) vs
  | _, _, .nil => .nil
  | _, _, .cons h t => .cons (VR.push hn hb h) (VRL.push hn hb t)
end

/-- What holds of a value without own rows holds over other names too. -/
theorem VR.move {x : AV} {v : Value} (h : VR F μ w x v) (hx : noOwn x = true) (hb : ∀ b, b < w.heap.size → Free μ F b → Free μ' F' b) : VR F' μ' w x v := by
  exact VR.pull (f := fun _ => μ.length) (fun j nm hj => by simp at hj) hb (by rw [ren_noOwn (fun _ => μ.length) x hx]; exact h)

theorem VRL.move {xs : List AV} {vs : List Value} (h : VRL F μ w xs vs) (hx : noOwnL xs = true) (hb : ∀ b, b < w.heap.size → Free μ F b → Free μ' F' b) : VRL F' μ' w xs vs :=
  VRL.pull (f := fun _ => μ.length) (fun j nm hj => by simp at hj) hb (by rw [renL_noOwn (fun _ => μ.length) xs hx]; exact h)

/-- A contract: called with these arguments over these rows the function returns; R tells its value and the rows behind it. -/
def Spec (P : Program) (k : Nat) (args : List AV) (hp : List AObj) (R : AV → List AObj → Prop) : Prop :=
  ∀ (F : Nat → Prop) (μ : List Nm) (w : World) (args' : Array Value), HR F hp μ w → VRL F μ w args args'.toList →
    Calls P k args' w (fun e w' => ∃ x v hp' μ', e = .returned v ∧ R x hp' ∧ HR F hp' μ' w' ∧ VR F μ' w' x v ∧ Fr μ w μ' w')

theorem Spec.mono {k : Nat} {args : List AV} {R R' : AV → List AObj → Prop} (h : Spec P k args hp R) (hr : ∀ x hp', R x hp' → R' x hp') : Spec P k args hp R' :=
  fun F μ w args' h1 h2 => (h F μ w args' h1 h2).mono fun _ _ ⟨x, v, hp', μ', a1, a2, a3⟩ => ⟨x, v, hp', μ', a1, hr _ _ a2, a3⟩

theorem run_callFunc {k : Nat} {fn : Func} {c : Code} (hf : P.funcs[k]? = some fn) (hb : fn.body = some c) (hn : fn.name ≠ "runtime.NumGoroutine") (args : Array Value) :
    (callFunc k args).run P w = .ok (.enter k args) w := by
  simp [callFunc, hf, hb, hn]

/-- That a function has a body in Go. -/
def HasBody (P : Program) (k : Nat) : Prop := ∀ (args : Array Value) (w : World), (callFunc k args).run P w = .ok (.enter k args) w

theorem upon_calls {o : Oper} {a : Act} {next : Act → World → Prop} {Q : Exit → Act → World → Prop} {k : Nat} {args : Array Value}
    (h : (execOp a.eval o).run P w = .ok (.enter k args) w) (hc : Calls P k args w fun e w' => ∃ v, e = .returned v ∧ next (a.put o.dst v) w') : o.wp P a w next Q := by
  unfold Oper.wp
  rw [h]
  exact hc.mono fun e w' ⟨v, he, hn⟩ => by subst he; exact hn

theorem exec_callF {f : Nat} {args : Array Operand} {tys : Array TypeId} {a : Act} (hb : HasBody P f) :
    (execOp a.eval ⟨dst, .call ⟨.value (.func f), args, tys⟩, ty, pos, after, guard⟩).run P w = .ok (.enter f (args.map a.eval)) w := by
  simp [execOp, resolve, Act.eval, Deferred.ofValue, invoke, hb _ w]

/-- A call that gets no own row, and hands none back. -/
theorem step_call0 {f : Nat} {args : Array Operand} {tys : Array TypeId} {xs : List AV} {R : AV → List AObj → Prop} (hb : HasBody P f) (hx : args.toList.map (opd env) = xs) (hno : noOwnL xs = true)
    (hs : Spec P f xs [] (fun r hp' => R r [] ∧ hp' = [] ∧ noOwn r = true)) :
    Step P ⟨dst, .call ⟨.value (.func f), args, tys⟩, ty, pos, after, guard⟩ env hp (fun r hp' => R r [] ∧ hp' = hp) := by
  intro F μ w a hr he next Q k
  refine upon_calls (exec_callF hb) ?_
  have hargs : VRL F μ w xs (args.map a.eval).toList := by rw [← hx]; simpa using mapVRL he args.toList
  let Fc : Nat → Prop := fun b => F b ∨ blocks μ b
  have h0 : HR Fc [] [] w := ⟨rfl, fun o b base esz tot h => by simp at h, fun o h => by simp at h, fun o esz cells h => by simp at h, fun o o' b base esz tot _ _ _ h => by simp at h,
    fun b ⟨_, _, _, _, h⟩ => by simp at h, fun b h => h.elim (hr.fb b) hr.lt, hr.tb.nil⟩
  have hmove : ∀ b, Free μ F b → Free [] Fc b := fun b hb => ⟨fun ⟨_, _, _, _, h⟩ => by simp at h, fun h => h.elim hb.2 hb.1⟩
  refine (hs Fc [] w _ h0 (hargs.move hno fun b _ h => hmove b h)).mono ?_
  rintro e w' ⟨r, v, hp', μ', rfl, ⟨hR, rfl, hro⟩, hHR, hv, hf⟩
  have hμ' : μ' = [] := List.eq_nil_of_length_eq_zero hHR.len
  subst hμ'
  have hF : Fr μ w μ w' := ⟨hf.size, fun b hb _ => hf.keep b hb (fun ⟨_, _, _, _, h⟩ => by simp at h), fun b hb => .inl hb, fun o nm h => .inl h, Nat.le_refl _, hf.oo⟩
  refine ⟨v, rfl, k r v hp μ w' ⟨hR, rfl⟩ ?_ ?_ hF⟩
  · refine ⟨hr.len, fun o b base esz tot ho => ?_, hr.em, hr.live, hr.inj, hr.foF hF, hr.fbF hF, hr.tbF hF⟩
    obtain ⟨cells, c, el, fr, g1, g2, g3, g4, g5, g6⟩ := hr.obj o b base esz tot ho
    exact ⟨cells, c, el, fr, g1, by rw [hf.keep b (heap_lt g2) (fun ⟨_, _, _, _, h⟩ => by simp at h)]; exact g2, g3, g4, g5.mono hF, g6⟩
  · refine hv.move hro fun b hb hfr => ⟨fun h => hfr.2 (.inr h), fun h => hfr.2 (.inl h)⟩

def argEnv (args : List AV) : Nat → AV := fun i => args.getD i (.sc undef)

theorem argEnv_rel {args : List AV} {args' : Array Value} {k : Nat} (h : VRL F μ w args args'.toList) : EnvR F (argEnv args) μ w (args' ++ Array.replicate k undef) := by
  intro i
  have hl := h.length
  simp only [Array.length_toList] at hl
  rcases Nat.lt_or_ge i args'.size with hi | hi
  · have hi' : i < args.length := by omega
    obtain ⟨v, h1, h2⟩ := h.get (List.getElem?_eq_getElem hi')
    have e1 : argEnv args i = args[i] := by simp [argEnv, List.getD, hi']
    have e2 : (args' ++ Array.replicate k undef).getD i undef = v := by
      have h1' : args'[i]? = some v := by simpa using h1
      rw [Array.getElem?_eq_getElem hi] at h1'
      have : i < (args' ++ Array.replicate k undef).size := by simp; omega
      simp only [Array.getD, this, dif_pos]
      rw [← Option.some.inj h1']
      show (args' ++ Array.replicate k undef)[i] = args'[i]
      rw [Array.getElem_append_left hi]
    rw [e1, e2]; exact h2
  · have e1 : argEnv args i = .sc undef := by simp [argEnv, List.getD, show args.length ≤ i by omega]
    have e2 : (args' ++ Array.replicate k undef).getD i undef = undef := by
      simp only [Array.getD]
      split
      · rename_i hlt
        show (args' ++ Array.replicate k undef)[i] = undef
        rw [Array.getElem_append_right hi]
        simp
      · rfl
    rw [e1, e2]; exact .sc plain_undef

def resOne (t : Array Value) : ResultVar → Sem Value
  | .tmp i => pure (t.getD i undef)
  | .cell i ty => do loadVar ty (← asAddr (t.getD i undef))

/-- What a body's results are. -/
def Res (P : Program) (rs : List ResultVar) (σ : SS) (xs : List AV) : Prop :=
  ∀ (F : Nat → Prop) (μ : List Nm) (w : World) (t : Array Value), HR F σ.hp μ w → EnvR F σ.env μ w t → ∃ vs : List Value,
    (rs.mapM (resOne t)).run P w = .ok vs w ∧ VRL F μ w xs vs

theorem Res.nil {σ : SS} : Res P [] σ [] := fun F μ w t _ _ => ⟨[], by simp, .nil⟩
theorem Res.tmp {σ : SS} {i : Nat} {rs : List ResultVar} {x : AV} {xs : List AV} (hx : σ.env i = x) (h : Res P rs σ xs) : Res P (.tmp i :: rs) σ (x :: xs) := by
  intro F μ w t hr he
  obtain ⟨vs, h1, h2⟩ := h F μ w t hr he
  exact ⟨t.getD i undef :: vs, by
    have e : (resOne t (.tmp i)).run P w = .ok (t.getD i undef) w := rfl
    simp only [List.mapM_cons, Sem.run_bind, e, Sem.run_pure, Result.andThen_ok, h1], .cons (by rw [← hx]; exact he i) h2⟩

theorem Res.cell {σ : SS} {i o off esz : Nat} {ty : TypeId} {rs : List ResultVar} {cells : List AV} {x : AV} {xs : List AV} (ha : IsAgg P ty false) (hx : σ.env i = .ptr o off) (ho : σ.hp[o]? = some (AObj.row esz cells))
    (hy : cells[off]? = some x) (h : Res P rs σ xs) : Res P (.cell i ty :: rs) σ (x :: xs) := by
  intro F μ w t hr he
  obtain ⟨vs, h1, h2⟩ := h F μ w t hr he
  obtain ⟨b, base, tot, c, el, fr, g1, g2, g3, g4, g5, g6, g7⟩ := EnvR.ptr (a := ⟨t, []⟩) (x := .tmp i) he hr hx ho
  obtain ⟨v, k1, k2⟩ := window_get g6 hy
  have : w.cell? ⟨b, base + off, none⟩ = some v := by simp [World.cell?, g3]; simpa using k1
  have g1' : t.getD i undef = .pointer (some ⟨b, base + off, none⟩) := g1
  refine ⟨v :: vs, ?_, .cons k2 h2⟩
  have e : (resOne t (.cell i ty)).run P w = .ok v w := by simp [resOne, g1', asAddr, loadVar, ha w, this]
  simp only [List.mapM_cons, Sem.run_bind, e, Sem.run_pure, Result.andThen_ok, h1]

theorem Res.cellA {σ : SS} {i o off esz k : Nat} {ty : TypeId} {rs : List ResultVar} {cells : List AV} {xs : List AV} (ha : IsAgg P ty true) (hs : SizeOf P ty k) (hx : σ.env i = .ptr o off) (ho : σ.hp[o]? = some (AObj.row esz cells))
    (hk : off + k ≤ cells.length) (h : Res P rs σ xs) : Res P (.cell i ty :: rs) σ (.agg ((cells.drop off).take k) :: xs) := by
  intro F μ w t hr he
  obtain ⟨vs, h1, h2⟩ := h F μ w t hr he
  obtain ⟨b, base, tot, c, el, fr, g1, g2, g3, g4, g5, g6, g7⟩ := EnvR.ptr (a := ⟨t, []⟩) (x := .tmp i) he hr hx ho
  have hl := run_loadL P (off := base + off) k g3 (by omega)
  have g1' : t.getD i undef = .pointer (some ⟨b, base + off, none⟩) := g1
  refine ⟨.agg ((c.toList.drop (base + off)).take k).toArray :: vs, ?_, .cons (.agg (by simpa using window_sub g6 hk)) h2⟩
  have e : (resOne t (.cell i ty)).run P w = .ok (.agg ((c.toList.drop (base + off)).take k).toArray) w := by simp [resOne, g1', asAddr, loadVar, ha w, hs w, hl]
  simp only [List.mapM_cons, Sem.run_bind, e, Sem.run_pure, Result.andThen_ok, h1]

/-- One result, or a tuple. -/
def oneAV : List AV → AV
  | [x] => x
  | xs => .tup xs

/-- Rows are let go, values turned: what is told of them still holds. p: how many rows stay as they are numbered. -/
def Cv (p : Nat) (hp : List AObj) (x : AV) (hp' : List AObj) (x' : AV) : Prop :=
  ∀ (F : Nat → Prop) (μ : List Nm) (w : World) (v : Value), HR F hp μ w → VR F μ w x v → ∃ μ', HR F hp' μ' w ∧ VR F μ' w x' v ∧ (∀ b, blocks μ' b → blocks μ b) ∧
    (∀ (o : Nat) nm, o < p → μ[o]? = some nm → μ'[o]? = some nm ∨ (nm ≠ .un ∧ μ'[o]? = some .dead)) ∧ p ≤ μ'.length

def retK (P : Program) (p : Nat) (rs : List ResultVar) (R : AV → List AObj → Prop) : Exit → SS → Prop := fun e σ =>
  (e = .ret ∨ e = .normal) ∧ ∃ xs x hp', Res P rs σ xs ∧ Cv p σ.hp (oneAV xs) hp' x ∧ R x hp'

theorem Spec.body {k : Nat} {fn : Func} {c : Code} {args : List AV} {R : AV → List AObj → Prop} (hf : P.funcs[k]? = some fn) (hb : fn.body = some c) (hn : args.length ≤ fn.ntmps)
    (h : W P fn.ntmps c (retK P hp.length fn.results.toList R) ⟨argEnv args, hp⟩) : Spec P k args hp R := by
  intro F μ w args' hr ha
  have hl := ha.length
  simp only [Array.length_toList] at hl
  refine calls_of_wp hf hb ?_
  have hs : SR F fn.ntmps ⟨argEnv args, hp⟩ μ { tmps := args' ++ Array.replicate (fn.ntmps - args'.size) undef, defers := [] } w :=
    ⟨hr, argEnv_rel ha, by simp; omega, rfl⟩
  refine wp_mono (h F μ _ w hs) ?_
  rintro e a' w' ⟨σ', μ', ⟨hex, xs, x, hp', hres, hcv, hR⟩, hs', hf'⟩
  obtain ⟨vs, h1, h2⟩ := hres F μ' w' a'.tmps hs'.hr hs'.env
  have hrun : (results fn a'.tmps).run P w' = .ok (if h : vs.toArray.size = 1 then vs.toArray[0] else .tuple vs.toArray) w' := by
    unfold results
    rw [Array.mapM_eq_mapM_toList]
    change Sem.run P (do let vs ← List.toArray <$> List.mapM (resOne a'.tmps) fn.results.toList; pure (if h : vs.size = 1 then vs[0] else .tuple vs)) w' = _
    simp only [Sem.run_bind, Sem.run_map, h1, Result.andThen_ok, Sem.run_pure]
  have hv : VR F μ' w' (oneAV xs) (if h : vs.toArray.size = 1 then vs.toArray[0] else .tuple vs.toArray) := by
    match xs, vs, h2 with
    | [], [], _ => simpa [oneAV] using VR.tup (F := F) (μ := μ') (w := w') (xs := []) (ys := #[]) .nil
    | [x], [v], .cons h _ => simpa [oneAV] using h
    | x :: y :: xs, v :: u :: vs, h2 =>
      have : ¬ ((v :: u :: vs).toArray.size = 1) := by simp
      rw [dif_neg this]
      exact .tup (by simpa using h2)
  obtain ⟨μ'', k1, k2, k3, k4, k5⟩ := hcv F μ' w' _ hs'.hr hv
  have hF : Fr μ w μ'' w' := by
    refine ⟨hf'.size, hf'.keep, fun b hb => hf'.new b (k3 b hb), fun o nm ho => ?_, by rw [hr.len]; exact k5, hf'.oo⟩
    have hop : o < hp.length := by
      rw [← hr.len]
      rcases Nat.lt_or_ge o μ.length with h1 | h1
      · exact h1
      · simp [List.getElem?_eq_none h1] at ho
    rcases hf'.ext o nm ho with g | ⟨g0, g⟩
    · exact k4 o nm hop g
    · rcases k4 o _ hop g with g' | ⟨_, g'⟩
      · exact .inr ⟨g0, g'⟩
      · exact .inr ⟨g0, g'⟩
  have hfin : a'.defers = [] ∧ ∃ v, (results fn a'.tmps).run P w' = .ok v w' ∧ (fun e w' => ∃ x v hp' μ', e = Ending.returned v ∧ R x hp' ∧ HR F hp' μ' w' ∧ VR F μ' w' x v ∧ Fr μ w μ' w') (.returned v) w' :=
    ⟨hs'.defers, _, hrun, x, _, hp', μ'', rfl, hR, k1, k2, hF⟩
  rcases hex with rfl | rfl
  · exact hfin
  · exact hfin

end Go.SL
