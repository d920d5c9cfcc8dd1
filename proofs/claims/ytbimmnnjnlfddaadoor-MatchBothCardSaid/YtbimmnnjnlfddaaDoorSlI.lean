/-
  Ends of bodies: rows let go and frozen; calls with borrowed rows, with one row handed over; texts.
-/
import Derived.Test.YtbimmnnjnlfddaaDoorSlH
set_option linter.unusedSimpArgs false
set_option linter.unnecessarySimpa false
set_option linter.unusedVariables false
set_option linter.unusedSectionVars false
namespace Go.SL
open Go
variable [Tabs]

variable {F F' : Nat → Prop} {μ μ' μ'' : List Nm} {w w' w'' : World} {P : Program} {n : Nat} {env : Nat → AV} {hp : List AObj}
variable {dst : Option Nat} {ty : TypeId} {pos : String} {after : Array Edge} {guard : Option (Nat × Bool)}

theorem Cv.refl {p : Nat} {x : AV} (hp' : p ≤ hp.length) : Cv p hp x hp x :=
  fun F μ w v hr hv => ⟨μ, hr, hv, fun _ h => h, fun _ _ _ h => .inl h, by rw [hr.len]; exact hp'⟩

mutual
inductive Fz (p : Nat) (hp : List AObj) : AV → AV → Prop
  | keep {x} (h : noOwn x = true) : Fz p hp x x
  | sl {o off len esz cells} (ho : hp[o]? = some (AObj.row esz cells)) (hpo : p ≤ o) (hl : off + len * esz ≤ cells.length) (hn : noOwnL ((cells.drop off).take (len * esz)) = true) :
      Fz p hp (.sl o off len) (.im esz ((cells.drop off).take (len * esz)))
  | tup {xs ys} (h : FzL p hp xs ys) : Fz p hp (.tup xs) (.tup ys)
  | agg {xs ys} (h : FzL p hp xs ys) : Fz p hp (.agg xs) (.agg ys)
inductive FzL (p : Nat) (hp : List AObj) : List AV → List AV → Prop
  | nil : FzL p hp [] []
  | cons {x y xs ys} (h : Fz p hp x y) (t : FzL p hp xs ys) : FzL p hp (x :: xs) (y :: ys)
end

theorem blocks_take {p b : Nat} (h : blocks (μ.take p) b) : ∃ (o : Nat) (base esz tot : Nat), o < p ∧ μ[o]? = some (Nm.at b base esz tot) := by
  obtain ⟨o, base, esz, tot, h⟩ := h
  rw [List.getElem?_take] at h
  split at h
  · rename_i hlt; exact ⟨o, base, esz, tot, hlt, h⟩
  · simp at h

mutual
theorem Fz.rel {p : Nat} (hr : HR F hp μ w) : ∀ {x y : AV} {v : Value}, Fz p hp x y → VR F μ w x v → VR F (μ.take p) w y v
  | _, _, _, .keep h, hv => hv.move h fun b _ hb => ⟨fun h' => by obtain ⟨o, base, esz, tot, _, h2⟩ := blocks_take h'; exact hb.1 ⟨o, base, esz, tot, h2⟩, hb.2⟩
  | _, _, _, .sl (o := o) (off := off) (len := len) (esz := esz) (cells := cells) ho hpo hl hn, hv => by
    rcases hr.row ho with h2 | ⟨h2, h3⟩ | ⟨b, base, tot, c, el, fr, h2, h3, h4, h5, h6, h7⟩
    · cases hv with
      | sl h hc hll => rw [h2] at h; simp at h
      | slN h => rw [h2] at h; simp at h
      | slE h => rw [h2] at h; simp at h
      | slD h => rw [h2] at h; simp at h
    · cases hv with
      | sl h hc hll => rw [h2] at h; simp at h
      | slN h => rw [h2] at h; simp at h
      | slE h => simpa using VR.im0
      | slD h => rw [h2] at h; simp at h
    · cases hv with
      | sl h hc hll =>
        rw [h2] at h
        injection h with h; injection h with e1 e2 e3 e4
        subst e1; subst e2; subst e3; subst e4
        have hlen : ((cells.drop off).take (len * esz)).length = len * esz := by simp; omega
        refine .im h3 (fun h' => ?_) ⟨hr.fo b ⟨o, base, esz, tot, h2⟩, hn⟩ hlen.symm hll ?_
        · obtain ⟨o', base', esz', tot', hlt, h''⟩ := blocks_take h'
          have := hr.inj _ _ _ _ _ _ _ _ _ h2 h''
          omega
        · rw [hlen]
          exact (window_sub h6 hl).move hn fun b' _ hb => ⟨fun h' => by obtain ⟨o', base', esz', tot', _, h2'⟩ := blocks_take h'; exact hb.1 ⟨o', base', esz', tot', h2'⟩, hb.2⟩
      | slN h => simpa using VR.im0
      | slE h => rw [h2] at h; simp at h
      | slD h => rw [h2] at h; simp at h
  | _, _, _, .tup h, hv => by cases hv with | tup h' => exact .tup (FzL.rel hr h h')
  | _, _, _, .agg h, hv => by cases hv with | agg h' => exact .agg (FzL.rel hr h h')
theorem FzL.rel {p : Nat} (hr : HR F hp μ w) : ∀ {xs ys : List AV} {vs : List Value}, FzL p hp xs ys → VRL F μ w xs vs → VRL F (μ.take p) w ys vs
  | _, _, _, .nil, hv => by cases hv; exact .nil
  | _, _, _, .cons h t, hv => by cases hv with | cons h' t' => exact .cons (Fz.rel hr h h') (FzL.rel hr t t')
end

/-- Only the first p rows stay; slices of the others become what they hold. -/
theorem Cv.frz {p : Nat} {x y : AV} (hp' : p ≤ hp.length) (hno : ∀ (o e : Nat) (cs : List AV), o < p → hp[o]? = some (AObj.row e cs) → noOwnL cs = true) (hf : Fz p hp x y) :
    Cv p hp x (hp.take p) y := by
  intro F μ w v hr hv
  have hfree : ∀ b, b < w.heap.size → Free μ F b → Free (μ.take p) F b := fun b _ hb => ⟨fun h' => by
    obtain ⟨o, base, esz, tot, _, h2⟩ := blocks_take h'; exact hb.1 ⟨o, base, esz, tot, h2⟩, hb.2⟩
  have key : ∀ (o : Nat) nm, (μ.take p)[o]? = some nm → o < p ∧ μ[o]? = some nm := by
    intro o nm h
    rw [List.getElem?_take] at h
    split at h
    · rename_i hlt; exact ⟨hlt, h⟩
    · simp at h
  refine ⟨μ.take p, ⟨by simp [hr.len], fun o b base esz tot ho => ?_, fun o ho => ?_, fun o esz cells ho => ?_, fun o o' b base esz tot base' esz' tot' h1 h2 => ?_, fun b hb => ?_, hr.fb, hr.tb.sub fun b h => by obtain ⟨o, base, esz, tot, _, h2⟩ := blocks_take h; exact ⟨o, base, esz, tot, h2⟩⟩, hf.rel hr hv, fun b hb => ?_, fun o nm ho hn => ?_, by simp [hr.len]; omega⟩
  · obtain ⟨hlt, h⟩ := key _ _ ho
    obtain ⟨cells, c, el, fr, g1, g2, g3, g4, g5, g6⟩ := hr.obj o b base esz tot h
    exact ⟨cells, c, el, fr, by rw [List.getElem?_take, if_pos hlt]; exact g1, g2, g3, g4, g5.move (hno o esz cells hlt g1) hfree, g6⟩
  · obtain ⟨hlt, h⟩ := key _ _ ho
    rw [List.getElem?_take, if_pos hlt]; exact hr.em o h
  · intro hd
    obtain ⟨hlt, h⟩ := key _ _ hd
    rw [List.getElem?_take, if_pos hlt] at ho
    exact hr.live o esz cells ho h
  · exact hr.inj _ _ _ _ _ _ _ _ _ (key _ _ h1).2 (key _ _ h2).2
  · obtain ⟨o, base, esz, tot, _, h2⟩ := blocks_take hb
    exact hr.fo b ⟨o, base, esz, tot, h2⟩
  · obtain ⟨o, base, esz, tot, _, h2⟩ := blocks_take hb
    exact ⟨o, base, esz, tot, h2⟩
  · rw [List.getElem?_take, if_pos ho]; exact .inl hn

theorem Cv.frz0 {x y : AV} (hf : Fz 0 hp x y) : Cv 0 hp x [] y := by
  have := Cv.frz (hp := hp) (Nat.zero_le _) (fun o e cs h => absurd h (by omega)) hf
  simpa using this

/-- A pure function's contract: its value, no row. -/
def Spec0 (P : Program) (k : Nat) (args : List AV) (x : AV) : Prop := Spec P k args [] (fun r hp' => r = x ∧ hp' = [])

/-- Arguments as the callee reads them: as they are; nothing as an empty slice. -/
inductive Nl : List AV → List AV → Prop
  | nil : Nl [] []
  | keep {x xs ys} (h : noOwn x = true) (t : Nl xs ys) : Nl (x :: xs) (x :: ys)
  | none {e xs ys} (t : Nl xs ys) : Nl (.nil :: xs) (.im e [] :: ys)

theorem Nl.rel : ∀ {xs ys : List AV} {vs : List Value}, Nl xs ys → VRL F μ w xs vs → VRL F μ w ys vs ∧ noOwnL ys = true
  | _, _, _, .nil, h => ⟨h, rfl⟩
  | _, _, _, .keep hx t, h => by
    cases h with
    | cons h1 h2 => obtain ⟨g1, g2⟩ := Nl.rel t h2; exact ⟨.cons h1 g1, by simp [noOwnL, hx, g2]⟩
  | _, _, _, .none t, h => by
    cases h with
    | cons h1 h2 => obtain ⟨g1, g2⟩ := Nl.rel t h2; cases h1; exact ⟨.cons .im0 g1, by simp [noOwnL, noOwn, g2]⟩

theorem step_pure {f : Nat} {args : Array Operand} {tys : Array TypeId} {xs ys : List AV} {r : AV} (hb : HasBody P f) (hx : args.toList.map (opd env) = xs) (hn : Nl xs ys)
    (hs : Spec0 P f ys r) (hr : noOwn r = true) : Step P ⟨dst, .call ⟨.value (.func f), args, tys⟩, ty, pos, after, guard⟩ env hp (is r hp) := by
  intro F μ w a hrr he next Q k
  refine upon_calls (exec_callF hb) ?_
  have hargs0 : VRL F μ w xs (args.map a.eval).toList := by rw [← hx]; simpa using mapVRL he args.toList
  obtain ⟨hargs, hno⟩ := hn.rel hargs0
  let Fc : Nat → Prop := fun b => F b ∨ blocks μ b
  have h0 : HR Fc [] [] w := ⟨rfl, fun o b base esz tot h => by simp at h, fun o h => by simp at h, fun o esz cells h => by simp at h, fun o o' b base esz tot _ _ _ h => by simp at h,
    fun b ⟨_, _, _, _, h⟩ => by simp at h, fun b h => h.elim (hrr.fb b) hrr.lt, hrr.tb.nil⟩
  have hmove : ∀ b, Free μ F b → Free [] Fc b := fun b hb => ⟨fun ⟨_, _, _, _, h⟩ => by simp at h, fun h => h.elim hb.2 hb.1⟩
  refine (hs Fc [] w _ h0 (hargs.move hno fun b _ h => hmove b h)).mono ?_
  rintro e w' ⟨r', v, hp', μ', rfl, ⟨rfl, rfl⟩, hHR, hv, hf⟩
  have hμ' : μ' = [] := List.eq_nil_of_length_eq_zero hHR.len
  subst hμ'
  have hF : Fr μ w μ w' := ⟨hf.size, fun b hb _ => hf.keep b hb (fun ⟨_, _, _, _, h⟩ => by simp at h), fun b hb => .inl hb, fun o nm h => .inl h, Nat.le_refl _, hf.oo⟩
  refine ⟨v, rfl, k _ v hp μ w' ⟨rfl, rfl⟩ ?_ ?_ hF⟩
  · refine ⟨hrr.len, fun o b base esz tot ho => ?_, hrr.em, hrr.live, hrr.inj, hrr.foF hF, hrr.fbF hF, hrr.tbF hF⟩
    obtain ⟨cells, c, el, fr, g1, g2, g3, g4, g5, g6⟩ := hrr.obj o b base esz tot ho
    exact ⟨cells, c, el, fr, g1, by rw [hf.keep b (heap_lt g2) (fun ⟨_, _, _, _, h⟩ => by simp at h)]; exact g2, g3, g4, g5.mono hF, g6⟩
  · exact hv.move hr fun b hb hfr => ⟨fun h => hfr.2 (.inr h), fun h => hfr.2 (.inl h)⟩

mutual
def flat : AV → Bool
  | .any | .nil | .sc _ => true
  | .agg cs => flatL cs
  | .tup vs => flatL vs
  | _ => false
def flatL : List AV → Bool
  | [] => true
  | x :: xs => flat x && flatL xs
end

mutual
theorem VR.flat : ∀ {x : AV} {v : Value}, VR F μ w x v → SL.flat x = true → VR F' μ' w' x v
  | _, _, .any, _ => .any
  | _, _, .nil, _ => .nil
  | _, _, .sc h, _ => .sc h
  | _, _, .agg h, hx => .agg (VRL.flat h (by simpa [SL.flat] using hx))
  | _, _, .tup h, hx => .tup (VRL.flat h (by simpa [SL.flat] using hx))
  | _, _, .ptr _, hx => by simp [SL.flat] at hx
  | _, _, .ptrD _, hx => by simp [SL.flat] at hx
  | _, _, .sl _ _ _, hx => by simp [SL.flat] at hx
  | _, _, .slN _, hx => by simp [SL.flat] at hx
  | _, _, .slE _, hx => by simp [SL.flat] at hx
  | _, _, .slD _, hx => by simp [SL.flat] at hx
  | _, _, .im0, hx => by simp [SL.flat] at hx
  | _, _, .im _ _ _ _ _ _, hx => by simp [SL.flat] at hx
  | _, _, .ip _ _ _ _, hx => by simp [SL.flat] at hx
  | _, _, .fn _ _, hx => by simp [SL.flat] at hx
  | _, _, .ifc _, hx => by simp [SL.flat] at hx
theorem VRL.flat : ∀ {xs : List AV} {vs : List Value}, VRL F μ w xs vs → flatL xs = true → VRL F' μ' w' xs vs
  | _, _, .nil, _ => .nil
  | _, _, .cons h t, hx => by
    simp only [flatL, Bool.and_eq_true] at hx
    exact .cons (VR.flat h hx.1) (VRL.flat t hx.2)
end

/-- Arguments lent: slices of own rows are read as what they hold. -/
inductive Bw (hp : List AObj) : List AV → List AV → Prop
  | nil : Bw hp [] []
  | keep {x xs ys} (h : noOwn x = true) (t : Bw hp xs ys) : Bw hp (x :: xs) (x :: ys)
  | none {e xs ys} (t : Bw hp xs ys) : Bw hp (.nil :: xs) (.im e [] :: ys)
  | sl {o off len esz cells xs ys} (ho : hp[o]? = some (AObj.row esz cells)) (hl : off + len * esz ≤ cells.length) (hn : noOwnL ((cells.drop off).take (len * esz)) = true) (t : Bw hp xs ys) :
      Bw hp (.sl o off len :: xs) (.im esz ((cells.drop off).take (len * esz)) :: ys)

theorem Bw.rel (hr : HR F hp μ w) : ∀ {xs ys : List AV} {vs : List Value}, Bw hp xs ys → VRL F μ w xs vs → VRL F ([] : List Nm) w ys vs
  | _, _, _, .nil, h => by cases h; exact .nil
  | _, _, _, .keep hx t, h => by
    cases h with
    | cons h1 h2 => exact .cons (h1.move hx fun b _ hb => ⟨fun ⟨_, _, _, _, h⟩ => by simp at h, hb.2⟩) (Bw.rel hr t h2)
  | _, _, _, .none t, h => by
    cases h with
    | cons h1 h2 => cases h1; exact .cons .im0 (Bw.rel hr t h2)
  | _, _, _, .sl (o := o) (off := off) (len := len) (esz := esz) (cells := cells) ho hl hn t, h => by
    cases h with
    | cons h1 h2 =>
      have := Fz.rel (p := 0) hr (.sl ho (Nat.zero_le _) hl hn) h1
      exact .cons (by simpa using this) (Bw.rel hr t h2)

theorem step_lent {f : Nat} {args : Array Operand} {tys : Array TypeId} {xs ys : List AV} {r : AV} (hb : HasBody P f) (hx : args.toList.map (opd env) = xs) (hn : Bw hp xs ys)
    (hs : Spec0 P f ys r) (hfl : flat r = true) : Step P ⟨dst, .call ⟨.value (.func f), args, tys⟩, ty, pos, after, guard⟩ env hp (is r hp) := by
  intro F μ w a hrr he next Q k
  refine upon_calls (exec_callF hb) ?_
  have hargs0 : VRL F μ w xs (args.map a.eval).toList := by rw [← hx]; simpa using mapVRL he args.toList
  have hargs := hn.rel hrr hargs0
  have h0 : HR F [] [] w := ⟨rfl, fun o b base esz tot h => by simp at h, fun o h => by simp at h, fun o esz cells h => by simp at h, fun o o' b base esz tot _ _ _ h => by simp at h,
    fun b ⟨_, _, _, _, h⟩ => by simp at h, hrr.fb, hrr.tb.nil⟩
  refine (hs F [] w _ h0 hargs).mono ?_
  rintro e w' ⟨r', v, hp', μ', rfl, ⟨rfl, rfl⟩, hHR, hv, hf⟩
  have hF : Fr μ w μ w' := ⟨hf.size, fun b hb _ => hf.keep b hb (fun ⟨_, _, _, _, h⟩ => by simp at h), fun b hb => .inl hb, fun o nm h => .inl h, Nat.le_refl _, hf.oo⟩
  refine ⟨v, rfl, k _ v hp μ w' ⟨rfl, rfl⟩ ?_ (hv.flat hfl) hF⟩
  refine ⟨hrr.len, fun o b base esz tot ho => ?_, hrr.em, hrr.live, hrr.inj, hrr.foF hF, hrr.fbF hF, hrr.tbF hF⟩
  obtain ⟨cells, c, el, fr, g1, g2, g3, g4, g5, g6⟩ := hrr.obj o b base esz tot ho
  exact ⟨cells, c, el, fr, g1, by rw [hf.keep b (heap_lt g2) (fun ⟨_, _, _, _, h⟩ => by simp at h)]; exact g2, g3, g4, g5.mono hF, g6⟩

/-- One own row handed over and taken back. -/
theorem step_over {f o esz : Nat} {args : Array Operand} {tys : Array TypeId} {xs ys : List AV} {cells cells' : List AV} {r : AV} (hb : HasBody P f) (hx : args.toList.map (opd env) = xs)
    (ho : hp[o]? = some (AObj.row esz cells)) (hren : xs = renL (fun j => if j = 0 then o else hp.length) ys) (hc : noOwnL cells = true) (hc' : noOwnL cells' = true) (hr' : noOwn r = true)
    (hs : Spec P f ys [.row esz cells] (fun x hp' => x = r ∧ hp' = [.row esz cells'])) :
    Step P ⟨dst, .call ⟨.value (.func f), args, tys⟩, ty, pos, after, guard⟩ env hp (is r (hp.set o (.row esz cells'))) := by
  intro F μ w a hrr he next Q k
  refine upon_calls (exec_callF hb) ?_
  have hargs0 : VRL F μ w xs (args.map a.eval).toList := by rw [← hx]; simpa using mapVRL he args.toList
  have holt : o < μ.length := by
    rw [hrr.len]
    rcases Nat.lt_or_ge o hp.length with h1 | h1
    · exact h1
    · simp [List.getElem?_eq_none h1] at ho
  obtain ⟨nm, hnm⟩ : ∃ nm, μ[o]? = some nm := ⟨_, List.getElem?_eq_getElem holt⟩
  let Fc : Nat → Prop := fun b => F b ∨ ∃ (o' base e tot : Nat), o' ≠ o ∧ μ[o']? = some (Nm.at b base e tot)
  have hFc : ∀ b, Fc b → b < w.heap.size := fun b h => h.elim (hrr.fb b) fun ⟨o', base, e, tot, _, h⟩ => hrr.lt ⟨o', base, e, tot, h⟩
  have hone : ∀ (j : Nat) m, [nm][j]? = some m → j = 0 ∧ m = nm := by
    intro j m h
    cases j with
    | zero => simp at h; exact ⟨rfl, h.symm⟩
    | succ j => simp at h
  have hfree : ∀ b, b < w.heap.size → Free μ F b → Free [nm] Fc b := by
    intro b _ hb
    refine ⟨fun ⟨j, base, e, tot, h⟩ => ?_, fun h => h.elim hb.2 fun ⟨o', base, e, tot, _, h⟩ => hb.1 ⟨o', base, e, tot, h⟩⟩
    obtain ⟨_, h2⟩ := hone _ _ h
    exact hb.1 ⟨o, base, e, tot, by rw [hnm, h2]⟩
  have h0 : HR Fc [.row esz cells] [nm] w := by
    refine ⟨rfl, fun j b base e tot h => ?_, fun j h => ?_, fun j e cs h hd => ?_, fun j j' b base e tot _ _ _ h h' => ?_, fun b ⟨j, base, e, tot, h⟩ hf => ?_, hFc, hrr.tb.sub fun b ⟨j, base, e, tot, h⟩ => by obtain ⟨_, h2⟩ := hone _ _ h; exact ⟨o, base, e, tot, by rw [hnm, h2]⟩⟩
    · obtain ⟨rfl, h2⟩ := hone _ _ h
      subst h2
      obtain ⟨cells0, c, el, fr, g1, g2, g3, g4, g5, g6⟩ := hrr.obj o b base e tot hnm
      rw [ho] at g1
      injection g1 with g1; injection g1 with g1 g1'; subst g1; subst g1'
      exact ⟨cells, c, el, fr, rfl, g2, g3, g4, g5.move hc hfree, g6⟩
    · obtain ⟨rfl, h2⟩ := hone _ _ h
      subst h2
      obtain ⟨e, he'⟩ := hrr.em o hnm
      rw [ho] at he'; injection he' with he'; injection he' with g1 g2; subst g2
      exact ⟨esz, rfl⟩
    · obtain ⟨rfl, h2⟩ := hone _ _ hd
      subst h2
      exact hrr.live o esz cells ho hnm
    · exact (hone _ _ h).1.trans (hone _ _ h').1.symm
    · obtain ⟨rfl, h2⟩ := hone _ _ h
      subst h2
      rcases hf with hf | ⟨o', base', e', tot', hne, h'⟩
      · exact hrr.fo b ⟨o, base, e, tot, hnm⟩ hf
      · exact hne (hrr.inj _ _ _ _ _ _ _ _ _ h' hnm)
  have hargs : VRL Fc [nm] w ys (args.map a.eval).toList := by
    rw [hren] at hargs0
    refine VRL.pull (f := fun j => if j = 0 then o else hp.length) (fun j m hj => ?_) hfree hargs0
    by_cases h : j = 0
    · subst h; simp at hj; rw [hnm] at hj; simpa using hj
    · simp only [h, if_false] at hj; rw [List.getElem?_eq_none (by rw [hrr.len]; exact Nat.le_refl _)] at hj; simp at hj
  refine (hs Fc [nm] w _ h0 hargs).mono ?_
  rintro e w' ⟨r0, v, hp0, μ0, rfl, ⟨rfl, rfl⟩, hHR, hv, hf⟩
  have hl0 : μ0.length = 1 := hHR.len
  obtain ⟨nm', rfl⟩ : ∃ nm', μ0 = [nm'] := by
    match μ0, hl0 with
    | [m], _ => exact ⟨m, rfl⟩
  have hone' : ∀ (j : Nat) m, [nm'][j]? = some m → j = 0 ∧ m = nm' := by
    intro j m h
    cases j with
    | zero => simp at h; exact ⟨rfl, h.symm⟩
    | succ j => simp at h
  have hset : ∀ (o' : Nat) m, (μ.set o nm')[o']? = some m → (o' = o ∧ m = nm') ∨ (o' ≠ o ∧ μ[o']? = some m) := by
    intro o' m h
    by_cases hoo : o = o'
    · subst hoo
      rw [List.getElem?_set_self holt] at h
      exact .inl ⟨rfl, (Option.some.inj h).symm⟩
    · rw [List.getElem?_set_ne hoo] at h; exact .inr ⟨Ne.symm hoo, h⟩
  have hblk : ∀ b, blocks [nm'] b → (∃ base e tot, nm = .at b base e tot) ∨ w.heap.size ≤ b := by
    intro b hb
    rcases hf.new b hb with ⟨j, base, e, tot, h⟩ | h
    · exact .inl ⟨base, e, tot, (hone _ _ h).2.symm⟩
    · exact .inr h
  have hF : Fr μ w (μ.set o nm') w' := by
    refine ⟨hf.size, fun b hb hn => hf.keep b hb fun ⟨j, base, e, tot, h⟩ => hn ⟨o, base, e, tot, by rw [hnm, (hone _ _ h).2]⟩, fun b ⟨o', base, e, tot, h⟩ => ?_, fun o' m hm => ?_, by simp, hf.oo⟩
    · rcases hset _ _ h with ⟨rfl, h2⟩ | ⟨_, h2⟩
      · rcases hblk b ⟨0, base, e, tot, by simp [h2]⟩ with ⟨base', e', tot', h3⟩ | h3
        · exact .inl ⟨o', base', e', tot', by rw [hnm, h3]⟩
        · exact .inr h3
      · exact .inl ⟨o', base, e, tot, h2⟩
    · by_cases hoo : o = o'
      · subst hoo
        rw [List.getElem?_set_self holt]
        rw [hnm] at hm
        injection hm with hm; subst hm
        have := hf.ext 0 nm rfl
        simpa using this
      · rw [List.getElem?_set_ne hoo]; exact .inl hm
  have hfree' : ∀ b, b < w'.heap.size → Free [nm'] Fc b → Free (μ.set o nm') F b := by
    intro b _ hb
    refine ⟨fun ⟨o', base, e, tot, h⟩ => ?_, fun h => hb.2 (.inl h)⟩
    rcases hset _ _ h with ⟨rfl, h2⟩ | ⟨hne, h2⟩
    · exact hb.1 ⟨0, base, e, tot, by simp [h2]⟩
    · exact hb.2 (.inr ⟨o', base, e, tot, hne, h2⟩)
  refine ⟨v, rfl, k _ v _ (μ.set o nm') w' ⟨rfl, rfl⟩ ?_ (hv.move hr' hfree') hF⟩
  have holt' : o < hp.length := by rw [← hrr.len]; exact holt
  refine ⟨by simp [hrr.len], fun o' b base e tot h => ?_, fun o' h => ?_, fun o' e cs h hd => ?_, fun o1 o2 b base e tot base' e' tot' h1 h2 => ?_, hrr.foF hF, hrr.fbF hF, hrr.tbF hF⟩
  · rcases hset _ _ h with ⟨rfl, h2⟩ | ⟨hne, h2⟩
    · obtain ⟨cells0, c, el, fr, g1, g2, g3, g4, g5, g6⟩ := hHR.obj 0 b base e tot (by simp [h2])
      simp at g1
      obtain ⟨g1, g1'⟩ := g1
      subst g1; subst g1'
      exact ⟨cells', c, el, fr, by rw [List.getElem?_set_self holt'], g2, g3, g4, g5.move hc' hfree', g6⟩
    · obtain ⟨cells0, c, el, fr, g1, g2, g3, g4, g5, g6⟩ := hrr.obj o' b base e tot h2
      refine ⟨cells0, c, el, fr, by rw [List.getElem?_set_ne (Ne.symm hne)]; exact g1, ?_, g3, g4, g5.mono hF, g6⟩
      rw [hf.keep b (heap_lt g2) fun ⟨j, base', e', tot', h⟩ => hne (hrr.inj _ _ _ _ _ _ _ _ _ h2 (by rw [hnm, (hone _ _ h).2]))]
      exact g2
  · rcases hset _ _ h with ⟨rfl, h2⟩ | ⟨hne, h2⟩
    · obtain ⟨e, g⟩ := hHR.em 0 (by simp [h2])
      simp at g
      rw [List.getElem?_set_self holt']
      exact ⟨e, by rw [g.1, g.2]⟩
    · rw [List.getElem?_set_ne (Ne.symm hne)]; exact hrr.em o' h2
  · rcases hset _ _ hd with ⟨rfl, h2⟩ | ⟨hne, h2⟩
    · exact hHR.live 0 esz cells' rfl (by simp [h2])
    · rw [List.getElem?_set_ne (Ne.symm hne)] at h; exact hrr.live o' e cs h h2
  · rcases hset _ _ h1 with ⟨rfl, g1⟩ | ⟨hne1, g1⟩ <;> rcases hset _ _ h2 with ⟨g2', g2⟩ | ⟨hne2, g2⟩
    · exact g2'.symm
    · rcases hblk b ⟨0, base, e, tot, by simp [g1]⟩ with ⟨base2, e2, tot2, h3⟩ | h3
      · exact absurd (hrr.inj _ _ _ _ _ _ _ _ _ g2 (by rw [hnm, h3])) hne2
      · have := hrr.lt ⟨o2, base', e', tot', g2⟩; omega
    · subst g2'
      rcases hblk b ⟨0, base', e', tot', by simp [g2]⟩ with ⟨base2, e2, tot2, h3⟩ | h3
      · exact absurd (hrr.inj _ _ _ _ _ _ _ _ _ g1 (by rw [hnm, h3])) hne1
      · have := hrr.lt ⟨o1, base, e, tot, g1⟩; omega
    · exact hrr.inj _ _ _ _ _ _ _ _ _ g1 g2

end Go.SL
