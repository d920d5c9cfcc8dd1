/-
  A callee that hands back one row of its own.
-/
import Derived.Test.YtbimmnnjnlfddaaDoorSlW
set_option linter.unusedVariables false
set_option linter.unusedSectionVars false
namespace Go.SL
open Go
variable [Tabs]
variable {F F' : Nat → Prop} {μ μ' : List Nm} {w w' : World} {P : Program} {env : Nat → AV} {hp : List AObj} {dst : Option Nat} {ty : TypeId} {pos : String} {after : Array Edge} {guard : Option (Nat × Bool)}

mutual
/-- A value told with its row o as row 0. -/
inductive Mv (o : Nat) : AV → AV → Prop
  | keep {x} (h : noOwn x = true) : Mv o x x
  | sl {off len} : Mv o (.sl o off len) (.sl 0 off len)
  | ptr {off} : Mv o (.ptr o off) (.ptr 0 off)
  | tup {xs ys} (h : MvL o xs ys) : Mv o (.tup xs) (.tup ys)
inductive MvL (o : Nat) : List AV → List AV → Prop
  | nil : MvL o [] []
  | cons {x y xs ys} (h : Mv o x y) (t : MvL o xs ys) : MvL o (x :: xs) (y :: ys)
end

theorem blocks_one {nm : Nm} {b : Nat} (h : blocks [nm] b) : ∃ base esz tot, nm = .at b base esz tot := by
  obtain ⟨o, base, esz, tot, h⟩ := h
  cases o with
  | zero => exact ⟨base, esz, tot, by simpa using h⟩
  | succ o => simp at h

mutual
theorem Mv.rel {o : Nat} {nm : Nm} (hm : μ[o]? = some nm) : ∀ {x y : AV} {v : Value}, Mv o x y → VR F μ w x v → VR F [nm] w y v
  | _, _, _, .keep h, hv => hv.move h fun b _ hb => ⟨fun h' => by
      obtain ⟨base, esz, tot, rfl⟩ := blocks_one h'
      exact hb.1 ⟨o, base, esz, tot, hm⟩, hb.2⟩
  | _, _, _, .sl, hv => by
    cases hv with
    | sl h hc hl => rw [hm] at h; injection h with h; subst h; exact .sl rfl hc hl
    | slN h => rw [hm] at h; injection h with h; subst h; exact .slN (o := 0) rfl
    | slE h => rw [hm] at h; injection h with h; subst h; exact .slE (o := 0) rfl
    | slD h => rw [hm] at h; injection h with h; subst h; exact .slD rfl
  | _, _, _, .ptr, hv => by
    cases hv with
    | ptr h => rw [hm] at h; injection h with h; subst h; exact .ptr (o := 0) rfl
    | ptrD h => rw [hm] at h; injection h with h; subst h; exact .ptrD rfl
  | _, _, _, .tup h, hv => by
    cases hv with
    | tup hv => exact .tup (MvL.rel hm h hv)
theorem MvL.rel {o : Nat} {nm : Nm} (hm : μ[o]? = some nm) : ∀ {xs ys : List AV} {vs : List Value}, MvL o xs ys → VRL F μ w xs vs → VRL F [nm] w ys vs
  | _, _, _, .nil, hv => by cases hv; exact .nil
  | _, _, _, .cons h t, hv => by
    cases hv with
    | cons a b => exact .cons (Mv.rel hm h a) (MvL.rel hm t b)
end

theorem Cv.one {o esz : Nat} {cells : List AV} {x y : AV} (ho : hp[o]? = some (AObj.row esz cells)) (hno : noOwnL cells = true) (hm : Mv o x y) : Cv 0 hp x [.row esz cells] y := by
  intro F μ w v hr hv
  have hlt : o < μ.length := by
    rw [hr.len]
    rcases Nat.lt_or_ge o hp.length with h1 | h1
    · exact h1
    · simp [List.getElem?_eq_none h1] at ho
  have hnm : μ[o]? = some μ[o] := List.getElem?_eq_getElem hlt
  generalize μ[o] = nm at hnm
  have hsub : ∀ b, blocks [nm] b → blocks μ b := fun b hb => by
    obtain ⟨base, esz, tot, rfl⟩ := blocks_one hb
    exact ⟨o, base, esz, tot, hnm⟩
  refine ⟨[nm], ⟨rfl, fun o' b base esz' tot h => ?_, fun o' h => ?_, fun o' esz' cells' h => ?_, fun o1 o2 b base e1 t1 base' e2 t2 h1 h2 => ?_, fun b hb => hr.fo b (hsub b hb), hr.fb, hr.tb.sub hsub⟩, hm.rel hnm hv, hsub, fun o' _ h => absurd h (by omega), Nat.zero_le _⟩
  · cases o' with
    | succ k => simp at h
    | zero =>
      simp only [List.getElem?_cons_zero, Option.some.injEq] at h
      subst h
      obtain ⟨cells0, c, el, fr, g1, g2, g3, g4, g5, g6⟩ := hr.obj o b base esz' tot hnm
      rw [ho] at g1; injection g1 with g1; injection g1 with g1 g1'; subst g1; subst g1'
      exact ⟨cells, c, el, fr, rfl, g2, g3, g4, g5.move hno fun b' _ hb' => ⟨fun h' => hb'.1 (hsub b' h'), hb'.2⟩, g6⟩
  · cases o' with
    | succ k => simp at h
    | zero =>
      simp only [List.getElem?_cons_zero, Option.some.injEq] at h
      subst h
      obtain ⟨e, g⟩ := hr.em o hnm
      rw [ho] at g; injection g with g; injection g with g g'; subst g; subst g'
      exact ⟨esz, rfl⟩
  · cases o' with
    | succ k => simp at h
    | zero =>
      simp only [List.getElem?_cons_zero, Option.some.injEq] at h
      intro hd
      simp only [List.getElem?_cons_zero, Option.some.injEq] at hd
      subst hd
      exact hr.live o esz cells ho hnm
  · cases o1 with
    | succ k => simp at h1
    | zero => cases o2 with
      | succ k => simp at h2
      | zero => rfl

theorem step_own {f : Nat} {args : Array Operand} {tys : Array TypeId} {xs ys : List AV} {r y : AV} {esz : Nat} {cells : List AV} (hb : HasBody P f) (hx : args.toList.map (opd env) = xs) (hn : Nl xs ys)
    (hs : Spec P f ys [] (fun r' h => r' = r ∧ h = [.row esz cells])) (hno : noOwnL cells = true) (hy : ren (fun j => j + hp.length) r = y) :
    Step P ⟨dst, .call ⟨.value (.func f), args, tys⟩, ty, pos, after, guard⟩ env hp (is y (hp ++ [.row esz cells])) := by
  subst hy
  intro F μ w a hrr he next Q k
  refine upon_calls (exec_callF hb) ?_
  have hargs0 : VRL F μ w xs (args.map a.eval).toList := by rw [← hx]; simpa using mapVRL he args.toList
  obtain ⟨hargs, hno'⟩ := hn.rel hargs0
  let Fc : Nat → Prop := fun b => F b ∨ blocks μ b
  have h0 : HR Fc [] [] w := ⟨rfl, fun o b base esz tot h => by simp at h, fun o h => by simp at h, fun o esz cells h => by simp at h, fun o o' b base esz tot _ _ _ h => by simp at h,
    fun b ⟨_, _, _, _, h⟩ => by simp at h, fun b h => h.elim (hrr.fb b) hrr.lt, hrr.tb.nil⟩
  have hmove : ∀ b, Free μ F b → Free [] Fc b := fun b hb => ⟨fun ⟨_, _, _, _, h⟩ => by simp at h, fun h => h.elim hb.2 hb.1⟩
  refine (hs Fc [] w _ h0 (hargs.move hno' fun b _ h => hmove b h)).mono ?_
  rintro e w' ⟨r', v, hp', μ1, rfl, ⟨rfl, rfl⟩, hHR, hv, hf⟩
  have hl1 : μ1.length = 1 := hHR.len
  obtain ⟨nm, rfl⟩ : ∃ nm, μ1 = [nm] := by
    match μ1, hl1 with
    | [nm], _ => exact ⟨nm, rfl⟩
  have hlen := hrr.len
  have hold : ∀ o, o < μ.length → (μ ++ [nm])[o]? = μ[o]? := fun o h => List.getElem?_append_left h
  have hnew : (μ ++ [nm])[μ.length]? = some nm := by simp
  have hcase : ∀ {o : Nat} {m : Nm}, (μ ++ [nm])[o]? = some m → (o < μ.length ∧ μ[o]? = some m) ∨ (o = μ.length ∧ nm = m) := by
    intro o m h
    rcases Nat.lt_or_ge o μ.length with h1 | h1
    · rw [hold o h1] at h; exact .inl ⟨h1, h⟩
    · rw [List.getElem?_append_right h1] at h
      cases hk : o - μ.length with
      | zero => rw [hk] at h; simp at h; exact .inr ⟨by omega, h⟩
      | succ q => rw [hk] at h; simp at h
  have hblk : ∀ b, blocks (μ ++ [nm]) b → blocks μ b ∨ blocks [nm] b := fun b ⟨o, base, e, t, h⟩ => by
    rcases hcase h with ⟨_, h1⟩ | ⟨_, rfl⟩
    · exact .inl ⟨o, base, e, t, h1⟩
    · exact .inr ⟨0, base, e, t, rfl⟩
  have hkeep : ∀ b, b < w.heap.size → w'.heap[b]? = w.heap[b]? := fun b hb => hf.keep b hb (fun ⟨_, _, _, _, h⟩ => by simp at h)
  have hF : Fr μ w (μ ++ [nm]) w' := ⟨hf.size, fun b hb _ => hkeep b hb, fun b hb => by
      rcases hblk b hb with h | h
      · exact .inl h
      · rcases hf.new b h with ⟨_, _, _, _, h2⟩ | h2
        · simp at h2
        · exact .inr h2, fun o m h => .inl (by
      have : o < μ.length := by
        rcases Nat.lt_or_ge o μ.length with h1 | h1
        · exact h1
        · simp [List.getElem?_eq_none h1] at h
      rw [hold o this]; exact h), by simp, hf.oo⟩
  have hfree : ∀ b, b < w'.heap.size → Free [nm] Fc b → Free (μ ++ [nm]) F b := fun b _ hb => ⟨fun h => by
    rcases hblk b h with h1 | h1
    · exact hb.2 (.inr h1)
    · exact hb.1 h1, fun h => hb.2 (.inl h)⟩
  refine ⟨v, rfl, k _ v _ (μ ++ [nm]) w' ⟨rfl, rfl⟩ ?_ ?_ hF⟩
  · refine ⟨by simp [hlen], fun o b base e t ho => ?_, fun o ho => ?_, fun o e cs ho => ?_, fun o o' b base e t base' e' t' h1 h2 => ?_, hrr.foF hF, hrr.fbF hF, hrr.tbF hF⟩
    · rcases hcase ho with ⟨h1, h2⟩ | ⟨h1, rfl⟩
      · obtain ⟨cs, c, el, fr, g1, g2, g3, g4, g5, g6⟩ := hrr.obj o b base e t h2
        exact ⟨cs, c, el, fr, by rw [List.getElem?_append_left (by omega)]; exact g1, by rw [hkeep b (heap_lt g2)]; exact g2, g3, g4, g5.mono hF, g6⟩
      · obtain ⟨cs, c, el, fr, g1, g2, g3, g4, g5, g6⟩ := hHR.obj 0 b base e t rfl
        simp only [List.getElem?_cons_zero, Option.some.injEq, AObj.row.injEq] at g1
        obtain ⟨rfl, rfl⟩ := g1
        exact ⟨cells, c, el, fr, by rw [h1, hlen]; simp, g2, g3, g4, g5.move hno hfree, g6⟩
    · rcases hcase ho with ⟨h1, h2⟩ | ⟨h1, h2⟩
      · obtain ⟨e, g⟩ := hrr.em o h2
        exact ⟨e, by rw [List.getElem?_append_left (by omega)]; exact g⟩
      · obtain ⟨e, g⟩ := hHR.em 0 (by rw [h2]; rfl)
        exact ⟨e, by rw [h1, hlen]; simpa using g⟩
    · intro hd
      rcases hcase hd with ⟨h1, h2⟩ | ⟨h1, h2⟩
      · rw [List.getElem?_append_left (by omega)] at ho
        exact hrr.live o e cs ho h2
      · rw [h1, hlen] at ho
        simp at ho
        exact hHR.live 0 esz cells rfl (by rw [h2]; rfl)
    · rcases hcase h1 with ⟨a1, a2⟩ | ⟨a1, a2⟩ <;> rcases hcase h2 with ⟨b1, b2⟩ | ⟨b1, b2⟩
      · exact hrr.inj _ _ _ _ _ _ _ _ _ a2 b2
      · exact (hHR.fo b ⟨0, base', e', t', by rw [b2]; rfl⟩ (.inr ⟨o, base, e, t, a2⟩)).elim
      · exact (hHR.fo b ⟨0, base, e, t, by rw [a2]; rfl⟩ (.inr ⟨o', base', e', t', b2⟩)).elim
      · omega
  · refine hv.push (fun j m hj _ => ?_) hfree
    cases j with
    | succ q => simp at hj
    | zero => rw [Nat.zero_add, ← hlen, hnew]; simpa using hj
end Go.SL
