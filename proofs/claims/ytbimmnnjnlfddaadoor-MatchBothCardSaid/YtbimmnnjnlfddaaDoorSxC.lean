/-
  Code evaluated: regions, tests, blocks, loops, calls; what is computed is what the code does.
-/
import Derived.Test.YtbimmnnjnlfddaaDoorSxB
import Derived.Test.YtbimmnnjnlfddaaDoorSlAa
set_option linter.unusedVariables false
set_option linter.unusedSimpArgs false
set_option linter.unusedSectionVars false
namespace Go.SL
open Go
variable [Tabs]
variable {P : Program} {n : Nat} {F : Nat → Prop} {μ μ' : List Nm} {w w' : World} {env : Nat → AV} {hp : List AObj} {dst : Option Nat} {ty : TypeId} {pos : String} {after : Array Edge} {guard : Option (Nat × Bool)}

/-- A loop of so many rounds at most. -/
def loopK (P : Program) (n : Nat) (c : Code) (K : Exit → SS → Prop) : Nat → Exit → SS → Prop
  | 0, .normal, _ => False
  | k + 1, .normal, σ => W P n c (loopK P n c K k) σ
  | _, e, σ => K e σ
theorem loopK_other {c : Code} {K : Exit → SS → Prop} {k : Nat} {e : Exit} {σ : SS} (he : e ≠ .normal) (h : loopK P n c K k e σ) : K e σ := by
  cases k <;> cases e <;> first | exact h | exact absurd rfl he
theorem W.loopN {c : Code} {K : Exit → SS → Prop} {σ : SS} (k : Nat) (h : W P n c (loopK P n c K k) σ) : W P n (.loop c) K σ := by
  intro F μ a w hs b kk cs
  have key : ∀ (k : Nat) (σ : SS), W P n c (loopK P n c K k) σ → ∀ μ a w, SR F n σ μ a w →
      ∃ e a' w', Post F n K μ w e a' w' ∧ Arrives P (lone (b.at a (.code c :: .inLoop c :: kk)) cs w) b kk cs e a' w' := by
    intro k
    induction k with
    | zero =>
      intro σ h μ a w hs
      obtain ⟨e, a1, w1, ⟨σ1, μ1, hK, hs1, hf⟩, harr⟩ := h F μ a w hs b (.inLoop c :: kk) cs
      cases e with
      | normal => exact hK.elim
      | exit id => exact ⟨_, a1, w1, ⟨σ1, μ1, hK, hs1, hf⟩, .pass (x := .inLoop c) rfl (fun _ _ => .inl (by simp)) harr⟩
      | goto l => exact ⟨_, a1, w1, ⟨σ1, μ1, hK, hs1, hf⟩, .pass (x := .inLoop c) rfl (fun _ _ => .inl (by simp)) harr⟩
      | ret => exact ⟨_, a1, w1, ⟨σ1, μ1, hK, hs1, hf⟩, .pass (x := .inLoop c) rfl (fun _ _ => .inl (by simp)) harr⟩
      | panic ch => exact ⟨_, a1, w1, ⟨σ1, μ1, hK, hs1, hf⟩, .pass (x := .inLoop c) rfl (fun _ _ => .inl (by simp)) harr⟩
      | outgrown => exact ⟨_, a1, w1, ⟨σ1, μ1, hK, hs1, hf⟩, .pass (x := .inLoop c) rfl (fun _ _ => .inl (by simp)) harr⟩
    | succ k ih =>
      intro σ h μ a w hs
      obtain ⟨e, a1, w1, ⟨σ1, μ1, hK, hs1, hf⟩, harr⟩ := h F μ a w hs b (.inLoop c :: kk) cs
      cases e with
      | normal =>
        obtain ⟨e3, a3, w3, hp3, harr3⟩ := ih σ1 hK μ1 a1 w1 hs1
        exact ⟨e3, a3, w3, Post.mono hf hp3, .of_steps (Steps.trans harr (.one step_inLoop)) harr3⟩
      | exit id => exact ⟨_, a1, w1, ⟨σ1, μ1, hK, hs1, hf⟩, .pass (x := .inLoop c) rfl (fun _ _ => .inl (by simp)) harr⟩
      | goto l => exact ⟨_, a1, w1, ⟨σ1, μ1, hK, hs1, hf⟩, .pass (x := .inLoop c) rfl (fun _ _ => .inl (by simp)) harr⟩
      | ret => exact ⟨_, a1, w1, ⟨σ1, μ1, hK, hs1, hf⟩, .pass (x := .inLoop c) rfl (fun _ _ => .inl (by simp)) harr⟩
      | panic ch => exact ⟨_, a1, w1, ⟨σ1, μ1, hK, hs1, hf⟩, .pass (x := .inLoop c) rfl (fun _ _ => .inl (by simp)) harr⟩
      | outgrown => exact ⟨_, a1, w1, ⟨σ1, μ1, hK, hs1, hf⟩, .pass (x := .inLoop c) rfl (fun _ _ => .inl (by simp)) harr⟩
  obtain ⟨e, a', w', hq, harr⟩ := key k σ h μ a w hs
  exact ⟨e, a', w', hq, .of_steps (.one step_loop) harr⟩

/-- A call through a function value, with what it has caught. -/
theorem step_callV {fo : Operand} {args : Array Operand} {tys : Array TypeId} {g : Nat} {first caps : List AV} {R : AV → List AObj → Prop} (hb : HasBody P g) (hf : opd env fo = .fn g first caps)
    (hs : Spec P g (first ++ args.toList.map (opd env) ++ caps) hp R) :
    Step P ⟨dst, .call ⟨.value fo, args, tys⟩, ty, pos, after, guard⟩ env hp R := by
  intro F μ w a hr he next Q k
  have hv := hf ▸ he.opd fo
  obtain ⟨x, y, hx, h1, h2⟩ : ∃ x y : Array Value, a.eval fo = .func (.func g) x y ∧ VRL F μ w first x.toList ∧ VRL F μ w caps y.toList := by
    generalize a.eval fo = v at hv
    cases hv with
    | fn h1 h2 => exact ⟨_, _, rfl, h1, h2⟩
  have hex : (execOp a.eval ⟨dst, .call ⟨.value fo, args, tys⟩, ty, pos, after, guard⟩).run P w = .ok (.enter g (x ++ args.map a.eval ++ y)) w := by
    simp [execOp, resolve, hx, Deferred.ofValue, invoke, hb _ w]
  refine upon_calls hex ?_
  have hargs : VRL F μ w (first ++ args.toList.map (opd env) ++ caps) (x ++ args.map a.eval ++ y).toList := by
    simp only [Array.toList_append, Array.toList_map]
    exact (h1.append (mapVRL he args.toList)).append h2
  refine (hs F μ w _ hr hargs).mono ?_
  rintro e w' ⟨r, v, hp', μ', rfl, hR, hHR, hv', hfr⟩
  exact ⟨v, rfl, k r v hp' μ' w' hR hHR hv' hfr⟩

abbrev Env := List (Nat × AV)
def putE (env : Env) : Option Nat → AV → Env
  | some d, x => (d, x) :: env
  | none, _ => env
theorem putE_tbl {env : Env} {d : Option Nat} {x : AV} : tbl (putE env d x) = put (tbl env) d x := by
  cases d <;> rfl

/-- What a walk is told beforehand: at operation i of region r of function f: a bool's, a number's, a value's form; that a call goes by contract. -/
inductive Item where
  | b (f r i : Nat) (v : Bool)
  | z (f r i : Nat) (v : Int)
  | v (f r i : Nat) (x : AV)
  | c (f r i : Nat) (x : AV)
  | n (f r i k : Nat)
  | j (f r i m j : Nat)
  | l (f r i : Nat) (y : AV)
  | t (f r i m l h : Nat) (ys : List AV)
  | p (f r i m k : Nat) (X ys : List AV)
  | k (f r i : Nat) (x : AV)
  | q (f r i : Nat) (z : Int)
  | e (f r i : Nat) (x : AV)
  | r (f r i : Nat)
  | fz (f r i : Nat) (l : List (Nat × AV))

structure St where
  sc : List Item
  cs : List Prop
  eq : List (Option AObj × Option AObj)
def St.Good (s : St) : Prop := allP s.cs ∧ ∀ p ∈ s.eq, p.1 = p.2

theorem allP_append : ∀ {l l' : List Prop}, allP (l ++ l') → allP l ∧ allP l'
  | [], _, h => ⟨trivial, h⟩
  | _ :: _, _, h => ⟨⟨h.1, (allP_append h.2).1⟩, (allP_append h.2).2⟩
theorem St.Good.app {s : St} {ps : List Prop} (h : St.Good ⟨s.sc, ps ++ s.cs, s.eq⟩) : allP ps ∧ s.Good := ⟨(allP_append h.1).1, (allP_append h.1).2, h.2⟩

def key (f r i f' r' i' : Nat) : Bool := Nat.beq i i' && Nat.beq r r' && Nat.beq f f'

/-- The value of a kind told in another form. -/
def setK : Kd → AV → Kd
  | .q _ O, x => .q x O
  | .ef _ h, x => .ef x h
  | k, _ => k
def valK : Kd → Option AV
  | .q x _ => some x
  | .ef x _ => some x
  | _ => none
theorem setK.ok {o : Oper} {k : Kd} {x y : AV} (hk : valK k = some x) (e : x = y) (h : OK1 P o env hp k) : OK1 P o env hp (setK k y) := by
  subst e
  cases k <;> simp only [valK] at hk <;> first | (injection hk with hk; subst hk; exact h) | (simp at hk)
theorem setK.heap {k : Kd} {x : AV} : (setK k x).heap hp = k.heap hp := by cases k <;> rfl

def useI (f r i : Nat) (k : Kd) (s : St) : Kd × St := match s.sc with
  | .b f' r' i' v :: l => bif key f r i f' r' i' then (match valK k with
      | some (.sc (.bool b)) => (setK k (.sc (.bool v)), ⟨l, (b = v) :: s.cs, s.eq⟩)
      | _ => (k, s)) else (k, s)
  | .z f' r' i' v :: l => bif key f r i f' r' i' then (match valK k with
      | some (.sc (.int kd z)) => (setK k (.sc (.int kd v)), ⟨l, (z = v) :: s.cs, s.eq⟩)
      | _ => (k, s)) else (k, s)
  | .v f' r' i' v :: l => bif key f r i f' r' i' then (match valK k with
      | some x => (setK k v, ⟨l, (x = v) :: s.cs, s.eq⟩)
      | _ => (k, s)) else (k, s)
  | _ => (k, s)
theorem useI.ok {f r i : Nat} {o : Oper} {k : Kd} {s : St} (hg : (useI f r i k s).2.Good) (h : s.Good → OK1 P o env hp k) : s.Good ∧ OK1 P o env hp (useI f r i k s).1 := by
  unfold useI at hg ⊢
  split
  · rename_i f' r' i' v l hs
    simp only [hs] at hg
    cases hk : key f r i f' r' i'
    · rw [hk] at hg; exact ⟨hg, h hg⟩
    · rw [hk] at hg
      simp only [cond_true] at hg ⊢
      split
      · rename_i b hb
        rw [hb] at hg
        have hg' : s.Good := ⟨hg.1.2, hg.2⟩
        exact ⟨hg', setK.ok hb (by rw [show b = v from hg.1.1]) (h hg')⟩
      · rename_i hb
        split at hg
        · rename_i b hb'; exact absurd hb' (hb b)
        · exact ⟨hg, h hg⟩
  · rename_i f' r' i' v l hs
    simp only [hs] at hg
    cases hk : key f r i f' r' i'
    · rw [hk] at hg; exact ⟨hg, h hg⟩
    · rw [hk] at hg
      simp only [cond_true] at hg ⊢
      split
      · rename_i kd z hb
        rw [hb] at hg
        have hg' : s.Good := ⟨hg.1.2, hg.2⟩
        exact ⟨hg', setK.ok hb (by rw [show z = v from hg.1.1]) (h hg')⟩
      · rename_i hb
        split at hg
        · rename_i kd z hb'; exact absurd hb' (hb kd z)
        · exact ⟨hg, h hg⟩
  · rename_i f' r' i' v l hs
    simp only [hs] at hg
    cases hk : key f r i f' r' i'
    · rw [hk] at hg; exact ⟨hg, h hg⟩
    · rw [hk] at hg
      simp only [cond_true] at hg ⊢
      split
      · rename_i x hb
        rw [hb] at hg
        have hg' : s.Good := ⟨hg.1.2, hg.2⟩
        exact ⟨hg', setK.ok hb hg.1.1 (h hg')⟩
      · rename_i hb
        split at hg
        · rename_i x hb'; exact absurd hb' (hb x)
        · exact ⟨hg, h hg⟩
  · rename_i h1 h2 h3
    split at hg
    · rename_i hs; exact absurd hs (h1 _ _ _ _ _)
    · rename_i hs; exact absurd hs (h2 _ _ _ _ _)
    · rename_i hs; exact absurd hs (h3 _ _ _ _ _)
    · exact ⟨hg, h hg⟩

abbrev CallF := Nat → List AV → List AObj → St → Option (AV × List AObj × St)
def CallOK (P : Program) (call : CallF) : Prop := ∀ g xs hp st x hp' st', call g xs hp st = some (x, hp', st') → st'.Good → st.Good ∧ hp.length ≤ hp'.length ∧ HasBody P g ∧ Spec P g xs hp (is x hp')

/-- Whom an operation calls, and with what. -/
def callee (env : Nat → AV) : Op → Option (Nat × List AV)
  | .call ⟨.value fo, args, _⟩ => match opd env fo with
    | .fn g first caps => some (g, first ++ args.toList.map (opd env) ++ caps)
    | _ => none
  | _ => none
theorem callee.ok {o : Oper} {g : Nat} {xs : List AV} (h : callee env o.op = some (g, xs)) {R : AV → List AObj → Prop} (hb : HasBody P g) (hs : Spec P g xs hp R) : Step P o env hp R := by
  obtain ⟨dst, op, ty, pos, after, guard⟩ := o
  unfold callee at h
  split at h
  · rename_i fo args tys hop
    simp only at hop; subst hop
    split at h
    · rename_i g' first caps hf
      injection h with h; injection h with h1 h2; subst h1; subst h2
      exact step_callV hb hf hs
    · simp at h
  · simp at h

def isC (f r i : Nat) : List Item → Option (Option Bool × AV × List Item)
  | .c f' r' i' x :: l => bif key f r i f' r' i' then some (some true, x, l) else none
  | .k f' r' i' x :: l => bif key f r i f' r' i' then some (some false, x, l) else none
  | .e f' r' i' x :: l => bif key f r i f' r' i' then some (none, x, l) else none
  | _ => none

/-- Arguments as a callee reads them to whom slices of own rows are lent. -/
def bwV (hp : List AObj) : List AV → Option (List AV)
  | [] => some []
  | .sl o off len :: xs => match nth hp o with
    | some (.row esz cells) => bif Nat.ble (off + len * esz) cells.length && noOwnL ((cells.drop off).take (len * esz)) then (match bwV hp xs with
      | some ys => some (.im esz ((cells.drop off).take (len * esz)) :: ys)
      | none => none) else none
    | _ => none
  | x :: xs => bif noOwn x then (match bwV hp xs with
    | some ys => some (x :: ys)
    | none => none) else none
theorem bwV.ok : ∀ {xs ys : List AV}, bwV hp xs = some ys → Bw hp xs ys
  | [], ys, h => by simp only [bwV, Option.some.injEq] at h; subst h; exact .nil
  | x :: xs, ys, h => by
    unfold bwV at h
    split at h
    · rename_i h1; simp at h1
    · rename_i o off len xs' h1
      simp only [List.cons.injEq] at h1
      obtain ⟨rfl, rfl⟩ := h1
      split at h
      · rename_i esz cells ho; rw [nth_eq] at ho
        cases hb : Nat.ble (off + len * esz) cells.length && noOwnL ((cells.drop off).take (len * esz))
        · rw [hb] at h; simp at h
        · rw [hb] at h; simp only [cond_true] at h
          simp only [Bool.and_eq_true] at hb
          split at h
          · rename_i zs hz; simp only [Option.some.injEq] at h; subst h
            exact .sl ho (Nat.le_of_ble_eq_true hb.1) hb.2 (bwV.ok hz)
          · simp at h
      · simp at h
    · rename_i x' xs' hne h1
      simp only [List.cons.injEq] at h1
      obtain ⟨rfl, rfl⟩ := h1
      cases hb : noOwn x
      · rw [hb] at h; simp at h
      · rw [hb] at h; simp only [cond_true] at h
        split at h
        · rename_i zs hz; simp only [Option.some.injEq] at h; subst h
          exact .keep hb (bwV.ok hz)
        · simp at h

/-- A contract used where no own row is handed over. -/
theorem step_pureV {o : Oper} {g : Nat} {xs : List AV} {r : AV} (h : callee env o.op = some (g, xs)) (hb : HasBody P g) (hno : noOwnL xs = true) (hs : Spec0 P g xs r) (hr : noOwn r = true) : ∀ hp, Step P o env hp (is r hp) := by
  intro hp
  refine callee.ok h hb ?_
  intro F μ w args' hrr hargs
  let Fc : Nat → Prop := fun b => F b ∨ blocks μ b
  have h0 : HR Fc [] [] w := ⟨rfl, fun o b base esz tot h => by simp at h, fun o h => by simp at h, fun o esz cells h => by simp at h, fun o o' b base esz tot _ _ _ h => by simp at h,
    fun b ⟨_, _, _, _, h⟩ => by simp at h, fun b h => h.elim (hrr.fb b) hrr.lt, hrr.tb.nil⟩
  have hmove : ∀ b, Free μ F b → Free [] Fc b := fun b hb => ⟨fun ⟨_, _, _, _, h⟩ => by simp at h, fun h => h.elim hb.2 hb.1⟩
  refine (hs Fc [] w _ h0 (hargs.move hno fun b _ h => hmove b h)).mono ?_
  rintro e w' ⟨r', v, hp', μ', rfl, ⟨rfl, rfl⟩, hHR, hv, hf⟩
  have hμ' : μ' = [] := List.eq_nil_of_length_eq_zero hHR.len
  subst hμ'
  have hF : Fr μ w μ w' := ⟨hf.size, fun b hb _ => hf.keep b hb (fun ⟨_, _, _, _, h⟩ => by simp at h), fun b hb => .inl hb, fun o nm h => .inl h, Nat.le_refl _, hf.oo⟩
  refine ⟨_, v, hp, μ, rfl, ⟨rfl, rfl⟩, ?_, ?_, hF⟩
  · refine ⟨hrr.len, fun o b base esz tot ho => ?_, hrr.em, hrr.live, hrr.inj, hrr.foF hF, hrr.fbF hF, hrr.tbF hF⟩
    obtain ⟨cells, c, el, fr, g1, g2, g3, g4, g5, g6⟩ := hrr.obj o b base esz tot ho
    exact ⟨cells, c, el, fr, g1, by rw [hf.keep b (heap_lt g2) (fun ⟨_, _, _, _, h⟩ => by simp at h)]; exact g2, g3, g4, g5.mono hF, g6⟩
  · exact hv.move hr fun b hb hfr => ⟨fun h => hfr.2 (.inr h), fun h => hfr.2 (.inl h)⟩

/-- A contract used where slices of own rows are lent. -/
theorem step_lentV {o : Oper} {g : Nat} {xs ys : List AV} {r : AV} (h : callee env o.op = some (g, xs)) (hb : HasBody P g) (hn : Bw hp xs ys) (hs : Spec0 P g ys r) (hfl : flat r = true) : Step P o env hp (is r hp) := by
  refine callee.ok h hb ?_
  intro F μ w args' hrr hargs0
  have hargs := hn.rel hrr hargs0
  have h0 : HR F [] [] w := ⟨rfl, fun o b base esz tot h => by simp at h, fun o h => by simp at h, fun o esz cells h => by simp at h, fun o o' b base esz tot _ _ _ h => by simp at h,
    fun b ⟨_, _, _, _, h⟩ => by simp at h, hrr.fb, hrr.tb.nil⟩
  refine (hs F [] w _ h0 hargs).mono ?_
  rintro e w' ⟨r', v, hp', μ', rfl, ⟨rfl, rfl⟩, hHR, hv, hf⟩
  have hF : Fr μ w μ w' := ⟨hf.size, fun b hb _ => hf.keep b hb (fun ⟨_, _, _, _, h⟩ => by simp at h), fun b hb => .inl hb, fun o nm h => .inl h, Nat.le_refl _, hf.oo⟩
  refine ⟨_, v, hp, μ, rfl, ⟨rfl, rfl⟩, ?_, hv.flat hfl, hF⟩
  refine ⟨hrr.len, fun o b base esz tot ho => ?_, hrr.em, hrr.live, hrr.inj, hrr.foF hF, hrr.fbF hF, hrr.tbF hF⟩
  obtain ⟨cells, c, el, fr, g1, g2, g3, g4, g5, g6⟩ := hrr.obj o b base esz tot ho
  exact ⟨cells, c, el, fr, g1, by rw [hf.keep b (heap_lt g2) (fun ⟨_, _, _, _, h⟩ => by simp at h)]; exact g2, g3, g4, g5.mono hF, g6⟩

def bdP (d : Nat) (v : Nat) : Option AV → Option Prop
  | none => some (v = d)
  | some (.sc (.int _ z)) => some (z = (v : Int))
  | _ => none
theorem bdP.ok {d v : Nat} {x : Option Operand} {p : Prop} (h : bdP d v (x.map (opd env)) = some p) (hp : p) : Bd env x d v := by
  cases x with
  | none => simp only [Option.map_none, bdP, Option.some.injEq] at h; subst h; exact hp
  | some x =>
    simp only [Option.map_some] at h
    unfold bdP at h
    split at h
    · rename_i h1; simp at h1
    · rename_i k z h1
      simp only [Option.some.injEq] at h1 h; subst h
      exact Bd.some h1 hp
    · simp at h
/-- A source of append told by what it holds. -/
def srcP (hp : List AObj) (esz m : Nat) (X : List AV) : AV → Option (List Prop)
  | .im e cells => bif Nat.beq e esz then some [m * e = cells.length, 0 < e, cells.all cellAV = true, cells = X] else none
  | x => match srcV hp esz x with
    | some (m', X') => some [m' = m, X' = X]
    | none => none
theorem srcP.ok {esz m : Nat} {X : List AV} {x : Operand} {ps : List Prop} (h : srcP hp esz m X (opd env x) = some ps) (hp' : allP ps) : Src P env hp esz x m X := by
  unfold srcP at h; split at h
  · rename_i e cells hx
    cases hb : Nat.beq e esz
    · rw [hb] at h; simp at h
    · rw [hb] at h; simp only [cond_true, Option.some.injEq] at h; subst h
      have e1 := Nat.eq_of_beq_eq_true hb; subst e1
      obtain ⟨h1, h2, h3, h4, _⟩ := hp'
      subst h4
      exact Src.im hx h1 h2 h3
  · split at h
    · rename_i m' X' hs
      simp only [Option.some.injEq] at h; subst h
      obtain ⟨h1, h2, _⟩ := hp'
      subst h1; subst h2
      exact srcV.ok hs
    · simp at h

/-- Slices of unknown length: what is told beforehand of an operation. -/
def special (P : Program) (f r i : Nat) (env : Nat → AV) (hp : List AObj) (o : Op) (sc : List Item) : Option (Kd × List Prop × List Item) := match sc with
  | .n f' r' i' k :: l => bif key f r i f' r' i' then (match o with
    | .call ⟨.builtin .len, ⟨[x]⟩, ⟨[t]⟩⟩ => match opd env x, elemT P t with
      | .im esz cells, some e => some (.q (.sc (.int .i64 (k : Int))) [], [k * esz = cells.length, 0 < esz], l)
      | _, _ => none
    | _ => none) else none
  | .j f' r' i' m j :: l => bif key f r i f' r' i' then (match o with
    | .indexAddr t x ix => match elemT P t with
      | some e => match szB P e, opd env ix with
        | some sz, .sc (.int _ z) => match opd env x with
          | .im esz cells => bif Nat.beq sz esz then some (.q (.ip cells (j * esz)) [], [m * esz = cells.length, 0 < esz, z = (j : Int), j < m], l) else none
          | .sl o off len => match nth hp o with
            | some (.row esz cells) => bif Nat.beq sz esz then some (.q (.ptr o (off + j * esz)) [(o, .row esz cells)], [z = (j : Int), j < len], l) else none
            | _ => none
          | _ => none
        | _, _ => none
      | none => none
    | _ => none) else none
  | .l f' r' i' y :: l => bif key f r i f' r' i' then (match o with
    | .load t x => match opd env x with
      | .ip cells q => match aggB P t with
        | some false => some (.q y [], [cells[q]? = some y], l)
        | some true => match szB P t, y with
          | some k, .agg ys => some (.q y [], [(cells.drop q).take k = ys, q + k ≤ cells.length], l)
          | _, _ => none
        | none => none
      | .ptr o off => match nth hp o with
        | some (.row esz cells) => match aggB P t with
          | some false => some (.q y [(o, .row esz cells)], [cells[off]? = some y], l)
          | some true => match szB P t, y with
            | some k, .agg ys => some (.q y [(o, .row esz cells)], [(cells.drop off).take k = ys, off + k ≤ cells.length], l)
            | _, _ => none
          | none => none
        | _ => none
      | _ => none
    | _ => none) else none
  | .t f' r' i' m a h ys :: l => bif key f r i f' r' i' then (match o with
    | .slice t x lo hi none => match elemT P t with
      | some e => match szB P e, opd env x with
        | some sz, .im esz cells => match bdP 0 a (lo.map (opd env)), bdP m h (hi.map (opd env)) with
          | some p1, some p2 => bif Nat.beq sz esz then some (.q (.im esz ys) [], [p1, p2, m * esz = cells.length, 0 < esz, a ≤ h, h ≤ m, (cells.drop (a * esz)).take ((h - a) * esz) = ys], l) else none
          | _, _ => none
        | _, _ => none
      | none => none
    | _ => none) else none
  | .p f' r' i' m k X ys :: l => bif key f r i f' r' i' then (match o with
    | .call ⟨.builtin .append, ⟨[s, x]⟩, ⟨[sT, xT]⟩⟩ => match elemT P sT, srcT P xT with
      | some e, some _ => match eiB P e with
        | some (z, esz, bs) => match srcP hp esz m X (opd env x) with
          | some ps => bif Nat.blt 0 esz && !Nat.beq bs 0 && Nat.beq z.cells.size esz then (match opd env s with
            | .sl o off len => match nth hp o with
              | some (.row e' cells) => bif Nat.beq e' esz then some (.ef (.sl hp.length 0 k) (hp.set o .dead ++ [.row esz ys]), ps ++ [off + len * esz = cells.length, k * bs ≤ 140737488355328, len + m = k, cells.drop off ++ X = ys], l) else none
              | _ => none
            | .nil => some (.ef (.sl hp.length 0 k) (hp ++ [.row esz ys]), ps ++ [k * bs ≤ 140737488355328, m = k, X = ys], l)
            | _ => none) else none
          | none => none
        | none => none
      | _, _ => none
    | _ => none) else none
  | .q f' r' i' z :: l => bif key f r i f' r' i' then (match o with
    | .binOp .rem _ x y _ => match opd env x, opd env y with
      | .sc (.int k p), .sc (.int k' q) => if k = k' then some (.q (.sc (.int k z)) [], [q ≠ 0, p.tmod q = z], l) else none
      | _, _ => none
    | .binOp .quo _ x y _ => match opd env x, opd env y with
      | .sc (.int k p), .sc (.int k' q) => if k = k' then some (.q (.sc (.int k z)) [], [q ≠ 0, k.wrap (p.tdiv q) = z], l) else none
      | _, _ => none
    | _ => none) else none
  | _ => none
theorem special.ok {f r i : Nat} {o : Oper} {sc l : List Item} {k : Kd} {ps : List Prop} (h : special P f r i env hp o.op sc = some (k, ps, l)) (hp' : allP ps) : OK1 P o env hp k := by
  obtain ⟨dst, op, ty, pos, after, guard⟩ := o
  simp only at h
  unfold special at h
  split at h
  · rename_i f' r' i' n l'
    cases hk : key f r i f' r' i'
    · rw [hk] at h; simp at h
    · rw [hk] at h; simp only [cond_true] at h
      split at h
      · rename_i x t; split at h
        · rename_i esz cells e hx he
          simp only [Option.some.injEq, Prod.mk.injEq] at h
          obtain ⟨rfl, rfl, rfl⟩ := h
          exact ⟨fun hp _ => step_lenI (elemT.ok he) hx hp'.1 hp'.2.1, fun p hp => by simp at hp⟩
        · simp at h
      · simp at h
  · rename_i f' r' i' m j l'
    cases hk : key f r i f' r' i'
    · rw [hk] at h; simp at h
    · rw [hk] at h; simp only [cond_true] at h
      split at h
      · rename_i t x ix; split at h
        · rename_i e he; split at h
          · rename_i sz kd z hz hix; split at h
            · rename_i esz cells hx
              cases hb : Nat.beq sz esz
              · rw [hb] at h; simp at h
              · rw [hb] at h; simp only [cond_true, Option.some.injEq, Prod.mk.injEq] at h
                obtain ⟨rfl, rfl, rfl⟩ := h
                have e1 := Nat.eq_of_beq_eq_true hb; subst e1
                obtain ⟨h1, h2, h3, h4, _⟩ := hp'
                refine ⟨fun hp _ => ?_, fun p hp => by simp at hp⟩
                have := step_idxI (hp := hp) (dst := dst) (ty := ty) (pos := pos) (after := after) (guard := guard) (elemT.ok he) (szB.ok hz) hx h1 h2 hix (by omega) (by omega)
                rw [h3] at this; simpa using this
            · rename_i o off len hx; split at h
              · rename_i esz cells ho; rw [nth_eq] at ho
                cases hb : Nat.beq sz esz
                · rw [hb] at h; simp at h
                · rw [hb] at h; simp only [cond_true, Option.some.injEq, Prod.mk.injEq] at h
                  obtain ⟨rfl, rfl, rfl⟩ := h
                  have e1 := Nat.eq_of_beq_eq_true hb; subst e1
                  obtain ⟨h3, h4, _⟩ := hp'
                  refine ⟨fun hp hO => ?_, fun p hp => by rw [List.mem_singleton] at hp; subst hp; exact ho⟩
                  have := step_idx (hp := hp) (dst := dst) (ty := ty) (pos := pos) (after := after) (guard := guard) (elemT.ok he) (szB.ok hz) hx (hO _ (List.mem_singleton.2 rfl)) hix (by omega) (by omega)
                  rw [h3] at this; simpa using this
              · simp at h
            · simp at h
          · simp at h
        · simp at h
      · simp at h
  · rename_i f' r' i' y l'
    cases hk : key f r i f' r' i'
    · rw [hk] at h; simp at h
    · rw [hk] at h; simp only [cond_true] at h
      split at h
      · rename_i t x; split at h
        · rename_i cells q hx; split at h
          · rename_i ha
            simp only [Option.some.injEq, Prod.mk.injEq] at h
            obtain ⟨rfl, rfl, rfl⟩ := h
            exact ⟨fun hp _ => step_loadI (aggB.ok ha) hx hp'.1, fun p hp => by simp at hp⟩
          · rename_i ha; split at h
            · rename_i k ys hz
              simp only [Option.some.injEq, Prod.mk.injEq] at h
              obtain ⟨rfl, rfl, rfl⟩ := h
              refine ⟨fun hp _ => ?_, fun p hp => by simp at hp⟩
              have := step_loadIA (hp := hp) (dst := dst) (ty := ty) (pos := pos) (after := after) (guard := guard) (aggB.ok ha) (szB.ok hz) hx hp'.2.1
              rw [hp'.1] at this; exact this
            · simp at h
          · simp at h
        · rename_i o off hx; split at h
          · rename_i esz cells ho; rw [nth_eq] at ho; split at h
            · rename_i ha
              simp only [Option.some.injEq, Prod.mk.injEq] at h
              obtain ⟨rfl, rfl, rfl⟩ := h
              exact ⟨fun hp hO => step_load (aggB.ok ha) hx (hO _ (List.mem_singleton.2 rfl)) hp'.1, fun p hp => by rw [List.mem_singleton] at hp; subst hp; exact ho⟩
            · rename_i ha; split at h
              · rename_i k ys hz
                simp only [Option.some.injEq, Prod.mk.injEq] at h
                obtain ⟨rfl, rfl, rfl⟩ := h
                refine ⟨fun hp hO => ?_, fun p hp => by rw [List.mem_singleton] at hp; subst hp; exact ho⟩
                have := step_loadA (hp := hp) (dst := dst) (ty := ty) (pos := pos) (after := after) (guard := guard) (aggB.ok ha) (szB.ok hz) hx (hO _ (List.mem_singleton.2 rfl)) hp'.2.1
                rw [hp'.1] at this; exact this
              · simp at h
            · simp at h
          · simp at h
        · simp at h
      · simp at h
  · rename_i f' r' i' m a b ys l'
    cases hk : key f r i f' r' i'
    · rw [hk] at h; simp at h
    · rw [hk] at h; simp only [cond_true] at h
      split at h
      · rename_i t x lo hi; split at h
        · rename_i e he; split at h
          · rename_i sz esz cells hz hx; split at h
            · rename_i p1 p2 hp1 hp2
              cases hb : Nat.beq sz esz
              · rw [hb] at h; simp at h
              · rw [hb] at h; simp only [cond_true, Option.some.injEq, Prod.mk.injEq] at h
                obtain ⟨rfl, rfl, rfl⟩ := h
                have e1 := Nat.eq_of_beq_eq_true hb; subst e1
                obtain ⟨h1, h2, h3, h4, h5, h6, h7, _⟩ := hp'
                refine ⟨fun hp _ => ?_, fun p hp => by simp at hp⟩
                have := step_sliceI (hp := hp) (dst := dst) (ty := ty) (pos := pos) (after := after) (guard := guard) (elemT.ok he) (szB.ok hz) hx h3 h4 (bdP.ok hp1 h1) (bdP.ok hp2 h2) h5 h6
                rw [h7] at this; exact this
            · simp at h
          · simp at h
        · simp at h
      · simp at h
  · rename_i f' r' i' m kk X ys l'
    cases hk : key f r i f' r' i'
    · rw [hk] at h; simp at h
    · rw [hk] at h; simp only [cond_true] at h
      split at h
      · rename_i s x sT xT; split at h
        · rename_i e d he hd; split at h
          · rename_i z esz bs hz; split at h
            · rename_i qs hs
              cases hb : Nat.blt 0 esz && !Nat.beq bs 0 && Nat.beq z.cells.size esz
              · rw [hb] at h; simp at h
              · rw [hb] at h
                simp only [Bool.and_eq_true, Bool.not_eq_true'] at hb
                have h0 : 0 < esz := Nat.le_of_ble_eq_true hb.1.1
                have h1 : bs ≠ 0 := fun h => by rw [h] at hb; simp at hb
                have h2 := Nat.eq_of_beq_eq_true hb.2
                simp only [cond_true] at h
                split at h
                · rename_i o off len hx; split at h
                  · rename_i e' cells ho; rw [nth_eq] at ho
                    cases hc : Nat.beq e' esz
                    · rw [hc] at h; simp at h
                    · rw [hc] at h; simp only [cond_true, Option.some.injEq, Prod.mk.injEq] at h
                      obtain ⟨rfl, rfl, rfl⟩ := h
                      have e1 := Nat.eq_of_beq_eq_true hc; subst e1
                      obtain ⟨hq, h3, h4, h5, h6, _⟩ := allP_append hp'
                      subst h5; subst h6
                      exact ⟨step_append (elemT.ok he) (eiB.ok hz) (srcT.ok hd).1 (srcT.ok hd).2 hx ho h3 (srcP.ok hs hq) (.inl h4) h0 h1 h2, by simp⟩
                  · simp at h
                · rename_i hx
                  simp only [Option.some.injEq, Prod.mk.injEq] at h
                  obtain ⟨rfl, rfl, rfl⟩ := h
                  obtain ⟨hq, h4, h5, h6, _⟩ := allP_append hp'
                  subst h5; subst h6
                  exact ⟨step_append0 (elemT.ok he) (eiB.ok hz) (srcT.ok hd).1 (srcT.ok hd).2 hx (srcP.ok hs hq) h4 h0 h1 h2, by simp⟩
                · simp at h
            · simp at h
          · simp at h
        · simp at h
      · simp at h
  · rename_i f' r' i' z l'
    cases hk : key f r i f' r' i'
    · rw [hk] at h; simp at h
    · rw [hk] at h; simp only [cond_true] at h
      split at h
      · rename_i x y; split at h
        · rename_i k p k' q hx hy; split at h
          · rename_i hkk; subst hkk
            simp only [Option.some.injEq, Prod.mk.injEq] at h
            obtain ⟨rfl, rfl, rfl⟩ := h
            obtain ⟨h1, h2, _⟩ := hp'
            subst h2
            exact ⟨fun hp _ => step_rem hx hy h1, fun p hp => by simp at hp⟩
          · simp at h
        · simp at h
      · rename_i x y; split at h
        · rename_i k p k' q hx hy; split at h
          · rename_i hkk; subst hkk
            simp only [Option.some.injEq, Prod.mk.injEq] at h
            obtain ⟨rfl, rfl, rfl⟩ := h
            obtain ⟨h1, h2, _⟩ := hp'
            subst h2
            exact ⟨fun hp _ => step_quo hx hy h1, fun p hp => by simp at hp⟩
          · simp at h
        · simp at h
      · simp at h
  · simp at h

/-- What an operation does, calls too. bodies: functions with a body in Go. -/
def kdOf (call : CallF) (P : Program) (bodies : Nat → Bool) (f r i : Nat) (env : Nat → AV) (hp : List AObj) (o : Op) (s : St) : Option (Kd × St) :=
  match callee env o with
  | some (g, xs) => match isC f r i s.sc with
    | some (some true, x, l) => bif bodies g && noOwnL xs && noOwn x then some (.q x [], ⟨l, Spec0 P g xs x :: s.cs, s.eq⟩) else none
    | some (none, x, l) => match bwV hp xs with
      | some ys => bif bodies g && flat x then some (.ef x hp, ⟨l, Spec0 P g ys x :: s.cs, s.eq⟩) else none
      | none => none
    | some (some false, x, l) => bif bodies g then some (.q x [], ⟨l, (noOwnL xs = true) :: Spec0 P g xs x :: (noOwn x = true) :: s.cs, s.eq⟩) else none
    | none => match call g xs hp s with
      | some (x, hp', s') => some (useI f r i (.ef x hp') s')
      | none => none
  | none => match special P f r i env hp o s.sc with
    | some (k, ps, l) => some (k, ⟨l, ps ++ s.cs, s.eq⟩)
    | none => match evOp P env hp o with
      | some (k, ps) => some (useI f r i k ⟨s.sc, ps ++ s.cs, s.eq⟩)
      | none => none
theorem kdOf.ok {call : CallF} (hc : CallOK P call) {bodies : Nat → Bool} (hb : ∀ g, bodies g = true → HasBody P g) {f r i : Nat} {o : Oper} {s s' : St} {k : Kd} (h : kdOf call P bodies f r i env hp o.op s = some (k, s')) (hg : s'.Good) : s.Good ∧ OK1 P o env hp k := by
  unfold kdOf at h
  split at h
  · rename_i g xs hcal
    split at h
    · rename_i x l hi
      cases hbb : bodies g && noOwnL xs && noOwn x
      · rw [hbb] at h; simp at h
      · rw [hbb] at h; simp only [cond_true] at h
        injection h with h; injection h with h1 h2; subst h1; subst h2
        simp only [Bool.and_eq_true] at hbb
        refine ⟨⟨hg.1.2, hg.2⟩, fun hp _ => ?_, fun p hp => by simp at hp⟩
        exact step_pureV hcal (hb g hbb.1.1) hbb.1.2 hg.1.1 hbb.2 hp
    · rename_i x l hi
      split at h
      · rename_i ys hy
        cases hbb : bodies g && flat x
        · rw [hbb] at h; simp at h
        · rw [hbb] at h; simp only [cond_true] at h
          injection h with h; injection h with h1 h2; subst h1; subst h2
          simp only [Bool.and_eq_true] at hbb
          exact ⟨⟨hg.1.2, hg.2⟩, step_lentV hcal (hb g hbb.1) (bwV.ok hy) hg.1.1 hbb.2, Nat.le_refl _⟩
      · simp at h
    · rename_i x l hi
      cases hbb : bodies g
      · rw [hbb] at h; simp at h
      · rw [hbb] at h; simp only [cond_true] at h
        injection h with h; injection h with h1 h2; subst h1; subst h2
        refine ⟨⟨hg.1.2.2.2, hg.2⟩, fun hp _ => ?_, fun p hp => by simp at hp⟩
        exact step_pureV hcal (hb g hbb) hg.1.1 hg.1.2.1 hg.1.2.2.1 hp
    · split at h
      · rename_i x hp' s1 hcall
        injection h with h
        have e1 : k = (useI f r i (.ef x hp') s1).1 := by rw [h]
        have e2 : s' = (useI f r i (.ef x hp') s1).2 := by rw [h]
        subst e1; subst e2
        have := useI.ok (P := P) (env := env) (hp := hp) (o := o) hg (fun hs1 => by
          obtain ⟨g1, g2, g3, g4⟩ := hc _ _ _ _ _ _ _ hcall hs1
          exact ⟨callee.ok hcal g3 g4, g2⟩)
        exact ⟨(hc _ _ _ _ _ _ _ hcall this.1).1, this.2⟩
      · simp at h
  · split at h
    · rename_i k1 ps l hsp
      injection h with h; injection h with h1 h2; subst h1; subst h2
      have hq := allP_append hg.1
      exact ⟨⟨hq.2, hg.2⟩, special.ok hsp hq.1⟩
    split at h
    · rename_i k1 ps hev
      injection h with h
      have e1 : k = (useI f r i k1 ⟨s.sc, ps ++ s.cs, s.eq⟩).1 := by rw [h]
      have e2 : s' = (useI f r i k1 ⟨s.sc, ps ++ s.cs, s.eq⟩).2 := by rw [h]
      subst e1; subst e2
      have := useI.ok (P := P) (env := env) (hp := hp) (o := o) hg (fun hs1 => evOp.ok o _ _ hev hs1.app.1)
      exact ⟨this.1.app.2, this.2⟩
    · simp at h

theorem OK1.step {o : Oper} {k : Kd} (h : OK1 P o env hp k) : Step P o env hp (is (k.val hp) (k.heap hp)) ∧ hp.length ≤ (k.heap hp).length := by
  cases k with
  | sk => exact h.elim
  | q r O => exact ⟨h.1 hp h.2, Nat.le_refl _⟩
  | al e cs mk => exact ⟨StepAl.step h, by simp [Kd.heap]⟩
  | ef r hp' => exact h

def dstB (n : Nat) : Option Nat → Bool
  | some d => Nat.blt d n
  | none => true
theorem dstB.ok {d : Option Nat} (h : dstB n d = true) : dstOk n d := by
  cases d with
  | none => trivial
  | some d => exact Nat.le_of_ble_eq_true h

/-- Values frozen, pair by pair. -/
def FzQ (hp : List AObj) : List (AV × AV) → Prop
  | [] => True
  | q :: l => Fz 0 hp q.1 q.2 ∧ FzQ hp l
theorem FzQ.t {hp : List AObj} {env : Nat → AV} : ∀ {l : List (Nat × AV)}, FzQ hp (l.map fun q => (env q.1, q.2)) → FzT 0 ⟨env, hp⟩ l
  | [], _ => trivial
  | (d, x) :: l, h => ⟨h.1, FzQ.t h.2⟩
/-- Own rows let go before an operation, what is kept told. -/
def fzS (f r i : Nat) (env : Env) (hp : List AObj) (s : St) : Env × List AObj × St := match s.sc with
  | .fz f' r' i' l0 :: l => bif key f r i f' r' i' then (l0, List.replicate hp.length .dead, ⟨l, FzQ hp (l0.map fun q => (tbl env q.1, q.2)) :: s.cs, s.eq⟩) else (env, hp, s)
  | _ => (env, hp, s)
theorem fzS.ok {ops : Array Oper} {f r i : Nat} {env env1 : Env} {hp hp1 : List AObj} {s s1 : St} (h : fzS f r i env hp s = (env1, hp1, s1)) (hg : s1.Good) :
    s.Good ∧ hp.length ≤ hp1.length ∧ ∀ (K : Exit → SS → Prop) li, WO P n ops li K ⟨tbl env1, hp1⟩ → WO P n ops li K ⟨tbl env, hp⟩ := by
  unfold fzS at h
  split at h
  · rename_i f' r' i' l0 l hs
    cases hk : key f r i f' r' i'
    · rw [hk] at h; simp only [cond_false, Prod.mk.injEq] at h
      obtain ⟨rfl, rfl, rfl⟩ := h
      exact ⟨hg, Nat.le_refl _, fun K li h => h⟩
    · rw [hk] at h; simp only [cond_true, Prod.mk.injEq] at h
      obtain ⟨rfl, rfl, rfl⟩ := h
      exact ⟨⟨hg.1.2, hg.2⟩, by simp, fun K li h => WO.frz _ (FzQ.t hg.1.1) h⟩
  · simp only [Prod.mk.injEq] at h
    obtain ⟨rfl, rfl, rfl⟩ := h
    exact ⟨hg, Nat.le_refl _, fun K li h => h⟩
def opsR (call : CallF) (P : Program) (bodies : Nat → Bool) (n : Nat) (ops : Array Oper) (f r : Nat) : List Oper → Nat → Env → List AObj → St → Option (Env × List AObj × St)
  | [], _, env, hp, s => some (env, hp, s)
  | o :: l, i, env0, hp0, s0 => match fzS f r i env0 hp0 s0 with
  | (env, hp, s) => bif dstB n o.dst then (match wants ops (tbl env) o with
    | some false => opsR call P bodies n ops f r l (i + 1) (putE env o.dst (.sc undef)) hp s
    | some true => match kdOf call P bodies f r i (tbl env) hp o.op s with
      | some (k, s') => opsR call P bodies n ops f r l (i + 1) (putE env o.dst (k.val hp)) (k.heap hp) s'
      | none => none
    | none => none) else none
theorem opsR.ok {call : CallF} (hc : CallOK P call) {bodies : Nat → Bool} (hb : ∀ g, bodies g = true → HasBody P g) {ops : Array Oper} {f r : Nat} : ∀ {l : List Oper} {i : Nat} {env env' : Env} {hp hp' : List AObj} {s s' : St}, ops.toList.drop i = l →
    opsR call P bodies n ops f r l i env hp s = some (env', hp', s') → s'.Good → s.Good ∧ hp.length ≤ hp'.length ∧ ∀ K, K .normal ⟨tbl env', hp'⟩ → WO P n ops (List.range' i l.length) K ⟨tbl env, hp⟩
  | [], i, env, env', hp, hp', s, s', _, h, hg => by
    simp only [opsR, Option.some.injEq, Prod.mk.injEq] at h
    obtain ⟨rfl, rfl, rfl⟩ := h
    exact ⟨hg, Nat.le_refl _, fun K hK => WO.nil hK⟩
  | o :: l, i, env, env', hp, hp', s, s', hl, h, hg => by
    have hlt : i < ops.toList.length := by
      rcases Nat.lt_or_ge i ops.toList.length with h1 | h1
      · exact h1
      · rw [List.drop_eq_nil_of_le h1] at hl; simp at hl
    have ho : ops[i]? = some o := by
      have := List.drop_eq_getElem_cons hlt
      rw [hl] at this
      injection this with h1 h2
      simp at hlt
      rw [Array.getElem?_eq_getElem hlt, h1]; simp
    have hl' : ops.toList.drop (i + 1) = l := by
      have := List.drop_eq_getElem_cons hlt
      rw [hl] at this
      injection this with h1 h2
      exact h2.symm
    simp only [opsR] at h
    generalize hz : fzS f r i env hp s = z at h
    obtain ⟨env1, hp1, s0⟩ := z
    simp only at h
    obtain ⟨k1, k2, k3⟩ : s0.Good ∧ hp1.length ≤ hp'.length ∧ ∀ K, K .normal ⟨tbl env', hp'⟩ → WO P n ops (List.range' i (o :: l).length) K ⟨tbl env1, hp1⟩ := by
      cases hd : dstB n o.dst
      · rw [hd] at h; simp at h
      · rw [hd] at h
        simp only [cond_true] at h
        split at h
        · rename_i hw
          obtain ⟨g1, g2, g3⟩ := opsR.ok hc hb hl' h hg
          refine ⟨g1, g2, fun K hK => ?_⟩
          refine WO.skip ho hw (dstB.ok hd) ?_
          have := g3 K hK
          rwa [putE_tbl] at this
        · rename_i hw
          split at h
          · rename_i k s1 hk
            obtain ⟨g1, g2, g3⟩ := opsR.ok hc hb hl' h hg
            obtain ⟨g4, g5⟩ := kdOf.ok hc hb hk g1
            obtain ⟨g6, g7⟩ := g5.step
            refine ⟨g4, Nat.le_trans g7 g2, fun K hK => ?_⟩
            refine WO.one ho hw (dstB.ok hd) g6 ?_
            have := g3 K hK
            rwa [putE_tbl] at this
          · simp at h
        · simp at h
    obtain ⟨j1, j2, j3⟩ := fzS.ok (P := P) (n := n) (ops := ops) hz k1
    exact ⟨j1, Nat.le_trans j2 k2, fun K hK => j3 K _ (k3 K hK)⟩
end Go.SL
