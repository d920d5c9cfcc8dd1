/-
  States, steps and the rules by which a walk over code goes: regions in the text's order, sequences, tests, blocks, loops, scopes.
-/
import Derived.Test.YtbimmnnjnlfddaaDoorSlA
set_option linter.unusedVariables false
set_option linter.unusedSectionVars false
namespace Go.SL
open Go
variable [Tabs]

structure SS where
  env : Nat → AV
  hp : List AObj

def EnvR (F : Nat → Prop) (env : Nat → AV) (μ : List Nm) (w : World) (t : Array Value) : Prop := ∀ i, VR F μ w (env i) (t.getD i undef)

structure SR (F : Nat → Prop) (n : Nat) (σ : SS) (μ : List Nm) (a : Act) (w : World) : Prop where
  hr : HR F σ.hp μ w
  env : EnvR F σ.env μ w a.tmps
  size : a.tmps.size = n
  defers : a.defers = []

@[reducible] def litC : Value → AV
  | .slice none 0 0 => .nil
  | .slice _ _ _ => .any
  | .agg _ => .any
  | v => .sc v
@[reducible] def lit : Value → AV
  | .agg cs => .agg (cs.toList.map litC)
  | v => litC v

@[reducible] def opd (env : Nat → AV) : Operand → AV
  | .tmp t => env t
  | .const v => lit v
  | .global g => .sc (.pointer (some ⟨g, 0, none⟩))
  | .func f => .fn f [] []

@[reducible] def upd (env : Nat → AV) (d : Nat) (x : AV) : Nat → AV := fun i => bif Nat.beq i d then x else env i
@[reducible] def put (env : Nat → AV) : Option Nat → AV → (Nat → AV)
  | some d, x => upd env d x
  | none, _ => env

variable {F : Nat → Prop} {μ μ' μ'' : List Nm} {w w' w'' : World} {P : Program} {n : Nat}

theorem nbeq {i d : Nat} (h : i ≠ d) : Nat.beq i d = false := by
  cases hb : Nat.beq i d with
  | true => exact absurd (Nat.eq_of_beq_eq_true hb) h
  | false => rfl

theorem VR.sc_inv {x v : Value} (h : VR F μ w (.sc x) v) : v = x := by cases h; rfl

theorem litC_rel (v : Value) : VR F μ w (litC v) v := by
  unfold litC
  split
  · exact .nil
  · exact .any
  · exact .any
  · refine .sc ?_
    rename_i h1 h2 h3
    cases v <;> first | rfl | exact absurd rfl (h2 _ _ _) | exact absurd rfl (h3 _)

theorem litL_rel : ∀ l : List Value, VRL F μ w (l.map litC) l
  | [] => .nil
  | v :: l => .cons (litC_rel v) (litL_rel l)

theorem lit_rel (v : Value) : VR F μ w (lit v) v := by
  unfold lit
  split
  · exact .agg (litL_rel _)
  · exact litC_rel v

theorem EnvR.opd {env : Nat → AV} {a : Act} (h : EnvR F env μ w a.tmps) (x : Operand) : VR F μ w (opd env x) (a.eval x) := by
  cases x with
  | tmp t => exact h t
  | const v => exact lit_rel v
  | global g => exact .sc rfl
  | func f => exact .fn .nil .nil

theorem EnvR.mono {env : Nat → AV} {t : Array Value} (h : EnvR F env μ w t) (f : Fr μ w μ' w') : EnvR F env μ' w' t := fun i => (h i).mono f

theorem EnvR.upd {env : Nat → AV} {t : Array Value} (h : EnvR F env μ w t) {d : Nat} (hd : d < t.size) {x : AV} {v : Value} (hv : VR F μ w x v) :
    EnvR F (upd env d x) μ w (t.setIfInBounds d v) := by
  intro i
  by_cases hi : i = d
  · subst hi
    have : (t.setIfInBounds i v).getD i undef = v := by simp [Array.getD, hd]
    rw [this]
    simpa [SL.upd] using hv
  · have h1 : Nat.beq i d = false := nbeq hi
    have h2 : (t.setIfInBounds d v).getD i undef = t.getD i undef := by
      simp only [Array.getD, Array.size_setIfInBounds]
      split
      · rename_i hlt; simp [hlt, Ne.symm hi]
      · rfl
    simp only [SL.upd, h1, cond_false, h2]
    exact h i

def dstOk (n : Nat) : Option Nat → Prop
  | some d => d < n
  | none => True

theorem EnvR.put {env : Nat → AV} {a : Act} (h : EnvR F env μ w a.tmps) {d : Option Nat} (hd : dstOk a.tmps.size d) {x : AV} {v : Value} (hv : VR F μ w x v) :
    EnvR F (put env d x) μ w (a.put d v).tmps := by
  cases d with
  | none => exact h
  | some d => exact h.upd hd hv

theorem put_size (a : Act) (d : Option Nat) (v : Value) : (a.put d v).tmps.size = a.tmps.size := by cases d <;> simp [Act.put]
theorem put_defers (a : Act) (d : Option Nat) (v : Value) : (a.put d v).defers = a.defers := by cases d <;> rfl

/-- What one operation does to a state: R tells its value and the rows behind it. -/
def Step (P : Program) (o : Oper) (env : Nat → AV) (hp : List AObj) (R : AV → List AObj → Prop) : Prop :=
  ∀ (F : Nat → Prop) (μ : List Nm) (w : World) (a : Act), HR F hp μ w → EnvR F env μ w a.tmps → ∀ (next : Act → World → Prop) (Q : Exit → Act → World → Prop),
    (∀ (x : AV) (v : Value) (hp' : List AObj) (μ' : List Nm) (w' : World), R x hp' → HR F hp' μ' w' → VR F μ' w' x v → Fr μ w μ' w' → next (a.put o.dst v) w') → o.wp P a w next Q

abbrev is (x : AV) (hp : List AObj) : AV → List AObj → Prop := fun y h => y = x ∧ h = hp

def Post (F : Nat → Prop) (n : Nat) (K : Exit → SS → Prop) (μ : List Nm) (w : World) : Exit → Act → World → Prop :=
  fun x a' w' => ∃ σ' μ', K x σ' ∧ SR F n σ' μ' a' w' ∧ Fr μ w μ' w'

def W (P : Program) (n : Nat) (c : Code) (K : Exit → SS → Prop) (σ : SS) : Prop :=
  ∀ F μ a w, SR F n σ μ a w → c.wp P (Post F n K μ w) a w

def WO (P : Program) (n : Nat) (ops : Array Oper) (l : List Nat) (K : Exit → SS → Prop) (σ : SS) : Prop :=
  ∀ F μ a w, SR F n σ μ a w → wpOps P ops (Post F n K μ w) l a w

theorem Post.mono {K : Exit → SS → Prop} (f : Fr μ w μ' w') {x : Exit} {a : Act} {w'' : World} (h : Post F n K μ' w' x a w'') : Post F n K μ w x a w'' := by
  obtain ⟨σ', μ', hk, hs, hf⟩ := h
  exact ⟨σ', μ', hk, hs, f.trans hf⟩

theorem wpOps_post {ops : Array Oper} {l : List Nat} {Q Q' : Exit → Act → World → Prop} (hq : ∀ e a w, Q e a w → Q' e a w) :
    ∀ {a : Act} {w : World}, wpOps P ops Q l a w → wpOps P ops Q' l a w := by
  induction l with
  | nil => exact fun h => hq _ _ _ h
  | cons i rest ih =>
    intro a w h
    simp only [wpOps] at h ⊢
    cases ho : ops[i]? with
    | none => rw [ho] at h; exact ih h
    | some o =>
      rw [ho] at h
      simp only at h ⊢
      split
      · rename_i hw
        simp only [hw, if_true] at h
        rcases h with h | ⟨h1, a0, w0, h2⟩
        · left
          unfold Oper.wp at h ⊢
          generalize (execOp a.eval o).run P w = r at h
          cases r with
          | ok nx w1 =>
            cases nx <;> simp only [Oper.upon] at h ⊢ <;>
              first
                | exact ih h
                | exact Calls.mono h (fun e w2 he => by
                    cases e with
                    | returned v => exact ih he
                    | panicked c => exact hq _ _ _ he
                    | outgrown => obtain ⟨a1, w1, h1⟩ := he; exact ⟨a1, w1, hq _ _ _ h1⟩)
                | exact Rows.mono h (fun _ _ he => ih he)
          | halt x w1 => cases x <;> simp only [Oper.upon] at h ⊢ <;> exact hq _ _ _ h
        · exact .inr ⟨h1, a0, w0, hq _ _ _ h2⟩
      · rename_i hw
        simp only [hw] at h
        exact ih h

def wants (ops : Array Oper) (env : Nat → AV) (o : Oper) : Option Bool :=
  match o.guard with
  | none => some true
  | some (j, want) =>
    match (ops[j]?).bind (·.dst) with
    | some d => match env d with
      | .sc (.bool b) => some (b == want)
      | .sc (.tuple _) => some false
      | _ => none
    | none => none

theorem wants_eq {ops : Array Oper} {env : Nat → AV} {o : Oper} {b : Bool} (h : wants ops env o = some b) {t : Array Value} (he : EnvR F env μ w t) :
    Region.wanted o (yielded ops t) = b := by
  unfold wants at h
  unfold Region.wanted
  cases hg : o.guard with
  | none => rw [hg] at h; simpa using h
  | some g =>
    obtain ⟨j, want⟩ := g
    rw [hg] at h
    simp only at h ⊢
    unfold yielded
    cases hd : (ops[j]?).bind (·.dst) with
    | none => rw [hd] at h; simp at h
    | some d =>
      rw [hd] at h
      simp only [Option.bind_some] at h ⊢
      have hv := he d
      cases hx : env d with
      | sc v =>
        rw [hx] at h hv
        cases v with
        | bool c =>
          simp only [Option.some.injEq] at h
          have : t.getD d undef = .bool c := hv.sc_inv
          have hlt : d < t.size := by
            rcases Nat.lt_or_ge d t.size with h1 | h1
            · exact h1
            · simp [Array.getD, Nat.not_lt.mpr h1, undef] at this
          have h2 : t[d]? = some (.bool c) := by
            have h3 : t.getD d undef = t[d] := by simp [Array.getD, hlt]
            rw [Array.getElem?_eq_getElem hlt, ← h3, this]
          rw [h2]
          subst h
          cases c <;> cases want <;> rfl
        | tuple cs =>
          simp only [Option.some.injEq] at h
          have ht : t.getD d undef = .tuple cs := hv.sc_inv
          subst h
          cases h2 : t[d]? with
          | none => cases want <;> rfl
          | some v =>
            have h3 : t.getD d undef = v := by simp [Array.getD_eq_getD_getElem?, h2]
            rw [ht] at h3
            subst h3
            cases want <;> rfl
        | _ => simp at h
      | _ => rw [hx] at h; simp at h

theorem WO.nil {ops : Array Oper} {K : Exit → SS → Prop} {σ : SS} (h : K .normal σ) : WO P n ops [] K σ :=
  fun F μ _ _ hs => ⟨σ, μ, h, hs, Fr.refl _ _⟩

theorem WO.cons {ops : Array Oper} {i : Nat} {rest : List Nat} {K : Exit → SS → Prop} {σ : SS} {o : Oper} {R : AV → List AObj → Prop}
    (ho : ops[i]? = some o) (hw : wants ops σ.env o = some true) (hd : dstOk n o.dst) (hs : Step P o σ.env σ.hp R)
    (hk : ∀ x hp', R x hp' → WO P n ops rest K ⟨put σ.env o.dst x, hp'⟩) : WO P n ops (i :: rest) K σ := by
  intro F μ a w h
  simp only [wpOps, ho]
  rw [if_pos (wants_eq hw h.env)]
  refine .inl (hs F μ w a h.hr h.env _ _ ?_)
  intro x v hp' μ' w' hR hr hv hf
  refine wpOps_post (fun e a w => Post.mono hf) (hk x hp' hR F μ' _ w' ⟨hr, ?_, ?_, ?_⟩)
  · exact (h.env.mono hf).put (by rw [h.size]; exact hd) hv
  · rw [put_size]; exact h.size
  · rw [put_defers]; exact h.defers

theorem WO.one {ops : Array Oper} {i : Nat} {rest : List Nat} {K : Exit → SS → Prop} {σ : SS} {o : Oper} {x : AV} {hp' : List AObj}
    (ho : ops[i]? = some o) (hw : wants ops σ.env o = some true) (hd : dstOk n o.dst) (hs : Step P o σ.env σ.hp (is x hp'))
    (hk : WO P n ops rest K ⟨put σ.env o.dst x, hp'⟩) : WO P n ops (i :: rest) K σ :=
  WO.cons ho hw hd hs (by rintro _ _ ⟨rfl, rfl⟩; exact hk)

theorem plain_undef : plainV undef = true := rfl

theorem WO.skip {ops : Array Oper} {i : Nat} {rest : List Nat} {K : Exit → SS → Prop} {σ : SS} {o : Oper}
    (ho : ops[i]? = some o) (hw : wants ops σ.env o = some false) (hd : dstOk n o.dst)
    (hk : WO P n ops rest K ⟨put σ.env o.dst (.sc undef), σ.hp⟩) : WO P n ops (i :: rest) K σ := by
  intro F μ a w h
  simp only [wpOps, ho]
  rw [wants_eq hw h.env]
  simp only [Bool.false_eq_true, if_false]
  refine hk F μ _ w ⟨h.hr, ?_, ?_, ?_⟩
  · exact h.env.put (by rw [h.size]; exact hd) (.sc plain_undef)
  · rw [put_size]; exact h.size
  · rw [put_defers]; exact h.defers

/-- A guarded operation whose guard is a symbol: both ways. -/
theorem WO.guard {ops : Array Oper} {i : Nat} {rest : List Nat} {K : Exit → SS → Prop} {σ : SS} {b : Bool}
    (ht : b = true → WO P n ops (i :: rest) K σ)
    (hf : b = false → WO P n ops (i :: rest) K σ) : WO P n ops (i :: rest) K σ := by
  cases b
  · exact hf rfl
  · exact ht rfl

theorem WO.mono {ops : Array Oper} {l : List Nat} {K K' : Exit → SS → Prop} {σ : SS} (h : WO P n ops l K σ) (hk : ∀ x σ, K x σ → K' x σ) : WO P n ops l K' σ :=
  fun F μ a w hs => wpOps_post (fun _ _ _ ⟨σ', μ', h1, h2⟩ => ⟨σ', μ', hk _ _ h1, h2⟩) (h F μ a w hs)

theorem W.mono {c : Code} {K K' : Exit → SS → Prop} {σ : SS} (h : W P n c K σ) (hk : ∀ x σ, K x σ → K' x σ) : W P n c K' σ :=
  fun F μ a w hs => wp_mono (h F μ a w hs) fun _ _ _ ⟨σ', μ', h1, h2⟩ => ⟨σ', μ', hk _ _ h1, h2⟩

theorem W.region {id : Nat} {ops : Array Oper} {K : Exit → SS → Prop} {σ : SS} (h : WO P n ops (List.range ops.size) K σ) : W P n (.region id ops false) K σ :=
  fun F μ a w hs => wp_region (h F μ a w hs)

theorem W.skip {K : Exit → SS → Prop} {σ : SS} (h : K .normal σ) : W P n .skip K σ := fun F μ _ _ hs => wp_skip ⟨σ, μ, h, hs, Fr.refl _ _⟩
theorem W.label {l : Nat} {K : Exit → SS → Prop} {σ : SS} (h : K .normal σ) : W P n (.label l) K σ := fun F μ _ _ hs => wp_label ⟨σ, μ, h, hs, Fr.refl _ _⟩
theorem W.exit {id : Nat} {K : Exit → SS → Prop} {σ : SS} (h : K (.exit id) σ) : W P n (.exit id) K σ := fun F μ _ _ hs => wp_exit ⟨σ, μ, h, hs, Fr.refl _ _⟩
theorem W.goto {l : Nat} {K : Exit → SS → Prop} {σ : SS} (h : K (.goto l) σ) : W P n (.goto l) K σ := fun F μ _ _ hs => wp_goto ⟨σ, μ, h, hs, Fr.refl _ _⟩
theorem W.ret {K : Exit → SS → Prop} {σ : SS} (h : K .ret σ) : W P n .ret K σ := fun F μ _ _ hs => wp_ret ⟨σ, μ, h, hs, Fr.refl _ _⟩

def thenK (next : SS → Prop) (K : Exit → SS → Prop) : Exit → SS → Prop
  | .normal, σ => next σ
  | x, σ => K x σ

theorem W.seq {c d : Code} {K : Exit → SS → Prop} {σ : SS} (h : W P n c (thenK (W P n d K) K) σ) : W P n (.seq c d) K σ := by
  intro F μ a w hs
  refine wp_seq (wp_mono (h F μ a w hs) ?_)
  intro e a' w' ⟨σ', μ', hk, hs', hf⟩
  cases e with
  | normal => exact wp_mono (hk F μ' a' w' hs') fun _ _ _ => Post.mono hf
  | exit id => exact ⟨σ', μ', hk, hs', hf⟩
  | goto l => exact ⟨σ', μ', hk, hs', hf⟩
  | ret => exact ⟨σ', μ', hk, hs', hf⟩
  | panic ch => exact ⟨σ', μ', hk, hs', hf⟩
  | outgrown => exact ⟨σ', μ', hk, hs', hf⟩

theorem EnvR.bool {env : Nat → AV} {a : Act} (h : EnvR F env μ w a.tmps) {x : Operand} {b : Bool} (hx : SL.opd env x = .sc (.bool b)) : a.eval x = .bool b := by
  have := h.opd x
  rw [hx] at this
  exact this.sc_inv

theorem W.cond {c : Operand} {x y : Code} {K : Exit → SS → Prop} {σ : SS} {b : Bool} (hc : opd σ.env c = .sc (.bool b))
    (ht : b = true → W P n x K σ) (hf : b = false → W P n y K σ) : W P n (.cond c x y) K σ :=
  fun F μ a w hs => wp_cond_split (hs.env.bool hc) (fun hb => ht hb F μ a w hs) (fun hb => hf hb F μ a w hs)

def blockK (id : Nat) (K : Exit → SS → Prop) : Exit → SS → Prop
  | .exit id', σ => bif Nat.beq id' id then K .normal σ else K (.exit id') σ
  | x, σ => K x σ

theorem W.block {id : Nat} {c : Code} {K : Exit → SS → Prop} {σ : SS} (h : W P n c (blockK id K) σ) : W P n (.block id c) K σ := by
  intro F μ a w hs
  refine wp_block (wp_mono (h F μ a w hs) ?_)
  intro e a' w' ⟨σ', μ', hk, hs', hf⟩
  cases e with
  | exit id' =>
    simp only [Exit.inBlock]
    simp only [blockK] at hk
    by_cases hid : id' = id
    · subst hid
      rw [if_pos rfl]
      rw [Nat.beq_refl] at hk
      exact ⟨σ', μ', hk, hs', hf⟩
    · rw [if_neg hid]
      have : Nat.beq id' id = false := nbeq hid
      rw [this] at hk
      exact ⟨σ', μ', hk, hs', hf⟩
  | normal => exact ⟨σ', μ', hk, hs', hf⟩
  | goto l => exact ⟨σ', μ', hk, hs', hf⟩
  | ret => exact ⟨σ', μ', hk, hs', hf⟩
  | panic ch => exact ⟨σ', μ', hk, hs', hf⟩
  | outgrown => exact ⟨σ', μ', hk, hs', hf⟩

/-- σ' knows no more than σ. -/
def Le (σ' σ : SS) : Prop := σ'.hp = σ.hp ∧ ∀ i, σ'.env i = .any ∨ σ'.env i = σ.env i

theorem Le.sr {σ σ' : SS} (h : Le σ' σ) {a : Act} (hs : SR F n σ μ a w) : SR F n σ' μ a w := by
  refine ⟨h.1 ▸ hs.hr, fun i => ?_, hs.size, hs.defers⟩
  rcases h.2 i with h1 | h1
  · rw [h1]; exact .any
  · rw [h1]; exact hs.env i

theorem Le.refl (σ : SS) : Le σ σ := ⟨rfl, fun _ => .inr rfl⟩

theorem W.weaken {c : Code} {K : Exit → SS → Prop} {σ σ' : SS} (hl : Le σ' σ) (h : W P n c K σ') : W P n c K σ := fun F μ a w hs => h F μ a w (hl.sr hs)

/-- A table of slots; all others are unknown. -/
def tbl : List (Nat × AV) → Nat → AV
  | [], _ => .any
  | (d, x) :: l, i => bif Nat.beq i d then x else tbl l i

theorem Le.tbl {σ : SS} : ∀ {l : List (Nat × AV)}, (∀ p ∈ l, σ.env p.1 = p.2) → Le ⟨SL.tbl l, σ.hp⟩ σ := by
  intro l h
  refine ⟨rfl, fun i => ?_⟩
  induction l with
  | nil => exact .inl rfl
  | cons p l ih =>
    obtain ⟨d, x⟩ := p
    simp only [SL.tbl]
    by_cases hi : i = d
    · subst hi
      rw [Nat.beq_refl]
      exact .inr (h (i, x) (by simp)).symm
    · have : Nat.beq i d = false := nbeq hi
      rw [this]
      exact ih fun p hp => h p (by simp [hp])

theorem W.loop {α : Type} (st : α → SS) (inv : α → Prop) (m : α → Nat) {c : Code} {K : Exit → SS → Prop} {σ : SS} (a0 : α) (h0 : inv a0) (hl : Le (st a0) σ)
    (round : ∀ x, inv x → W P n c (thenK (fun σ' => ∃ y, inv y ∧ m y < m x ∧ Le (st y) σ') K) (st x)) : W P n (.loop c) K σ := by
  intro F μ a w hs b kk cs
  have key : ∀ (k : Nat) (x : α), m x = k → inv x → ∀ μ a w, SR F n (st x) μ a w →
      ∃ e a' w', Post F n K μ w e a' w' ∧ Arrives P (lone (b.at a (.code c :: .inLoop c :: kk)) cs w) b kk cs e a' w' := by
    intro k
    induction k using Nat.strongRecOn with
    | _ k ih =>
      intro x hk hi μ a w hs
      obtain ⟨e, a1, w1, ⟨σ1, μ1, hK, hs1, hf⟩, harr⟩ := round x hi F μ a w hs b (.inLoop c :: kk) cs
      cases e with
      | normal =>
        obtain ⟨y, hy, hlt, hle⟩ := hK
        obtain ⟨e3, a3, w3, hp3, harr3⟩ := ih (m y) (hk ▸ hlt) y rfl hy μ1 a1 w1 (hle.sr hs1)
        exact ⟨e3, a3, w3, Post.mono hf hp3, .of_steps (Steps.trans harr (.one step_inLoop)) harr3⟩
      | exit id => exact ⟨_, a1, w1, ⟨σ1, μ1, hK, hs1, hf⟩, .pass (x := .inLoop c) rfl (fun _ _ => .inl (by simp)) harr⟩
      | goto l => exact ⟨_, a1, w1, ⟨σ1, μ1, hK, hs1, hf⟩, .pass (x := .inLoop c) rfl (fun _ _ => .inl (by simp)) harr⟩
      | ret => exact ⟨_, a1, w1, ⟨σ1, μ1, hK, hs1, hf⟩, .pass (x := .inLoop c) rfl (fun _ _ => .inl (by simp)) harr⟩
      | panic ch => exact ⟨_, a1, w1, ⟨σ1, μ1, hK, hs1, hf⟩, .pass (x := .inLoop c) rfl (fun _ _ => .inl (by simp)) harr⟩
      | outgrown => exact ⟨_, a1, w1, ⟨σ1, μ1, hK, hs1, hf⟩, .pass (x := .inLoop c) rfl (fun _ _ => .inl (by simp)) harr⟩
  obtain ⟨e, a', w', hq, harr⟩ := key _ a0 rfl h0 μ a w (hl.sr hs)
  exact ⟨e, a', w', hq, .of_steps (.one step_loop) harr⟩

/-- A scope with labels: J l: the states at a jump to l; m: what every pass from a label lowers. -/
theorem W.scope {α : Type} (st : α → SS) (lab : α → Nat) (inv : α → Prop) (m : α → Nat) {c : Code} {K : Exit → SS → Prop} {σ : SS}
    (first : W P n c (fun x σ' => match x with | .goto l => ∃ y, inv y ∧ lab y = l ∧ Le (st y) σ' | x => K x σ') σ)
    (pass : ∀ x, inv x → ∃ rest, findLabel c (lab x) = some rest ∧
      W P n rest (fun e σ' => match e with | .goto l => ∃ y, inv y ∧ lab y = l ∧ m y < m x ∧ Le (st y) σ' | e => K e σ') (st x)) : W P n (.scope c) K σ := by
  intro F μ a w hs b kk cs
  have key : ∀ (k : Nat) (x : α), m x = k → inv x → ∀ rest, findLabel c (lab x) = some rest → ∀ μ a w, SR F n (st x) μ a w →
      ∃ e a' w', Post F n K μ w e a' w' ∧ Arrives P (lone (b.at a (.code rest :: .inScope c :: kk)) cs w) b kk cs e a' w' := by
    intro k
    induction k using Nat.strongRecOn with
    | _ k ih =>
      intro x hk hi rest hrest μ a w hs
      obtain ⟨rest', hr', hW⟩ := pass x hi
      have : rest' = rest := by rw [hr'] at hrest; exact Option.some.inj hrest
      subst this
      obtain ⟨e, a1, w1, ⟨σ1, μ1, hK, hs1, hf⟩, harr⟩ := hW F μ a w hs b (.inScope c :: kk) cs
      cases e with
      | normal => exact ⟨.normal, a1, w1, ⟨σ1, μ1, hK, hs1, hf⟩, Steps.trans harr (.one step_inScope)⟩
      | exit id => exact ⟨.exit id, a1, w1, ⟨σ1, μ1, hK, hs1, hf⟩, fun k' hk => harr k' (by simp [exitTo, hk])⟩
      | goto l =>
        obtain ⟨y, hy, hl, hlt, hle⟩ := hK
        subst hl
        obtain ⟨rest2, hr2, _⟩ := pass y hy
        obtain ⟨e3, a3, w3, hp3, harr3⟩ := ih (m y) (hk ▸ hlt) y rfl hy rest2 hr2 μ1 a1 w1 (hle.sr hs1)
        exact ⟨e3, a3, w3, Post.mono hf hp3, .of_steps (harr _ (by simp [gotoIn, hr2])) harr3⟩
      | ret => exact ⟨_, a1, w1, ⟨σ1, μ1, hK, hs1, hf⟩, harr⟩
      | panic ch => exact ⟨_, a1, w1, ⟨σ1, μ1, hK, hs1, hf⟩, harr⟩
      | outgrown => exact ⟨_, a1, w1, ⟨σ1, μ1, hK, hs1, hf⟩, harr⟩
  obtain ⟨e, a1, w1, ⟨σ1, μ1, hK, hs1, hf⟩, harr⟩ := first F μ a w hs b (.inScope c :: kk) cs
  cases e with
  | normal => exact ⟨.normal, a1, w1, ⟨σ1, μ1, hK, hs1, hf⟩, .head step_scope (Steps.trans harr (.one step_inScope))⟩
  | exit id => exact ⟨.exit id, a1, w1, ⟨σ1, μ1, hK, hs1, hf⟩, fun k' hk => .head step_scope (harr k' (by simp [exitTo, hk]))⟩
  | goto l =>
    obtain ⟨y, hy, hl, hle⟩ := hK
    subst hl
    obtain ⟨rest2, hr2, _⟩ := pass y hy
    obtain ⟨e3, a3, w3, hp3, harr3⟩ := key _ y rfl hy rest2 hr2 μ1 a1 w1 (hle.sr hs1)
    exact ⟨e3, a3, w3, Post.mono hf hp3, .of_steps (.head step_scope (harr _ (by simp [gotoIn, hr2]))) harr3⟩
  | ret => exact ⟨_, a1, w1, ⟨σ1, μ1, hK, hs1, hf⟩, .of_steps (.one step_scope) harr⟩
  | panic ch => exact ⟨_, a1, w1, ⟨σ1, μ1, hK, hs1, hf⟩, .of_steps (.one step_scope) harr⟩
  | outgrown => exact ⟨_, a1, w1, ⟨σ1, μ1, hK, hs1, hf⟩, .of_steps (.one step_scope) harr⟩

end Go.SL
