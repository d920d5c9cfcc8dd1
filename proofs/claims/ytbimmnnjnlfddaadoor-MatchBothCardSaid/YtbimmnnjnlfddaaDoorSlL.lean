/-
  Regions whose order is open: the theorem.
-/
import Derived.Test.YtbimmnnjnlfddaaDoorSlK
set_option linter.unusedSimpArgs false
set_option linter.unnecessarySimpa false
set_option linter.unusedVariables false
set_option linter.unusedSectionVars false
namespace Go.SL
open Go
variable [Tabs]

variable {F F' : Nat → Prop} {μ μ' μ'' : List Nm} {w w' w'' : World} {P : Program} {n : Nat} {env : Nat → AV} {hp : List AObj} {ops : Array Oper} {T : TR} {M : List Nat}

structure DI (n : Nat) (ops : Array Oper) (T : TR) (hp : List AObj) (env : Nat → AV) (F : Nat → Prop) (μ0 : List Nm) (w0 : World) (listed : Array Bool) (m : Nat) (μ : List Nm) (a : Act) (w : World) : Prop where
  len : listed.size = ops.size
  down : ∀ (i : Nat) (o : Oper), ops[i]? = some o → listed.getD i false = true → ∀ j ∈ predsOf o, listed.getD j false = true
  cnt : ∀ (i : Nat) (o : Oper) (k : Kd), T[i]? = some (o, k) → k.isEf = true → (listed.getD i false = true ↔ efs T i < m)
  mle : m ≤ efs T T.length
  hr : HR F (CL T hp m) μ w
  un : ∀ (i : Nat) (o : Oper) (k : Kd) (x : Nat), T[i]? = some (o, k) → listed.getD i false = false → (hpAt T hp i).length ≤ x → x < (hpAt T hp (i + 1)).length → μ[x]? = some Nm.un
  t1 : ∀ (t j : Nat) (o : Oper) (k : Kd), T[j]? = some (o, k) → listed.getD j false = true → o.dst = some t → VR F μ w (k.val (hpAt T hp j)) (a.tmps.getD t undef)
  t2 : ∀ t : Nat, (∀ (j : Nat) (o : Oper) (k : Kd), T[j]? = some (o, k) → listed.getD j false = true → o.dst ≠ some t) → VR F μ w (env t) (a.tmps.getD t undef)
  fr : Fr μ0 w0 μ w
  size : a.tmps.size = n
  defers : a.defers = []

theorem envAt_zero : envAt T hp env 0 = env := by cases T <;> rfl
theorem hpAt_zero : hpAt T hp 0 = hp := by cases T <;> rfl

theorem T_ops (hT : T.map (·.1) = ops.toList) {i : Nat} {o : Oper} {k : Kd} (h : T[i]? = some (o, k)) : ops[i]? = some o := by
  have : (T.map (·.1))[i]? = some o := by simp [h]
  rw [hT] at this
  simpa using this

theorem ops_T (hT : T.map (·.1) = ops.toList) {i : Nat} {o : Oper} (h : ops[i]? = some o) : ∃ k, T[i]? = some (o, k) := by
  have : (T.map (·.1))[i]? = some o := by rw [hT]; simpa using h
  simp only [List.getElem?_map, Option.map_eq_some_iff] at this
  obtain ⟨⟨o', k⟩, h1, h2⟩ := this
  simp at h2; subst h2
  exact ⟨k, h1⟩

theorem T_len (hT : T.map (·.1) = ops.toList) : T.length = ops.size := by
  have := congrArg List.length hT
  simpa using this

theorem envAt_none : ∀ (i : Nat) (t : Nat), i ≤ T.length → (∀ j o k, j < i → T[j]? = some (o, k) → o.dst ≠ some t) → envAt T hp env i t = env t
  | 0, t, _, _ => by rw [envAt_zero]
  | i + 1, t, hi, h => by
    obtain ⟨⟨o, k⟩, hp'⟩ : ∃ p, T[i]? = some p := ⟨_, List.getElem?_eq_getElem (by omega)⟩
    rw [envAt_succ T hp env i o k hp']
    have ih := envAt_none i t (by omega) fun j o k hj => h j o k (by omega)
    have hd := h i o k (by omega) hp'
    cases ho : o.dst with
    | none => simp only [put]; exact ih
    | some d =>
      have : t ≠ d := by rintro rfl; exact hd ho
      simp only [put, upd, nbeq this, cond_false]
      exact ih

theorem envAt_val (hdst : ∀ (i j : Nat) (o o' : Oper) (k k' : Kd) (d : Nat), T[i]? = some (o, k) → T[j]? = some (o', k') → o.dst = some d → o'.dst = some d → i = j) {j : Nat} {o : Oper} {k : Kd} {t : Nat} (hj : T[j]? = some (o, k)) (hd : o.dst = some t) :
    ∀ i, i ≤ T.length → j < i → envAt T hp env i t = k.val (hpAt T hp j)
  | 0, _, h => by omega
  | i + 1, hi, h => by
    obtain ⟨⟨o', k'⟩, hp'⟩ : ∃ p, T[i]? = some p := ⟨_, List.getElem?_eq_getElem (by omega)⟩
    rw [envAt_succ T hp env i o' k' hp']
    rcases Nat.lt_or_ge j i with h1 | h1
    · have ih := envAt_val hdst hj hd i (by omega) h1
      cases ho : o'.dst with
      | none => simp only [put]; exact ih
      | some d =>
        have : t ≠ d := by
          rintro rfl
          have := hdst _ _ _ _ _ _ _ hj hp' hd ho
          omega
        simp only [put, upd, nbeq this, cond_false]
        exact ih
    · have : i = j := by omega
      subst this
      rw [hj] at hp'
      simp at hp'
      obtain ⟨rfl, rfl⟩ := hp'
      simp only [hd, put, upd, Nat.beq_refl, cond_true]

theorem cnt_set (i : Nat) (f : Nat → Bool) (hf : f i = false) : ∀ l : List Nat, l.Nodup → l.countP (fun j => f j || Nat.beq j i) = l.countP f + (if i ∈ l then 1 else 0)
  | [], _ => rfl
  | j :: l, hn => by
    have hn' := List.nodup_cons.1 hn
    have ih := cnt_set i f hf l hn'.2
    by_cases hji : j = i
    · subst hji
      simp only [List.countP_cons, ih, hf, Nat.beq_refl, Bool.or_true, if_true, List.mem_cons, true_or, hn'.1, if_false, Bool.false_eq_true]
    · have h2 : Nat.beq j i = false := nbeq hji
      have h3 : (i ∈ j :: l) ↔ i ∈ l := by simp [Ne.symm hji]
      simp only [List.countP_cons, ih, h2, Bool.or_false, h3]
      omega

theorem getD_set {listed : Array Bool} {i : Nat} (hi : i < listed.size) (j : Nat) : (listed.setIfInBounds i true).getD j false = (listed.getD j false || Nat.beq j i) := by
  by_cases h : j = i
  · subst h
    rw [Nat.beq_refl, Bool.or_true]
    simp [hi]
  · rw [nbeq h, Bool.or_false]
    simp [Array.getElem?_setIfInBounds_ne (Ne.symm h)]

theorem getD_tf {listed : Array Bool} {i : Nat} (hi : i < listed.size) : listed.getD i true = listed.getD i false := by simp [hi]

section
variable (hT : T.map (·.1) = ops.toList) (hrun : RunOK P n ops T hp env) (hst : Sta ops (T.map (·.2.isEf)) M) (hob : oblP T hp M)
include hT hst

theorem draw_dst (i j : Nat) (o o' : Oper) (k k' : Kd) (d : Nat) (hi : T[i]? = some (o, k)) (hj : T[j]? = some (o', k')) (hd : o.dst = some d) (hd' : o'.dst = some d) : i = j :=
  hst.dsts i j o o' d (T_ops hT hi) (T_ops hT hj) hd hd'

/-- The slots that an operation looks at are, when its turn comes, what they are in the text's order. -/
theorem draw_env {μ0 : List Nm} {w0 : World} {listed : Array Bool} {m : Nat} {a : Act} (h : DI n ops T hp env F μ0 w0 listed m μ a w) {i : Nat} {o : Oper} {k : Kd} (hi : T[i]? = some (o, k))
    (hni : listed.getD i false = false) (hpre : ∀ j ∈ predsOf o, listed.getD j false = true) : EnvR F (rs ops (envAt T hp env i) o) μ w a.tmps := by
  intro t
  simp only [rs]
  cases hm : memN (o.looksAt ops) t with
  | false => exact .any
  | true =>
    simp only [cond_true]
    have hmem := memN_iff.1 hm
    have hio := T_ops hT hi
    have hlen := T_len hT
    have hil : i < ops.size := (Array.getElem?_eq_some_iff.1 hio).1
    by_cases hex : ∃ (j : Nat) (o' : Oper) (k' : Kd), T[j]? = some (o', k') ∧ o'.dst = some t
    · obtain ⟨j, o', k', hj, hd⟩ := hex
      have hjo := T_ops hT hj
      have hjl : j < ops.size := (Array.getElem?_eq_some_iff.1 hjo).1
      rcases hst.looks i j o o' t hio hjo hd hmem with h1 | h1 | h1
      · -- the operation's own slot
        subst h1
        rw [envAt_none i t (by omega) fun j' o'' k'' hj' hT' hd' => by have := draw_dst hT hst _ _ _ _ _ _ _ hT' hj hd' hd; omega]
        refine h.t2 t fun j' o'' k'' hT' hl hd' => ?_
        have := draw_dst hT hst _ _ _ _ _ _ _ hT' hj hd' hd
        subst this
        rw [hni] at hl; simp at hl
      · have hjS := hst.pre (fun x => listed.getD x false = true) (fun x ox hx hS => h.down x ox hx hS) i o hio hpre j hjl h1
        have hji := hst.bit_lt i j hil hjl h1
        rw [envAt_val (draw_dst hT hst) hj hd i (by omega) hji]
        exact h.t1 t j o' k' hj hjS hd
      · have hij := hst.bit_lt j i hjl hil h1
        have hjn : listed.getD j false = false := by
          cases hb : listed.getD j false with
          | false => rfl
          | true =>
            have := hst.pre (fun x => listed.getD x false = true) (fun x ox hx hS => h.down x ox hx hS) j o' hjo (h.down j o' hjo hb) i hil h1
            rw [hni] at this; simp at this
        rw [envAt_none i t (by omega) fun j' o'' k'' hj' hT' hd' => by have := draw_dst hT hst _ _ _ _ _ _ _ hT' hj hd' hd; omega]
        refine h.t2 t fun j' o'' k'' hT' hl hd' => ?_
        have := draw_dst hT hst _ _ _ _ _ _ _ hT' hj hd' hd
        subst this
        rw [hjn] at hl; simp at hl
    · have hno : ∀ (j : Nat) (o' : Oper) (k' : Kd), T[j]? = some (o', k') → o'.dst ≠ some t := fun j o' k' hj hd => hex ⟨j, o', k', hj, hd⟩
      rw [envAt_none i t (by omega) fun j o' k' _ hj => hno j o' k' hj]
      exact h.t2 t fun j o' k' hj _ => hno j o' k' hj

/-- How many effects may have been carried out when a turn comes. -/
theorem draw_win {μ0 : List Nm} {w0 : World} {listed : Array Bool} {m : Nat} {a : Act} (h : DI n ops T hp env F μ0 w0 listed m μ a w) {i : Nat} {o : Oper} {k : Kd} (hi : T[i]? = some (o, k))
    (hni : listed.getD i false = false) (hpre : ∀ j ∈ predsOf o, listed.getD j false = true) : winB T M i m = true := by
  unfold winB
  rw [List.all_eq_true]
  intro e he
  have hlen := T_len hT
  have hio := T_ops hT hi
  have hil : i < ops.size := (Array.getElem?_eq_some_iff.1 hio).1
  simp at he
  obtain ⟨⟨o', k'⟩, he'⟩ : ∃ p, T[e]? = some p := ⟨_, List.getElem?_eq_getElem he⟩
  simp only [he']
  rcases hk : k'.isEf with _ | _
  · rfl
  · simp only [Bool.not_true, Bool.false_or, Bool.and_eq_true]
    have heo := T_ops hT he'
    have hel : e < ops.size := by omega
    constructor
    · cases hb : bitN M i e with
      | false => rfl
      | true =>
        have hS := hst.pre (fun x => listed.getD x false = true) (fun x ox hx hS => h.down x ox hx hS) i o hio hpre e hel hb
        simp only [Bool.not_true, Bool.false_or]
        exact Nat.ble_eq_true_of_le ((h.cnt e o' k' he' hk).1 hS)
    · cases hb : bitN M e i with
      | false => rfl
      | true =>
        simp only [Bool.not_true, Bool.false_or]
        apply Nat.ble_eq_true_of_le
        rcases Nat.lt_or_ge (efs T e) m with h1 | h1
        · have hS := (h.cnt e o' k' he' hk).2 h1
          have := hst.pre (fun x => listed.getD x false = true) (fun x ox hx hS => h.down x ox hx hS) e o' heo (h.down e o' heo hS) i hil hb
          rw [hni] at this; simp at this
        · exact h1

/-- An effect's turn comes when all ahead of it are done, and no other. -/
theorem draw_turn {μ0 : List Nm} {w0 : World} {listed : Array Bool} {m : Nat} {a : Act} (h : DI n ops T hp env F μ0 w0 listed m μ a w) {i : Nat} {o : Oper} {k : Kd} (hi : T[i]? = some (o, k)) (hk : k.isEf = true)
    (hni : listed.getD i false = false) (hpre : ∀ j ∈ predsOf o, listed.getD j false = true) : efs T i = m := by
  have hlen := T_len hT
  have hio := T_ops hT hi
  have hil : i < ops.size := (Array.getElem?_eq_some_iff.1 hio).1
  have h1 : m ≤ efs T i := by
    rcases Nat.lt_or_ge (efs T i) m with h1 | h1
    · have := (h.cnt i o k hi hk).2 h1
      rw [hni] at this; simp at this
    · exact h1
  rcases Nat.lt_or_ge m (efs T i) with h2 | h2
  · obtain ⟨e, g1, g2, g3⟩ := efs_find T m h.mle
    have hei : e < i := by
      rcases Nat.lt_or_ge e i with h3 | h3
      · exact h3
      · have := efs_mono T i e h3 g1; omega
    rcases g3 with ⟨_, g3⟩ | ⟨o', k', g3, g4⟩
    · omega
    · have hb := hst.chain i e hil hei (by simp [hi, hk]) (by simp [g3, g4])
      have hS := hst.pre (fun x => listed.getD x false = true) (fun x ox hx hS => h.down x ox hx hS) i o hio hpre e (by omega) hb
      have := (h.cnt e o' k' g3 g4).1 hS
      omega
  · omega

end

end Go.SL
