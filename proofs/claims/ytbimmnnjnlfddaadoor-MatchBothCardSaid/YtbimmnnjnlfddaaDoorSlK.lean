/-
  Regions whose order is open: every order comes to what the text's order comes to.
-/
import Derived.Test.YtbimmnnjnlfddaaDoorSlJ
set_option linter.unusedSimpArgs false
set_option linter.unnecessarySimpa false
set_option linter.unusedVariables false
set_option linter.unusedSectionVars false
namespace Go.SL
open Go
variable [Tabs]

variable {F F' : Nat → Prop} {μ μ' μ'' : List Nm} {w w' w'' : World} {P : Program} {n : Nat} {env : Nat → AV} {hp : List AObj}

mutual
/-- The own rows that a value names lie below k. -/
def idsLt (k : Nat) : AV → Bool
  | .any | .nil | .sc _ => true
  | .ptr o _ => Nat.blt o k
  | .sl o _ _ => Nat.blt o k
  | .im _ _ => true
  | .ip _ _ => true
  | .fn _ xs ys => idsLtL k xs && idsLtL k ys
  | .agg cs => idsLtL k cs
  | .tup vs => idsLtL k vs
  | .ifc _ v => idsLt k v
def idsLtL (k : Nat) : List AV → Bool
  | [] => true
  | x :: xs => idsLt k x && idsLtL k xs
end

mutual
theorem VR.idsLt {k : Nat} (hn : ∀ (j : Nat) nm, j < k → μ[j]? = some nm → μ'[j]? = some nm) (hb : ∀ b, b < w.heap.size → Free μ F b → Free μ' F' b) :
    ∀ {x : AV} {v : Value}, VR F μ w x v → SL.idsLt k x = true → VR F' μ' w x v
  | _, _, .any, _ => .any
  | _, _, .nil, _ => .nil
  | _, _, .sc h, _ => .sc h
  | _, _, .ptr h, hx => .ptr (hn _ _ (Nat.le_of_ble_eq_true hx) h)
  | _, _, .ptrD h, hx => .ptrD (hn _ _ (Nat.le_of_ble_eq_true hx) h)
  | _, _, .sl h hc hl, hx => .sl (hn _ _ (Nat.le_of_ble_eq_true hx) h) hc hl
  | _, _, .slN h, hx => .slN (hn _ _ (Nat.le_of_ble_eq_true hx) h)
  | _, _, .slE h, hx => .slE (hn _ _ (Nat.le_of_ble_eq_true hx) h)
  | _, _, .slD h, hx => .slD (hn _ _ (Nat.le_of_ble_eq_true hx) h)
  | _, _, .im0, _ => .im0
  | _, _, .im h hb' hF hk hk2 hx, hi => VR.moveN hb (.im h hb' hF hk hk2 hx) rfl
  | _, _, .ip h hb' hF hx, hi => VR.moveN hb (.ip h hb' hF hx) rfl
  | _, _, .fn h1 h2, hi => by
    simp only [SL.idsLt, Bool.and_eq_true] at hi
    exact .fn (VRL.idsLt hn hb h1 hi.1) (VRL.idsLt hn hb h2 hi.2)
  | _, _, .agg h, hi => .agg (VRL.idsLt hn hb h (by simpa [SL.idsLt] using hi))
  | _, _, .tup h, hi => .tup (VRL.idsLt hn hb h (by simpa [SL.idsLt] using hi))
  | _, _, .ifc h, hi => .ifc (VR.idsLt hn hb h (by simpa [SL.idsLt] using hi))
theorem VRL.idsLt {k : Nat} (hn : ∀ (j : Nat) nm, j < k → μ[j]? = some nm → μ'[j]? = some nm) (hb : ∀ b, b < w.heap.size → Free μ F b → Free μ' F' b) :
    ∀ {xs : List AV} {vs : List Value}, VRL F μ w xs vs → SL.idsLtL k xs = true → VRL F' μ' w xs vs
  | _, _, .nil, _ => .nil
  | _, _, .cons h t, hi => by
    simp only [SL.idsLtL, Bool.and_eq_true] at hi
    exact .cons (VR.idsLt hn hb h hi.1) (VRL.idsLt hn hb t hi.2)
end

theorem idsLtL_noOwn {k : Nat} : ∀ xs : List AV, (∀ x ∈ xs, noOwn x = true ∧ idsLt k x = true) → idsLtL k xs = true
  | [], _ => rfl
  | x :: xs, h => by simp [idsLtL, (h x (by simp)).2, idsLtL_noOwn xs fun y hy => h y (by simp [hy])]

theorem idsLtL_map_sc {α : Type} {k : Nat} (g : α → Value) (l : List α) : idsLtL k (l.map fun x => .sc (g x)) = true := by
  induction l with
  | nil => rfl
  | cons x l ih => simp [idsLtL, idsLt, ih]
theorem idsLtL_bytes {k : Nat} (l : List UInt8) : idsLtL k (l.map byteAV) = true := idsLtL_map_sc _ l
theorem idsLtL_append {k : Nat} (xs ys : List AV) : idsLtL k (xs ++ ys) = (idsLtL k xs && idsLtL k ys) := by
  induction xs with
  | nil => simp [idsLtL]
  | cons x xs ih => simp [idsLtL, ih, Bool.and_assoc]

def rowLt (k : Nat) : AObj → Bool
  | .dead => true
  | .row _ cs => noOwnL cs || idsLtL k cs

def memN (l : List Nat) (t : Nat) : Bool := l.any fun x => Nat.beq x t

theorem memN_iff {l : List Nat} {t : Nat} : memN l t = true ↔ t ∈ l := by
  unfold memN
  rw [List.any_eq_true]
  constructor
  · rintro ⟨x, hx, he⟩
    rw [← Nat.eq_of_beq_eq_true he]; exact hx
  · intro h; exact ⟨t, h, Nat.beq_refl t⟩

/-- The slots that an operation looks at. -/
def rs (ops : Array Oper) (env : Nat → AV) (o : Oper) : Nat → AV := fun t => bif memN (o.looksAt ops) t then env t else .any

def StepQ (P : Program) (o : Oper) (env : Nat → AV) (r : AV) (O : List (Nat × AObj)) : Prop := ∀ hp : List AObj, (∀ p ∈ O, hp[p.1]? = some p.2) → Step P o env hp (is r hp)

def OpOK (P : Program) (n : Nat) (ops : Array Oper) (o : Oper) (k : Kd) (hp : List AObj) (env : Nat → AV) : Prop :=
  dstOk n o.dst ∧ hp.length ≤ (k.heap hp).length ∧
  match k with
  | .sk => wants ops (rs ops env o) o = some false
  | .q r O => wants ops (rs ops env o) o = some true ∧ StepQ P o (rs ops env o) r O
  | .al esz cells mk => wants ops (rs ops env o) o = some true ∧ StepAl P o (rs ops env o) esz cells mk
  | .ef r hp' => wants ops (rs ops env o) o = some true ∧ Step P o (rs ops env o) hp (is r hp') ∧ (∀ t ∈ o.looksAt ops, idsLt hp.length (env t) = true) ∧ (∀ x ∈ hp, rowLt hp.length x = true)

def RunOK (P : Program) (n : Nat) (ops : Array Oper) : TR → List AObj → (Nat → AV) → Prop
  | [], _, _ => True
  | (o, k) :: T, hp, env => OpOK P n ops o k hp env ∧ RunOK P n ops T (k.heap hp) (put env o.dst (k.val hp))

theorem RunOK.at {ops : Array Oper} : ∀ {T : TR} {hp : List AObj} {env : Nat → AV}, RunOK P n ops T hp env → ∀ i o k, T[i]? = some (o, k) → OpOK P n ops o k (hpAt T hp i) (envAt T hp env i)
  | [], _, _, _, _, _, _, h => by simp at h
  | (o', k') :: T, hp, env, h, 0, o, k, hi => by
    simp at hi
    obtain ⟨rfl, rfl⟩ := hi
    exact h.1
  | (o', k') :: T, hp, env, h, i + 1, o, k, hi => RunOK.at h.2 i o k (by simpa using hi)

theorem RunOK.grows {ops : Array Oper} {T : TR} (h : RunOK P n ops T hp env) : Grows T hp := fun i o k hi => by
  rw [hpAt_succ T hp i o k hi]; exact (h.at i o k hi).2.1

def predsOf (o : Oper) : List Nat := (o.after.toList.filter (Region.binds .any)).map (·.on)
def bitN (M : List Nat) (i j : Nat) : Bool := (M.getD i 0).testBit j

/-- What of a region alone must hold: M tells which operations are ahead of which. -/
def stat (ops : Array Oper) (ef : List Bool) (M : List Nat) : Bool :=
  (List.range ops.size).all fun i => match ops[i]? with
  | none => false
  | some o =>
    (predsOf o).all (fun j => Nat.blt j i) &&
    (List.range ops.size).all (fun j => !bitN M i j || (predsOf o).any fun k => Nat.beq k j || bitN M k j) &&
    (List.range ops.size).all fun j => match ops[j]? with
    | none => false
    | some o' =>
      (Nat.beq i j || (match o.dst, o'.dst with | some d, some d' => !Nat.beq d d' | _, _ => true)) &&
      (match o'.dst with | some d' => !memN (o.looksAt ops) d' || Nat.beq i j || bitN M i j || bitN M j i | none => true) &&
      (!(ef.getD i false) || !(ef.getD j false) || !Nat.blt j i || bitN M i j)

structure Sta (ops : Array Oper) (ef : List Bool) (M : List Nat) : Prop where
  back : ∀ (i : Nat) (o : Oper), ops[i]? = some o → ∀ j ∈ predsOf o, j < i
  cert : ∀ (i : Nat) (o : Oper), ops[i]? = some o → ∀ j, j < ops.size → bitN M i j = true → ∃ k ∈ predsOf o, k = j ∨ bitN M k j = true
  dsts : ∀ (i j : Nat) (o o' : Oper) (d : Nat), ops[i]? = some o → ops[j]? = some o' → o.dst = some d → o'.dst = some d → i = j
  looks : ∀ (i j : Nat) (o o' : Oper) (d : Nat), ops[i]? = some o → ops[j]? = some o' → o'.dst = some d → d ∈ o.looksAt ops → i = j ∨ bitN M i j = true ∨ bitN M j i = true
  chain : ∀ i j, i < ops.size → j < i → ef.getD i false = true → ef.getD j false = true → bitN M i j = true

theorem Sta.mk' {ops : Array Oper} {ef : List Bool} {M : List Nat} (h : stat ops ef M = true) : Sta ops ef M := by
  unfold stat at h
  rw [List.all_eq_true] at h
  have lt : ∀ {i : Nat} {o : Oper}, ops[i]? = some o → i < ops.size := fun {i o} hi => (Array.getElem?_eq_some_iff.1 hi).1
  have h1 : ∀ (i : Nat) (o : Oper), ops[i]? = some o → _ := fun i o hi => by
    have := h i (by simpa using lt hi)
    rw [hi] at this
    simp only [Bool.and_eq_true, List.all_eq_true] at this
    exact this
  have h2 : ∀ (i j : Nat) (o o' : Oper), ops[i]? = some o → ops[j]? = some o' → _ := fun i j o o' hi hj => by
    have := (h1 i o hi).2 j (by simpa using lt hj)
    rw [hj] at this
    simp only [Bool.and_eq_true] at this
    exact this
  refine ⟨fun i o hi j hj => ?_, fun i o hi j hj hb => ?_, fun i j o o' d hi hj hd hd' => ?_, fun i j o o' d hi hj hd hm => ?_, fun i j hi hji he he' => ?_⟩
  · exact Nat.le_of_ble_eq_true ((h1 i o hi).1.1 j hj)
  · have := (h1 i o hi).1.2 j (by simpa using hj)
    simp only [hb, Bool.not_true, Bool.false_or, List.any_eq_true, Bool.or_eq_true] at this
    obtain ⟨k, hk, h3⟩ := this
    refine ⟨k, hk, ?_⟩
    rcases h3 with h3 | h3
    · exact .inl (Nat.eq_of_beq_eq_true h3)
    · exact .inr h3
  · have := (h2 i j o o' hi hj).1.1
    rw [hd, hd'] at this
    simp only [Bool.or_eq_true, Bool.not_eq_true', Nat.beq_refl] at this
    rcases this with h3 | h3
    · exact Nat.eq_of_beq_eq_true h3
    · simp at h3
  · have := (h2 i j o o' hi hj).1.2
    rw [hd] at this
    simp only [memN_iff.2 hm, Bool.not_true, Bool.false_or, Bool.or_eq_true] at this
    rcases this with (h3 | h3) | h3
    · exact .inl (Nat.eq_of_beq_eq_true h3)
    · exact .inr (.inl h3)
    · exact .inr (.inr h3)
  · have hij : j < ops.size := by omega
    have := (h2 i j _ _ (Array.getElem?_eq_getElem hi) (Array.getElem?_eq_getElem hij)).2
    simp only [he, he', Bool.not_true, Bool.false_or, Bool.or_eq_true, Bool.not_eq_true'] at this
    rcases this with h3 | h3
    · have : Nat.blt j i = true := Nat.ble_eq_true_of_le hji
      rw [this] at h3; simp at h3
    · exact h3

section
variable {ops : Array Oper} {ef : List Bool} {M : List Nat}

theorem Sta.bit_lt (hs : Sta ops ef M) : ∀ (i j : Nat), i < ops.size → j < ops.size → bitN M i j = true → j < i := by
  intro i
  induction i using Nat.strongRecOn with
  | _ i ih =>
    intro j hi hj hb
    obtain ⟨k, hk, h⟩ := hs.cert i _ (Array.getElem?_eq_getElem hi) j hj hb
    have hki := hs.back i _ (Array.getElem?_eq_getElem hi) k hk
    rcases h with rfl | h
    · exact hki
    · have := ih k hki j (by omega) hj h
      omega

/-- What is ahead of an operation whose nearest are done is done. -/
theorem Sta.pre (hs : Sta ops ef M) (S : Nat → Prop) (hd : ∀ (i : Nat) (o : Oper), ops[i]? = some o → S i → ∀ j ∈ predsOf o, S j) :
    ∀ (i : Nat) (o : Oper), ops[i]? = some o → (∀ j ∈ predsOf o, S j) → ∀ j, j < ops.size → bitN M i j = true → S j := by
  intro i
  induction i using Nat.strongRecOn with
  | _ i ih =>
    intro o hi hp j hj hb
    obtain ⟨k, hk, h⟩ := hs.cert i o hi j hj hb
    rcases h with rfl | h
    · exact hp k hk
    · have hki := hs.back i o hi k hk
      have hlt : i < ops.size := (Array.getElem?_eq_some_iff.1 hi).1
      have hks : ops[k]? = some (ops[k]'(by omega)) := Array.getElem?_eq_getElem (by omega)
      exact ih k hki _ hks (hd k _ hks (hp k hk)) j hj h
end

def obsAt (T : TR) (hp : List AObj) (i : Nat) : List (Nat × AObj) :=
  match T[i]? with
  | some (_, .q _ O) => O
  | some (_, .al e c _) => [((hpAt T hp i).length, .row e c)]
  | _ => []

/-- May place i's turn come when m effects have been carried out? -/
def winB (T : TR) (M : List Nat) (i m : Nat) : Bool :=
  (List.range T.length).all fun e => match T[e]? with
  | some (_, k) => !k.isEf || ((!bitN M i e || Nat.blt (efs T e) m) && (!bitN M e i || Nat.ble m (efs T e)))
  | none => true

def allP : List Prop → Prop
  | [] => True
  | p :: l => p ∧ allP l

theorem allP_mem : ∀ {l : List Prop}, allP l → ∀ p ∈ l, p
  | [], _, p, hp => by simp at hp
  | q :: l, h, p, hp => by
    simp only [List.mem_cons] at hp
    rcases hp with rfl | hp
    · exact h.1
    · exact allP_mem h.2 p hp

def oblP (T : TR) (hp : List AObj) (M : List Nat) : Prop :=
  allP ((List.range T.length).flatMap fun i => (obsAt T hp i).flatMap fun p => ((List.range (efs T T.length + 1)).filter (winB T M i)).map fun m => (CL T hp m)[p.1]? = some p.2)

theorem oblP.get {T : TR} {M : List Nat} (h : oblP T hp M) {i m : Nat} (hi : i < T.length) (hm : m ≤ efs T T.length) (hw : winB T M i m = true) : ∀ p ∈ obsAt T hp i, (CL T hp m)[p.1]? = some p.2 := by
  intro p hp'
  refine allP_mem h _ ?_
  rw [List.mem_flatMap]
  refine ⟨i, by simpa using hi, ?_⟩
  rw [List.mem_flatMap]
  refine ⟨p, hp', ?_⟩
  rw [List.mem_map]
  exact ⟨m, by rw [List.mem_filter]; exact ⟨by simp; omega, hw⟩, rfl⟩

theorem efs_mono (T : TR) : ∀ i j, i ≤ j → j ≤ T.length → efs T i ≤ efs T j := by
  intro i j hij
  induction j with
  | zero => intro _; have : i = 0 := by omega
            subst this; exact Nat.le_refl _
  | succ j ih =>
    intro hj
    rcases Nat.lt_or_ge i (j + 1) with h | h
    · obtain ⟨⟨o, k⟩, hp'⟩ : ∃ p, T[j]? = some p := ⟨_, List.getElem?_eq_getElem (by omega)⟩
      have := efs_succ T j o k hp'
      have := ih (by omega) (by omega)
      omega
    · have : i = j + 1 := by omega
      subst this; exact Nat.le_refl _

/-- The m-th effect, or the end. -/
theorem efs_find (T : TR) (m : Nat) (hm : m ≤ efs T T.length) : ∃ e, e ≤ T.length ∧ efs T e = m ∧ ((m = efs T T.length ∧ e = T.length) ∨ ∃ o k, T[e]? = some (o, k) ∧ k.isEf = true) := by
  rcases Nat.lt_or_ge m (efs T T.length) with h | h
  · have key : ∀ j, j ≤ T.length → m < efs T j → ∃ e o k, e < j ∧ efs T e = m ∧ T[e]? = some (o, k) ∧ k.isEf = true := by
      intro j
      induction j with
      | zero => intro _ h; simp [efs] at h
      | succ j ih =>
        intro hj hlt
        obtain ⟨⟨o, k⟩, hp'⟩ : ∃ p, T[j]? = some p := ⟨_, List.getElem?_eq_getElem (by omega)⟩
        have h1 := efs_succ T j o k hp'
        rcases Nat.lt_or_ge m (efs T j) with h2 | h2
        · obtain ⟨e, o', k', g1, g2, g3⟩ := ih (by omega) h2
          exact ⟨e, o', k', by omega, g2, g3⟩
        · cases hk : k.isEf
          · rw [hk] at h1; simp at h1; omega
          · rw [hk] at h1; simp at h1
            exact ⟨j, o, k, by omega, by omega, hp', hk⟩
    obtain ⟨e, o, k, g1, g2, g3, g4⟩ := key _ (Nat.le_refl _) h
    exact ⟨e, by omega, g2, .inr ⟨o, k, g3, g4⟩⟩
  · exact ⟨T.length, Nat.le_refl _, by omega, .inl ⟨by omega, rfl⟩⟩

theorem hsOf_is (T : TR) (hp : List AObj) (m : Nat) (hm : m ≤ efs T T.length) : ∃ e, e ≤ T.length ∧ efs T e = m ∧ (hsOf T hp).getD m [] = hpAt T hp e := by
  obtain ⟨e, h1, h2, h3⟩ := efs_find T m hm
  refine ⟨e, h1, h2, ?_⟩
  rcases h3 with ⟨h3, rfl⟩ | ⟨o, k, h3, h4⟩
  · rw [h3]; exact hsOf_end T hp
  · rw [← h2]; exact hsOf_ef T hp e o k h3 h4

theorem CL_length {T : TR} (hg : Grows T hp) {m : Nat} (hm : m ≤ efs T T.length) : (CL T hp m).length = (hpAt T hp T.length).length := by
  obtain ⟨e, h1, h2, h3⟩ := hsOf_is T hp m hm
  have hb := biOf_length T hp hp hg rfl
  have := hg.mono e T.length h1 (Nat.le_refl _)
  unfold CL
  rw [h3]
  simp; omega

theorem CL_at {T : TR} (hg : Grows T hp) {i : Nat} (hi : i ≤ T.length) {x : Nat} (hx : x < (hpAt T hp i).length) : (CL T hp (efs T i))[x]? = (hpAt T hp i)[x]? := by
  obtain ⟨h1, h2⟩ := hsOf_at T hp i hg hi x hx
  unfold CL
  rw [List.getElem?_append_left (by omega), h1]

/-- Who makes row x. -/
theorem maker {T : TR} (hg : Grows T hp) {x : Nat} : ∀ j, j ≤ T.length → hp.length ≤ x → x < (hpAt T hp j).length → ∃ i o k, i < j ∧ T[i]? = some (o, k) ∧ (hpAt T hp i).length ≤ x ∧ x < (hpAt T hp (i + 1)).length := by
  intro j
  induction j with
  | zero => intro _ h1 h2; have : hpAt T hp 0 = hp := by cases T <;> rfl
            rw [this] at h2; omega
  | succ j ih =>
    intro hj h1 h2
    obtain ⟨⟨o, k⟩, hp'⟩ : ∃ p, T[j]? = some p := ⟨_, List.getElem?_eq_getElem (by omega)⟩
    rcases Nat.lt_or_ge x (hpAt T hp j).length with h | h
    · obtain ⟨i, o, k, g1, g2⟩ := ih (by omega) h1 h
      exact ⟨i, o, k, by omega, g2⟩
    · exact ⟨j, o, k, by omega, hp', h, h2⟩

/-- A row that is made behind place i0 reads, when as many effects are done as stand ahead of i0, as when it is made. -/
theorem CL_born {T : TR} (hg : Grows T hp) {i0 x : Nat} (hi : i0 ≤ T.length) (hx : (hpAt T hp i0).length ≤ x) (hx2 : x < (hpAt T hp T.length).length) : (CL T hp (efs T i0))[x]? = (biOf T hp hp)[x]? := by
  obtain ⟨e, h1, h2, h3⟩ := hsOf_is T hp (efs T i0) (efs_mono T _ _ hi (Nat.le_refl _))
  unfold CL
  rw [h3]
  have h0 : hp.length ≤ x := by
    have := hg.mono 0 i0 (Nat.zero_le _) hi
    have e0 : hpAt T hp 0 = hp := by cases T <;> rfl
    rw [e0] at this; omega
  rcases Nat.lt_or_ge x (hpAt T hp e).length with h | h
  · rw [List.getElem?_append_left h]
    obtain ⟨j, o, k, g1, g2, g3, g4⟩ := maker hg T.length (Nat.le_refl _) h0 hx2
    have hj1 : j + 1 ≤ e := by
      rcases Nat.lt_or_ge j e with h' | h'
      · omega
      · have := hg.mono e j h' (by omega); omega
    have hj0 : i0 ≤ j := by
      rcases Nat.lt_or_ge j i0 with h' | h'
      · have := hg.mono (j + 1) i0 (by omega) hi; omega
      · exact h'
    have e1 := efs_mono T i0 (j + 1) (by omega) (by omega)
    have e2 := efs_mono T (j + 1) e hj1 h1
    have e3 : efs T (j + 1) = efs T e := by omega
    obtain ⟨k1, k2⟩ := hsOf_at T hp (j + 1) hg (by omega) x g4
    rw [e3, h2, h3] at k1
    rw [k1, biOf_born T hp hp j x hg rfl g1 g3 g4]
  · rw [List.getElem?_append_right h, List.getElem?_drop]
    congr 1; omega

end Go.SL
