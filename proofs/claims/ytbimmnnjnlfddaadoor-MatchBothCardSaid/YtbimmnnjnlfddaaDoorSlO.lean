/-
  The rules as a printed walk uses them.
-/
import Derived.Test.YtbimmnnjnlfddaaDoorSlN
set_option linter.unusedSimpArgs false
set_option linter.unnecessarySimpa false
set_option linter.unusedVariables false
set_option linter.unusedSectionVars false
namespace Go.SL
open Go
variable [Tabs]

variable {F F' : Nat → Prop} {P : Program} {n : Nat} {env : Nat → AV} {hp hp0 : List AObj} {ops : Array Oper} {K : Exit → SS → Prop} {o : Oper}

def eqs (env : Nat → AV) : List (Nat × AV) → Prop
  | [] => True
  | (d, x) :: l => env d = x ∧ eqs env l

theorem eqs_mem : ∀ {l : List (Nat × AV)}, eqs env l → ∀ p ∈ l, env p.1 = p.2
  | [], _, p, hp => by simp at hp
  | (d, x) :: l, h, p, hp => by
    simp only [List.mem_cons] at hp
    rcases hp with rfl | hp
    · exact h.1
    · exact eqs_mem h.2 p hp

theorem Le.eqs {l : List (Nat × AV)} {hp' : List AObj} {σ : SS} (hh : hp' = σ.hp) (h : SL.eqs σ.env l) : Le ⟨SL.tbl l, hp'⟩ σ := by
  subst hh; exact Le.tbl (eqs_mem h)

theorem upd_same {d : Nat} {x : AV} (h : env d = x) : upd env d x = env := by
  funext i
  simp only [upd]
  by_cases hi : i = d
  · subst hi; rw [Nat.beq_refl]; exact h.symm
  · rw [nbeq hi]; rfl

theorem WO.split {l : List Nat} {σ : SS} (d : Nat) {b : Bool} (hd : σ.env d = .sc (.bool b)) (ht : b = true → WO P n ops l K ⟨upd σ.env d (.sc (.bool true)), σ.hp⟩)
    (hf : b = false → WO P n ops l K ⟨upd σ.env d (.sc (.bool false)), σ.hp⟩) : WO P n ops l K σ := by
  cases b with
  | true => have := ht rfl; rwa [upd_same hd] at this
  | false => have := hf rfl; rwa [upd_same hd] at this

theorem W.split {c : Code} {σ : SS} (d : Nat) {b : Bool} (hd : σ.env d = .sc (.bool b)) (ht : b = true → W P n c K ⟨upd σ.env d (.sc (.bool true)), σ.hp⟩)
    (hf : b = false → W P n c K ⟨upd σ.env d (.sc (.bool false)), σ.hp⟩) : W P n c K σ := by
  cases b with
  | true => have := ht rfl; rwa [upd_same hd] at this
  | false => have := hf rfl; rwa [upd_same hd] at this

theorem W.condT {c : Operand} {x y : Code} {σ : SS} (hc : opd σ.env c = .sc (.bool true)) (ht : W P n x K σ) : W P n (.cond c x y) K σ :=
  W.cond hc (fun _ => ht) (fun h => by simp at h)
theorem W.condF {c : Operand} {x y : Code} {σ : SS} (hc : opd σ.env c = .sc (.bool false)) (hf : W P n y K σ) : W P n (.cond c x y) K σ :=
  W.cond hc (fun h => by simp at h) (fun _ => hf)

/-- A slot is put anew, as it reads the same. -/
theorem W.set {c : Code} {σ : SS} (d : Nat) (x : AV) (hd : σ.env d = x) (h : W P n c K ⟨upd σ.env d x, σ.hp⟩) : W P n c K σ := by
  have := h; rwa [upd_same hd] at this
theorem WO.set {l : List Nat} {σ : SS} (d : Nat) (x : AV) (hd : σ.env d = x) (h : WO P n ops l K ⟨upd σ.env d x, σ.hp⟩) : WO P n ops l K σ := by
  have := h; rwa [upd_same hd] at this

/-- A state is named anew. -/
theorem W.to {c : Code} {σ : SS} (l : List (Nat × AV)) (hp' : List AObj) (hh : hp' = σ.hp) (he : eqs σ.env l) (h : W P n c K ⟨SL.tbl l, hp'⟩) : W P n c K σ :=
  W.weaken (Le.eqs hh he) h

def mOf (ops : Array Oper) : List Nat :=
  ops.toList.foldl (fun acc o => acc ++ [(predsOf o).foldl (fun b j => b ||| (1 <<< j) ||| acc.getD j 0) 0]) []

/-- What is left of a drawn region's walk. -/
def DC (P : Program) (n : Nat) (ops : Array Oper) (K : Exit → SS → Prop) (hp0 : List AObj) (Td : TR → TR) (l : List Oper) (hp : List AObj) (env : Nat → AV) : Prop :=
  ∃ T : TR, T.map (·.1) = l ∧ RunOK P n ops T hp env ∧ (∃ M, stat ops ((Td T).map (·.2.isEf)) M = true ∧ oblP (Td T) hp0 M) ∧ K .normal ⟨envAt T hp env T.length, hpAt T hp T.length⟩

theorem DC.nil {Td : TR → TR} (M : List Nat) (hs : stat ops ((Td []).map (·.2.isEf)) M = true) (ho : oblP (Td []) hp0 M) (hk : K .normal ⟨env, hp⟩) : DC P n ops K hp0 Td [] hp env :=
  ⟨[], rfl, trivial, ⟨M, hs, ho⟩, hk⟩

theorem DC.cons {Td : TR → TR} {l : List Oper} (k : Kd) (hk : OpOK P n ops o k hp env) (h : DC P n ops K hp0 (fun T => Td ((o, k) :: T)) l (k.heap hp) (put env o.dst (k.val hp))) : DC P n ops K hp0 Td (o :: l) hp env := by
  obtain ⟨T, h1, h2, ⟨M, h3, h4⟩, h5⟩ := h
  exact ⟨(o, k) :: T, by simp [h1], ⟨hk, h2⟩, ⟨M, h3, h4⟩, h5⟩

theorem DC.sk {Td : TR → TR} {l : List Oper} (hw : wants ops (rs ops env o) o = some false) (hd : dstOk n o.dst)
    (h : DC P n ops K hp0 (fun T => Td ((o, .sk) :: T)) l hp (put env o.dst (.sc undef))) : DC P n ops K hp0 Td (o :: l) hp env :=
  DC.cons .sk ⟨hd, Nat.le_refl _, hw⟩ h

theorem DC.q {Td : TR → TR} {l : List Oper} {r : AV} (hw : wants ops (rs ops env o) o = some true) (hd : dstOk n o.dst) (hs : ∀ hp, Step P o (rs ops env o) hp (is r hp))
    (h : DC P n ops K hp0 (fun T => Td ((o, .q r []) :: T)) l hp (put env o.dst r)) : DC P n ops K hp0 Td (o :: l) hp env :=
  DC.cons (.q r []) ⟨hd, Nat.le_refl _, hw, fun hp _ => hs hp⟩ h

theorem DC.q1 {Td : TR → TR} {l : List Oper} {r : AV} {i : Nat} {row : AObj} (hw : wants ops (rs ops env o) o = some true) (hd : dstOk n o.dst) (hr : hp[i]? = some row) (hs : ∀ hp, hp[i]? = some row → Step P o (rs ops env o) hp (is r hp))
    (h : DC P n ops K hp0 (fun T => Td ((o, .q r [(i, row)]) :: T)) l hp (put env o.dst r)) : DC P n ops K hp0 Td (o :: l) hp env :=
  DC.cons (.q r [(i, row)]) ⟨hd, Nat.le_refl _, hw, fun hp hO => hs hp (hO (i, row) (List.mem_singleton.2 rfl))⟩ h

theorem DC.q2 {Td : TR → TR} {l : List Oper} {r : AV} {i j : Nat} {row row' : AObj} (hw : wants ops (rs ops env o) o = some true) (hd : dstOk n o.dst) (hr : hp[i]? = some row) (hr' : hp[j]? = some row')
    (hs : ∀ hp, hp[i]? = some row → hp[j]? = some row' → Step P o (rs ops env o) hp (is r hp))
    (h : DC P n ops K hp0 (fun T => Td ((o, .q r [(i, row), (j, row')]) :: T)) l hp (put env o.dst r)) : DC P n ops K hp0 Td (o :: l) hp env :=
  DC.cons (.q r [(i, row), (j, row')]) ⟨hd, Nat.le_refl _, hw, fun hp hO => hs hp (hO (i, row) (List.mem_cons.2 (.inl rfl))) (hO (j, row') (List.mem_cons.2 (.inr (List.mem_singleton.2 rfl))))⟩ h

theorem DC.al {Td : TR → TR} {l : List Oper} {esz : Nat} {cells : List AV} {mk : Nat → AV} (hw : wants ops (rs ops env o) o = some true) (hd : dstOk n o.dst) (hs : StepAl P o (rs ops env o) esz cells mk)
    (h : DC P n ops K hp0 (fun T => Td ((o, .al esz cells mk) :: T)) l (hp ++ [.row esz cells]) (put env o.dst (mk hp.length))) : DC P n ops K hp0 Td (o :: l) hp env :=
  DC.cons (.al esz cells mk) ⟨hd, by simp [Kd.heap], hw, hs⟩ h

def allLt (k : Nat) (env : Nat → AV) : List Nat → Prop
  | [] => True
  | t :: l => idsLt k (env t) = true ∧ allLt k env l
theorem allLt_mem {k : Nat} : ∀ {l : List Nat}, allLt k env l → ∀ t ∈ l, idsLt k (env t) = true
  | [], _, t, ht => by simp at ht
  | t' :: l, h, t, ht => by
    simp only [List.mem_cons] at ht
    rcases ht with rfl | ht
    · exact h.1
    · exact allLt_mem h.2 t ht
def allRow (k : Nat) : List AObj → Prop
  | [] => True
  | t :: l => rowLt k t = true ∧ allRow k l
theorem allRow_mem {k : Nat} : ∀ {l : List AObj}, allRow k l → ∀ t ∈ l, rowLt k t = true
  | [], _, t, ht => by simp at ht
  | t' :: l, h, t, ht => by
    simp only [List.mem_cons] at ht
    rcases ht with rfl | ht
    · exact h.1
    · exact allRow_mem h.2 t ht

theorem DC.ef {Td : TR → TR} {l : List Oper} {r : AV} {hp' : List AObj} (hw : wants ops (rs ops env o) o = some true) (hd : dstOk n o.dst) (hs : Step P o (rs ops env o) hp (is r hp')) (hl : hp.length ≤ hp'.length)
    (h1 : allLt hp.length env (o.looksAt ops)) (h2 : allRow hp.length hp)
    (h : DC P n ops K hp0 (fun T => Td ((o, .ef r hp') :: T)) l hp' (put env o.dst r)) : DC P n ops K hp0 Td (o :: l) hp env :=
  DC.cons (.ef r hp') ⟨hd, hl, hw, hs, allLt_mem h1, allRow_mem h2⟩ h

theorem DC.split {Td : TR → TR} {l : List Oper} (d : Nat) {b : Bool} (hd : env d = .sc (.bool b)) (ht : b = true → DC P n ops K hp0 Td l hp (upd env d (.sc (.bool true))))
    (hf : b = false → DC P n ops K hp0 Td l hp (upd env d (.sc (.bool false)))) : DC P n ops K hp0 Td l hp env := by
  cases b with
  | true => have := ht rfl; rwa [upd_same hd] at this
  | false => have := hf rfl; rwa [upd_same hd] at this

theorem DC.set {Td : TR → TR} {l : List Oper} (d : Nat) (x : AV) (hd : env d = x) (h : DC P n ops K hp0 Td l hp (upd env d x)) : DC P n ops K hp0 Td l hp env := by
  have := h; rwa [upd_same hd] at this

theorem W.draw {id : Nat} (hm : P.follows .mixedOrders = true) (h : DC P n ops K hp (fun T => T) ops.toList hp env) : W P n (.region id ops true) K ⟨env, hp⟩ := by
  obtain ⟨T, h1, h2, ⟨M, h3, h4⟩, h5⟩ := h
  exact W.drawT hm h1 h2 (Sta.mk' h3) h4 h5

theorem dok {d : Nat} (h : Nat.blt d n = true) : dstOk n (some d) := Nat.le_of_ble_eq_true h

/-- A scope whose jumps go on: k of them. -/
def scopeK (P : Program) (n : Nat) (c : Code) (K : Exit → SS → Prop) : Nat → Exit → SS → Prop
  | k + 1, .goto l, σ => ∃ rest, findLabel c l = some rest ∧ W P n rest (scopeK P n c K k) σ
  | _, x, σ => K x σ

theorem W.scopeN {c : Code} {σ : SS} (k : Nat) (hK : ∀ l σ, ¬ K (.goto l) σ) (h : W P n c (scopeK P n c K k) σ) : W P n (.scope c) K σ := by
  intro F μ a w hs b kk cs
  have key : ∀ (k : Nat) (d : Code), ∀ σ μ a w, SR F n σ μ a w → W P n d (scopeK P n c K k) σ →
      ∃ e a' w', Post F n K μ w e a' w' ∧ Arrives P (lone (b.at a (.code d :: .inScope c :: kk)) cs w) b kk cs e a' w' := by
    intro k
    induction k with
    | zero =>
      intro d σ μ a w hs hW
      obtain ⟨e, a1, w1, ⟨σ1, μ1, hK1, hs1, hf⟩, harr⟩ := hW F μ a w hs b (.inScope c :: kk) cs
      have hK2 : K e σ1 := by cases e <;> exact hK1
      cases e with
      | normal => exact ⟨.normal, a1, w1, ⟨σ1, μ1, hK2, hs1, hf⟩, Steps.trans harr (.one step_inScope)⟩
      | exit id => exact ⟨.exit id, a1, w1, ⟨σ1, μ1, hK2, hs1, hf⟩, fun k' hk => harr k' (by simp [exitTo, hk])⟩
      | goto l => exact absurd hK2 (hK l σ1)
      | ret => exact ⟨_, a1, w1, ⟨σ1, μ1, hK2, hs1, hf⟩, harr⟩
      | panic ch => exact ⟨_, a1, w1, ⟨σ1, μ1, hK2, hs1, hf⟩, harr⟩
      | outgrown => exact ⟨_, a1, w1, ⟨σ1, μ1, hK2, hs1, hf⟩, harr⟩
    | succ k ih =>
      intro d σ μ a w hs hW
      obtain ⟨e, a1, w1, ⟨σ1, μ1, hK1, hs1, hf⟩, harr⟩ := hW F μ a w hs b (.inScope c :: kk) cs
      cases e with
      | normal => exact ⟨.normal, a1, w1, ⟨σ1, μ1, hK1, hs1, hf⟩, Steps.trans harr (.one step_inScope)⟩
      | exit id => exact ⟨.exit id, a1, w1, ⟨σ1, μ1, hK1, hs1, hf⟩, fun k' hk => harr k' (by simp [exitTo, hk])⟩
      | goto l =>
        obtain ⟨rest, hr, hW2⟩ := hK1
        obtain ⟨e3, a3, w3, hp3, harr3⟩ := ih rest σ1 μ1 a1 w1 hs1 hW2
        exact ⟨e3, a3, w3, Post.mono hf hp3, .of_steps (harr _ (by simp [gotoIn, hr])) harr3⟩
      | ret => exact ⟨_, a1, w1, ⟨σ1, μ1, hK1, hs1, hf⟩, harr⟩
      | panic ch => exact ⟨_, a1, w1, ⟨σ1, μ1, hK1, hs1, hf⟩, harr⟩
      | outgrown => exact ⟨_, a1, w1, ⟨σ1, μ1, hK1, hs1, hf⟩, harr⟩
  obtain ⟨e3, a3, w3, hp3, harr3⟩ := key k c σ μ a w hs h
  exact ⟨e3, a3, w3, hp3, .of_steps (.one step_scope) harr3⟩

/-- Sums that stay in their kind. -/
theorem int2_add {k : IntKind} {x y z : Int} (h : k.wrap (x + y) = z) : int2 .add k x y = some (.int k z) := by subst h; rfl
theorem int2_sub {k : IntKind} {x y z : Int} (h : k.wrap (x - y) = z) : int2 .sub k x y = some (.int k z) := by subst h; rfl
theorem int2_mul {k : IntKind} {x y z : Int} (h : k.wrap (x * y) = z) : int2 .mul k x y = some (.int k z) := by subst h; rfl

end Go.SL
