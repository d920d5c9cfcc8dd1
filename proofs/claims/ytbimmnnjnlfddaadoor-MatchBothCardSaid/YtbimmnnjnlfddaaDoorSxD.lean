/-
  Code evaluated, whole functions: regions whose order is open, code, calls within calls; and what a function's contract is then.
-/
import Derived.Test.YtbimmnnjnlfddaaDoorSxC
set_option linter.unusedVariables false
set_option linter.unusedSimpArgs false
set_option linter.unusedSectionVars false
namespace Go.SL
open Go
variable [Tabs]
variable {P : Program} {n : Nat} {F : Nat → Prop} {μ μ' : List Nm} {w w' : World} {env : Nat → AV} {hp : List AObj}

def efB (ops : Array Oper) (env : Nat → AV) (hp : List AObj) (o : Oper) : Kd → Bool
  | .ef _ _ => (o.looksAt ops).all (fun t => idsLt hp.length (env t)) && hp.all (rowLt hp.length)
  | _ => true

/-- May the effect stand in a region whose order is open? Of rows of unknown content that is told beforehand. -/
def efC (ops : Array Oper) (env : Nat → AV) (hp : List AObj) (o : Oper) (f r i : Nat) (k : Kd) (s : St) : Option St := match k with
  | .ef _ _ => bif (o.looksAt ops).all (fun t => idsLt hp.length (env t)) then (match s.sc with
    | .r f' r' i' :: l => bif key f r i f' r' i' then some ⟨l, (hp.all (rowLt hp.length) = true) :: s.cs, s.eq⟩ else (bif hp.all (rowLt hp.length) then some s else none)
    | _ => bif hp.all (rowLt hp.length) then some s else none) else none
  | _ => some s
theorem efC.ok {ops : Array Oper} {env : Nat → AV} {hp : List AObj} {o : Oper} {f r i : Nat} {k : Kd} {s s' : St} (h : efC ops env hp o f r i k s = some s') (hg : s'.Good) : s.Good ∧ efB ops env hp o k = true := by
  unfold efC at h
  split at h
  · rename_i x hp1
    cases h1 : (o.looksAt ops).all (fun t => idsLt hp.length (env t))
    · rw [h1] at h; simp at h
    · rw [h1] at h; simp only [cond_true] at h
      have key2 : (bif hp.all (rowLt hp.length) then some s else none) = some s' → s.Good ∧ efB ops env hp o (.ef x hp1) = true := by
        intro h
        cases h2 : hp.all (rowLt hp.length)
        · rw [h2] at h; simp at h
        · rw [h2] at h; simp only [cond_true, Option.some.injEq] at h; subst h
          exact ⟨hg, by simp only [efB, h1, h2, Bool.and_self]⟩
      split at h
      · rename_i f' r' i' l hs
        cases h3 : key f r i f' r' i'
        · rw [h3] at h; simp only [cond_false] at h; exact key2 h
        · rw [h3] at h; simp only [cond_true, Option.some.injEq] at h; subst h
          exact ⟨⟨hg.1.2, hg.2⟩, by simp only [efB, h1, hg.1.1, Bool.and_self]⟩
      · exact key2 h
  · rename_i hne
    simp only [Option.some.injEq] at h; subst h
    refine ⟨hg, ?_⟩
    cases k with
    | ef x hp1 => exact absurd rfl (hne _ _)
    | _ => rfl

def drawR (call : CallF) (P : Program) (bodies : Nat → Bool) (n : Nat) (ops : Array Oper) (f r : Nat) : List Oper → Nat → Env → List AObj → St → Option (TR × Env × List AObj × St)
  | [], _, env, hp, s => some ([], env, hp, s)
  | o :: l, i, env, hp, s => bif dstB n o.dst then (match wants ops (rs ops (tbl env) o) o with
    | some false => match drawR call P bodies n ops f r l (i + 1) (putE env o.dst (.sc undef)) hp s with
      | some (T, e, h, s') => some ((o, .sk) :: T, e, h, s')
      | none => none
    | some true => match kdOf call P bodies f r i (rs ops (tbl env) o) hp o.op s with
      | some (k, s1) => match efC ops (tbl env) hp o f r i k s1 with
        | some s0 => match drawR call P bodies n ops f r l (i + 1) (putE env o.dst (k.val hp)) (k.heap hp) s0 with
          | some (T, e, h, s') => some ((o, k) :: T, e, h, s')
          | none => none
        | none => none
      | none => none
    | none => none) else none
theorem drawR.ok {call : CallF} (hc : CallOK P call) {bodies : Nat → Bool} (hb : ∀ g, bodies g = true → HasBody P g) {ops : Array Oper} {f r : Nat} : ∀ {l : List Oper} {i : Nat} {env env' : Env} {hp hp' : List AObj} {s s' : St} {T : TR},
    drawR call P bodies n ops f r l i env hp s = some (T, env', hp', s') → s'.Good → s.Good ∧ hp.length ≤ hp'.length ∧ T.map (·.1) = l ∧ RunOK P n ops T hp (tbl env) ∧ envAt T hp (tbl env) T.length = tbl env' ∧ hpAt T hp T.length = hp'
  | [], i, env, env', hp, hp', s, s', T, h, hg => by
    simp only [drawR, Option.some.injEq, Prod.mk.injEq] at h
    obtain ⟨rfl, rfl, rfl, rfl⟩ := h
    exact ⟨hg, Nat.le_refl _, rfl, trivial, rfl, rfl⟩
  | o :: l, i, env, env', hp, hp', s, s', T, h, hg => by
    simp only [drawR] at h
    cases hd : dstB n o.dst
    · rw [hd] at h; simp at h
    · rw [hd] at h
      simp only [cond_true] at h
      split at h
      · rename_i hw
        split at h
        · rename_i T1 e1 h1 s1 hr
          simp only [Option.some.injEq, Prod.mk.injEq] at h
          obtain ⟨rfl, rfl, rfl, rfl⟩ := h
          obtain ⟨g1, g2, g3, g4, g5, g6⟩ := drawR.ok hc hb hr hg
          rw [putE_tbl] at g4 g5
          exact ⟨g1, g2, by simp [g3], ⟨⟨dstB.ok hd, Nat.le_refl _, hw⟩, g4⟩, g5, g6⟩
        · simp at h
      · rename_i hw
        split at h
        · rename_i k s1 hk
          split at h
          · rename_i s0 he0
            split at h
            · rename_i T1 e1 h1 s2 hr
              simp only [Option.some.injEq, Prod.mk.injEq] at h
              obtain ⟨rfl, rfl, rfl, rfl⟩ := h
              obtain ⟨g1, g2, g3, g4, g5, g6⟩ := drawR.ok hc hb hr hg
              obtain ⟨g0, he⟩ := efC.ok he0 g1
              obtain ⟨g7, g8⟩ := kdOf.ok hc hb hk g0
              have hlen := g8.step.2
              rw [putE_tbl] at g4 g5
              refine ⟨g7, Nat.le_trans hlen g2, by simp [g3], ⟨⟨dstB.ok hd, hlen, ?_⟩, g4⟩, g5, g6⟩
              cases k with
              | sk => exact g8.elim
              | q r O => exact ⟨hw, g8.1⟩
              | al e cs mk => exact ⟨hw, g8⟩
              | ef r hp1 =>
                simp only [efB, Bool.and_eq_true, List.all_eq_true] at he
                exact ⟨hw, g8.1, he.1, he.2⟩
            · simp at h
          · simp at h
        · simp at h
      · simp at h

def eqsOf (T : TR) (hp : List AObj) (M : List Nat) : List (Option AObj × Option AObj) :=
  (List.range T.length).flatMap fun i => (obsAt T hp i).flatMap fun p => ((List.range (efs T T.length + 1)).filter (winB T M i)).map fun m => (nth (CL T hp m) p.1, some p.2)
theorem eqsOf.ok {T : TR} {M : List Nat} (h : ∀ q ∈ eqsOf T hp M, q.1 = q.2) : oblP T hp M := by
  refine allP_of fun p hp' => ?_
  rw [List.mem_flatMap] at hp'
  obtain ⟨i, hi, hp'⟩ := hp'
  rw [List.mem_flatMap] at hp'
  obtain ⟨q, hq, hp'⟩ := hp'
  rw [List.mem_map] at hp'
  obtain ⟨m, hm, rfl⟩ := hp'
  have := h (nth (CL T hp m) q.1, some q.2) (by
    unfold eqsOf
    rw [List.mem_flatMap]
    refine ⟨i, hi, ?_⟩
    rw [List.mem_flatMap]
    refine ⟨q, hq, ?_⟩
    rw [List.mem_map]
    exact ⟨m, hm, rfl⟩)
  rw [← nth_eq]; exact this

abbrev Out := Option (Exit × Env × List AObj × St)

def regR (call : CallF) (P : Program) (bodies : Nat → Bool) (n f r : Nat) (ops : Array Oper) (env : Env) (hp : List AObj) (s : St) : Out := match opsR call P bodies n ops f r ops.toList 0 env hp s with
  | some (e, h, s') => some (.normal, e, h, s')
  | none => none
def regD (call : CallF) (P : Program) (bodies : Nat → Bool) (n f r : Nat) (ops : Array Oper) (env : Env) (hp : List AObj) (s : St) : Out := match drawR call P bodies n ops f r ops.toList 0 env hp s with
  | some (T, e, h, s') => bif stat ops (T.map (·.2.isEf)) (mOf ops) then some (.normal, e, h, ⟨s'.sc, s'.cs, eqsOf T hp (mOf ops) ++ s'.eq⟩) else none
  | none => none

def loopR (ex : Env → List AObj → St → Out) : Nat → Env → List AObj → St → Out
  | 0, _, _, _ => none
  | k + 1, env, hp, s => match ex env hp s with
    | some (.normal, e, h, s') => loopR ex k e h s'
    | x => x
def isGoto : Exit → Bool | .goto _ => true | _ => false
def scopeR (ex : Code → Env → List AObj → St → Out) (c : Code) : Nat → Code → Env → List AObj → St → Out
  | 0, _, _, _, _ => none
  | k + 1, cur, env, hp, s => match ex cur env hp s with
    | some (.goto l, e, h, s') => match findLabel c l with
      | some rest => scopeR ex c k rest e h s'
      | none => none
    | x => x

def exec (call : CallF) (P : Program) (bodies : Nat → Bool) (n f : Nat) : Nat → Code → Env → List AObj → St → Out
  | 0, _, _, _, _ => none
  | m + 1, c, env, hp, s => match c with
    | .skip => some (.normal, env, hp, s)
    | .region r ops drawn => bif drawn then regD call P bodies n f r ops env hp s else regR call P bodies n f r ops env hp s
    | .seq a b => match exec call P bodies n f m a env hp s with
      | some (.normal, e, h, s') => exec call P bodies n f m b e h s'
      | x => x
    | .cond c x y => match opd (tbl env) c with
      | .sc (.bool true) => exec call P bodies n f m x env hp s
      | .sc (.bool false) => exec call P bodies n f m y env hp s
      | _ => none
    | .block id c => match exec call P bodies n f m c env hp s with
      | some (.exit id', e, h, s') => bif Nat.beq id' id then some (.normal, e, h, s') else some (.exit id', e, h, s')
      | x => x
    | .loop c => loopR (exec call P bodies n f m c) m env hp s
    | .scope c => match scopeR (exec call P bodies n f m) c m c env hp s with
      | some (e, r) => bif isGoto e then none else some (e, r)
      | none => none
    | .exit id => some (.exit id, env, hp, s)
    | .goto l => some (.goto l, env, hp, s)
    | .label _ => some (.normal, env, hp, s)
    | .ret => some (.ret, env, hp, s)
    | _ => none

/-- What is computed is what the code does. -/
def Does (P : Program) (n : Nat) (c : Code) (env : Env) (hp : List AObj) (s : St) (o : Out) : Prop := ∀ e env' hp' s', o = some (e, env', hp', s') → s'.Good → s.Good ∧ hp.length ≤ hp'.length ∧ ∀ K, K e ⟨tbl env', hp'⟩ → W P n c K ⟨tbl env, hp⟩

theorem loopR.ok {c : Code} {ex : Env → List AObj → St → Out} (hex : ∀ env hp s, Does P n c env hp s (ex env hp s)) : ∀ {k : Nat} {env env' : Env} {hp hp' : List AObj} {s s' : St} {e : Exit}, loopR ex k env hp s = some (e, env', hp', s') → s'.Good →
    s.Good ∧ hp.length ≤ hp'.length ∧ ∀ K, K e ⟨tbl env', hp'⟩ → W P n c (loopK P n c K k) ⟨tbl env, hp⟩
  | 0, _, _, _, _, _, _, _, h, _ => by simp [loopR] at h
  | k + 1, env, env', hp, hp', s, s', e, h, hg => by
    simp only [loopR] at h
    split at h
    · rename_i e1 h1 s1 hx
      obtain ⟨g1, g2, g3⟩ := loopR.ok hex h hg
      obtain ⟨g4, g5, g6⟩ := hex env hp s _ _ _ _ hx g1
      exact ⟨g4, Nat.le_trans g5 g2, fun K hK => g6 _ (g3 K hK)⟩
    · rename_i x hne
      obtain ⟨g4, g5, g6⟩ := hex env hp s _ _ _ _ h hg
      refine ⟨g4, g5, fun K hK => g6 _ ?_⟩
      have hn : e ≠ .normal := fun he => by subst he; exact hne _ _ _ h
      cases e <;> first | exact hK | exact absurd rfl hn

theorem scopeR.ok {c : Code} {ex : Code → Env → List AObj → St → Out} (hex : ∀ c env hp s, Does P n c env hp s (ex c env hp s)) : ∀ {k : Nat} {cur : Code} {env env' : Env} {hp hp' : List AObj} {s s' : St} {e : Exit}, scopeR ex c k cur env hp s = some (e, env', hp', s') → isGoto e = false → s'.Good →
    s.Good ∧ hp.length ≤ hp'.length ∧ ∀ K, K e ⟨tbl env', hp'⟩ → W P n cur (scopeK P n c K k) ⟨tbl env, hp⟩
  | 0, _, _, _, _, _, _, _, _, h, _, _ => by simp [scopeR] at h
  | k + 1, cur, env, env', hp, hp', s, s', e, h, hi, hg => by
    simp only [scopeR] at h
    split at h
    · rename_i l e1 h1 s1 hx
      split at h
      · rename_i rest hf
        obtain ⟨g1, g2, g3⟩ := scopeR.ok hex h hi hg
        obtain ⟨g4, g5, g6⟩ := hex cur env hp s _ _ _ _ hx g1
        exact ⟨g4, Nat.le_trans g5 g2, fun K hK => g6 _ ⟨rest, hf, g3 K hK⟩⟩
      · simp at h
    · rename_i x hne
      obtain ⟨g4, g5, g6⟩ := hex cur env hp s _ _ _ _ h hg
      refine ⟨g4, g5, fun K hK => g6 _ ?_⟩
      cases e <;> first | exact hK | simp [isGoto] at hi

theorem exec.ok (hm : P.follows .mixedOrders = true) {call : CallF} (hc : CallOK P call) {bodies : Nat → Bool} (hb : ∀ g, bodies g = true → HasBody P g) {f : Nat} : ∀ (m : Nat) (c : Code) (env : Env) (hp : List AObj) (s : St), Does P n c env hp s (exec call P bodies n f m c env hp s)
  | 0, c, env, hp, s => fun _ _ _ _ h => by simp [exec] at h
  | m + 1, c, env, hp, s => by
    intro e env' hp' s' h hg
    cases c with
    | skip =>
      simp only [exec, Option.some.injEq, Prod.mk.injEq] at h
      obtain ⟨rfl, rfl, rfl, rfl⟩ := h
      exact ⟨hg, Nat.le_refl _, fun K hK => W.skip hK⟩
    | region r ops drawn =>
      simp only [exec] at h
      cases drawn with
      | false =>
        simp only [cond_false, regR] at h
        split at h
        · rename_i e1 h1 s1 hr
          simp only [Option.some.injEq, Prod.mk.injEq] at h
          obtain ⟨rfl, rfl, rfl, rfl⟩ := h
          obtain ⟨g1, g2, g3⟩ := opsR.ok hc hb (i := 0) (l := ops.toList) rfl hr hg
          refine ⟨g1, g2, fun K hK => W.region ?_⟩
          have := g3 K hK
          rwa [← List.range_eq_range', show ops.toList.length = ops.size from rfl] at this
        · simp at h
      | true =>
        simp only [cond_true, regD] at h
        split at h
        · rename_i T e1 h1 s1 hr
          cases hst : stat ops (T.map (·.2.isEf)) (mOf ops)
          · rw [hst] at h; simp at h
          · rw [hst] at h
            simp only [cond_true, Option.some.injEq, Prod.mk.injEq] at h
            obtain ⟨rfl, rfl, rfl, rfl⟩ := h
            have hg1 : s1.Good := ⟨hg.1, fun p hp => hg.2 p (List.mem_append_right _ hp)⟩
            obtain ⟨g1, g2, g3, g4, g5, g6⟩ := drawR.ok hc hb hr hg1
            refine ⟨g1, g2, fun K hK => W.draw hm ⟨T, g3, g4, ⟨_, hst, eqsOf.ok fun q hq => hg.2 q (List.mem_append_left _ hq)⟩, ?_⟩⟩
            rw [g5, g6]; exact hK
        · simp at h
    | seq a b =>
      simp only [exec] at h
      split at h
      · rename_i e1 h1 s1 ha
        obtain ⟨g1, g2, g3⟩ := exec.ok hm hc hb m b e1 h1 s1 _ _ _ _ h hg
        obtain ⟨g4, g5, g6⟩ := exec.ok hm hc hb m a env hp s _ _ _ _ ha g1
        exact ⟨g4, Nat.le_trans g5 g2, fun K hK => W.seq (g6 _ (g3 K hK))⟩
      · rename_i x hne
        obtain ⟨g4, g5, g6⟩ := exec.ok hm hc hb m a env hp s _ _ _ _ h hg
        refine ⟨g4, g5, fun K hK => W.seq (g6 _ ?_)⟩
        have hn : e ≠ .normal := fun he => by subst he; exact hne _ _ _ h
        cases e <;> first | exact hK | exact absurd rfl hn
    | cond c x y =>
      simp only [exec] at h
      split at h
      · rename_i hcc
        obtain ⟨g1, g2, g3⟩ := exec.ok hm hc hb m x env hp s _ _ _ _ h hg
        exact ⟨g1, g2, fun K hK => W.condT hcc (g3 K hK)⟩
      · rename_i hcc
        obtain ⟨g1, g2, g3⟩ := exec.ok hm hc hb m y env hp s _ _ _ _ h hg
        exact ⟨g1, g2, fun K hK => W.condF hcc (g3 K hK)⟩
      · simp at h
    | block id c =>
      simp only [exec] at h
      split at h
      · rename_i id' e1 h1 s1 hx
        cases hi : Nat.beq id' id
        · rw [hi] at h
          simp only [cond_false, Option.some.injEq, Prod.mk.injEq] at h
          obtain ⟨rfl, rfl, rfl, rfl⟩ := h
          obtain ⟨g1, g2, g3⟩ := exec.ok hm hc hb m c env hp s _ _ _ _ hx hg
          exact ⟨g1, g2, fun K hK => W.block (g3 _ (by simp only [blockK, hi, cond_false]; exact hK))⟩
        · rw [hi] at h
          simp only [cond_true, Option.some.injEq, Prod.mk.injEq] at h
          obtain ⟨rfl, rfl, rfl, rfl⟩ := h
          obtain ⟨g1, g2, g3⟩ := exec.ok hm hc hb m c env hp s _ _ _ _ hx hg
          exact ⟨g1, g2, fun K hK => W.block (g3 _ (by simp only [blockK, hi, cond_true]; exact hK))⟩
      · rename_i x hne
        obtain ⟨g1, g2, g3⟩ := exec.ok hm hc hb m c env hp s _ _ _ _ h hg
        refine ⟨g1, g2, fun K hK => W.block (g3 _ ?_)⟩
        cases e with
        | exit id' => exact absurd h (hne _ _ _ _)
        | _ => exact hK
    | loop c =>
      simp only [exec] at h
      obtain ⟨g1, g2, g3⟩ := loopR.ok (fun env hp s => exec.ok hm hc hb m c env hp s) h hg
      exact ⟨g1, g2, fun K hK => W.loopN m (g3 K hK)⟩
    | scope c =>
      simp only [exec] at h
      split at h
      · rename_i e1 r1 hx
        cases hi : isGoto e1
        · rw [hi] at h
          simp only [cond_false, Option.some.injEq, Prod.mk.injEq] at h
          obtain ⟨rfl, rfl⟩ := h
          obtain ⟨g1, g2, g3⟩ := scopeR.ok (fun c env hp s => exec.ok hm hc hb m c env hp s) hx hi hg
          refine ⟨g1, g2, fun K hK => ?_⟩
          refine W.mono (K := fun e σ => isGoto e = false ∧ K e σ) (W.scopeN m (fun l σ h => by simp [isGoto] at h) (g3 _ ⟨hi, hK⟩)) fun e σ h => h.2
        · rw [hi] at h; simp at h
      · simp at h
    | exit id =>
      simp only [exec, Option.some.injEq, Prod.mk.injEq] at h
      obtain ⟨rfl, rfl, rfl, rfl⟩ := h
      exact ⟨hg, Nat.le_refl _, fun K hK => W.exit hK⟩
    | goto l =>
      simp only [exec, Option.some.injEq, Prod.mk.injEq] at h
      obtain ⟨rfl, rfl, rfl, rfl⟩ := h
      exact ⟨hg, Nat.le_refl _, fun K hK => W.goto hK⟩
    | label l =>
      simp only [exec, Option.some.injEq, Prod.mk.injEq] at h
      obtain ⟨rfl, rfl, rfl, rfl⟩ := h
      exact ⟨hg, Nat.le_refl _, fun K hK => W.label hK⟩
    | ret =>
      simp only [exec, Option.some.injEq, Prod.mk.injEq] at h
      obtain ⟨rfl, rfl, rfl, rfl⟩ := h
      exact ⟨hg, Nat.le_refl _, fun K hK => W.ret hK⟩
    | _ => simp [exec] at h

/-- A function's results. -/
def resV (P : Program) (env : Env) (hp : List AObj) : List ResultVar → Option (List AV)
  | [] => some []
  | .tmp i :: l => match resV P env hp l with
    | some xs => some (tbl env i :: xs)
    | none => none
  | .cell i ty :: l => match tbl env i with
    | .ptr o off => match nth hp o with
      | some (.row _ cells) => match resV P env hp l with
        | some xs => match aggB P ty with
          | some false => match nth cells off with
            | some y => some (y :: xs)
            | none => none
          | some true => match szB P ty with
            | some k => bif Nat.ble (off + k) cells.length then some (.agg ((cells.drop off).take k) :: xs) else none
            | none => none
          | none => none
        | none => none
      | _ => none
    | _ => none
theorem resV.ok {env : Env} {hp : List AObj} : ∀ {l : List ResultVar} {xs : List AV}, resV P env hp l = some xs → Res P l ⟨tbl env, hp⟩ xs
  | [], xs, h => by simp only [resV, Option.some.injEq] at h; subst h; exact Res.nil
  | .tmp i :: l, xs, h => by
    simp only [resV] at h
    split at h
    · rename_i ys hy
      simp only [Option.some.injEq] at h; subst h
      exact Res.tmp rfl (resV.ok hy)
    · simp at h
  | .cell i ty :: l, xs, h => by
    simp only [resV] at h
    split at h
    · rename_i o off hx
      split at h
      · rename_i esz cells ho
        rw [nth_eq] at ho
        split at h
        · rename_i ys hy
          split at h
          · rename_i ha
            split at h
            · rename_i y hyy; rw [nth_eq] at hyy
              simp only [Option.some.injEq] at h; subst h
              exact Res.cell (aggB.ok ha) hx ho hyy (resV.ok hy)
            · simp at h
          · rename_i ha
            split at h
            · rename_i k hk
              cases hb : Nat.ble (off + k) cells.length
              · rw [hb] at h; simp at h
              · rw [hb] at h
                simp only [cond_true, Option.some.injEq] at h; subst h
                exact Res.cellA (aggB.ok ha) (szB.ok hk) hx ho (Nat.le_of_ble_eq_true hb) (resV.ok hy)
            · simp at h
          · simp at h
        · simp at h
      · simp at h
    · simp at h

def enumE : Nat → List AV → Env
  | _, [] => []
  | i, x :: xs => (i, x) :: enumE (i + 1) xs
theorem enumE_at : ∀ (xs : List AV) (k i : Nat), tbl (enumE k xs) i = .any ∨ (k ≤ i ∧ tbl (enumE k xs) i = xs.getD (i - k) (.sc undef))
  | [], _, _ => .inl rfl
  | x :: xs, k, i => by
    by_cases hi : i = k
    · subst hi
      exact .inr ⟨Nat.le_refl _, by simp [enumE, tbl]⟩
    · have hb : Nat.beq i k = false := nbeq hi
      simp only [enumE, tbl, hb, cond_false]
      rcases enumE_at xs (k + 1) i with h | ⟨h1, h2⟩
      · exact .inl h
      · refine .inr ⟨by omega, ?_⟩
        rw [h2]
        obtain ⟨j, rfl⟩ : ∃ j, i = k + 1 + j := ⟨i - (k + 1), by omega⟩
        rw [show k + 1 + j - (k + 1) = j by omega, show k + 1 + j - k = j + 1 by omega]
        simp

/-- Functions by number. -/
def FT := List (Nat × Func)
def ftAt : List (Nat × Func) → Nat → Option Func
  | [], _ => none
  | (k, fn) :: l, g => bif Nat.beq k g then some fn else ftAt l g
def AllF (P : Program) : List (Nat × Func) → Prop
  | [] => True
  | (k, fn) :: l => (P.funcs[k]? = some fn ∧ HasBody P k) ∧ AllF P l
theorem AllF.at : ∀ {l : List (Nat × Func)} {g : Nat} {fn : Func}, AllF P l → ftAt l g = some fn → P.funcs[g]? = some fn ∧ HasBody P g
  | (k, f) :: l, g, fn, h, hf => by
    simp only [ftAt] at hf
    cases hk : Nat.beq k g
    · rw [hk] at hf; exact AllF.at h.2 hf
    · rw [hk] at hf
      have := Nat.eq_of_beq_eq_true hk
      subst this
      simp only [cond_true, Option.some.injEq] at hf; subst hf
      exact h.1
def ftHas (l : List (Nat × Func)) (g : Nat) : Bool := match ftAt l g with | some _ => true | none => false
theorem ftHas.ok {l : List (Nat × Func)} (h : AllF P l) (g : Nat) (hg : ftHas l g = true) : HasBody P g := by
  unfold ftHas at hg; split at hg
  · rename_i fn hf; exact (AllF.at h hf).2
  · simp at hg

def isRet : Exit → Bool | .ret | .normal => true | _ => false
/-- A call, d calls deep at most. -/
def run (P : Program) (ft : List (Nat × Func)) (m : Nat) : Nat → CallF
  | 0 => fun _ _ _ _ => none
  | d + 1 => fun g xs hp s => match ftAt ft g with
    | some fn => match fn.body with
      | some c => bif Nat.ble xs.length fn.ntmps then (match exec (run P ft m d) P (ftHas ft) fn.ntmps g m c (enumE 0 xs) hp s with
        | some (e, env, hp', s') => bif isRet e then (match resV P env hp' fn.results.toList with
          | some ys => some (oneAV ys, hp', s')
          | none => none) else none
        | none => none) else none
      | none => none
    | none => none
theorem run.ok (hm : P.follows .mixedOrders = true) {ft : List (Nat × Func)} (hF : AllF P ft) {m : Nat} : ∀ d, CallOK P (run P ft m d)
  | 0 => fun _ _ _ _ _ _ _ h => by simp [run] at h
  | d + 1 => by
    intro g xs hp s x hp' s' h hg
    simp only [run] at h
    split at h
    · rename_i fn hfn
      obtain ⟨hf, hb⟩ := AllF.at hF hfn
      split at h
      · rename_i c hc
        cases hn : Nat.ble xs.length fn.ntmps
        · rw [hn] at h; simp at h
        · rw [hn] at h
          simp only [cond_true] at h
          split at h
          · rename_i e env h1 s1 hx
            cases hr : isRet e
            · rw [hr] at h; simp at h
            · rw [hr] at h
              simp only [cond_true] at h
              split at h
              · rename_i ys hy
                simp only [Option.some.injEq, Prod.mk.injEq] at h
                obtain ⟨rfl, rfl, rfl⟩ := h
                obtain ⟨g1, g2, g3⟩ := exec.ok hm (run.ok hm hF d) (ftHas.ok hF) m c _ hp s _ _ _ _ hx hg
                refine ⟨g1, g2, hb, Spec.body hf hc (Nat.le_of_ble_eq_true hn) ?_⟩
                refine W.weaken (σ' := ⟨tbl (enumE 0 xs), hp⟩) ⟨rfl, fun i => ?_⟩ (g3 _ ⟨?_, ys, _, _, resV.ok hy, Cv.refl g2, rfl, rfl⟩)
                · rcases enumE_at xs 0 i with h | ⟨_, h⟩
                  · exact .inl h
                  · exact .inr (by show tbl (enumE 0 xs) i = argEnv xs i; rw [h]; simp [argEnv])
                · cases e <;> first | exact .inl rfl | exact .inr rfl | simp [isRet] at hr
              · simp at h
          · simp at h
      · simp at h
    · simp at h

mutual
/-- A value behind which no row stays. -/
def fz (hp : List AObj) : AV → Option AV
  | .sl o off len => match nth hp o with
    | some (.row esz cells) => bif Nat.ble (off + len * esz) cells.length && noOwnL ((cells.drop off).take (len * esz)) then some (.im esz ((cells.drop off).take (len * esz))) else none
    | _ => none
  | .tup xs => match fzL hp xs with
    | some ys => some (.tup ys)
    | none => none
  | .agg xs => match fzL hp xs with
    | some ys => some (.agg ys)
    | none => none
  | x => bif noOwn x then some x else none
def fzL (hp : List AObj) : List AV → Option (List AV)
  | [] => some []
  | x :: xs => match fz hp x with
    | some y => match fzL hp xs with
      | some ys => some (y :: ys)
      | none => none
    | none => none
end
theorem fz_keep {x y : AV} (h : (bif noOwn x then some x else none) = some y) : Fz 0 hp x y := by
  cases hn : noOwn x
  · rw [hn] at h; simp at h
  · rw [hn] at h; simp only [cond_true, Option.some.injEq] at h; subst h; exact .keep hn
mutual
theorem fz.ok : ∀ {x y : AV}, fz hp x = some y → Fz 0 hp x y
  | .sl o off len, y, h => by
    simp only [fz] at h
    split at h
    · rename_i esz cells ho; rw [nth_eq] at ho
      cases hb : Nat.ble (off + len * esz) cells.length && noOwnL ((cells.drop off).take (len * esz))
      · rw [hb] at h; simp at h
      · rw [hb] at h; simp only [cond_true, Option.some.injEq] at h; subst h
        simp only [Bool.and_eq_true] at hb
        exact .sl ho (Nat.zero_le _) (Nat.le_of_ble_eq_true hb.1) hb.2
    · simp at h
  | .tup xs, y, h => by
    simp only [fz] at h
    split at h
    · rename_i ys hy; simp only [Option.some.injEq] at h; subst h; exact .tup (fzL.ok hy)
    · simp at h
  | .agg xs, y, h => by
    simp only [fz] at h
    split at h
    · rename_i ys hy; simp only [Option.some.injEq] at h; subst h; exact .agg (fzL.ok hy)
    · simp at h
  | .any, y, h => fz_keep h
  | .nil, y, h => fz_keep h
  | .sc v, y, h => fz_keep h
  | .ptr a b, y, h => fz_keep h
  | .im a b, y, h => fz_keep h
  | .ip a b, y, h => fz_keep h
  | .fn a b c, y, h => fz_keep h
  | .ifc a b, y, h => fz_keep h
theorem fzL.ok : ∀ {xs ys : List AV}, fzL hp xs = some ys → FzL 0 hp xs ys
  | [], ys, h => by simp only [fzL, Option.some.injEq] at h; subst h; exact .nil
  | x :: xs, ys, h => by
    simp only [fzL] at h
    split at h
    · rename_i y hy; split at h
      · rename_i zs hz; simp only [Option.some.injEq] at h; subst h; exact .cons (fz.ok hy) (fzL.ok hz)
      · simp at h
    · simp at h
end

/-- What is left of a run: its value, no row; what must hold for it. -/
abbrev RunR := Option (AV × List AObj × St)
def rX : RunR → Option AV
  | some (x, hp, ⟨[], _, _⟩) => fz hp x
  | _ => none
def rC : RunR → List Prop
  | some (_, _, s) => s.cs
  | _ => [False]
def rL : RunR → List (Option AObj)
  | some (_, _, s) => s.eq.map (·.1)
  | _ => []
def rR : RunR → List (Option AObj)
  | some (_, _, s) => s.eq.map (·.2)
  | _ => []
theorem pairs_eq : ∀ {l : List (Option AObj × Option AObj)}, l.map (·.1) = l.map (·.2) → ∀ p ∈ l, p.1 = p.2
  | [], _, p, hp => by simp at hp
  | q :: l, h, p, hp => by
    simp only [List.map_cons, List.cons.injEq] at h
    simp only [List.mem_cons] at hp
    rcases hp with rfl | hp
    · exact h.1
    · exact pairs_eq h.2 p hp

/-- A function's contract out of its run. -/
theorem sx0 (hm : P.follows .mixedOrders = true) {ft : List (Nat × Func)} (hF : AllF P ft) {k : Nat} {args : List AV} {x : AV} (m d : Nat) (sc : List Item) (cs : List Prop)
    (h : (rX (run P ft m d k args [] ⟨sc, [], []⟩), rC (run P ft m d k args [] ⟨sc, [], []⟩), rL (run P ft m d k args [] ⟨sc, [], []⟩)) = (some x, cs, rR (run P ft m d k args [] ⟨sc, [], []⟩))) (hc : allP cs) : Spec0 P k args x := by
  have hok := run.ok hm hF (m := m) d k args [] ⟨sc, [], []⟩
  generalize run P ft m d k args [] ⟨sc, [], []⟩ = r at h hok
  simp only [Prod.mk.injEq] at h
  obtain ⟨h1, h2, h3⟩ := h
  match r, h1, h2, h3, hok with
  | some (y, hp, ⟨[], c, e⟩), h1, h2, h3, hok =>
    simp only [rC] at h2; subst h2
    obtain ⟨_, _, _, hs⟩ := hok _ _ _ rfl ⟨hc, pairs_eq h3⟩
    intro F μ w args' hr ha
    refine (hs F μ w args' hr ha).mono ?_
    rintro e w' ⟨x1, v, hp1, μ1, rfl, ⟨rfl, rfl⟩, g1, g2, g3⟩
    obtain ⟨μ2, k1, k2, k3, k4, k5⟩ := Cv.frz0 (fz.ok h1) F μ1 w' v g1 g2
    have hμ : μ = [] := List.eq_nil_of_length_eq_zero hr.len
    subst hμ
    refine ⟨_, v, [], μ2, rfl, ⟨rfl, rfl⟩, k1, k2, ⟨g3.size, g3.keep, fun b hb => g3.new b (k3 b hb), fun o nm h => by simp at h, Nat.zero_le _, g3.oo⟩⟩
end Go.SL
