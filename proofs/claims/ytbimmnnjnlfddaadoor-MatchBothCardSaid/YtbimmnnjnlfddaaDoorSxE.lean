/-
  Pieces of a walk by evaluation: code without a loop goes from one table of slots to another, or returns.
-/
import Derived.Test.YtbimmnnjnlfddaaDoorSxD
set_option linter.unusedVariables false
set_option linter.unusedSimpArgs false
set_option linter.unusedSectionVars false
namespace Go.SL
open Go
variable [Tabs]
variable {P : Program} {n : Nat} {hp : List AObj}

theorem Le.trans {a b c : SS} (h : Le a b) (h' : Le b c) : Le a c := ⟨h.1.trans h'.1, fun i => by
  rcases h.2 i with h1 | h1
  · exact .inl h1
  · rcases h'.2 i with h2 | h2
    · exact .inl (h1.trans h2)
    · exact .inr (h1.trans h2)⟩
theorem tbl_le {l : Env} {σ : SS} (h : l.map (fun p => σ.env p.1) = l.map (·.2)) : Le ⟨tbl l, σ.hp⟩ σ := by
  refine Le.tbl fun p hp => ?_
  induction l with
  | nil => simp at hp
  | cons q l ih =>
    simp only [List.map_cons, List.cons.injEq] at h
    simp only [List.mem_cons] at hp
    rcases hp with rfl | hp
    · exact h.1
    · exact ih h.2 hp

/-- Where a piece ends, with what rows, with what in the slots that are asked for. -/
def yE (ds : List Nat) : Out → Option (Exit × List AObj × List AV)
  | some (e, env, hp, ⟨[], _, _⟩) => some (e, hp, ds.map (tbl env))
  | _ => none
/-- What a piece returns: its value, no row. -/
def yR (P : Program) (rs : List ResultVar) : Out → Option (Exit × AV)
  | some (e, env, hp, ⟨[], _, _⟩) => match resV P env hp rs with
    | some ys => match fz hp (oneAV ys) with
      | some x => some (e, x)
      | none => none
    | none => none
  | _ => none
def yC : Out → List Prop
  | some (_, _, _, s) => s.cs
  | _ => [False]
def yL : Out → List (Option AObj)
  | some (_, _, _, s) => s.eq.map (·.1)
  | _ => []
def yQ : Out → List (Option AObj)
  | some (_, _, _, s) => s.eq.map (·.2)
  | _ => []

abbrev piece (P : Program) (ft : List (Nat × Func)) (m d n f : Nat) (c : Code) (l0 : Env) (hp : List AObj) (sc : List Item) : Out := exec (run P ft m d) P (ftHas ft) n f m c l0 hp ⟨sc, [], []⟩

theorem W.sx (hm : P.follows .mixedOrders = true) {ft : List (Nat × Func)} (hF : AllF P ft) {c : Code} {K : Exit → SS → Prop} {l0 : Env} (f m d : Nat) (sc : List Item) (cs : List Prop) (e : Exit) (out : Env) (hp' : List AObj)
    (h : (yE (out.map (·.1)) (piece P ft m d n f c l0 hp sc), yC (piece P ft m d n f c l0 hp sc), yL (piece P ft m d n f c l0 hp sc)) = (some (e, hp', out.map (·.2)), cs, yQ (piece P ft m d n f c l0 hp sc))) (hc : allP cs)
    (hk : ∀ σ, Le ⟨tbl out, hp'⟩ σ → K e σ) : W P n c K ⟨tbl l0, hp⟩ := by
  have hok := exec.ok (n := n) hm (run.ok hm hF (m := m) d) (ftHas.ok hF) (f := f) m c l0 hp ⟨sc, [], []⟩
  unfold piece at h
  generalize exec (run P ft m d) P (ftHas ft) n f m c l0 hp ⟨sc, [], []⟩ = r at h hok
  simp only [Prod.mk.injEq] at h
  obtain ⟨h1, h2, h3⟩ := h
  match r, h1, h2, h3, hok with
  | some (e1, env, hp1, ⟨[], c1, q1⟩), h1, h2, h3, hok =>
    simp only [yC] at h2; subst h2
    simp only [yE, Option.some.injEq, Prod.mk.injEq] at h1
    obtain ⟨rfl, rfl, h9⟩ := h1
    obtain ⟨_, _, g⟩ := hok _ _ _ _ rfl ⟨hc, pairs_eq h3⟩
    refine g K (hk _ ?_)
    exact tbl_le (σ := ⟨tbl env, hp1⟩) (by rw [← h9, List.map_map]; rfl)
theorem W.sxR (hm : P.follows .mixedOrders = true) {ft : List (Nat × Func)} (hF : AllF P ft) {c : Code} {K : Exit → SS → Prop} {l0 : Env} (f m d : Nat) (sc : List Item) (cs : List Prop) (rs : List ResultVar) (e : Exit) (x : AV)
    (h : (yR P rs (piece P ft m d n f c l0 hp sc), yC (piece P ft m d n f c l0 hp sc), yL (piece P ft m d n f c l0 hp sc)) = (some (e, x), cs, yQ (piece P ft m d n f c l0 hp sc))) (hc : allP cs)
    (hk : ∀ σ xs, Res P rs σ xs → Cv 0 σ.hp (oneAV xs) [] x → K e σ) : W P n c K ⟨tbl l0, hp⟩ := by
  have hok := exec.ok (n := n) hm (run.ok hm hF (m := m) d) (ftHas.ok hF) (f := f) m c l0 hp ⟨sc, [], []⟩
  unfold piece at h
  generalize exec (run P ft m d) P (ftHas ft) n f m c l0 hp ⟨sc, [], []⟩ = r at h hok
  simp only [Prod.mk.injEq] at h
  obtain ⟨h1, h2, h3⟩ := h
  match r, h1, h2, h3, hok with
  | some (e1, env, hp1, ⟨[], c1, q1⟩), h1, h2, h3, hok =>
    simp only [yC] at h2; subst h2
    simp only [yR] at h1
    split at h1
    · rename_i ys hy
      split at h1
      · rename_i y hz
        simp only [Option.some.injEq, Prod.mk.injEq] at h1
        obtain ⟨rfl, rfl⟩ := h1
        obtain ⟨_, _, g⟩ := hok _ _ _ _ rfl ⟨hc, pairs_eq h3⟩
        exact g K (hk _ ys (resV.ok hy) (Cv.frz0 (fz.ok hz)))
      · simp at h1
    · simp at h1

/-- A body from its arguments. -/
theorem Spec0.walk {k : Nat} {fn : Func} {c : Code} {args : List AV} {x : AV} (hf : P.funcs[k]? = some fn) (hb : fn.body = some c) (hn : Nat.ble args.length fn.ntmps = true)
    (h : W P fn.ntmps c (retK P 0 fn.results.toList (fun r hp' => r = x ∧ hp' = [])) ⟨tbl (enumE 0 args), []⟩) : Spec0 P k args x := by
  refine Spec.body (hp := []) hf hb (Nat.le_of_ble_eq_true hn) (W.weaken (σ' := ⟨tbl (enumE 0 args), []⟩) ⟨rfl, fun i => ?_⟩ h)
  rcases enumE_at args 0 i with h | ⟨_, h⟩
  · exact .inl h
  · exact .inr (by show tbl (enumE 0 args) i = argEnv args i; rw [h]; simp [argEnv])
theorem retK.mk {rs : List ResultVar} {x : AV} {σ : SS} {xs : List AV} {e : Exit} (he : e = .ret ∨ e = .normal) (h1 : Res P rs σ xs) (h2 : Cv 0 σ.hp (oneAV xs) [] x) : retK P 0 rs (fun r hp' => r = x ∧ hp' = []) e σ :=
  ⟨he, xs, x, [], h1, h2, rfl, rfl⟩
/-- What stands behind k pieces. -/
def dropS : Nat → Code → Code
  | k + 1, .seq _ b => dropS k b
  | _, c => c
/-- The first k pieces carried out. -/
def execP (ex : Code → Env → List AObj → St → Out) : Nat → Code → Env → List AObj → St → Out
  | 0, _, env, hp, s => some (.normal, env, hp, s)
  | k + 1, .seq a b, env, hp, s => match ex a env hp s with
    | some (.normal, e, h, s') => execP ex k b e h s'
    | _ => none
  | _, _, _, _, _ => none
theorem execP.ok {ex : Code → Env → List AObj → St → Out} (hex : ∀ c env hp s, Does P n c env hp s (ex c env hp s)) : ∀ {k : Nat} {c : Code} {env env' : Env} {hp hp' : List AObj} {s s' : St} {e : Exit}, execP ex k c env hp s = some (e, env', hp', s') → s'.Good →
    s.Good ∧ hp.length ≤ hp'.length ∧ e = .normal ∧ ∀ K, W P n (dropS k c) K ⟨tbl env', hp'⟩ → W P n c K ⟨tbl env, hp⟩
  | 0, c, env, env', hp, hp', s, s', e, h, hg => by
    simp only [execP, Option.some.injEq, Prod.mk.injEq] at h
    obtain ⟨rfl, rfl, rfl, rfl⟩ := h
    refine ⟨hg, Nat.le_refl _, rfl, fun K hK => ?_⟩
    simpa only [dropS] using hK
  | k + 1, .seq a b, env, env', hp, hp', s, s', e, h, hg => by
    simp only [execP] at h
    split at h
    · rename_i e1 h1 s1 hx
      obtain ⟨g1, g2, g3, g4⟩ := execP.ok hex h hg
      obtain ⟨g5, g6, g7⟩ := hex a env hp s _ _ _ _ hx g1
      exact ⟨g5, Nat.le_trans g6 g2, g3, fun K hK => W.seq (g7 _ (g4 K (by simpa only [dropS] using hK)))⟩
    · simp at h
  | k + 1, .skip, _, _, _, _, _, _, _, h, _ => by simp [execP] at h
  | k + 1, .region _ _ _, _, _, _, _, _, _, _, h, _ => by simp [execP] at h
  | k + 1, .cond _ _ _, _, _, _, _, _, _, _, h, _ => by simp [execP] at h
  | k + 1, .block _ _, _, _, _, _, _, _, _, h, _ => by simp [execP] at h
  | k + 1, .loop _, _, _, _, _, _, _, _, h, _ => by simp [execP] at h
  | k + 1, .rangeFunc _ _ _ _, _, _, _, _, _, _, _, h, _ => by simp [execP] at h
  | k + 1, .exit _, _, _, _, _, _, _, _, h, _ => by simp [execP] at h
  | k + 1, .scope _, _, _, _, _, _, _, _, h, _ => by simp [execP] at h
  | k + 1, .label _, _, _, _, _, _, _, _, h, _ => by simp [execP] at h
  | k + 1, .goto _, _, _, _, _, _, _, _, h, _ => by simp [execP] at h
  | k + 1, .ret, _, _, _, _, _, _, _, h, _ => by simp [execP] at h
  | k + 1, .refuse _, _, _, _, _, _, _, _, h, _ => by simp [execP] at h

abbrev pieceP (P : Program) (ft : List (Nat × Func)) (m d n f k : Nat) (c : Code) (l0 : Env) (hp : List AObj) (sc : List Item) : Out := execP (exec (run P ft m d) P (ftHas ft) n f m) k c l0 hp ⟨sc, [], []⟩

theorem W.sxP (hm : P.follows .mixedOrders = true) {ft : List (Nat × Func)} (hF : AllF P ft) {c : Code} {K : Exit → SS → Prop} {l0 : Env} (f k m d : Nat) (sc : List Item) (cs : List Prop) (out : Env) (hp' : List AObj)
    (h : (yE (out.map (·.1)) (pieceP P ft m d n f k c l0 hp sc), yC (pieceP P ft m d n f k c l0 hp sc), yL (pieceP P ft m d n f k c l0 hp sc)) = (some (.normal, hp', out.map (·.2)), cs, yQ (pieceP P ft m d n f k c l0 hp sc))) (hc : allP cs)
    (hk : W P n (dropS k c) K ⟨tbl out, hp'⟩) : W P n c K ⟨tbl l0, hp⟩ := by
  have hok := @execP.ok _ P n (exec (run P ft m d) P (ftHas ft) n f m) (fun c env hp s => exec.ok (n := n) hm (run.ok hm hF (m := m) d) (ftHas.ok hF) (f := f) m c env hp s) k c l0
  unfold pieceP at h
  generalize hr : execP (exec (run P ft m d) P (ftHas ft) n f m) k c l0 hp ⟨sc, [], []⟩ = r at h
  simp only [Prod.mk.injEq] at h
  obtain ⟨h1, h2, h3⟩ := h
  match r, hr, h1, h2, h3 with
  | some (e1, env, hp1, ⟨[], c1, q1⟩), hr, h1, h2, h3 =>
    simp only [yC] at h2; subst h2
    simp only [yE, Option.some.injEq, Prod.mk.injEq] at h1
    obtain ⟨rfl, rfl, h9⟩ := h1
    obtain ⟨_, _, _, g⟩ := hok hr ⟨hc, pairs_eq h3⟩
    refine g K (W.weaken ?_ hk)
    exact tbl_le (σ := ⟨tbl env, hp1⟩) (by rw [← h9, List.map_map]; rfl)
end Go.SL
