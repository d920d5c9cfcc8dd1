/-
  A contract over few own rows used where there are more: the rows named are turned as the contract says, the others stay, new ones stand behind.
-/
import Derived.Test.YtlfedjannhceaaaSdU2
set_option linter.unusedVariables false
set_option linter.unusedSimpArgs false
set_option linter.unusedSectionVars false
namespace Go.SL
open Go
variable [Tabs]
variable {P : Program} {F : Nat → Prop} {μ μ' : List Nm} {w w' : World}

/-- A list with the places is set to the parts of another. -/
def updL {β : Type} : List Nat → List β → List β → List β
  | q :: is, x :: new, l => updL is new (l.set q x)
  | _, _, l => l
theorem updL_len {β : Type} : ∀ (is : List Nat) (new l : List β), (updL is new l).length = l.length
  | [], _, _ => by simp [updL]
  | _ :: _, [], _ => by simp [updL]
  | q :: is, x :: new, l => by simp [updL, updL_len is new]
theorem updL_out {β : Type} : ∀ (is : List Nat) (new l : List β) (o : Nat), o ∉ is → (updL is new l)[o]? = l[o]?
  | [], _, _, _, _ => by simp [updL]
  | _ :: _, [], _, _, _ => by simp [updL]
  | q :: is, x :: new, l, o, h => by
    simp only [List.mem_cons, not_or] at h
    simp only [updL]
    rw [updL_out is new _ o h.2, List.getElem?_set_ne (fun e => h.1 e.symm)]
theorem updL_in {β : Type} : ∀ (is : List Nat) (new l : List β) (j q : Nat), is.Nodup → (∀ q ∈ is, q < l.length) → is.length ≤ new.length → is[j]? = some q → (updL is new l)[q]? = new[j]?
  | [], _, _, _, _, _, _, _, h => by simp at h
  | _ :: _, [], _, _, _, _, _, hl, _ => by simp at hl
  | q0 :: is, x :: new, l, 0, q, hn, hlt, hl, h => by
    simp only [List.getElem?_cons_zero, Option.some.injEq] at h
    subst h
    simp only [updL]
    rw [updL_out is new _ q0 (List.nodup_cons.1 hn).1, List.getElem?_set_self (hlt q0 (by simp))]
    simp
  | q0 :: is, x :: new, l, j + 1, q, hn, hlt, hl, h => by
    simp only [List.getElem?_cons_succ] at h ⊢
    simp only [updL]
    exact updL_in is new _ j q (List.nodup_cons.1 hn).2 (fun q hq => by simpa using hlt q (by simp [hq])) (by simpa using hl) h
/-- Where row j of the contract stands. -/
def fmF (is : List Nat) (L j : Nat) : Nat := match is[j]? with | some q => q | none => L + (j - is.length)
/-- The rows behind it. -/
def fmR {β : Type} (is : List Nat) (new l : List β) : List β := updL is new l ++ new.drop is.length
theorem fmR_at {β : Type} {is : List Nat} {new l : List β} (hn : is.Nodup) (hlt : ∀ q ∈ is, q < l.length) (hl : is.length ≤ new.length) (j : Nat) (hj : j < new.length) : (fmR is new l)[fmF is l.length j]? = new[j]? := by
  unfold fmR fmF
  split
  · rename_i q hq
    have : q < l.length := hlt q (List.mem_of_getElem? hq)
    rw [List.getElem?_append_left (by rw [updL_len]; exact this)]
    exact updL_in is new l j q hn hlt hl hq
  · rename_i hq
    have hj' : is.length ≤ j := by
      rcases Nat.lt_or_ge j is.length with h | h
      · rw [List.getElem?_eq_getElem h] at hq; simp at hq
      · exact h
    rw [List.getElem?_append_right (by rw [updL_len]; omega), updL_len, List.getElem?_drop]
    congr 1; omega
theorem fmR_old {β : Type} {is : List Nat} {new l : List β} {o : Nat} (ho : o < l.length) (h : o ∉ is) : (fmR is new l)[o]? = l[o]? := by
  unfold fmR
  rw [List.getElem?_append_left (by rw [updL_len]; exact ho), updL_out _ _ _ _ h]
theorem fmR_len {β : Type} {is : List Nat} {new l : List β} : (fmR is new l).length = l.length + (new.length - is.length) := by simp [fmR, updL_len]
/-- Each place is one of the contract's or stays. -/
theorem fmF_case {is : List Nat} {L n : Nat} (hn : is.length ≤ n) {o : Nat} (ho : o < L + (n - is.length)) : (∃ j, j < n ∧ o = fmF is L j) ∨ (o < L ∧ o ∉ is) := by
  by_cases h1 : o < L
  · by_cases h2 : o ∈ is
    · obtain ⟨j, hj, e⟩ := List.getElem_of_mem h2
      exact .inl ⟨j, by omega, by unfold fmF; rw [List.getElem?_eq_getElem hj, e]⟩
    · exact .inr ⟨h1, h2⟩
  · refine .inl ⟨is.length + (o - L), by omega, ?_⟩
    unfold fmF
    rw [List.getElem?_eq_none (by omega)]
    simp only
    omega

theorem Spec.frame {g : Nat} {xs ys : List AV} {hp1 hp1' hp : List AObj} {r : AV} (is : List Nat) (hs : Spec P g xs hp1 (SL.is r hp1')) (hlen : hp1.length = is.length) (hrow : ∀ (j q : Nat) (x : AObj), is[j]? = some q → hp1[j]? = some x → hp[q]? = some (renO (pickF is hp.length) x))
    (hlt : ∀ q ∈ is, q < hp.length) (hn : is.Nodup) (hargs : renL (pickF is hp.length) xs = ys) :
    Spec P g ys hp (SL.is (ren (fmF is hp.length) r) (fmR is (hp1'.map (renO (fmF is hp.length))) hp)) := by
  subst hargs
  intro F μ w args hr hargs
  have hL : μ.length = hp.length := hr.len
  have hltμ : ∀ q ∈ is, q < μ.length := fun q hq => by rw [hL]; exact hlt q hq
  let F1 : Nat → Prop := fun b => F b ∨ (blocks μ b ∧ ¬ blocks (pickN is μ) b)
  have hfree : ∀ b, b < w.heap.size → Free μ F b → Free (pickN is μ) F1 b := fun b _ hb => ⟨fun h => hb.1 (pick_blocks h hltμ), fun h => h.elim hb.2 (fun h => hb.1 h.1)⟩
  have got : ∀ (o q : Nat), is[o]? = some q → ∃ x, hp1[o]? = some x ∧ hp[q]? = some (renO (pickF is hp.length) x) := by
    intro o q hq
    have ho : o < hp1.length := by
      rw [hlen]
      rcases Nat.lt_or_ge o is.length with g | g
      · exact g
      · simp [List.getElem?_eq_none g] at hq
    exact ⟨_, List.getElem?_eq_getElem ho, hrow o q _ hq (List.getElem?_eq_getElem ho)⟩
  have idx : ∀ {o q : Nat}, is[o]? = some q → o < is.length := by
    intro o q hq
    rcases Nat.lt_or_ge o is.length with g | g
    · exact g
    · simp [List.getElem?_eq_none g] at hq
  have hinj : ∀ {o o' q : Nat}, is[o]? = some q → is[o']? = some q → o = o' := by
    intro o o' q h1 h2
    have ho := idx h1; have ho' := idx h2
    rw [List.getElem?_eq_getElem ho] at h1
    rw [List.getElem?_eq_getElem ho'] at h2
    have e1 := (Option.some.inj h1).trans (Option.some.inj h2).symm
    have hpw := List.pairwise_iff_getElem.1 hn
    rcases Nat.lt_trichotomy o o' with g | g | g
    · exact absurd e1 (hpw _ _ ho ho' g)
    · exact g
    · exact absurd e1.symm (hpw _ _ ho' ho g)
  have h1 : HR F1 hp1 (pickN is μ) w := by
    refine ⟨by rw [hlen]; simp [pickN], fun o b base esz tot ho => ?_, fun o ho => ?_, fun o x' ho hx' hd => ?_, fun o o' b base esz tot base' esz' tot' h1 h2 => ?_, fun b hb hF => ?_, fun b hF => hF.elim (hr.fb b) (fun h => hr.lt h.1), hr.tb.sub fun b h => pick_blocks h hltμ⟩
    · obtain ⟨q, hq, hm⟩ := pickN_lt hltμ ho
      obtain ⟨x', y', g1, g2, g3⟩ := hr.obj q b base esz tot hm
      obtain ⟨x, k1, k2⟩ := got o q hq
      rw [g1] at k2
      injection k2 with k2
      subst k2
      exact ⟨x, y', k1, g2, g3.unren fun vs g5 => g5.pull (fun j nm hj => pick_hn hL hj) hfree⟩
    · obtain ⟨q, hq, hm⟩ := pickN_lt hltμ ho
      obtain ⟨x, k1, k2⟩ := got o q hq
      obtain ⟨esz, k3⟩ := hr.em q hm
      rw [k3] at k2
      cases x with
      | dead => simp [renO] at k2
      | row e cs =>
        simp only [renO, Option.some.injEq, AObj.row.injEq] at k2
        obtain ⟨rfl, k4⟩ := k2
        have : cs = [] := List.eq_nil_of_length_eq_zero (by rw [← renL_length (pickF is hp.length) cs, ← k4]; rfl)
        subst this
        exact ⟨esz, k1⟩
      | ob s cs => simp [renO] at k2
    · obtain ⟨q, hq, hm⟩ := pickN_lt hltμ hd
      obtain ⟨x, k1, k2⟩ := got o q hq
      rw [k1] at ho
      injection ho with ho
      subst ho
      exact hr.live q _ k2 (fun e => hx' (by cases x <;> simp [renO] at e ⊢)) hm
    · obtain ⟨q, hq, hm⟩ := pickN_lt hltμ h1
      obtain ⟨q', hq', hm'⟩ := pickN_lt hltμ h2
      have hqq := hr.inj _ _ _ _ _ _ _ _ _ hm hm'
      subst hqq
      exact hinj hq hq'
    · rcases hF with h | h
      · exact hr.fo b (pick_blocks hb hltμ) h
      · exact h.2 hb
  have ha : VRL F1 (pickN is μ) w xs args.toList := hargs.pull (fun j nm hj => pick_hn hL hj) hfree
  refine (hs F1 _ w args h1 ha).mono ?_
  rintro e w' ⟨r', v, h', μ1, rfl, ⟨hr1, hr2⟩, hHR, hv, hf⟩
  rw [hr2] at hHR
  rw [hr1] at hv
  have hl0 : (pickN is μ).length = is.length := by simp [pickN]
  have hl1 : is.length ≤ μ1.length := by have := hf.len; rw [hl0] at this; exact this
  have hl2 : μ1.length = hp1'.length := hHR.len
  let μ2 := fmR is μ1 μ
  have at1 : ∀ j, j < μ1.length → μ2[fmF is μ.length j]? = μ1[j]? := fun j hj => fmR_at hn hltμ hl1 j hj
  have old1 : ∀ o, o < μ.length → o ∉ is → μ2[o]? = μ[o]? := fun o ho h => fmR_old ho h
  have cas : ∀ {o : Nat} {nm : Nm}, μ2[o]? = some nm → (∃ j, j < μ1.length ∧ o = fmF is μ.length j ∧ μ1[j]? = some nm) ∨ (o < μ.length ∧ o ∉ is ∧ μ[o]? = some nm) := by
    intro o nm h
    have ho : o < μ.length + (μ1.length - is.length) := by
      rcases Nat.lt_or_ge o μ2.length with g | g
      · rwa [fmR_len] at g
      · rw [List.getElem?_eq_none g] at h; simp at h
    rcases fmF_case hl1 ho with ⟨j, hj, rfl⟩ | ⟨h2, h3⟩
    · rw [at1 j hj] at h; exact .inl ⟨j, hj, rfl, h⟩
    · rw [old1 o h2 h3] at h; exact .inr ⟨h2, h3, h⟩
  -- blocks of rows that are not among those named
  have unp : ∀ {o b base esz tot : Nat}, o ∉ is → μ[o]? = some (Nm.at b base esz tot) → ¬ blocks (pickN is μ) b := by
    intro o b base esz tot ho hm ⟨o', base', esz', tot', hb⟩
    obtain ⟨q, hq, hm'⟩ := pickN_lt hltμ hb
    have := hr.inj _ _ _ _ _ _ _ _ _ hm hm'
    subst this
    exact ho (List.mem_of_getElem? hq)
  have hF : Fr μ w μ2 w' := by
    refine ⟨hf.size, fun b hb hnb => hf.keep b hb (fun h => hnb (pick_blocks h hltμ)), fun b hb => ?_, fun o nm h => ?_, by rw [fmR_len]; omega, hf.oo⟩
    · obtain ⟨o, base, esz, tot, ho⟩ := hb
      rcases cas ho with ⟨j, _, _, h⟩ | ⟨_, _, h⟩
      · rcases hf.new b ⟨j, base, esz, tot, h⟩ with h | h
        · exact .inl (pick_blocks h hltμ)
        · exact .inr h
      · exact .inl ⟨o, base, esz, tot, h⟩
    · have ho : o < μ.length := by
        rcases Nat.lt_or_ge o μ.length with g | g
        · exact g
        · rw [List.getElem?_eq_none g] at h; simp at h
      by_cases hi : o ∈ is
      · obtain ⟨j, hj, e⟩ := List.getElem_of_mem hi
        have hj' : is[j]? = some o := by rw [List.getElem?_eq_getElem hj, e]
        have hpk : (pickN is μ)[j]? = some nm := by
          unfold pickN
          rw [List.getElem?_map, hj', Option.map_some, h]; rfl
        have hfm : fmF is μ.length j = o := by unfold fmF; rw [hj']
        have := at1 j (by omega)
        rw [hfm] at this
        rw [this]
        exact hf.ext j nm hpk
      · rw [old1 o ho hi]; exact .inl h
  have hfree2 : ∀ b, b < w'.heap.size → Free μ1 F1 b → Free μ2 F b := fun b _ hb => ⟨fun ⟨o, base, esz, tot, ho⟩ => by
    rcases cas ho with ⟨j, _, _, h⟩ | ⟨_, h3, h⟩
    · exact hb.1 ⟨j, base, esz, tot, h⟩
    · exact hb.2 (.inr ⟨⟨o, base, esz, tot, h⟩, unp h3 h⟩), fun h => hb.2 (.inl h)⟩
  have push1 : ∀ (j : Nat) (nm : Nm), μ1[j]? = some nm → nm ≠ .un → μ2[fmF is hp.length j]? = some nm := by
    intro j nm h _
    have hj : j < μ1.length := by
      rcases Nat.lt_or_ge j μ1.length with g | g
      · exact g
      · rw [List.getElem?_eq_none g] at h; simp at h
    rw [← hL, at1 j hj]; exact h
  have rowN : ∀ j, j < hp1'.length → (fmR is (hp1'.map (renO (fmF is hp.length))) hp)[fmF is hp.length j]? = (hp1'[j]?).map (renO (fmF is hp.length)) := by
    intro j hj
    rw [fmR_at hn hlt (by simp; omega) j (by simpa using hj), List.getElem?_map]
  have rowO : ∀ o, o < hp.length → o ∉ is → (fmR is (hp1'.map (renO (fmF is hp.length))) hp)[o]? = hp[o]? := fun o ho h => fmR_old ho h
  refine ⟨_, v, _, μ2, rfl, ⟨rfl, rfl⟩, ?_, VR.push push1 hfree2 hv, hF⟩
  refine ⟨by rw [fmR_len, fmR_len, hL, hl2]; simp, fun o b base esz tot ho => ?_, fun o ho => ?_, fun o x ho hx hd => ?_, fun o o' b base esz tot base' esz' tot' h1' h2' => ?_, hr.foF hF, hr.fbF hF, hr.tbF hF⟩
  · rcases cas ho with ⟨j, hj, rfl, h⟩ | ⟨h2, h3, h⟩
    · obtain ⟨x, y, g1, g2, g3⟩ := hHR.obj j b base esz tot h
      exact ⟨_, y, by rw [hL, rowN j (by omega), g1]; rfl, g2, g3.ren fun vs g5 => VRL.push push1 hfree2 g5⟩
    · obtain ⟨x, y, g1, g2, g3⟩ := hr.obj o b base esz tot h
      exact ⟨x, y, by rw [rowO o (by omega) h3]; exact g1, by rw [hf.keep b (heap_lt g2) (unp h3 h)]; exact g2, g3.mono hF⟩
  · rcases cas ho with ⟨j, hj, rfl, h⟩ | ⟨h2, h3, h⟩
    · obtain ⟨esz, g⟩ := hHR.em j h
      exact ⟨esz, by rw [hL, rowN j (by omega), g]; rfl⟩
    · obtain ⟨esz, g⟩ := hr.em o h
      exact ⟨esz, by rw [rowO o (by omega) h3]; exact g⟩
  · rcases cas hd with ⟨j, hj, rfl, h⟩ | ⟨h2, h3, h⟩
    · rw [hL, rowN j (by omega)] at ho
      cases hx1 : hp1'[j]? with
      | none => rw [hx1] at ho; simp at ho
      | some x1 =>
        rw [hx1] at ho
        simp only [Option.map_some, Option.some.injEq] at ho
        exact hHR.live j x1 hx1 (fun e => hx (by rw [← ho, e]; rfl)) h
    · rw [rowO o (by omega) h3] at ho
      exact hr.live o x ho hx h
  · rcases cas h1' with ⟨j, hj, rfl, h⟩ | ⟨h2, h3, h⟩ <;> rcases cas h2' with ⟨j', hj', rfl, h'⟩ | ⟨h2', h3', h'⟩
    · rw [hHR.inj _ _ _ _ _ _ _ _ _ h h']
    · exact (hHR.fo b ⟨j, base, esz, tot, h⟩ (.inr ⟨⟨o', base', esz', tot', h'⟩, unp h3' h'⟩)).elim
    · exact (hHR.fo b ⟨j', base', esz', tot', h'⟩ (.inr ⟨⟨o, base, esz, tot, h⟩, unp h3 h⟩)).elim
    · exact hr.inj _ _ _ _ _ _ _ _ _ h h'
/-- Some rows kept, under new numbers. -/
theorem Cv.pick {p : Nat} {is : List Nat} {hp hp' : List AObj} {x x' : AV} (hx : ren (pickF is hp.length) x' = x) (h1 : hp'.map (renO (pickF is hp.length)) = is.map fun q => (hp[q]?).getD .dead)
    (h2 : ∀ q ∈ is, q < hp.length) (h3 : is.Nodup) (h4 : is.take p = List.range p) : Cv p hp x hp' x' := by
  intro F μ w v hr hv
  have hlt : ∀ q ∈ is, q < μ.length := fun q hq => by rw [hr.len]; exact h2 q hq
  have hs : SR F 1 ⟨tbl [(0, x)], hp⟩ μ { tmps := #[v], defers := [] } w := ⟨hr, fun i => by
    cases i with
    | zero => exact hv
    | succ i => exact .any, rfl, rfl⟩
  have hle : LeN p is ⟨tbl [(0, x')], hp'⟩ ⟨tbl [(0, x)], hp⟩ := LeN.mk' (out := [(0, x)]) (by simp [hx]) h1 h2 h3 h4 ⟨rfl, fun i => .inr rfl⟩
  have h5 := hle.sr hs
  have h6 := Frp.pick (p := p) (w := w) hlt hle.pre
  exact ⟨pickN is μ, h5.hr, h5.env 0, fun b hb => pick_blocks hb hlt, h6.ext, h6.len⟩
theorem Spec.walk {k : Nat} {fn : Func} {c : Code} {args : List AV} {hp : List AObj} {R : AV → List AObj → Prop} (hf : P.funcs[k]? = some fn) (hb : fn.body = some c) (hn : Nat.ble args.length fn.ntmps = true)
    (h : W P fn.ntmps c (retK P hp.length fn.results.toList R) ⟨tbl (enumE 0 args), hp⟩) : Spec P k args hp R := by
  refine Spec.body hf hb (Nat.le_of_ble_eq_true hn) (W.weaken (σ' := ⟨tbl (enumE 0 args), hp⟩) ⟨rfl, fun i => ?_⟩ h)
  rcases enumE_at args 0 i with h | ⟨_, h⟩
  · exact .inl h
  · exact .inr (by show tbl (enumE 0 args) i = argEnv args i; rw [h]; simp [argEnv])
/-- What is handed back, over the rows kept. -/
theorem retK.rows {p : Nat} {rs : List ResultVar} {out : Env} {is : List Nat} {hp hp' : List AObj} {x : AV} {σ : SS} {xs : List AV} {e : Exit} {R : AV → List AObj → Prop} (he : e = .ret ∨ e = .normal) (hl : Le ⟨tbl out, hp⟩ σ) (h1 : resV P out hp rs = some xs)
    (hx : ren (pickF is hp.length) x = oneAV xs) (hr : hp'.map (renO (pickF is hp.length)) = is.map fun q => (hp[q]?).getD .dead) (h2 : ∀ q ∈ is, q < hp.length) (h3 : is.Nodup) (h4 : is.take p = List.range p) (hR : R x hp') : retK P p rs R e σ := by
  have hh : σ.hp = hp := hl.1.symm
  exact ⟨he, xs, x, hp', (resV.ok h1).le hl, by rw [hh]; exact Cv.pick hx hr h2 h3 h4, hR⟩
end Go.SL
