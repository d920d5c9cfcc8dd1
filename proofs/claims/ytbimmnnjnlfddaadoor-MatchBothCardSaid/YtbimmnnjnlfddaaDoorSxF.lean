/-
  Arguments of a type without slices, read: their cells, leaf by leaf.
-/
import Derived.Test.YtbimmnnjnlfddaaDoorSxE
import Derived.Test.YtbimmnnjnlfddaaDoorSlX
import Derived.OpenShut
set_option linter.unusedVariables false
set_option linter.unusedSimpArgs false
set_option linter.unusedSectionVars false
namespace Go.SL
open Go Go.ChangeShapes Go.WideShapes Go.ChangeAt Go.RowKit
variable [Tabs]
variable {P : Program} {W : World}

inductive Lf where
  | int (k : IntKind)
  | bool
  | str
def Lf.ok : Lf → AV → Prop
  | .int k, x => ∃ n : Int, x = .sc (.int k n) ∧ k.min ≤ n ∧ n ≤ k.max
  | .bool, x => ∃ b : Bool, x = .sc (.bool b)
  | .str, x => ∃ s : ByteArray, x = .sc (.string s) ∧ s.size ≤ reachBytes
def Fit : List Lf → List AV → Prop
  | [], xs => xs = []
  | l :: ls, xs => ∃ x ys, xs = x :: ys ∧ l.ok x ∧ Fit ls ys
theorem Fit.append : ∀ {ls ms : List Lf} {xs ys : List AV}, Fit ls xs → Fit ms ys → Fit (ls ++ ms) (xs ++ ys)
  | [], _, _, _, h, h' => by simp only [Fit] at h; subst h; exact h'
  | l :: ls, _, _, _, ⟨x, zs, e, h1, h2⟩, h' => by subst e; exact ⟨x, zs ++ _, rfl, h1, Fit.append h2 h'⟩
theorem Fit.all2 : ∀ {lss : List (List Lf)} {parts : List (List AV)}, All2 (lss.map Fit) parts → Fit lss.flatten parts.flatten
  | [], [], _ => rfl
  | [], _ :: _, h => h.elim
  | _ :: _, [], h => h.elim
  | ls :: lss, p :: ps, ⟨h1, h2⟩ => by rw [List.flatten_cons, List.flatten_cons]; exact Fit.append h1 (Fit.all2 h2)
theorem Fit.rep {ls : List Lf} : ∀ {rows : List (List AV)}, (∀ r ∈ rows, Fit ls r) → Fit (List.replicate rows.length ls).flatten rows.flatten
  | [], _ => rfl
  | r :: rows, h => by
    rw [List.length_cons, List.replicate_succ, List.flatten_cons, List.flatten_cons]
    exact Fit.append (h r (by simp)) (Fit.rep fun x hx => h x (by simp [hx]))

theorem rd_array {t e : TypeId} {n : Nat} {ls : List Lf} (ht : P.underlying t = some (.array n e)) (hsz : P.cellsOf t = n * P.cellsOf e) (he : Rd P W e (Fit ls)) : Rd P W t (Fit (List.replicate n ls).flatten) := by
  intro H enc sp fuel cs x h hw
  obtain ⟨xs, m, rfl, rfl, hl, hn, hi⟩ := DataW.trod_array ht h
  simp only [DataW.weights, ht] at hw
  have key : ∀ j, j ≤ n → ∃ rows : List (List AV), VRL F0 [] W rows.flatten (cs.take (j * P.cellsOf e)) ∧ rows.length = j ∧ ∀ r ∈ rows, Fit ls r := by
    intro j
    induction j with
    | zero => intro _; exact ⟨[], by simpa using VRL.nil, rfl, by simp⟩
    | succ j ih =>
      intro hj
      obtain ⟨rows, q1, q2, q3⟩ := ih (by omega)
      have h1 := hi j (by omega)
      rw [List.getElem?_eq_getElem (by omega)] at h1
      obtain ⟨ys, s1, s2⟩ := he H enc sp m _ _ h1 (fun z hz => hw z (weights_all _ j _ (by rw [List.getElem?_map, List.getElem?_eq_getElem (by omega)]; rfl) z hz))
      refine ⟨rows ++ [ys], ?_, by simp [q2], fun r hr => ?_⟩
      · have e3 : cs.take ((j + 1) * P.cellsOf e) = cs.take (j * P.cellsOf e) ++ (cs.drop (j * P.cellsOf e)).take (P.cellsOf e) := by
          rw [Nat.add_mul, Nat.one_mul, List.take_add]
        rw [e3, List.flatten_append]
        exact q1.append (by simpa using s1)
      · rcases List.mem_append.1 hr with h4 | h4
        · exact q3 r h4
        · simp only [List.mem_singleton] at h4; subst h4; exact s2
  obtain ⟨rows, q1, q2, q3⟩ := key n (Nat.le_refl _)
  refine ⟨rows.flatten, ?_, by rw [← q2]; exact Fit.rep q3⟩
  rwa [List.take_of_length_le (by rw [hl, hsz]; exact Nat.le_refl _)] at q1

mutual
def leaves (P : Program) : Nat → TypeId → Option (List Lf)
  | 0, _ => none
  | d + 1, t => match P.underlying t with
    | some (.int k) => some [.int k]
    | some .bool => some [.bool]
    | some .string => some [.str]
    | some (.struct fs) => match packed P fs.toList 0 with
      | some c => bif Nat.beq c (P.cellsOf t) then (match leavesF P d fs.toList with
        | some lss => some lss.flatten
        | none => none) else none
      | none => none
    | some (.array n e) => bif Nat.beq (P.cellsOf t) (n * P.cellsOf e) then (match leaves P d e with
      | some ls => some (List.replicate n ls).flatten
      | none => none) else none
    | _ => none
def leavesF (P : Program) : Nat → List Field → Option (List (List Lf))
  | 0, _ => none
  | _, [] => some []
  | d + 1, f :: fs => match leaves P d f.type with
    | some ls => match leavesF P d fs with
      | some lss => some (ls :: lss)
      | none => none
    | none => none
end
mutual
theorem rd_leaves : ∀ (d : Nat) (t : TypeId) (ls : List Lf), leaves P d t = some ls → Rd P W t (Fit ls)
  | 0, t, ls, h => by simp [leaves] at h
  | d + 1, t, ls, h => by
    simp only [leaves] at h
    split at h
    · rename_i k hu; injection h with h; subst h
      exact Rd.mono (rd_int hu) fun xs ⟨n, e, h1⟩ => ⟨_, [], e, ⟨n, rfl, h1⟩, rfl⟩
    · rename_i hu; injection h with h; subst h
      exact Rd.mono (rd_bool hu) fun xs ⟨b, e⟩ => ⟨_, [], e, ⟨b, rfl⟩, rfl⟩
    · rename_i hu; injection h with h; subst h
      exact Rd.mono (rd_string hu) fun xs ⟨s, e, h1⟩ => ⟨_, [], e, ⟨s, rfl, h1⟩, rfl⟩
    · rename_i fs hu
      split at h
      · rename_i c hc
        cases hb : Nat.beq c (P.cellsOf t)
        · rw [hb] at h; simp at h
        · rw [hb] at h; simp only [cond_true] at h
          have := Nat.eq_of_beq_eq_true hb; subst this
          split at h
          · rename_i lss hl; injection h with h; subst h
            exact Rd.mono (rd_struct hu hc (rd_leavesF d fs.toList lss hl)) fun xs ⟨parts, e, h1⟩ => by subst e; exact Fit.all2 h1
          · simp at h
      · simp at h
    · rename_i n e hu
      cases hb : Nat.beq (P.cellsOf t) (n * P.cellsOf e)
      · rw [hb] at h; simp at h
      · rw [hb] at h; simp only [cond_true] at h
        have hsz := Nat.eq_of_beq_eq_true hb
        split at h
        · rename_i ls' hl; injection h with h; subst h
          exact rd_array hu hsz (rd_leaves d e ls' hl)
        · simp at h
    · simp at h
theorem rd_leavesF : ∀ (d : Nat) (fs : List Field) (lss : List (List Lf)), leavesF P d fs = some lss → RdF P W fs (lss.map Fit)
  | 0, fs, lss, h => by simp [leavesF] at h
  | d + 1, [], lss, h => by simp only [leavesF, Option.some.injEq] at h; subst h; exact RdF.nil
  | d + 1, f :: fs, lss, h => by
    simp only [leavesF] at h
    split at h
    · rename_i ls hl; split at h
      · rename_i lss' hls; injection h with h; subst h
        exact RdF.cons (rd_leaves d f.type ls hl) (rd_leavesF d fs lss' hls)
      · simp at h
    · simp at h
end
theorem RdV.mono' {t : TypeId} {S S' : AV → Prop} (h : RdV P W t S) (hs : ∀ x, S x → S' x) : RdV P W t S' := fun H enc base v d p h1 h2 h3 => by
  obtain ⟨x, h4, h5⟩ := h H enc base v d p h1 h2 h3
  exact ⟨x, h4, hs x h5⟩
/-- An argument that is a struct. -/
theorem rv_leaves {t : TypeId} {fs : Array Field} (ls : List Lf) (d : Nat) (ht : P.underlying t = some (.struct fs)) (hp : packed P fs.toList 0 = some (P.cellsOf t)) (hl : (leavesF P d fs.toList).map List.flatten = some ls) :
    RdV P W t (fun x => ∃ xs, x = .agg xs ∧ Fit ls xs) := by
  cases h : leavesF P d fs.toList with
  | none => rw [h] at hl; simp at hl
  | some lss =>
    rw [h] at hl
    simp only [Option.map_some, Option.some.injEq] at hl; subst hl
    exact RdV.mono' (rv_struct ht hp (rd_leavesF d fs.toList lss h)) fun x ⟨parts, e, h1⟩ => ⟨_, e, Fit.all2 h1⟩
end Go.SL
