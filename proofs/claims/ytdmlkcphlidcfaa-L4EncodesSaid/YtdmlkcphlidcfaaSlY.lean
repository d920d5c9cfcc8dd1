/-
  Structs compared.
-/
import Derived.Test.YtdmlkcphlidcfaaSlX
import Derived.DeepKeys
set_option linter.unusedVariables false
namespace Go.SL
open Go
variable {P : Program} {F : Nat → Prop} {μ : List Nm} {w : World} {env : Nat → AV} {hp : List AObj} {dst : Option Nat} {ty : TypeId} {pos : String} {after : Array Edge} {guard : Option (Nat × Bool)}

theorem VRL.scs_inv : ∀ {vs us : List Value}, VRL F μ w (vs.map AV.sc) us → us = vs
  | [], _, h => by cases h; rfl
  | v :: vs, _, h => by
    cases h with
    | cons h1 h2 => rw [h1.sc_inv, VRL.scs_inv h2]

theorem env_agg_sc {a : Act} (he : EnvR F env μ w a.tmps) {x : Operand} {vs : List Value} (hx : opd env x = .agg (vs.map AV.sc)) : a.eval x = .agg vs.toArray := by
  have h := he.opd x
  rw [hx] at h
  generalize a.eval x = v at h
  cases h with
  | agg h =>
    have := h.scs_inv
    congr 1
    apply Array.ext'
    simpa using this

theorem run_eqAgg {t : TypeId} {m D D' : Nat} {vs us : List Value} {L1 L2 : List Lit} (hk : P.keyTypeAt m t = true) (hm : m ≤ 10000) (hf1 : (Value.agg vs.toArray).formed P t = true) (hf2 : (Value.agg us.toArray).formed P t = true)
    (h1 : P.keyLits D t vs = some L1) (h2 : P.keyLits D' t us = some L2) {b : Bool} (hb : b = true ↔ L1 = L2) : (Op.equal t (.agg vs.toArray) (.agg us.toArray)).run P w = .ok b w := by
  obtain ⟨r, hr, hi⟩ := run_equalIn_deep (10000 - m) m t hk w D D' (.agg vs.toArray) (.agg us.toArray) L1 L2 hf1 hf2 (by simpa [Value.cells] using h1) (by simpa [Value.cells] using h2)
  rw [show 10000 - m + m = 10000 by omega] at hr
  have e : r = b := by rw [Bool.eq_iff_iff, hi, hb]
  rw [← e]
  exact hr

theorem eqGuard_agg {op : BinOp} {t : TypeId} {x y : Operand} {a b : Array Value} (hg : P.eqGuardType P.depth t = false) : (eqGuard op t x y (.agg a) (.agg b)).run P w = .ok () w := by
  unfold eqGuard
  cases op <;> simp [hg]

theorem step_eqAgg {t t' : TypeId} {x y : Operand} {m D D' : Nat} {vs us : List Value} {L1 L2 : List Lit} (hk : P.keyTypeAt m t = true) (hm : m ≤ 10000) (hg : P.eqGuardType P.depth t = false)
    (hx : opd env x = .agg (vs.map AV.sc)) (hy : opd env y = .agg (us.map AV.sc)) (hf1 : (Value.agg vs.toArray).formed P t = true) (hf2 : (Value.agg us.toArray).formed P t = true) (h1 : P.keyLits D t vs = some L1) (h2 : P.keyLits D' t us = some L2) {b : Bool} (hb : b = true ↔ L1 = L2) :
    Step P ⟨dst, .binOp .eql t x y t', ty, pos, after, guard⟩ env hp (is (.sc (.bool b)) hp) :=
  Step.val fun F μ w a hr he => ⟨_, by
    simp only [execOp, env_agg_sc he hx, env_agg_sc he hy, Sem.run_bind, eqGuard_agg hg, Result.andThen_ok, binOp]
    simp only [run_eqAgg hk hm hf1 hf2 h1 h2 hb, Result.andThen_ok]; rfl, .sc rfl⟩
theorem step_neAgg {t t' : TypeId} {x y : Operand} {m D D' : Nat} {vs us : List Value} {L1 L2 : List Lit} (hk : P.keyTypeAt m t = true) (hm : m ≤ 10000) (hg : P.eqGuardType P.depth t = false)
    (hx : opd env x = .agg (vs.map AV.sc)) (hy : opd env y = .agg (us.map AV.sc)) (hf1 : (Value.agg vs.toArray).formed P t = true) (hf2 : (Value.agg us.toArray).formed P t = true) (h1 : P.keyLits D t vs = some L1) (h2 : P.keyLits D' t us = some L2) {b : Bool} (hb : b = true ↔ L1 = L2) :
    Step P ⟨dst, .binOp .neq t x y t', ty, pos, after, guard⟩ env hp (is (.sc (.bool (!b))) hp) :=
  Step.val fun F μ w a hr he => ⟨_, by
    simp only [execOp, env_agg_sc he hx, env_agg_sc he hy, Sem.run_bind, eqGuard_agg hg, Result.andThen_ok, binOp]
    simp only [run_eqAgg hk hm hf1 hf2 h1 h2 hb, Result.andThen_ok]; rfl, .sc rfl⟩

theorem kl_int {t : TypeId} {k : IntKind} {n : Int} {d : Nat} (ht : P.underlying t = some (.int k)) (hw : k.min ≤ n ∧ n ≤ k.max) : P.keyLits (d + 1) t [.int k n] = some [.int k n] := by
  have : (Lit.int k n).wf = true := by simp [Lit.wf, hw.1, hw.2]
  simp [Program.keyLits, ht, this]
theorem kl_bool {t : TypeId} {b : Bool} {d : Nat} (ht : P.underlying t = some .bool) : P.keyLits (d + 1) t [.bool b] = some [.bool b] := by simp [Program.keyLits, ht]
theorem kl_string {t : TypeId} {s : ByteArray} {d : Nat} (ht : P.underlying t = some .string) (hw : s.size ≤ 9223372036854775807) : P.keyLits (d + 1) t [.string s] = some [.string s.data.toList] := by
  have : s.size ≤ maxLen := hw
  simp [Program.keyLits, ht, this]

def KLF (P : Program) (d : Nat) (cs : List Value) : List Field → List (List Lit) → Prop
  | [], [] => True
  | f :: fs, p :: ps => P.keyLits d f.type ((cs.drop f.offset).take (P.cellsOf f.type)) = some p ∧ KLF P d cs fs ps
  | _, _ => False
theorem KLF.cons {d : Nat} {cs : List Value} {f : Field} {fs : List Field} {p : List Lit} {ps : List (List Lit)} (h : P.keyLits d f.type ((cs.drop f.offset).take (P.cellsOf f.type)) = some p) (h' : KLF P d cs fs ps) : KLF P d cs (f :: fs) (p :: ps) := ⟨h, h'⟩
theorem KLF.nil {d : Nat} {cs : List Value} : KLF P d cs [] [] := trivial
theorem KLF.mapM {d : Nat} {cs : List Value} : ∀ {fs : List Field} {ps : List (List Lit)}, KLF P d cs fs ps → (fs.mapM fun f => P.keyLits d f.type ((cs.drop f.offset).take (P.cellsOf f.type))) = some ps
  | [], [], _ => rfl
  | [], _ :: _, h => h.elim
  | _ :: _, [], h => h.elim
  | f :: fs, p :: ps, ⟨h1, h2⟩ => by
    rw [List.mapM_cons, h1, KLF.mapM h2]; rfl
theorem kl_struct {t : TypeId} {fs : Array Field} {d : Nat} {cs : List Value} {ps : List (List Lit)} (ht : P.underlying t = some (.struct fs)) (hl : cs.length = P.cellsOf t) (hn : fs.all (·.name != "_") = true) (h : KLF P d cs fs.toList ps) :
    P.keyLits (d + 1) t cs = some ps.flatten := by
  unfold Program.keyLits
  rw [ht]
  have := h.mapM
  split <;> simp_all
end Go.SL
