/-
  Operations, one by one: values, places, loads, stores, new rows, slices, lengths.
-/
import Derived.Test.YtbimmnnjnlfddaaDoorSlC
set_option linter.unusedSimpArgs false
set_option linter.unnecessarySimpa false
set_option linter.unusedVariables false
set_option linter.unusedSectionVars false
namespace Go.SL
open Go
variable [Tabs]

variable {F : Nat → Prop} {μ μ' μ'' : List Nm} {w w' w'' : World} {P : Program} {n : Nat} {env : Nat → AV} {hp : List AObj}
variable {dst : Option Nat} {ty : TypeId} {pos : String} {after : Array Edge} {guard : Option (Nat × Bool)}

abbrev SizeOf (P : Program) (t : TypeId) (k : Nat) : Prop := ∀ w, (sizeOf t).run P w = .ok k w
abbrev IsAgg (P : Program) (t : TypeId) (b : Bool) : Prop := ∀ w, (isAgg t).run P w = .ok b w
abbrev Und (P : Program) (t : TypeId) (d : TypeDesc) : Prop := ∀ w, (underlying t).run P w = .ok d w
abbrev ZeroV (P : Program) (t : TypeId) (v : Value) : Prop := ∀ w, (zeroValue t).run P w = .ok v w

theorem Step.of {o : Oper} {x : AV} {hp' : List AObj} (h : ∀ (F : Nat → Prop) (μ : List Nm) (w : World) (a : Act), HR F hp μ w → EnvR F env μ w a.tmps → ∃ v w' μ',
    (execOp a.eval o).run P w = .ok (.value v) w' ∧ HR F hp' μ' w' ∧ VR F μ' w' x v ∧ Fr μ w μ' w') : Step P o env hp (is x hp') := by
  intro F μ w a hr he next Q k
  obtain ⟨v, w', μ', h1, h2, h3, h4⟩ := h F μ w a hr he
  unfold Oper.wp
  rw [h1]
  exact k x v hp' μ' w' ⟨rfl, rfl⟩ h2 h3 h4

theorem Step.of_skip {o : Oper} {hp' : List AObj} (h : ∀ (F : Nat → Prop) (μ : List Nm) (w : World) (a : Act), HR F hp μ w → EnvR F env μ w a.tmps → ∃ w' μ',
    (execOp a.eval o).run P w = .ok .skip w' ∧ HR F hp' μ' w' ∧ Fr μ w μ' w') : Step P o env hp (is (.sc undef) hp') := by
  intro F μ w a hr he next Q k
  obtain ⟨w', μ', h1, h2, h4⟩ := h F μ w a hr he
  unfold Oper.wp
  rw [h1]
  exact k _ undef hp' μ' w' ⟨rfl, rfl⟩ h2 (.sc plain_undef) h4

/-- What needs no memory. -/
theorem Step.val {o : Oper} {x : AV} (h : ∀ (F : Nat → Prop) (μ : List Nm) (w : World) (a : Act), HR F hp μ w → EnvR F env μ w a.tmps → ∃ v,
    (execOp a.eval o).run P w = .ok (.value v) w ∧ VR F μ w x v) : Step P o env hp (is x hp) :=
  Step.of fun F μ w a hr he => by
    obtain ⟨v, h1, h2⟩ := h F μ w a hr he
    exact ⟨v, w, μ, h1, hr, h2, Fr.refl _ _⟩

theorem step_move {x : Operand} : Step P ⟨dst, .move x, ty, pos, after, guard⟩ env hp (is (opd env x) hp) :=
  Step.val fun F μ w a hr he => ⟨a.eval x, rfl, he.opd x⟩
theorem step_assign {x : Operand} : Step P ⟨dst, .assign x, ty, pos, after, guard⟩ env hp (is (opd env x) hp) :=
  Step.val fun F μ w a hr he => ⟨a.eval x, rfl, he.opd x⟩

theorem EnvR.sc {a : Act} (h : EnvR F env μ w a.tmps) {x : Operand} {v : Value} (hx : SL.opd env x = .sc v) : a.eval x = v := by
  have := h.opd x
  rw [hx] at this
  exact this.sc_inv

theorem step_pick_t {c x y : Operand} {b : Bool} (hc : opd env c = .sc (.bool b)) (hb : b = true) : Step P ⟨dst, .pick c x y, ty, pos, after, guard⟩ env hp (is (opd env x) hp) :=
  Step.val fun F μ w a hr he => ⟨a.eval x, by simp [execOp, he.sc hc, asBool, hb], he.opd x⟩
theorem step_pick_f {c x y : Operand} {b : Bool} (hc : opd env c = .sc (.bool b)) (hb : b = false) : Step P ⟨dst, .pick c x y, ty, pos, after, guard⟩ env hp (is (opd env y) hp) :=
  Step.val fun F μ w a hr he => ⟨a.eval y, by simp [execOp, he.sc hc, asBool, hb], he.opd y⟩

theorem step_not {t : TypeId} {x : Operand} {b : Bool} (hx : opd env x = .sc (.bool b)) : Step P ⟨dst, .unOp .not t x, ty, pos, after, guard⟩ env hp (is (.sc (.bool !b)) hp) :=
  Step.val fun F μ w a hr he => ⟨.bool !b, by simp [execOp, he.sc hx, Op.unary], .sc rfl⟩

theorem step_xor1 {t : TypeId} {x : Operand} {k : IntKind} {m : Int} (hx : opd env x = .sc (.int k m)) :
    Step P ⟨dst, .unOp .xor t x, ty, pos, after, guard⟩ env hp (is (.sc (.int k (k.wrap (BitVec.ofInt k.bits (if k.signed then -1 else k.max) ^^^ BitVec.ofInt k.bits m).toNat))) hp) :=
  Step.val fun F μ w a hr he => ⟨_, by simp [execOp, he.sc hx, Op.unary, Op.intBits], .sc rfl⟩

theorem step_neg {t : TypeId} {x : Operand} {k : IntKind} {m : Int} (hx : opd env x = .sc (.int k m)) : Step P ⟨dst, .unOp .neg t x, ty, pos, after, guard⟩ env hp (is (.sc (.int k (k.wrap (0 - m)))) hp) :=
  Step.val fun F μ w a hr he => ⟨_, by simp [execOp, he.sc hx, Op.unary, Op.intArith], .sc rfl⟩

theorem eqGuard_int {op : BinOp} {t : TypeId} {x y : Operand} {k k' : IntKind} {p q : Int} : (eqGuard op t x y (.int k p) (.int k' q)).run P w = .ok () w := by
  cases op <;> rfl
theorem eqGuard_bool {op : BinOp} {t : TypeId} {x y : Operand} {p q : Bool} : (eqGuard op t x y (.bool p) (.bool q)).run P w = .ok () w := by
  cases op <;> rfl
theorem eqGuard_str {op : BinOp} {t : TypeId} {x y : Operand} {p q : ByteArray} : (eqGuard op t x y (.string p) (.string q)).run P w = .ok () w := by
  cases op <;> rfl

/-- Whole numbers of one kind: what an operator gives; none: the code would not go on. -/
def int2 (op : BinOp) (k : IntKind) (x y : Int) : Option Value :=
  match op with
  | .add => some (.int k (k.wrap (x + y)))
  | .sub => some (.int k (k.wrap (x - y)))
  | .mul => some (.int k (k.wrap (x * y)))
  | .and => some (.int k (k.wrap (BitVec.ofInt k.bits x &&& BitVec.ofInt k.bits y).toNat))
  | .or => some (.int k (k.wrap (BitVec.ofInt k.bits x ||| BitVec.ofInt k.bits y).toNat))
  | .xor => some (.int k (k.wrap (BitVec.ofInt k.bits x ^^^ BitVec.ofInt k.bits y).toNat))
  | .andNot => some (.int k (k.wrap (BitVec.ofInt k.bits x &&& ~~~BitVec.ofInt k.bits y).toNat))
  | .eql => some (.bool (x == y))
  | .neq => some (.bool (x != y))
  | .lss => some (.bool (x < y))
  | .leq => some (.bool (x ≤ y))
  | .gtr => some (.bool (x > y))
  | .geq => some (.bool (x ≥ y))
  | _ => none

theorem step_int2 {op : BinOp} {t t' : TypeId} {x y : Operand} {k : IntKind} {p q : Int} {v : Value} (hx : opd env x = .sc (.int k p)) (hy : opd env y = .sc (.int k q)) (hv : int2 op k p q = some v) :
    Step P ⟨dst, .binOp op t x y t', ty, pos, after, guard⟩ env hp (is (.sc v) hp) := by
  refine Step.val fun F μ w a hr he => ⟨v, ?_, ?_⟩
  · simp only [execOp, he.sc hx, he.sc hy, Sem.run_bind, eqGuard_int, Result.andThen_ok, binOp]
    cases op <;> simp [int2] at hv <;> subst hv <;>
      simp [binOp, Op.intArith, Op.intBits, Op.intCmp]
  · cases op <;> simp [int2] at hv <;> subst hv <;> exact .sc rfl

theorem step_quo {t t' : TypeId} {x y : Operand} {k : IntKind} {p q : Int} (hx : opd env x = .sc (.int k p)) (hy : opd env y = .sc (.int k q)) (hq : q ≠ 0) :
    Step P ⟨dst, .binOp .quo t x y t', ty, pos, after, guard⟩ env hp (is (.sc (.int k (k.wrap (p.tdiv q)))) hp) :=
  Step.val fun F μ w a hr he => ⟨_, by
    simp only [execOp, he.sc hx, he.sc hy, Sem.run_bind, eqGuard_int, Result.andThen_ok, binOp]
    simp [Op.intDiv, hq], .sc rfl⟩
theorem step_rem {t t' : TypeId} {x y : Operand} {k : IntKind} {p q : Int} (hx : opd env x = .sc (.int k p)) (hy : opd env y = .sc (.int k q)) (hq : q ≠ 0) :
    Step P ⟨dst, .binOp .rem t x y t', ty, pos, after, guard⟩ env hp (is (.sc (.int k (p.tmod q))) hp) :=
  Step.val fun F μ w a hr he => ⟨_, by
    simp only [execOp, he.sc hx, he.sc hy, Sem.run_bind, eqGuard_int, Result.andThen_ok, binOp]
    simp [Op.intDiv, hq], .sc rfl⟩

theorem step_shl {t t' : TypeId} {x y : Operand} {k k' : IntKind} {p q : Int} (hx : opd env x = .sc (.int k p)) (hy : opd env y = .sc (.int k' q)) (hq : 0 ≤ q) :
    Step P ⟨dst, .binOp .shl t x y t', ty, pos, after, guard⟩ env hp (is (.sc (.int k (k.wrap (p * 2 ^ min q.toNat k.bits)))) hp) :=
  Step.val fun F μ w a hr he => ⟨_, by
    simp only [execOp, he.sc hx, he.sc hy, Sem.run_bind, eqGuard_int, Result.andThen_ok, binOp]
    simp [Op.shift, Int.not_lt.mpr hq], .sc rfl⟩
theorem step_shr {t t' : TypeId} {x y : Operand} {k k' : IntKind} {p q : Int} (hx : opd env x = .sc (.int k p)) (hy : opd env y = .sc (.int k' q)) (hq : 0 ≤ q) :
    Step P ⟨dst, .binOp .shr t x y t', ty, pos, after, guard⟩ env hp (is (.sc (.int k (p.fdiv (2 ^ min q.toNat k.bits)))) hp) :=
  Step.val fun F μ w a hr he => ⟨_, by
    simp only [execOp, he.sc hx, he.sc hy, Sem.run_bind, eqGuard_int, Result.andThen_ok, binOp]
    simp [Op.shift, Int.not_lt.mpr hq], .sc rfl⟩

def str2 (op : BinOp) (x y : ByteArray) : Option Value :=
  match op with
  | .eql => some (.bool (x.toList == y.toList))
  | .neq => some (.bool !(x.toList == y.toList))
  | .lss => some (.bool (Op.bytesLess x.toList y.toList))
  | .leq => some (.bool (Op.bytesLess x.toList y.toList || x.toList == y.toList))
  | .gtr => some (.bool !(Op.bytesLess x.toList y.toList || x.toList == y.toList))
  | .geq => some (.bool !(Op.bytesLess x.toList y.toList))
  | _ => none

theorem step_str2 {op : BinOp} {t t' : TypeId} {x y : Operand} {p q : ByteArray} {v : Value} (hx : opd env x = .sc (.string p)) (hy : opd env y = .sc (.string q)) (hv : str2 op p q = some v) :
    Step P ⟨dst, .binOp op t x y t', ty, pos, after, guard⟩ env hp (is (.sc v) hp) := by
  refine Step.val fun F μ w a hr he => ⟨v, ?_, ?_⟩
  · simp only [execOp, he.sc hx, he.sc hy, Sem.run_bind, eqGuard_str, Result.andThen_ok, binOp]
    cases op <;> simp [str2] at hv <;> subst hv <;> simp [binOp, Op.stringOp]
  · cases op <;> simp [str2] at hv <;> subst hv <;> exact .sc rfl

theorem step_cat {t t' : TypeId} {x y : Operand} {p q : ByteArray} (hx : opd env x = .sc (.string p)) (hy : opd env y = .sc (.string q)) (hl : p.size + q.size ≤ 9223372036854775807) :
    Step P ⟨dst, .binOp .add t x y t', ty, pos, after, guard⟩ env hp (is (.sc (.string (p ++ q))) hp) :=
  Step.val fun F μ w a hr he => ⟨_, by
    simp only [execOp, he.sc hx, he.sc hy, Sem.run_bind, eqGuard_str, Result.andThen_ok, binOp]
    have : ¬ (((p.size + q.size : Nat) : Int) > IntKind.i64.max) := by have : IntKind.i64.max = 9223372036854775807 := rfl; omega
    simp only [Op.stringOp, if_neg this, Sem.run_pure, Sem.run_bind, Result.andThen_ok], .sc rfl⟩

theorem run_eqBool {t : TypeId} {p q : Bool} (ht : Und P t .bool) : (Op.equal t (.bool p) (.bool q)).run P w = .ok (p == q) w := by
  unfold Op.equal Op.maxDepth
  rw [Op.equalIn]
  simp only [Sem.run_bind, ht w, Result.andThen_ok]
  rfl

theorem step_eqBool {t t' : TypeId} {x y : Operand} {p q : Bool} (ht : Und P t .bool) (hx : opd env x = .sc (.bool p)) (hy : opd env y = .sc (.bool q)) :
    Step P ⟨dst, .binOp .eql t x y t', ty, pos, after, guard⟩ env hp (is (.sc (.bool (p == q))) hp) :=
  Step.val fun F μ w a hr he => ⟨_, by
    simp only [execOp, he.sc hx, he.sc hy, Sem.run_bind, eqGuard_bool, Result.andThen_ok, binOp]
    simp only [Sem.run_bind, run_eqBool ht, Result.andThen_ok]; rfl, .sc rfl⟩
theorem step_neBool {t t' : TypeId} {x y : Operand} {p q : Bool} (ht : Und P t .bool) (hx : opd env x = .sc (.bool p)) (hy : opd env y = .sc (.bool q)) :
    Step P ⟨dst, .binOp .neq t x y t', ty, pos, after, guard⟩ env hp (is (.sc (.bool !(p == q))) hp) :=
  Step.val fun F μ w a hr he => ⟨_, by
    simp only [execOp, he.sc hx, he.sc hy, Sem.run_bind, eqGuard_bool, Result.andThen_ok, binOp]
    simp only [Sem.run_bind, run_eqBool ht, Result.andThen_ok]; rfl, .sc rfl⟩

theorem step_conv {s t : TypeId} {x : Operand} {k k' : IntKind} {p : Int} {d : TypeDesc} (hs : Und P s d) (ht : Und P t (.int k')) (hx : opd env x = .sc (.int k p)) :
    Step P ⟨dst, .convert s t x, ty, pos, after, guard⟩ env hp (is (.sc (.int k' (k'.wrap p))) hp) :=
  Step.val fun F μ w a hr he => ⟨_, by simp [execOp, he.sc hx, convert, hs, ht, Conv.intToInt], .sc rfl⟩

theorem step_extract {x : Operand} {i : Nat} {xs : List AV} {y : AV} (hx : opd env x = .tup xs) (hy : xs[i]? = some y) :
    Step P ⟨dst, .extract x i, ty, pos, after, guard⟩ env hp (is y hp) := by
  refine Step.val fun F μ w a hr he => ?_
  have h := he.opd x
  rw [hx] at h
  generalize ha : a.eval x = v at h
  cases h with
  | tup h =>
    obtain ⟨v, h1, h2⟩ := h.get hy
    have h1' := (Array.getElem?_toList ..).symm.trans h1
    exact ⟨v, by simp [execOp, ha, Instr.extract, h1'], h2⟩

theorem EnvR.ptr {a : Act} (h : EnvR F env μ w a.tmps) (hr : HR F hp μ w) {x : Operand} {o off esz : Nat} {cells : List AV} (hx : SL.opd env x = .ptr o off)
    (ho : hp[o]? = some (AObj.row esz cells)) : ∃ b base tot c el fr, a.eval x = .pointer (some ⟨b, base + off, none⟩) ∧ μ[o]? = some (Nm.at b base esz tot) ∧
      w.heap[b]? = some (Obj.cells c el fr) ∧ c.size = tot ∧ base + cells.length ≤ tot ∧ VRL F μ w cells ((c.toList.drop base).take cells.length) ∧ NF fr tot := by
  have h1 := h.opd x
  rw [hx] at h1
  generalize a.eval x = v at h1
  rcases hr.row ho with h2 | ⟨h2, _⟩ | ⟨b, base, tot, c, el, fr, h2, h3, h4, h5, h6, h7⟩
  · cases h1 with
    | ptr h => rw [h2] at h; simp at h
    | ptrD h => rw [h2] at h; simp at h
  · cases h1 with
    | ptr h => rw [h2] at h; simp at h
    | ptrD h => rw [h2] at h; simp at h
  · cases h1 with
    | ptr h =>
      rw [h2] at h
      injection h with h; injection h with e1 e2 e3 e4
      subst e1; subst e2; subst e3; subst e4
      exact ⟨_, _, _, c, el, fr, rfl, h2, h3, h4, h5, h6, h7⟩
    | ptrD h => rw [h2] at h; simp at h

theorem window_get {cells : List AV} {l : List Value} {base off : Nat} {y : AV} (hv : VRL F μ w cells ((l.drop base).take cells.length)) (hy : cells[off]? = some y) :
    ∃ v, l[base + off]? = some v ∧ VR F μ w y v := by
  obtain ⟨v, h1, h2⟩ := hv.get hy
  have hlt : off < cells.length := by
    rcases Nat.lt_or_ge off cells.length with k | k
    · exact k
    · simp [List.getElem?_eq_none k] at hy
  simp only [List.getElem?_take, hlt, if_true, List.getElem?_drop] at h1
  exact ⟨v, h1, h2⟩

theorem window_sub {cells : List AV} {l : List Value} {base off k : Nat} (hv : VRL F μ w cells ((l.drop base).take cells.length)) (hk : off + k ≤ cells.length) :
    VRL F μ w ((cells.drop off).take k) ((l.drop (base + off)).take k) := by
  have := (hv.drop off).take k
  have e : ((((l.drop base).take cells.length).drop off).take k) = ((l.drop (base + off)).take k) := by
    rw [List.drop_take, List.take_take, List.drop_drop, Nat.min_eq_left (by omega)]
  rw [e] at this
  exact this

theorem step_load {t : TypeId} {x : Operand} {o off esz : Nat} {cells : List AV} {y : AV} (ha : IsAgg P t false) (hx : opd env x = .ptr o off) (ho : hp[o]? = some (AObj.row esz cells))
    (hy : cells[off]? = some y) : Step P ⟨dst, .load t x, ty, pos, after, guard⟩ env hp (is y hp) := by
  refine Step.val fun F μ w a hr he => ?_
  obtain ⟨b, base, tot, c, el, fr, h1, h2, h3, h4, h5, h6, h7⟩ := he.ptr hr hx ho
  obtain ⟨v, g1, g2⟩ := window_get h6 hy
  refine ⟨v, ?_, g2⟩
  have : w.cell? ⟨b, base + off, none⟩ = some v := by simp [World.cell?, h3]; simpa using g1
  simp [execOp, h1, Instr.loadAt, Instr.sureAddr, loadVar, ha w, this]

theorem step_loadA {t : TypeId} {x : Operand} {o off esz k : Nat} {cells : List AV} (ha : IsAgg P t true) (hs : SizeOf P t k) (hx : opd env x = .ptr o off) (ho : hp[o]? = some (AObj.row esz cells))
    (hk : off + k ≤ cells.length) : Step P ⟨dst, .load t x, ty, pos, after, guard⟩ env hp (is (.agg ((cells.drop off).take k)) hp) := by
  refine Step.val fun F μ w a hr he => ?_
  obtain ⟨b, base, tot, c, el, fr, h1, h2, h3, h4, h5, h6, h7⟩ := he.ptr hr hx ho
  refine ⟨.agg ((c.toList.drop (base + off)).take k).toArray, ?_, .agg (by simpa using window_sub h6 hk)⟩
  have := run_loadL P (off := base + off) k h3 (by omega)
  simp [execOp, h1, Instr.loadAt, Instr.sureAddr, loadVar, ha w, hs w, this]

theorem EnvR.ip {a : Act} (h : EnvR F env μ w a.tmps) {x : Operand} {i : Nat} {cells : List AV} (hx : SL.opd env x = .ip cells i) :
    ∃ b off c el fr, a.eval x = .pointer (some ⟨b, off + i, none⟩) ∧ w.heap[b]? = some (Obj.cells c el fr) ∧ VRL F μ w cells ((c.toList.drop off).take cells.length) := by
  have h1 := h.opd x
  rw [hx] at h1
  generalize a.eval x = v at h1
  cases h1 with
  | ip h hb hF hx => exact ⟨_, _, _, _, _, rfl, h, hx⟩

theorem step_loadI {t : TypeId} {x : Operand} {i : Nat} {cells : List AV} {y : AV} (ha : IsAgg P t false) (hx : opd env x = .ip cells i)
    (hy : cells[i]? = some y) : Step P ⟨dst, .load t x, ty, pos, after, guard⟩ env hp (is y hp) := by
  refine Step.val fun F μ w a hr he => ?_
  obtain ⟨b, off, c, el, fr, h1, h3, h6⟩ := he.ip hx
  obtain ⟨v, g1, g2⟩ := window_get h6 hy
  refine ⟨v, ?_, g2⟩
  have : w.cell? ⟨b, off + i, none⟩ = some v := by simp [World.cell?, h3]; simpa using g1
  simp [execOp, h1, Instr.loadAt, Instr.sureAddr, loadVar, ha w, this]

theorem step_loadIA {t : TypeId} {x : Operand} {i k : Nat} {cells : List AV} (ha : IsAgg P t true) (hs : SizeOf P t k) (hx : opd env x = .ip cells i)
    (hk : i + k ≤ cells.length) : Step P ⟨dst, .load t x, ty, pos, after, guard⟩ env hp (is (.agg ((cells.drop i).take k)) hp) := by
  refine Step.val fun F μ w a hr he => ?_
  obtain ⟨b, off, c, el, fr, h1, h3, h6⟩ := he.ip hx
  refine ⟨.agg ((c.toList.drop (off + i)).take k).toArray, ?_, .agg (by simpa using window_sub h6 hk)⟩
  have hl := h6.length
  simp only [List.length_take, List.length_drop, Array.length_toList] at hl
  rcases Nat.eq_zero_or_pos k with hk0 | hk0
  · subst hk0
    simp [execOp, h1, Instr.loadAt, Instr.sureAddr, loadVar, ha w, hs w, loadCells, loadCellsFrom]
  · have := run_loadL P (off := off + i) k h3 (by omega)
    simp [execOp, h1, Instr.loadAt, Instr.sureAddr, loadVar, ha w, hs w, this]

@[reducible] def cellsOf : AV → List AV
  | .agg xs => xs
  | x => [x]

theorem VR.cells {x : AV} {v : Value} (h : VR F μ w x v) (hx : (cellsOf x).all cellAV = true) : VRL F μ w (cellsOf x) v.cells.toList := by
  cases h with
  | agg h => exact h
  | any => simp [cellsOf, cellAV] at hx
  | tup h => simp [cellsOf, cellAV] at hx
  | sc h =>
    have : v.cells.toList = [v] := by cases v <;> first | rfl | (simp [plainV] at h)
    rw [this]
    exact .cons (.sc h) .nil
  | ptr h => exact .cons (.ptr h) .nil
  | ptrD h => exact .cons (.ptrD h) .nil
  | sl h hc hl => exact .cons (.sl h hc hl) .nil
  | slN h => exact .cons (.slN h) .nil
  | slD h => exact .cons (.slD h) .nil
  | slE h => exact .cons (.slE h) .nil
  | nil => exact .cons .nil .nil
  | im0 => exact .cons .im0 .nil
  | im h hb hF hn hn2 hy => exact .cons (.im h hb hF hn hn2 hy) .nil
  | ip h hb hF hy => exact .cons (.ip h hb hF hy) .nil
  | fn h1 h2 => exact .cons (.fn h1 h2) .nil
  | ifc h => exact .cons (.ifc h) .nil

theorem step_store {t : TypeId} {x y : Operand} {o off esz k : Nat} {cells : List AV} {v : AV} (hs : SizeOf P t k) (hx : opd env x = .ptr o off) (ho : hp[o]? = some (AObj.row esz cells))
    (hy : opd env y = v) (hc : (cellsOf v).all cellAV = true) (hk : (cellsOf v).length = k) (hl : off + k ≤ cells.length) :
    Step P ⟨dst, .store t x y, ty, pos, after, guard⟩ env hp (is (.sc undef) (hp.set o (.row esz (splice cells off (cellsOf v))))) := by
  refine Step.of_skip fun F μ w a hr he => ?_
  obtain ⟨b, base, tot, c, el, fr, h1, h2, h3, h4, h5, h6, h7⟩ := he.ptr hr hx ho
  have hv := he.opd y
  rw [hy] at hv
  have hvl := hv.cells hc
  have hsz : (a.eval y).cells.size = k := by have := hvl.length; simp at this; omega
  obtain ⟨w', c', r1, r2, r3, r4, r5⟩ := run_storeL P (o := base + off) (a.eval y).cells.toList 0 w c h3 (by simp; omega) (h4 ▸ h7) (hvl.oneCell hc)
  obtain ⟨g1, g2⟩ := hr.write (off := off) ho h2 h3 hvl (by omega) r2 r3 (by simpa using r4) r5
  refine ⟨w', μ, ?_, g1, g2⟩
  have r1' : (storeCells ⟨b, base + off, none⟩ (a.eval y).cells.toList).run P w = .ok () w' := r1
  simp [execOp, h1, Instr.storeAt, Instr.sureAddr, storeVar, hs w, hsz, r1']

theorem litL_take (l : List Value) : VRL F μ w (l.map litC) (l.take (l.map litC).length) := by
  rw [List.length_map, List.take_of_length_le (Nat.le_refl _)]; exact litL_rel l

theorem NF_zero (k : Nat) : NF (0, 0) k := fun i _ h => by simp at h

theorem step_alloc {t : TypeId} {z : Value} (hz : ZeroV P t z) : Step P ⟨dst, .alloc t, ty, pos, after, guard⟩ env hp (is (.ptr hp.length 0) (hp ++ [.row 1 (z.cells.toList.map litC)])) := by
  refine Step.of fun F μ w a hr he => ?_
  have h := hr.push (c := z.cells) (el := t) (esz := 1) (xs := z.cells.toList.map litC) (litL_take _) (by simp) (NF_zero _) (w' := { w with heap := w.heap.push (.cells z.cells t) }) rfl
  refine ⟨.pointer (some ⟨w.heap.size, 0, none⟩), _, _, ?_, h.1, ?_, h.2⟩
  · simp [execOp, Instr.alloc, hz w, newVar, newRow]
  · exact .ptr (base := 0) (off := 0) (by rw [← hr.len, List.getElem?_append_right (Nat.le_refl _), Nat.sub_self]; rfl)

theorem step_box {t : TypeId} {x : Operand} {v : AV} (hx : opd env x = v) (hc : (cellsOf v).all cellAV = true) :
    Step P ⟨dst, .box t x, ty, pos, after, guard⟩ env hp (is (.ptr hp.length 0) (hp ++ [.row 1 (cellsOf v)])) := by
  refine Step.of fun F μ w a hr he => ?_
  have hv := he.opd x
  rw [hx] at hv
  have hvl := hv.cells hc
  have hlen := hvl.length
  have h := hr.push (c := (a.eval x).cells) (el := t) (esz := 1) (xs := cellsOf v) (by rw [hlen, List.take_of_length_le (Nat.le_refl _)]; exact hvl) (by simp at hlen; omega) (NF_zero _)
    (w' := { w with heap := w.heap.push (.cells (a.eval x).cells t) }) rfl
  refine ⟨.pointer (some ⟨w.heap.size, 0, none⟩), _, _, ?_, h.1, ?_, h.2⟩
  · simp [execOp, Instr.box, newVar, newRow]
  · exact .ptr (base := 0) (off := 0) (by rw [← hr.len, List.getElem?_append_right (Nat.le_refl _), Nat.sub_self]; rfl)

/-- Where a field begins (its cells are not none). -/
def FieldOff (P : Program) (s f k : Nat) : Prop := ∃ fields fld, P.underlying s = some (.struct fields) ∧ fields[f]? = some fld ∧ fld.offset = k ∧ ∃ i, P.info? fld.type = some i ∧ i.size ≠ 0

def fieldOffB (P : Program) (s f : Nat) : Option Nat :=
  match P.underlying s with
  | some (.struct fields) => match fields[f]? with
    | some fld => match P.info? fld.type with
      | some i => if i.size = 0 then none else some fld.offset
      | none => none
    | none => none
  | _ => none

theorem FieldOff.mk {s f k : Nat} (h : fieldOffB P s f = some k) : FieldOff P s f k := by
  unfold fieldOffB at h
  split at h
  · rename_i fields h1
    split at h
    · rename_i fld h2
      split at h
      · rename_i i h3
        split at h
        · simp at h
        · rename_i h4
          exact ⟨fields, fld, h1, h2, Option.some.inj h, i, h3, h4⟩
      · simp at h
    · simp at h
  · simp at h

theorem run_und {t : TypeId} {d : TypeDesc} (h : P.underlying t = some d) : (underlying t).run P w = .ok d w := by simp [underlying, h]

theorem run_fieldAt {s f k : Nat} (h : FieldOff P s f k) {b off : Nat} : (Instr.fieldAt s (.pointer (some ⟨b, off, none⟩)) f).run P w = .ok (.pointer (some ⟨b, off + k, none⟩)) w := by
  obtain ⟨fields, fld, h1, h2, h3, i, h4, h5⟩ := h
  have hadd : (⟨b, off, none⟩ : Addr).add k = ⟨b, off + k, none⟩ := by unfold Addr.add; split <;> simp_all
  have hsz : (sizeOf fld.type).run P w = .ok i.size w := by simp [sizeOf, typeInfo, h4]
  simp [Instr.fieldAt, run_und h1, h2, Instr.sureAddr, fieldPlace, hsz, h5, h3, hadd]

theorem step_field {s f k : Nat} {x : Operand} {o off esz : Nat} {cells : List AV} (hf : FieldOff P s f k) (hx : opd env x = .ptr o off) (ho : hp[o]? = some (AObj.row esz cells)) :
    Step P ⟨dst, .fieldAddr s x f, ty, pos, after, guard⟩ env hp (is (.ptr o (off + k)) hp) := by
  refine Step.val fun F μ w a hr he => ?_
  obtain ⟨b, base, tot, c, el, fr, h1, h2, h3, h4, h5, h6, h7⟩ := he.ptr hr hx ho
  refine ⟨.pointer (some ⟨b, base + off + k, none⟩), ?_, ?_⟩
  · simp [execOp, h1, run_fieldAt hf]
  · rw [Nat.add_assoc]; exact .ptr h2

theorem step_fieldI {s f k : Nat} {x : Operand} {i : Nat} {cells : List AV} (hf : FieldOff P s f k) (hx : opd env x = .ip cells i) :
    Step P ⟨dst, .fieldAddr s x f, ty, pos, after, guard⟩ env hp (is (.ip cells (i + k)) hp) := by
  refine Step.val fun F μ w a hr he => ?_
  have h1 := he.opd x
  rw [hx] at h1
  generalize ha : a.eval x = v at h1
  cases h1 with
  | ip h hb hF hx =>
    rename_i b off c el fr
    refine ⟨.pointer (some ⟨b, off + i + k, none⟩), ?_, ?_⟩
    · simp [execOp, ha, run_fieldAt hf]
    · rw [Nat.add_assoc]; exact .ip h hb hF hx

theorem step_lenS {t : TypeId} {x : Operand} {s : ByteArray} (ht : Und P t .string) (hx : opd env x = .sc (.string s)) :
    Step P ⟨dst, .call ⟨.builtin .len, #[x], #[t]⟩, ty, pos, after, guard⟩ env hp (is (.sc (.int .i64 s.size)) hp) :=
  Step.val fun F μ w a hr he => ⟨_, by simp [execOp, resolve, he.sc hx, invoke, builtin, Builtin.len_, ht w, goInt], .sc rfl⟩

theorem step_lenL {t e : TypeId} {x : Operand} {o off len esz : Nat} {cells : List AV} (ht : Und P t (.slice e)) (hx : opd env x = .sl o off len) (ho : hp[o]? = some (AObj.row esz cells)) :
    Step P ⟨dst, .call ⟨.builtin .len, #[x], #[t]⟩, ty, pos, after, guard⟩ env hp (is (.sc (.int .i64 len)) hp) := by
  refine Step.val fun F μ w a hr he => ?_
  have h1 := he.opd x
  rw [hx] at h1
  generalize ha : a.eval x = v at h1
  refine ⟨.int .i64 len, ?_, .sc rfl⟩
  rcases hr.row ho with h2 | ⟨h2, _⟩ | ⟨b, base, tot, c, el, fr, h2, h3, h4, h5, h6, h7⟩
  · cases h1 with
    | sl h hc hl => rw [h2] at h; simp at h
    | slN h => rw [h2] at h; simp at h
    | slE h => rw [h2] at h; simp at h
    | slD h => rw [h2] at h; simp at h
  · cases h1 with
    | sl h hc hl => rw [h2] at h; simp at h
    | slN h => rw [h2] at h; simp at h
    | slE h => simp [execOp, resolve, ha, invoke, builtin, Builtin.len_, ht w, goInt]
    | slD h => rw [h2] at h; simp at h
  · cases h1 with
    | sl h hc hl => simp [execOp, resolve, ha, invoke, builtin, Builtin.len_, ht w, goInt]
    | slN h => simp [execOp, resolve, ha, invoke, builtin, Builtin.len_, ht w, goInt]
    | slE h => rw [h2] at h; simp at h
    | slD h => rw [h2] at h; simp at h

theorem step_lenN {t e : TypeId} {x : Operand} (ht : Und P t (.slice e)) (hx : opd env x = .nil) :
    Step P ⟨dst, .call ⟨.builtin .len, #[x], #[t]⟩, ty, pos, after, guard⟩ env hp (is (.sc (.int .i64 0)) hp) := by
  refine Step.val fun F μ w a hr he => ?_
  have h1 := he.opd x
  rw [hx] at h1
  generalize ha : a.eval x = v at h1
  refine ⟨.int .i64 0, ?_, .sc rfl⟩
  cases h1
  simp [execOp, resolve, ha, invoke, builtin, Builtin.len_, ht w, goInt]

theorem step_lenI {t e : TypeId} {x : Operand} {esz k : Nat} {cells : List AV} (ht : Und P t (.slice e)) (hx : opd env x = .im esz cells) (hk : k * esz = cells.length) (he : 0 < esz) :
    Step P ⟨dst, .call ⟨.builtin .len, #[x], #[t]⟩, ty, pos, after, guard⟩ env hp (is (.sc (.int .i64 k)) hp) := by
  refine Step.val fun F μ w a hr hen => ?_
  have h1 := hen.opd x
  rw [hx] at h1
  generalize ha : a.eval x = v at h1
  refine ⟨.int .i64 k, ?_, .sc rfl⟩
  cases h1 with
  | im0 =>
    have : k = 0 := by
      have h0 : k * esz = 0 := hk
      rcases Nat.mul_eq_zero.mp h0 with h1 | h1 <;> omega
    subst this
    simp [execOp, resolve, ha, invoke, builtin, Builtin.len_, ht w, goInt]
  | im h hb hF hn hn2 hx =>
    have : k = _ := Nat.eq_of_mul_eq_mul_right he (hk.trans hn.symm)
    subst this
    simp [execOp, resolve, ha, invoke, builtin, Builtin.len_, ht w, goInt]

end Go.SL
