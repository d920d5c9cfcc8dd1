/-
  Operations evaluated: what one does is computed from the abstract values, and the computed is what the operation does.
-/
import Derived.Test.YthppdlmildfnnaaGreatDoorSbN1
import Derived.Laws.StructEq
import Derived.ChangeKeysEq
import Derived.Maps.RangeRun
set_option linter.unusedVariables false
set_option linter.unusedSimpArgs false
set_option linter.unusedSectionVars false
namespace Go.SL
open Go
variable [Tabs]
variable {P : Program} {n : Nat} {F : Nat → Prop} {μ μ' : List Nm} {w w' : World} {env : Nat → AV} {hp : List AObj} {dst : Option Nat} {ty : TypeId} {pos : String} {after : Array Edge} {guard : Option (Nat × Bool)}

def nth {α : Type} : List α → Nat → Option α
  | [], _ => none
  | x :: _, 0 => some x
  | _ :: l, n + 1 => nth l n
theorem nth_eq {α : Type} : ∀ (l : List α) (n : Nat), nth l n = l[n]?
  | [], _ => rfl
  | _ :: _, 0 => rfl
  | _ :: l, n + 1 => by simpa [nth] using nth_eq l n

def szB (P : Program) (t : TypeId) : Option Nat := match P.info? t with | some i => some i.size | none => none
theorem szB.ok {t : TypeId} {k : Nat} (h : szB P t = some k) : SizeOf P t k := by
  intro w; unfold szB at h; split at h
  · rename_i i hi; injection h with h; subst h; simp [sizeOf, typeInfo, hi]
  · simp at h
def aggB (P : Program) (t : TypeId) : Option Bool := match P.underlying t with | some (.struct _) => some true | some (.array _ _) => some true | some _ => some false | none => none
theorem aggB.ok {t : TypeId} {b : Bool} (h : aggB P t = some b) : IsAgg P t b := by
  intro w; unfold aggB at h
  split at h
  · rename_i f hu; injection h with h; subst h; simp [isAgg, underlying, hu]
  · rename_i k e hu; injection h with h; subst h; simp [isAgg, underlying, hu]
  · rename_i d h1 h2 hu; injection h with h; subst h
    have e : (underlying t).run P w = .ok d w := run_und hu
    simp only [isAgg, Sem.run_bind, e, Result.andThen_ok]
    cases d <;> first | rfl | exact absurd hu (h1 _) | exact absurd hu (h2 _ _)
  · simp at h
def zeroB (P : Program) (t : TypeId) : Option Value := match P.info? t with | some i => i.zero | none => none
theorem zeroB.ok {t : TypeId} {z : Value} (h : zeroB P t = some z) : ZeroV P t z := by
  intro w; unfold zeroB at h; split at h
  · rename_i i hi; simp [zeroValue, typeInfo, hi, h]
  · simp at h
def eiB (P : Program) (e : TypeId) : Option (Value × Nat × Nat) := match P.info? e with | some i => (match i.zero with | some z => some (z, i.size, i.bytes) | none => none) | none => none
theorem eiB.ok {e : TypeId} {z : Value} {a b : Nat} (h : eiB P e = some (z, a, b)) : EI P e z a b := by
  unfold eiB at h; unfold EI; split at h
  · rename_i i hi; split at h
    · rename_i z' hz; injection h with h; injection h with h1 h2; injection h2 with h2 h3; subst h1; subst h2; subst h3; simp [hi, hz]
    · simp at h
  · simp at h

abbrev R := Option (Kd × List Prop)
def rq (x : AV) : R := some (.q x [], [])
def rq1 (x : AV) (o : Nat) (row : AObj) : R := some (.q x [(o, row)], [])
def ral (e : Nat) (cs : List AV) (mk : Nat → AV) : R := some (.al e cs mk, [])

/-- What a kind says of an operation. -/
def OK1 (P : Program) (o : Oper) (env : Nat → AV) (hp : List AObj) : Kd → Prop
  | .sk => False
  | .q r O => StepQ P o env r O ∧ ∀ p ∈ O, hp[p.1]? = some p.2
  | .al e cs mk => StepAl P o env e cs mk
  | .ef r hp' => Step P o env hp (is r hp') ∧ hp.length ≤ hp'.length

/-- The computed is right. -/
def Ok (P : Program) (o : Oper) (env : Nat → AV) (hp : List AObj) (r : R) : Prop := ∀ k cs, r = some (k, cs) → allP cs → OK1 P o env hp k

theorem Ok.none {o : Oper} : Ok P o env hp none := fun _ _ h => by simp at h
theorem Ok.q {o : Oper} {x : AV} (h : ∀ hp, Step P o env hp (is x hp)) : Ok P o env hp (rq x) := by
  intro k cs e _; injection e with e; injection e with e1 e2; subst e1
  exact ⟨fun hp _ => h hp, fun p hp => by simp at hp⟩
theorem Ok.q1 {o : Oper} {x : AV} {i : Nat} {row : AObj} (hi : hp[i]? = some row) (h : ∀ hp, hp[i]? = some row → Step P o env hp (is x hp)) : Ok P o env hp (rq1 x i row) := by
  intro k cs e _; injection e with e; injection e with e1 e2; subst e1
  exact ⟨fun hp hO => h hp (hO (i, row) (List.mem_singleton.2 rfl)), fun p hp => by rw [List.mem_singleton] at hp; subst hp; exact hi⟩
theorem Ok.al {o : Oper} {e : Nat} {cs : List AV} {mk : Nat → AV} (h : StepAl P o env e cs mk) : Ok P o env hp (ral e cs mk) := by
  intro k cs' e' _; injection e' with e'; injection e' with e1 e2; subst e1; exact h
theorem Ok.ef {o : Oper} {x : AV} {hp' : List AObj} {ps : List Prop} (hl : hp.length ≤ hp'.length) (h : allP ps → Step P o env hp (is x hp')) : Ok P o env hp (some (.ef x hp', ps)) := by
  intro k cs e hc; injection e with e; injection e with e1 e2; subst e1; subst e2; exact ⟨h hc, hl⟩
theorem Ok.qp {o : Oper} {x : AV} {ps : List Prop} (h : allP ps → ∀ hp, Step P o env hp (is x hp)) : Ok P o env hp (some (.q x [], ps)) := by
  intro k cs e hc; injection e with e; injection e with e1 e2; subst e1; subst e2
  exact ⟨fun hp _ => h hc hp, fun p hp => by simp at hp⟩

def evPick (c a b : AV) : R := match c with
  | .sc (.bool true) => rq a
  | .sc (.bool false) => rq b
  | _ => none
theorem evPick.ok {c x y : Operand} : Ok P ⟨dst, .pick c x y, ty, pos, after, guard⟩ env hp (evPick (opd env c) (opd env x) (opd env y)) := by
  unfold evPick; split
  · rename_i h; exact Ok.q fun hp => step_pick_t h rfl
  · rename_i h; exact Ok.q fun hp => step_pick_f h rfl
  · exact Ok.none

def evUn (op : UnOp) (x : AV) : R := match op, x with
  | .not, .sc (.bool b) => rq (.sc (.bool !b))
  | .neg, .sc (.int k m) => rq (.sc (.int k (k.wrap (0 - m))))
  | .xor, .sc (.int k m) => rq (.sc (.int k (k.wrap (BitVec.ofInt k.bits (if k.signed then -1 else k.max) ^^^ BitVec.ofInt k.bits m).toNat)))
  | _, _ => none
theorem evUn.ok {op : UnOp} {t : TypeId} {x : Operand} : Ok P ⟨dst, .unOp op t x, ty, pos, after, guard⟩ env hp (evUn op (opd env x)) := by
  unfold evUn; split
  · rename_i h; exact Ok.q fun hp => step_not h
  · rename_i h; exact Ok.q fun hp => step_neg h
  · rename_i h; exact Ok.q fun hp => step_xor1 h
  · exact Ok.none

def isZ : Int → Bool | .ofNat 0 => true | _ => false
theorem isZ.ok {q : Int} (h : isZ q = false) : q ≠ 0 := by rintro rfl; simp [isZ] at h
def nonneg : Int → Bool | .ofNat _ => true | .negSucc _ => false
theorem nonneg.ok {q : Int} (h : nonneg q = true) : 0 ≤ q := by cases q <;> simp_all [nonneg]

def evInt (op : BinOp) (k k' : IntKind) (p q : Int) : R := match op with
  | .shl => bif nonneg q then rq (.sc (.int k (k.wrap (p * 2 ^ min q.toNat k.bits)))) else none
  | .shr => bif nonneg q then rq (.sc (.int k (p.fdiv (2 ^ min q.toNat k.bits)))) else none
  | .quo => if k = k' then bif isZ q then none else rq (.sc (.int k (k.wrap (p.tdiv q)))) else none
  | .rem => if k = k' then bif isZ q then none else rq (.sc (.int k (p.tmod q))) else none
  | op => if k = k' then (match int2 op k p q with | some v => rq (.sc v) | none => none) else none
theorem evInt.ok {op : BinOp} {t t' : TypeId} {x y : Operand} {k k' : IntKind} {p q : Int} (hx : opd env x = .sc (.int k p)) (hy : opd env y = .sc (.int k' q)) :
    Ok P ⟨dst, .binOp op t x y t', ty, pos, after, guard⟩ env hp (evInt op k k' p q) := by
  unfold evInt; split
  · cases h : nonneg q
    · exact Ok.none
    · exact Ok.q fun hp => step_shl hx hy (nonneg.ok h)
  · cases h : nonneg q
    · exact Ok.none
    · exact Ok.q fun hp => step_shr hx hy (nonneg.ok h)
  · split
    · rename_i h; subst h
      cases h : isZ q
      · exact Ok.q fun hp => step_quo hx hy (isZ.ok h)
      · exact Ok.none
    · exact Ok.none
  · split
    · rename_i h; subst h
      cases h : isZ q
      · exact Ok.q fun hp => step_rem hx hy (isZ.ok h)
      · exact Ok.none
    · exact Ok.none
  · split
    · rename_i h; subst h
      split
      · rename_i v hv; exact Ok.q fun hp => step_int2 hx hy hv
      · exact Ok.none
    · exact Ok.none

def evStr (op : BinOp) (p q : ByteArray) : R := match op with
  | .add => some (.q (.sc (.string (p ++ q))) [], [p.size + q.size ≤ 9223372036854775807])
  | op => match str2 op p q with | some v => rq (.sc v) | none => none
theorem evStr.ok {op : BinOp} {t t' : TypeId} {x y : Operand} {p q : ByteArray} (hx : opd env x = .sc (.string p)) (hy : opd env y = .sc (.string q)) :
    Ok P ⟨dst, .binOp op t x y t', ty, pos, after, guard⟩ env hp (evStr op p q) := by
  unfold evStr; split
  · exact Ok.qp fun h hp => step_cat hx hy h.1
  · split
    · rename_i v hv; exact Ok.q fun hp => step_str2 hx hy hv
    · exact Ok.none

/-- A function value is nil or not. -/
theorem fn_inv {f : Nat} {a b : List AV} {v : Value} (h : VR F μ w (.fn f a b) v) : ∃ x y, v = .func (.func f) x y := by cases h; exact ⟨_, _, rfl⟩
theorem eqGuard_fn {op : BinOp} {t : TypeId} {x y : Operand} {f : Fn} {c d : Array Value} : (eqGuard op t x y (.func f c d) .nilFunc).run P w = .ok () w := by
  cases op <;> simp [eqGuard]
theorem eqGuard_nf {op : BinOp} {t : TypeId} {x y : Operand} : (eqGuard op t x y .nilFunc .nilFunc).run P w = .ok () w := by
  cases op <;> simp [eqGuard]
theorem run_eqFn {t : TypeId} {f : Fn} {c d : Array Value} {ps rs : Array TypeId} {v : Bool} (ht : P.underlying t = some (.func ps rs v)) : (Op.equal t (.func f c d) .nilFunc).run P w = .ok false w := by
  show (Op.equalIn (9999 + 1) t _ _).run P w = _
  have e : (underlying t).run P w = .ok (.func ps rs v) w := run_und ht
  unfold Op.equalIn
  simp only [Sem.run_bind, e, Result.andThen_ok, Sem.run_pure]
theorem run_eqNf {t : TypeId} {ps rs : Array TypeId} {v : Bool} (ht : P.underlying t = some (.func ps rs v)) : (Op.equal t .nilFunc .nilFunc).run P w = .ok true w := by
  show (Op.equalIn (9999 + 1) t _ _).run P w = _
  have e : (underlying t).run P w = .ok (.func ps rs v) w := run_und ht
  unfold Op.equalIn
  simp only [Sem.run_bind, e, Result.andThen_ok, Sem.run_pure]
theorem step_fnNil {op : BinOp} {t t' : TypeId} {x y : Operand} {f : Nat} {a b : List AV} {ps rs : Array TypeId} {v : Bool} (ht : P.underlying t = some (.func ps rs v)) (hx : opd env x = .fn f a b) (hy : opd env y = .sc .nilFunc) (ho : op = .eql ∨ op = .neq) :
    Step P ⟨dst, .binOp op t x y t', ty, pos, after, guard⟩ env hp (is (.sc (.bool (match op with | .eql => false | _ => true))) hp) :=
  Step.val fun F μ w a0 hr he => ⟨_, by
    obtain ⟨c, d, e⟩ := fn_inv (hx ▸ he.opd x)
    have e2 := he.sc hy
    have hg : (eqGuard op t x y (.func (.func f) c d) .nilFunc).run P w = .ok () w := eqGuard_fn
    simp only [execOp, e, e2, Sem.run_bind, hg, Result.andThen_ok]
    rcases ho with rfl | rfl
    · simp only [binOp, Sem.run_bind, run_eqFn ht, Result.andThen_ok]; rfl
    · simp only [binOp, Sem.run_bind, run_eqFn ht, Result.andThen_ok]; rfl, .sc rfl⟩
theorem step_nilNil {op : BinOp} {t t' : TypeId} {x y : Operand} {ps rs : Array TypeId} {v : Bool} (ht : P.underlying t = some (.func ps rs v)) (hx : opd env x = .sc .nilFunc) (hy : opd env y = .sc .nilFunc) (ho : op = .eql ∨ op = .neq) :
    Step P ⟨dst, .binOp op t x y t', ty, pos, after, guard⟩ env hp (is (.sc (.bool (match op with | .eql => true | _ => false))) hp) :=
  Step.val fun F μ w a0 hr he => ⟨_, by
    have e := he.sc hx
    have e2 := he.sc hy
    have hg : (eqGuard op t x y .nilFunc .nilFunc).run P w = .ok () w := eqGuard_nf
    simp only [execOp, e, e2, Sem.run_bind, hg, Result.andThen_ok]
    rcases ho with rfl | rfl
    · simp only [binOp, Sem.run_bind, run_eqNf ht, Result.andThen_ok]; rfl
    · simp only [binOp, Sem.run_bind, run_eqNf ht, Result.andThen_ok]; rfl, .sc rfl⟩

def isEq : BinOp → Option Bool | .eql => some true | .neq => some false | _ => none
def isBoolT (P : Program) (t : TypeId) : Bool := match P.underlying t with | some .bool => true | _ => false
def isFnT (P : Program) (t : TypeId) : Bool := match P.underlying t with | some (.func _ _ _) => true | _ => false
theorem isEq.ok {op : BinOp} {b : Bool} (h : isEq op = some b) : (op = .eql ∧ b = true) ∨ (op = .neq ∧ b = false) := by cases op <;> simp_all [isEq]

/-- A part of a struct. -/
def partAV (P : Program) (t : TypeId) (cells : List AV) (off : Nat) : Option AV := match aggB P t with
  | some true => match szB P t with
    | some k => some (.agg ((cells.drop off).take k))
    | none => none
  | some false => nth cells off
  | none => none
theorem partAV.ok {t : TypeId} {cells : List AV} {off : Nat} {x : AV} {cs : Array Value} (h : partAV P t cells off = some x) (hv : VRL F μ w cells cs.toList) : ∃ v, (part t cs off).run P w = .ok v w ∧ VR F μ w x v := by
  unfold partAV at h
  split at h
  · rename_i ha; split at h
    · rename_i k hk
      injection h with h; subst h
      refine ⟨.agg (cs.extract off (off + k)), by simp [part, aggB.ok ha w, szB.ok hk w], .agg ?_⟩
      have : (cs.extract off (off + k)).toList = (cs.toList.drop off).take k := by simp [List.extract_eq_take_drop]
      rw [this]
      exact VRL.take k (VRL.drop off hv)
    · simp at h
  · rename_i ha; rw [nth_eq] at h
    obtain ⟨v, h1, h2⟩ := hv.get h
    have h3 : cs[off]? = some v := by simpa using h1
    exact ⟨v, by simp [part, aggB.ok ha w, h3], h2⟩
  · simp at h

def eqF (rec : TypeId → AV → AV → Option Bool) (P : Program) (xs ys : List AV) : List Field → Option Bool
  | [] => some true
  | f :: fs => if f.name = "_" then eqF rec P xs ys fs else match partAV P f.type xs f.offset, partAV P f.type ys f.offset with
    | some a, some b => match rec f.type a b, eqF rec P xs ys fs with
      | some r, some r' => some (r && r')
      | _, _ => none
    | _, _ => none
def eqI (rec : TypeId → AV → AV → Option Bool) (P : Program) (e : TypeId) (c : Nat) (xs ys : List AV) : List Nat → Option Bool
  | [] => some true
  | i :: is => match partAV P e xs (i * c), partAV P e ys (i * c) with
    | some a, some b => match rec e a b, eqI rec P e c xs ys is with
      | some r, some r' => some (r && r')
      | _, _ => none
    | _, _ => none
/-- Are values the same? -/
def eqV (P : Program) : Nat → TypeId → AV → AV → Option Bool
  | 0, _, _, _ => none
  | d + 1, t, x, y => match P.underlying t with
    | some .bool => match x, y with
      | .sc (.bool a), .sc (.bool b) => some (a == b)
      | _, _ => none
    | some (.int _) => match x, y with
      | .sc (.int k a), .sc (.int k' b) => if k = k' then some (a == b) else none
      | _, _ => none
    | some .string => match x, y with
      | .sc (.string a), .sc (.string b) => some (a == b)
      | _, _ => none
    | some (.struct fs) => match x, y with
      | .agg xs, .agg ys => bif P.stoodInHeld t then none else eqF (eqV P d) P xs ys fs.toList
      | _, _ => none
    | some (.array n e) => match x, y with
      | .agg xs, .agg ys => match P.info? e with
        | some i => eqI (eqV P d) P e i.size xs ys (List.range n)
        | none => none
      | _, _ => none
    | _ => none

theorem eqF.ok {rec : TypeId → AV → AV → Option Bool} {d : Nat} (hrec : ∀ t x y b v u, rec t x y = some b → VR F μ w x v → VR F μ w y u → (Op.equalIn d t v u).run P w = .ok b w) {xs ys : List AV} {cs ds : Array Value}
    (hx : VRL F μ w xs cs.toList) (hy : VRL F μ w ys ds.toList) : ∀ (fs : List Field) (b : Bool), eqF rec P xs ys fs = some b → (Op.eqFields d cs ds fs).run P w = .ok b w
  | [], b, h => by simp only [eqF, Option.some.injEq] at h; subst h; simp [Op.eqFields]
  | f :: fs, b, h => by
    simp only [eqF] at h
    split at h
    · rename_i hn
      simp only [Op.eqFields, hn, ne_eq, not_true_eq_false, if_false]
      exact eqF.ok hrec hx hy fs b h
    · rename_i hn
      split at h
      · rename_i a c ha hc
        obtain ⟨v, h1, h2⟩ := partAV.ok ha hx
        obtain ⟨u, h3, h4⟩ := partAV.ok hc hy
        split at h
        · rename_i r r' hr hr'
          injection h with h; subst h
          have h5 := hrec _ _ _ _ _ _ hr h2 h4
          have h6 := eqF.ok hrec hx hy fs r' hr'
          simp only [Op.eqFields, hn, ne_eq, not_false_eq_true, if_true, Sem.run_bind, h1, h3, h5, Result.andThen_ok]
          cases r
          · simp
          · simpa using h6
        · simp at h
      · simp at h
theorem eqI.ok {rec : TypeId → AV → AV → Option Bool} {d : Nat} (hrec : ∀ t x y b v u, rec t x y = some b → VR F μ w x v → VR F μ w y u → (Op.equalIn d t v u).run P w = .ok b w) {e : TypeId} {c : Nat} {xs ys : List AV} {cs ds : Array Value}
    (hx : VRL F μ w xs cs.toList) (hy : VRL F μ w ys ds.toList) : ∀ (is : List Nat) (b : Bool), eqI rec P e c xs ys is = some b → (Op.eqItems d e c cs ds is).run P w = .ok b w
  | [], b, h => by simp only [eqI, Option.some.injEq] at h; subst h; simp [Op.eqItems]
  | i :: is, b, h => by
    simp only [eqI] at h
    split at h
    · rename_i a c' ha hc
      obtain ⟨v, h1, h2⟩ := partAV.ok ha hx
      obtain ⟨u, h3, h4⟩ := partAV.ok hc hy
      split at h
      · rename_i r r' hr hr'
        injection h with h; subst h
        have h5 := hrec _ _ _ _ _ _ hr h2 h4
        have h6 := eqI.ok hrec hx hy is r' hr'
        simp only [Op.eqItems, Sem.run_bind, h1, h3, h5, Result.andThen_ok]
        cases r
        · simp
        · simpa using h6
      · simp at h
    · simp at h
theorem eqV.ok : ∀ (d : Nat) (t : TypeId) (x y : AV) (b : Bool) (v u : Value), eqV P d t x y = some b → VR F μ w x v → VR F μ w y u → (Op.equalIn d t v u).run P w = .ok b w
  | 0, t, x, y, b, v, u, h, _, _ => by simp [eqV] at h
  | d + 1, t, x, y, b, v, u, h, hx, hy => by
    simp only [eqV] at h
    split at h
    · rename_i hu; split at h
      · injection h with h; subst h
        cases hx; cases hy
        have e : (underlying t).run P w = .ok .bool w := run_und hu
        unfold Op.equalIn; simp only [Sem.run_bind, e, Result.andThen_ok]; rfl
      · simp at h
    · rename_i k hu; split at h
      · split at h
        · rename_i hk; subst hk
          injection h with h; subst h
          cases hx; cases hy
          have e : (underlying t).run P w = .ok (.int k) w := run_und hu
          unfold Op.equalIn; simp only [Sem.run_bind, e, Result.andThen_ok, if_true]; rfl
        · simp at h
      · simp at h
    · rename_i hu; split at h
      · injection h with h; subst h
        cases hx; cases hy
        have e : (underlying t).run P w = .ok .string w := run_und hu
        unfold Op.equalIn; simp only [Sem.run_bind, e, Result.andThen_ok]; rfl
      · simp at h
    · rename_i fs hu; split at h
      · rename_i xs ys
        cases hs : P.stoodInHeld t
        · rw [hs] at h; simp only [cond_false] at h
          cases hx with | agg hx => cases hy with | agg hy =>
          have hf : P.fieldsOf t = fs := by simp [Program.fieldsOf, hu]
          rw [run_equalIn_struct w d t _ _ (by rw [hf]; exact hu) hs, hf]
          exact eqF.ok (fun t x y b v u h1 h2 h3 => eqV.ok d t x y b v u h1 h2 h3) hx hy _ _ h
        · rw [hs] at h; simp at h
      · simp at h
    · rename_i n e hu; split at h
      · rename_i xs ys
        split at h
        · rename_i i hi
          cases hx with | agg hx => cases hy with | agg hy =>
          have hsz : P.cellsOf e = i.size := by simp [Program.cellsOf, hi]
          rw [run_equalIn_array w d _ _ hu hi, hsz]
          exact eqI.ok (fun t x y b v u h1 h2 h3 => eqV.ok d t x y b v u h1 h2 h3) hx hy _ _ h
        · simp at h
      · simp at h
    · simp at h

theorem step_eqV {op : BinOp} {t t' : TypeId} {x y : Operand} {xs ys : List AV} {b : Bool} (hg : P.eqGuardType P.depth t = false) (hx : opd env x = .agg xs) (hy : opd env y = .agg ys) (ho : op = .eql ∨ op = .neq) (hb : eqV P 10000 t (.agg xs) (.agg ys) = some b) :
    Step P ⟨dst, .binOp op t x y t', ty, pos, after, guard⟩ env hp (is (.sc (.bool (match op with | .eql => b | _ => !b))) hp) :=
  Step.val fun F μ w a hr he => ⟨_, by
    have hvx := hx ▸ he.opd x
    have hvy := hy ▸ he.opd y
    have e1 : (Op.equal t (a.eval x) (a.eval y)).run P w = .ok b w := eqV.ok 10000 t _ _ b _ _ hb hvx hvy
    obtain ⟨c, d, hc, hd⟩ : ∃ c d, a.eval x = .agg c ∧ a.eval y = .agg d := by
      generalize a.eval x = v at hvx
      generalize a.eval y = u at hvy
      cases hvx; cases hvy; exact ⟨_, _, rfl, rfl⟩
    rw [hc, hd] at e1
    have hgd : (eqGuard op t x y (.agg c) (.agg d)).run P w = .ok () w := run_eqGuard_agg w op t x y c d hg
    simp only [execOp, hc, hd, Sem.run_bind, hgd, Result.andThen_ok]
    rcases ho with rfl | rfl
    · simp only [binOp, Sem.run_bind, e1, Result.andThen_ok]; rfl
    · simp only [binOp, Sem.run_bind, e1, Result.andThen_ok]; rfl, .sc rfl⟩

def evBin (P : Program) (op : BinOp) (t : TypeId) (x y : AV) : R := match x, y with
  | .sc (.int k p), .sc (.int k' q) => evInt op k k' p q
  | .sc (.string p), .sc (.string q) => evStr op p q
  | .sc (.bool p), .sc (.bool q) => bif isBoolT P t then (match op with | .eql => rq (.sc (.bool (p == q))) | .neq => rq (.sc (.bool !(p == q))) | _ => none) else none
  | .fn _ _ _, .sc .nilFunc => bif isFnT P t then (match op with | .eql => rq (.sc (.bool false)) | .neq => rq (.sc (.bool true)) | _ => none) else none
  | .agg xs, .agg ys => bif P.eqGuardType P.depth t then none else match eqV P 10000 t (.agg xs) (.agg ys) with
    | some b => (match op with | .eql => rq (.sc (.bool b)) | .neq => rq (.sc (.bool !b)) | _ => none)
    | none => none
  | .sc .nilFunc, .sc .nilFunc => bif isFnT P t then (match op with | .eql => rq (.sc (.bool true)) | .neq => rq (.sc (.bool false)) | _ => none) else none
  | _, _ => none
theorem isBoolT.ok {t : TypeId} (h : isBoolT P t = true) : Und P t .bool := by
  unfold isBoolT at h; split at h
  · rename_i hu; exact fun w => run_und hu
  · simp at h
theorem isFnT.ok {t : TypeId} (h : isFnT P t = true) : ∃ a b c, P.underlying t = some (.func a b c) := by
  unfold isFnT at h; split at h
  · rename_i hu; exact ⟨_, _, _, hu⟩
  · simp at h
theorem evBin.ok {op : BinOp} {t t' : TypeId} {x y : Operand} : Ok P ⟨dst, .binOp op t x y t', ty, pos, after, guard⟩ env hp (evBin P op t (opd env x) (opd env y)) := by
  unfold evBin; split
  · rename_i h1 h2; exact evInt.ok h1 h2
  · rename_i h1 h2; exact evStr.ok h1 h2
  · rename_i h1 h2
    cases hb : isBoolT P t
    · exact Ok.none
    · show Ok _ _ _ _ (match op with | .eql => _ | .neq => _ | _ => _)
      split
      · exact Ok.q fun hp => step_eqBool (isBoolT.ok hb) h1 h2
      · exact Ok.q fun hp => step_neBool (isBoolT.ok hb) h1 h2
      · exact Ok.none
  · rename_i h1 h2
    cases hb : isFnT P t
    · exact Ok.none
    · obtain ⟨_, _, _, ht⟩ := isFnT.ok hb
      show Ok _ _ _ _ (match op with | .eql => _ | .neq => _ | _ => _)
      split
      · exact Ok.q fun hp => step_fnNil ht h1 h2 (.inl rfl)
      · exact Ok.q fun hp => step_fnNil ht h1 h2 (.inr rfl)
      · exact Ok.none
  · rename_i xs ys h1 h2
    cases hg : P.eqGuardType P.depth t
    · simp only [cond_false]
      split
      · rename_i b hb
        split
        · exact Ok.q fun hp => step_eqV hg h1 h2 (.inl rfl) hb
        · exact Ok.q fun hp => step_eqV hg h1 h2 (.inr rfl) hb
        · exact Ok.none
      · exact Ok.none
    · exact Ok.none
  · rename_i h1 h2
    cases hb : isFnT P t
    · exact Ok.none
    · obtain ⟨_, _, _, ht⟩ := isFnT.ok hb
      show Ok _ _ _ _ (match op with | .eql => _ | .neq => _ | _ => _)
      split
      · exact Ok.q fun hp => step_nilNil ht h1 h2 (.inl rfl)
      · exact Ok.q fun hp => step_nilNil ht h1 h2 (.inr rfl)
      · exact Ok.none
  · exact Ok.none
end Go.SL

set_option linter.unusedVariables false
set_option linter.unusedSimpArgs false
set_option linter.unusedSectionVars false
namespace Go.SL
open Go
variable [Tabs]
variable {P : Program} {n : Nat} {F : Nat → Prop} {μ μ' : List Nm} {w w' : World} {env : Nat → AV} {hp : List AObj} {dst : Option Nat} {ty : TypeId} {pos : String} {after : Array Edge} {guard : Option (Nat × Bool)}

/-- Nothing in a key is unhashable. -/
def ckF (rec : TypeId → AV → Bool) (P : Program) (xs : List AV) : List Field → Bool
  | [] => true
  | f :: fs => if f.name = "_" then ckF rec P xs fs else match partAV P f.type xs f.offset with
    | some a => rec f.type a && ckF rec P xs fs
    | none => false
def ckV (P : Program) : Nat → TypeId → AV → Bool
  | 0, _, _ => false
  | d + 1, t, x => match P.underlying t with
    | some (.struct fs) => match x with
      | .agg xs => ckF (ckV P d) P xs fs.toList
      | _ => false
    | some .bool => true
    | some (.int _) => true
    | some .string => true
    | some (.pointer _) => true
    | _ => false
theorem ckF.ok {rec : TypeId → AV → Bool} {em : Bool} {d : Nat} (hrec : ∀ t x v, rec t x = true → VR F μ w x v → (Instr.checkKey em d t v).run P w = .ok () w) {xs : List AV} {cs : Array Value} (hx : VRL F μ w xs cs.toList) :
    ∀ (fs : List Field), ckF rec P xs fs = true → ((forIn fs PUnit.unit fun f _ => (do
      if f.name ≠ "_" then do Instr.checkKey em d f.type (← part f.type cs f.offset)
      pure (ForInStep.yield PUnit.unit) : Sem (ForInStep PUnit))) : Sem PUnit).run P w = .ok PUnit.unit w
  | [], _ => by simp
  | f :: fs, h => by
    simp only [ckF] at h
    split at h
    · rename_i hn
      simp only [List.forIn_cons, hn, ne_eq, not_true_eq_false, if_false, Sem.run_bind, Sem.run_pure, Result.andThen_ok]
      exact ckF.ok hrec hx fs h
    · rename_i hn
      split at h
      · rename_i a ha
        simp only [Bool.and_eq_true] at h
        obtain ⟨v, h1, h2⟩ := partAV.ok ha hx
        have h3 := hrec _ _ _ h.1 h2
        simp only [List.forIn_cons, hn, ne_eq, not_false_eq_true, if_true, Sem.run_bind, h1, h3, Sem.run_pure, Result.andThen_ok]
        exact ckF.ok hrec hx fs h.2
      · simp at h
theorem ckV.ok {em : Bool} : ∀ (d : Nat) (t : TypeId) (x : AV) (v : Value), ckV P d t x = true → VR F μ w x v → (Instr.checkKey em d t v).run P w = .ok () w
  | 0, t, x, v, h, _ => by simp [ckV] at h
  | d + 1, t, x, v, h, hx => by
    simp only [ckV] at h
    split at h
    · rename_i fs hu; split at h
      · rename_i xs
        cases hx with | agg hx =>
        unfold Instr.checkKey
        simp only [Sem.run_bind, run_underlying hu, Result.andThen_ok, ← Array.forIn_toList]
        have := ckF.ok (em := em) (d := d) (P := P) (fun t x v h1 h2 => ckV.ok d t x v h1 h2) hx fs.toList h
        simp at this ⊢
        rw [this]; rfl
      · simp at h
    · rename_i hu; unfold Instr.checkKey; simp [Sem.run_bind, run_underlying hu, Result.andThen_ok]
    · rename_i hu; unfold Instr.checkKey; simp [Sem.run_bind, run_underlying hu, Result.andThen_ok]
    · rename_i hu; unfold Instr.checkKey; simp [Sem.run_bind, run_underlying hu, Result.andThen_ok]
    · rename_i hu; unfold Instr.checkKey; simp [Sem.run_bind, run_underlying hu, Result.andThen_ok]
    · simp at h

/-- Where a key stands. -/
def findAV (P : Program) (kt : TypeId) (k : AV) : List AV → Nat → Option (Option Nat)
  | [], _ => some none
  | x :: xs, i => match eqV P 10000 kt k x with
    | some true => some (some i)
    | some false => findAV P kt k xs (i + 1)
    | none => none
def atE (es : List MapEntry) (i : Nat) (j : Nat) : Option (Nat × Value) := match es[j - i]? with | some e => some (j, e.val) | none => none
theorem findAV.ge {kt : TypeId} {k : AV} : ∀ {xs : List AV} {i j : Nat}, findAV P kt k xs i = some (some j) → i ≤ j ∧ j < i + xs.length
  | [], _, _, h => by simp [findAV] at h
  | x :: xs, i, j, h => by
    simp only [findAV] at h
    split at h
    · simp only [Option.some.injEq] at h; subst h; simp
    · have := findAV.ge h; simp; omega
    · simp at h

theorem findAsk.ok {kt : TypeId} {k : AV} {kv : Value} (hk : VR F μ w k kv) : ∀ (xs : List AV) (es : List MapEntry) (i : Nat) (r : Option Nat), VRL F μ w xs (es.map (·.key)) → findAV P kt k xs i = some r →
    (Instr.findAsking kt kv es i).run P w = .ok (r.bind (atE es i)) w
  | [], es, i, r, hx, h => by
    cases es with
    | cons e es => cases hx
    | nil => simp only [findAV, Option.some.injEq] at h; subst h; simp [Instr.findAsking]
  | x :: xs, es, i, r, hx, h => by
    cases es with
    | nil => cases hx
    | cons e es =>
      simp only [List.map_cons] at hx
      cases hx with | cons h1 h2 =>
      simp only [findAV] at h
      split at h
      · rename_i he
        simp only [Option.some.injEq] at h; subst h
        have := eqV.ok (P := P) 10000 kt _ _ true _ _ he hk h1
        simp [Instr.findAsking, Op.equal, Op.maxDepth, this, atE]
      · rename_i he
        have := eqV.ok (P := P) 10000 kt _ _ false _ _ he hk h1
        have ih := findAsk.ok hk xs es (i + 1) r h2 h
        simp only [Instr.findAsking, Op.equal, Op.maxDepth, Sem.run_bind, this, Result.andThen_ok, Bool.false_eq_true, if_false, ih]
        cases r with
        | none => rfl
        | some j =>
          have hj := findAV.ge h
          simp only [Option.bind_some, atE]
          have e1 : j - i = (j - (i + 1)) + 1 := by omega
          rw [e1, List.getElem?_cons_succ]
      · simp at h

def simpleT : TypeDesc → Bool | .bool => true | .int _ => true | .string => true | _ => false
theorem sameNow.ok {dd : Nat} {kt : TypeId} {d : TypeDesc} (hu : P.underlying kt = some d) (hd : simpleT d = true) {k x : AV} {kv xv : Value} {b : Bool} (hk : VR F μ w k kv) (hx : VR F μ w x xv) (h : eqV P (dd + 1) kt k x = some b) : Instr.sameNow d kv xv = some b := by
  simp only [eqV, hu] at h
  cases d with
  | bool =>
    simp only at h
    split at h
    · cases hk; cases hx; simpa [Instr.sameNow] using h
    · simp at h
  | int q =>
    simp only at h
    split at h
    · split at h
      · rename_i e; subst e; cases hk; cases hx; simpa [Instr.sameNow] using h
      · simp at h
    · simp at h
  | string =>
    simp only at h
    split at h
    · cases hk; cases hx; simpa [Instr.sameNow] using h
    · simp at h
  | _ => simp [simpleT] at hd
theorem findNow.simple {kt : TypeId} {d : TypeDesc} (hu : P.underlying kt = some d) (hd : simpleT d = true) {k : AV} {kv : Value} (hk : VR F μ w k kv) : ∀ (xs : List AV) (es : List MapEntry) (i : Nat) (r : Option Nat), VRL F μ w xs (es.map (·.key)) → findAV P kt k xs i = some r →
    Instr.findNow d kv es i = some (r.bind (atE es i))
  | [], es, i, r, hx, h => by
    cases es with
    | cons e es => cases hx
    | nil => simp only [findAV, Option.some.injEq] at h; subst h; simp [Instr.findNow]
  | x :: xs, es, i, r, hx, h => by
    cases es with
    | nil => cases hx
    | cons e es =>
      simp only [List.map_cons] at hx
      cases hx with | cons h1 h2 =>
      simp only [findAV] at h
      split at h
      · rename_i he
        simp only [Option.some.injEq] at h; subst h
        simp [Instr.findNow, sameNow.ok (dd := 9999) hu hd hk h1 he, atE]
      · rename_i he
        have ih := findNow.simple hu hd hk xs es (i + 1) r h2 h
        simp only [Instr.findNow, sameNow.ok (dd := 9999) hu hd hk h1 he, ih]
        cases r with
        | none => rfl
        | some j =>
          have hj := findAV.ge h
          simp only [Option.bind_some, atE]
          have e1 : j - i = (j - (i + 1)) + 1 := by omega
          rw [e1, List.getElem?_cons_succ]
      · simp at h
theorem findNow.other {d : TypeDesc} (hd : simpleT d = false) {kv : Value} : ∀ (es : List MapEntry), Instr.findNow d kv es 0 = some none ∧ es = [] ∨ Instr.findNow d kv es 0 = none
  | [] => .inl ⟨rfl, rfl⟩
  | e :: es => .inr (by
    have : Instr.sameNow d kv e.key = none := by
      cases d <;> simp only [simpleT] at hd <;> first | rfl | (simp at hd)
    simp [Instr.findNow, this])
theorem findKey.ok {kt : TypeId} {d : TypeDesc} (hu : P.underlying kt = some d) {k : AV} {kv : Value} (hk : VR F μ w k kv) {xs : List AV} {es : List MapEntry} {r : Option Nat} (hx : VRL F μ w xs (es.map (·.key))) (h : findAV P kt k xs 0 = some r) :
    (Instr.findKey kt kv es).run P w = .ok (r.bind (atE es 0)) w := by
  cases hd : simpleT d
  · rcases findNow.other hd (kv := kv) es with ⟨h1, h2⟩ | h1
    · subst h2
      cases xs with
      | cons x xs => cases hx
      | nil =>
        simp only [findAV, Option.some.injEq] at h; subst h
        simp [Instr.findKey, run_underlying hu, h1]
    · simp only [Instr.findKey, Sem.run_bind, run_underlying hu, Result.andThen_ok, h1]
      exact findAsk.ok hk xs es 0 r hx h
  · simp only [Instr.findKey, Sem.run_bind, run_underlying hu, Result.andThen_ok, findNow.simple hu hd hk xs es 0 r hx h]; rfl

theorem getMap {r : Nat} {es : Array MapEntry} {clock : Nat} (hb : w.heap[r]? = some (.map es clock)) : (getObj r).run P w = .ok (.map es clock) w := by
  simp [getObj, Sem.run, hb]
theorem setOb {r : Nat} {x : Obj} (o : Obj) (hb : w.heap[r]? = some x) (hx : ∀ c e f, x ≠ .cells c e f) : (setObj r o).run P w = .ok () { w with heap := w.heap.setIfInBounds r o } := by
  cases x <;> first | exact absurd rfl (hx _ _ _) | simp [setObj, Sem.run, hb]

/-- A map that lies somewhere: its entries. -/
theorem HR.mapAt (hr : HR F hp μ w) {o : Nat} {births : List Nat} {clock : Nat} {cells : List AV} {v : Value} (ho : hp[o]? = some (.ob (.map births clock) cells)) (hv : VR F μ w (.mp o) v) :
    ∃ b esz tot es, v = .map (some b) ∧ μ[o]? = some (Nm.at b 0 esz tot) ∧ w.heap[b]? = some (.map es clock) ∧ es.toList.map (·.born) = births ∧
      VRL F μ w (cells.take births.length) (es.toList.map (·.key)) ∧ VRL F μ w (cells.drop births.length) (es.toList.map (·.val)) ∧ cells.length = births.length + births.length := by
  cases hv with
  | mpD h => exact absurd h (hr.live o _ ho (by simp))
  | mp h =>
    obtain ⟨_, y, vs, h1, h2, h3⟩ := hr.objo h ho
    cases h2 with
    | map =>
      rename_i es
      have e1 : (es.toList.map (·.born)).length = es.toList.length := by simp
      refine ⟨_, _, _, es, rfl, h, h1, rfl, ?_, ?_, ?_⟩
      · have := h3.take (es.toList.map (·.born)).length
        rw [e1] at this ⊢
        rwa [List.take_left' (by simp)] at this
      · have := h3.drop (es.toList.map (·.born)).length
        rw [e1] at this ⊢
        rwa [List.drop_left' (by simp)] at this
      · have := h3.length; simp at this; simp; omega

def mapT (P : Program) (t : TypeId) : Option (TypeId × TypeId) := match P.underlying t with | some (.map k e) => some (k, e) | _ => none
theorem mapT.ok {t k e : TypeId} (h : mapT P t = some (k, e)) : P.underlying t = some (.map k e) := by
  unfold mapT at h; split at h
  · rename_i hu; injection h with h; injection h with h1 h2; subst h1; subst h2; exact hu
  · simp at h
theorem ckV.und {d : Nat} {t : TypeId} {x : AV} (h : ckV P d t x = true) : ∃ u, P.underlying t = some u := by
  cases d with
  | zero => simp [ckV] at h
  | succ d =>
    cases hu : P.underlying t with
    | none => simp [ckV, hu] at h
    | some u => exact ⟨u, rfl⟩
def okV (commaOk : Bool) (x : AV) (b : Bool) : AV := bif commaOk then .tup [x, .sc (.bool b)] else x
theorem okV.ok {commaOk b : Bool} {x : AV} {v : Value} (h : VR F μ w x v) : VR F μ w (okV commaOk x b) (if commaOk then .tuple #[v, .bool b] else v) := by
  cases commaOk
  · exact h
  · exact .tup (.cons h (.cons (.sc rfl) .nil))

theorem step_lookup {t kt et : TypeId} {m k : Operand} {commaOk : Bool} {o : Nat} {births : List Nat} {clock : Nat} {cells : List AV} {j : Nat} {y : AV} (ht : P.underlying t = some (.map kt et)) (hm : opd env m = .mp o)
    (ho : hp[o]? = some (.ob (.map births clock) cells)) (hc : ckV P 10000 kt (opd env k) = true) (hf : findAV P kt (opd env k) (cells.take births.length) 0 = some (some j)) (hy : cells[births.length + j]? = some y) :
    Step P ⟨dst, .lookup t m k commaOk, ty, pos, after, guard⟩ env hp (is (okV commaOk y true) hp) :=
  Step.val fun F μ w a hr he => by
    have hv := hm ▸ he.opd m
    obtain ⟨b, esz, tot, es, e1, e2, e3, e4, e5, e6, e7⟩ := hr.mapAt ho hv
    obtain ⟨u, hu⟩ := ckV.und hc
    have h1 := ckV.ok (em := es.isEmpty) 10000 kt _ _ hc (he.opd k)
    have h2 := findKey.ok hu (he.opd k) e5 hf
    obtain ⟨v, g1, g2⟩ := e6.get (i := j) (by rw [List.getElem?_drop]; exact hy)
    rw [List.getElem?_map] at g1
    cases hj : es.toList[j]? with
    | none => rw [hj] at g1; simp at g1
    | some e =>
      rw [hj] at g1; simp only [Option.map_some, Option.some.injEq] at g1; subst g1
      have h3 : (some j).bind (atE es.toList 0) = some (j, e.val) := by simp only [Option.bind_some, atE, Nat.sub_zero, hj]
      refine ⟨_, ?_, okV.ok g2⟩
      simp only [execOp, e1, Instr.lookup, Sem.run_bind, run_underlying ht, Result.andThen_ok, getMap e3, h1, h2, h3, Sem.run_pure]
theorem step_lookupN {t kt et : TypeId} {m k : Operand} {commaOk : Bool} {o : Nat} {births : List Nat} {clock : Nat} {cells : List AV} {z : Value} (ht : P.underlying t = some (.map kt et)) (hm : opd env m = .mp o)
    (ho : hp[o]? = some (.ob (.map births clock) cells)) (hc : ckV P 10000 kt (opd env k) = true) (hf : findAV P kt (opd env k) (cells.take births.length) 0 = some none) (hz : ZeroV P et z) :
    Step P ⟨dst, .lookup t m k commaOk, ty, pos, after, guard⟩ env hp (is (okV commaOk (lit z) false) hp) :=
  Step.val fun F μ w a hr he => by
    have hv := hm ▸ he.opd m
    obtain ⟨b, esz, tot, es, e1, e2, e3, e4, e5, e6, e7⟩ := hr.mapAt ho hv
    obtain ⟨u, hu⟩ := ckV.und hc
    have h1 := ckV.ok (em := es.isEmpty) 10000 kt _ _ hc (he.opd k)
    have h2 := findKey.ok hu (he.opd k) e5 hf
    have h3 : (none : Option Nat).bind (atE es.toList 0) = none := rfl
    refine ⟨_, ?_, okV.ok (lit_rel z)⟩
    simp only [execOp, e1, Instr.lookup, Sem.run_bind, run_underlying ht, Result.andThen_ok, getMap e3, h1, h2, h3, hz w, Sem.run_pure]
theorem step_lookupZ {t kt et : TypeId} {m k : Operand} {commaOk : Bool} {z : Value} (ht : P.underlying t = some (.map kt et)) (hm : opd env m = .sc (.map none)) (hc : ckV P 10000 kt (opd env k) = true) (hz : ZeroV P et z) :
    Step P ⟨dst, .lookup t m k commaOk, ty, pos, after, guard⟩ env hp (is (okV commaOk (lit z) false) hp) :=
  Step.val fun F μ w a hr he => by
    have e1 := he.sc hm
    obtain ⟨u, hu⟩ := ckV.und hc
    have h1 := ckV.ok (em := (#[] : Array MapEntry).isEmpty) 10000 kt _ _ hc (he.opd k)
    have h2 := findKey.ok (es := []) (xs := []) (r := none) hu (he.opd k) .nil rfl
    refine ⟨_, ?_, okV.ok (lit_rel z)⟩
    simp only [execOp, e1, Instr.lookup, Sem.run_bind, run_underlying ht, Result.andThen_ok, h1, h2, Option.bind_none, hz w, Sem.run_pure]
def updK (r : Option Nat) (clock : Nat) : Nat := match r with | some _ => clock | none => clock + 1
def updB (r : Option Nat) (births : List Nat) (clock : Nat) : List Nat := match r with | some _ => births | none => births ++ [clock]
def updV (n : Nat) (r : Option Nat) (k x : AV) (cells : List AV) : List AV := match r with | some j => cells.set (n + j) x | none => cells.take n ++ [k] ++ (cells.drop n ++ [x])
/-- What is written into a map: the entries behind it. -/
theorem mapUpdRun {t kt et : TypeId} {k x : AV} {kv xv : Value} {b : Nat} {es : Array MapEntry} {clock : Nat} {births : List Nat} {cells : List AV} {r : Option Nat} (ht : P.underlying t = some (.map kt et)) (hb : w.heap[b]? = some (.map es clock))
    (hbi : es.toList.map (·.born) = births) (hks : VRL F μ w (cells.take births.length) (es.toList.map (·.key))) (hvs : VRL F μ w (cells.drop births.length) (es.toList.map (·.val))) (hlen : cells.length = births.length + births.length)
    (hk : VR F μ w k kv) (hx : VR F μ w x xv) (hc : ckV P 10000 kt k = true) (hf : findAV P kt k (cells.take births.length) 0 = some r) (hsame : ∀ j, r = some j → cells[j]? = some k) :
    ∃ w' es', (Instr.mapUpdate t (.map (some b)) kv xv).run P w = .ok () w' ∧ w'.heap = w.heap.setIfInBounds b (.map es' (updK r clock)) ∧ w'.os = w.os ∧ w'.output = w.output ∧
      es'.toList.map (·.born) = updB r births clock ∧
      VRL F μ w (updV births.length r k x cells) (es'.toList.map (·.key) ++ es'.toList.map (·.val)) := by
  obtain ⟨u, hu⟩ := ckV.und hc
  have h1 := ckV.ok (em := false) 10000 kt _ _ hc hk
  have h2 := findKey.ok hu hk hks hf
  cases r with
  | none =>
    refine ⟨{ w with heap := w.heap.setIfInBounds b (.map (es.push { key := kv, val := xv, born := clock }) (clock + 1)) }, es.push { key := kv, val := xv, born := clock }, ?_, rfl, rfl, rfl, by simp [hbi, updB], ?_⟩
    · simp only [Instr.mapUpdate, Sem.run_bind, run_underlying ht, Result.andThen_ok, getMap hb, h1, h2, Option.bind_none]
      exact setOb _ hb (by intro _ _ _ h; cases h)
    · simp only [Array.toList_push, List.map_append, List.map_cons, List.map_nil]
      exact (hks.append (.cons hk .nil)).append (hvs.append (.cons hx .nil))
  | some j =>
    have hj := findAV.ge hf
    have hl : births.length = es.toList.length := by rw [← hbi]; simp
    have hj' : j < es.toList.length := by simp at hj; omega
    have hje : es.toList[j]? = some es.toList[j] := List.getElem?_eq_getElem hj'
    have hje' : es[j]? = some es.toList[j] := by simp
    have h3 : (some j).bind (atE es.toList 0) = some (j, es.toList[j].val) := by simp only [Option.bind_some, atE, Nat.sub_zero, hje]
    have hold : VR F μ w k es.toList[j].key := by
      obtain ⟨v, g1, g2⟩ := hks.get (i := j) (x := k) (by rw [List.getElem?_take, if_pos (by omega)]; exact hsame j rfl)
      rw [List.getElem?_map, hje] at g1; simp only [Option.map_some, Option.some.injEq] at g1; subst g1; exact g2
    have hstay : ∃ kn w1, (Instr.keyThatStays es.toList[j].key kv).run P w = .ok kn w1 ∧ VR F μ w k kn ∧ w1.heap = w.heap ∧ w1.os = w.os ∧ w1.output = w.output := by
      unfold Instr.keyThatStays
      cases hb : Instr.sameBits 10000 es.toList[j].key kv
      · simp only [Bool.false_eq_true, if_false, Sem.run_bind]
        have hch : ∃ i w1, (choose (.extern "map.whichKeyStays" 2)).run P w = .ok i w1 ∧ w1.heap = w.heap ∧ w1.os = w.os ∧ w1.output = w.output := by
          refine ⟨_, { w with drawn := w.drawn + 1 }, by simp only [choose, Sem.run, Question.forced, decide_eq_true_eq]; rfl, rfl, rfl, rfl⟩
        obtain ⟨i, w1, g1, g2, g3⟩ := hch
        refine ⟨if i = 0 then kv else es.toList[j].key, w1, by rw [g1]; rfl, ?_, g2, g3⟩
        split
        · exact hk
        · exact hold
      · exact ⟨kv, w, by simp, hk, rfl, rfl, rfl⟩
    obtain ⟨kn, w1, g1, g2, g3, g4, g5⟩ := hstay
    let f : MapEntry → MapEntry := fun e => { e with key := kn, val := xv }
    refine ⟨{ w1 with heap := w1.heap.setIfInBounds b (.map (es.modify j f) clock) }, es.modify j f, ?_, by simp only [g3, updK], g4, g5, ?_, ?_⟩
    · have e1 : ((es[j]?).map (·.key)).getD kv = es.toList[j].key := by rw [hje']; rfl
      simp only [Instr.mapUpdate, Sem.run_bind, run_underlying ht, Result.andThen_ok, getMap hb, h1, h2, h3, e1, g1]
      exact setOb _ (by rw [g3]; exact hb) (by intro _ _ _ h; cases h)
    · show _ = births
      rw [← hbi]
      apply List.ext_getElem?
      intro i
      simp only [List.getElem?_map, Array.getElem?_toList, Array.getElem?_modify]
      by_cases hi : j = i
      · simp only [hi, if_true, Option.map_map]; cases es[i]? <;> rfl
      · simp only [hi, if_false]
    · have e2 : (es.modify j f).toList.map (·.key) = (es.toList.map (·.key)).set j kn := by
        apply List.ext_getElem?
        intro i
        simp only [List.getElem?_map, Array.getElem?_toList, Array.getElem?_modify, List.getElem?_set, List.length_map]
        by_cases hi : j = i
        · subst hi; simp only [if_true, hje', Option.map_some, hj', f]
        · simp only [hi, if_false]
      have e3 : (es.modify j f).toList.map (·.val) = (es.toList.map (·.val)).set j xv := by
        apply List.ext_getElem?
        intro i
        simp only [List.getElem?_map, Array.getElem?_toList, Array.getElem?_modify, List.getElem?_set, List.length_map]
        by_cases hi : j = i
        · subst hi; simp only [if_true, hje', Option.map_some, hj', f]
        · simp only [hi, if_false]
      rw [e2, e3]
      have e4 : cells.set (births.length + j) x = (cells.take births.length).set j k ++ (cells.drop births.length).set j x := by
        apply List.ext_getElem?
        intro i
        have hs := hsame j rfl
        simp only [List.getElem?_set, List.getElem?_append, List.getElem?_take, List.getElem?_drop, List.length_set, List.length_take, List.length_drop]
        grind
      show VRL F μ w (cells.set (births.length + j) x) _
      rw [e4]
      exact (hks.set j g2).append (hvs.set j hx)

theorem step_mapUpd {t kt et : TypeId} {m k x : Operand} {o : Nat} {births : List Nat} {clock : Nat} {cells : List AV} {r : Option Nat} (ht : P.underlying t = some (.map kt et)) (hm : opd env m = .mp o)
    (ho : hp[o]? = some (.ob (.map births clock) cells)) (hc : ckV P 10000 kt (opd env k) = true) (hf : findAV P kt (opd env k) (cells.take births.length) 0 = some r) (hsame : ∀ j, r = some j → cells[j]? = some (opd env k)) :
    Step P ⟨dst, .mapUpdate t m k x, ty, pos, after, guard⟩ env hp (is (.sc undef) (hp.set o (.ob (.map (updB r births clock) (updK r clock)) (updV births.length r (opd env k) (opd env x) cells)))) := by
  refine Step.of_skip fun F μ w a hr he => ?_
  have hv := hm ▸ he.opd m
  obtain ⟨b, esz, tot, es, e1, e2, e3, e4, e5, e6, e7⟩ := hr.mapAt ho hv
  obtain ⟨w', es', g1, g2, g3, g4, g5, g6⟩ := mapUpdRun ht e3 e4 e5 e6 e7 (he.opd k) (he.opd x) hc hf hsame
  have hs : ShR (.map (es'.toList.map (·.born)) (updK r clock)) (es'.toList.map (·.key) ++ es'.toList.map (·.val)) (.map es' (updK r clock)) := .map
  rw [g5] at hs
  obtain ⟨h1, h2⟩ := hr.turn (w' := w') ho e2 hs g6 g2 ⟨g3, g4⟩
  exact ⟨w', μ, by simp only [execOp, e1, Sem.run_bind, g1, Result.andThen_ok]; rfl, h1, h2⟩

theorem step_insert {t kt et : TypeId} {m k x : Operand} {o : Nat} {births : List Nat} {clock : Nat} {cells : List AV} {r : Option Nat} (ht : P.underlying t = some (.map kt et)) (hm : opd env m = .mp o)
    (ho : hp[o]? = some (.ob (.map births clock) cells)) (hc : ckV P 10000 kt (opd env k) = true) (hf : findAV P kt (opd env k) (cells.take births.length) 0 = some r) (hsame : ∀ j, r = some j → cells[j]? = some (opd env k)) :
    Step P ⟨dst, .insert t m k x, ty, pos, after, guard⟩ env hp (is (.sc undef) (hp.set o (.ob (.map (updB r births clock) (updK r clock)) (updV births.length r (opd env k) (opd env x) cells)))) := by
  refine Step.of_skip fun F μ w a hr he => ?_
  have hv := hm ▸ he.opd m
  obtain ⟨b, esz, tot, es, e1, e2, e3, e4, e5, e6, e7⟩ := hr.mapAt ho hv
  obtain ⟨w', es', g1, g2, g3, g4, g5, g6⟩ := mapUpdRun ht e3 e4 e5 e6 e7 (he.opd k) (he.opd x) hc hf hsame
  have hs : ShR (.map (es'.toList.map (·.born)) (updK r clock)) (es'.toList.map (·.key) ++ es'.toList.map (·.val)) (.map es' (updK r clock)) := .map
  rw [g5] at hs
  obtain ⟨h1, h2⟩ := hr.turn (w' := w') ho e2 hs g6 g2 ⟨g3, g4⟩
  exact ⟨w', μ, by simp only [execOp, e1, Sem.run_bind, g1, Result.andThen_ok]; rfl, h1, h2⟩

theorem Step.mono {o : Oper} {R R' : AV → List AObj → Prop} (h : Step P o env hp R) (hr : ∀ x hp', R x hp' → R' x hp') : Step P o env hp R' :=
  fun F μ w a h1 h2 next Q k => h F μ w a h1 h2 next Q fun x v hp' μ' w' h3 => k x v hp' μ' w' (hr x hp' h3)

theorem step_makeMap {t : TypeId} : Step P ⟨dst, .makeMap t none, ty, pos, after, guard⟩ env hp (is (.mp hp.length) (hp ++ [.ob (.map [] 0) []])) :=
  Step.of fun F μ w a hr he => by
    have hs : ShR (.map [] 0) [] (.map #[] 0) := ShR.map (es := #[])
    obtain ⟨h1, h2⟩ := hr.pushX (x := .ob (.map [] 0) []) (y := .map #[] 0) (esz := 0) (tot := 0) (.ob hs .nil) (w' := { w with heap := w.heap.push (.map #[] 0) }) rfl
    refine ⟨.map (some w.heap.size), _, _, ?_, h1, ?_, h2⟩
    · simp [execOp, Instr.makeMap, newObj, Sem.run]
    · exact .mp (esz := 0) (tot := 0) (by rw [← hr.len]; simp)

def delO (r : Option Nat) (births : List Nat) (clock : Nat) (cells : List AV) : AObj := match r with
  | some j => .ob (.map (births.eraseIdx j) clock) ((cells.take births.length).eraseIdx j ++ (cells.drop births.length).eraseIdx j)
  | none => .ob (.map births clock) cells
theorem step_delete {t t' kt et : TypeId} {m k : Operand} {o : Nat} {births : List Nat} {clock : Nat} {cells : List AV} {r : Option Nat} (ht : P.underlying t = some (.map kt et)) (hm : opd env m = .mp o)
    (ho : hp[o]? = some (.ob (.map births clock) cells)) (hc : ckV P 10000 kt (opd env k) = true) (hf : findAV P kt (opd env k) (cells.take births.length) 0 = some r) :
    Step P ⟨dst, .call ⟨.builtin .delete, #[m, k], #[t, t']⟩, ty, pos, after, guard⟩ env hp (is (.tup []) (hp.set o (delO r births clock cells))) := by
  refine Step.of fun F μ w a hr he => ?_
  have hv := hm ▸ he.opd m
  obtain ⟨b, esz, tot, es, e1, e2, e3, e4, e5, e6, e7⟩ := hr.mapAt ho hv
  obtain ⟨u, hu⟩ := ckV.und hc
  have h1 := ckV.ok (em := es.isEmpty) 10000 kt _ _ hc (he.opd k)
  have h2 := findKey.ok hu (he.opd k) e5 hf
  have hcells : VRL F μ w cells (es.toList.map (·.key) ++ es.toList.map (·.val)) := by
    have := e5.append e6
    rwa [List.take_append_drop] at this
  cases r with
  | none =>
    have hs : ShR (.map births clock) (es.toList.map (·.key) ++ es.toList.map (·.val)) (.map es clock) := by rw [← e4]; exact .map
    obtain ⟨g1, g2⟩ := hr.turn (w' := { w with heap := w.heap.setIfInBounds b (.map es clock) }) ho e2 hs hcells rfl
    refine ⟨.tuple #[], _, μ, ?_, g1, .tup .nil, g2⟩
    have := setOb (P := P) (.map es clock) e3 (by intro _ _ _ h; cases h)
    simp [execOp, resolve, e1, invoke, builtin, Builtin.delete_, run_underlying ht, getMap e3, h1, h2, this]
  | some j =>
    have hj := findAV.ge hf
    have hl : births.length = es.toList.length := by rw [← e4]; simp
    have hj' : j < es.toList.length := by simp at hj; omega
    have hje : es.toList[j]? = some es.toList[j] := List.getElem?_eq_getElem hj'
    have h3 : (some j).bind (atE es.toList 0) = some (j, es.toList[j].val) := by simp only [Option.bind_some, atE, Nat.sub_zero, hje]
    have he1 : (es.eraseIdxIfInBounds j).toList = es.toList.eraseIdx j := by
      have : j < es.size := by simpa using hj'
      simp [Array.eraseIdxIfInBounds, this]
    have hs : ShR (.map ((es.eraseIdxIfInBounds j).toList.map (·.born)) clock) ((es.eraseIdxIfInBounds j).toList.map (·.key) ++ (es.eraseIdxIfInBounds j).toList.map (·.val)) (.map (es.eraseIdxIfInBounds j) clock) := .map
    rw [he1] at hs
    have hmap : ∀ {β : Type} (f : MapEntry → β) (l : List MapEntry) (i : Nat), (l.eraseIdx i).map f = (l.map f).eraseIdx i := by
      intro β f l i
      induction l generalizing i with
      | nil => simp
      | cons x l ih => cases i <;> simp [ih]
    simp only [hmap] at hs
    rw [e4] at hs
    have her : ∀ {xs : List AV} {vs : List Value} (i : Nat), VRL F μ w xs vs → VRL F μ w (xs.eraseIdx i) (vs.eraseIdx i) := by
      intro xs vs i h
      rw [List.eraseIdx_eq_take_drop_succ, List.eraseIdx_eq_take_drop_succ]
      exact (h.take i).append (h.drop _)
    obtain ⟨g1, g2⟩ := hr.turn (w' := { w with heap := w.heap.setIfInBounds b (.map (es.eraseIdxIfInBounds j) clock) }) ho e2 hs ((her j e5).append (her j e6)) rfl
    refine ⟨.tuple #[], _, μ, ?_, g1, .tup .nil, g2⟩
    have := setOb (P := P) (.map (es.eraseIdxIfInBounds j) clock) e3 (by intro _ _ _ h; cases h)
    simp [execOp, resolve, e1, invoke, builtin, Builtin.delete_, run_underlying ht, getMap e3, h1, h2, h3, this]

theorem step_lenM {t kt et : TypeId} {x : Operand} {o : Nat} {births : List Nat} {clock : Nat} {cells : List AV} (ht : P.underlying t = some (.map kt et)) (hx : opd env x = .mp o)
    (ho : hp[o]? = some (.ob (.map births clock) cells)) : Step P ⟨dst, .call ⟨.builtin .len, #[x], #[t]⟩, ty, pos, after, guard⟩ env hp (is (.sc (.int .i64 births.length)) hp) :=
  Step.val fun F μ w a hr he => by
    have hv := hx ▸ he.opd x
    obtain ⟨b, esz, tot, es, e1, e2, e3, e4, e5, e6, e7⟩ := hr.mapAt ho hv
    have hl : births.length = es.size := by rw [← e4]; simp
    refine ⟨_, ?_, .sc rfl⟩
    simp [execOp, resolve, e1, invoke, builtin, Builtin.len_, run_underlying ht, getMap e3, hl, goInt]
theorem step_lenMZ {t kt et : TypeId} {x : Operand} (ht : P.underlying t = some (.map kt et)) (hx : opd env x = .sc (.map none)) : Step P ⟨dst, .call ⟨.builtin .len, #[x], #[t]⟩, ty, pos, after, guard⟩ env hp (is (.sc (.int .i64 0)) hp) :=
  Step.val fun F μ w a hr he => by
    have e1 := he.sc hx
    refine ⟨_, ?_, .sc rfl⟩
    simp [execOp, resolve, e1, invoke, builtin, Builtin.len_, run_underlying ht, goInt]

theorem step_range {t kt et : TypeId} {x : Operand} {o : Nat} {births : List Nat} {clock : Nat} {cells : List AV} (ht : P.underlying t = some (.map kt et)) (hx : opd env x = .mp o)
    (ho : hp[o]? = some (.ob (.map births clock) cells)) : Step P ⟨dst, .range t x, ty, pos, after, guard⟩ env hp (is (.ptr hp.length 0) (hp ++ [.ob (.iter clock [] clock) [.mp o]])) :=
  Step.of fun F μ w a hr he => by
    have hv := hx ▸ he.opd x
    obtain ⟨b, esz, tot, es, e1, e2, e3, e4, e5, e6, e7⟩ := hr.mapAt ho hv
    have hs : ShR (.iter clock [] clock) [.map (some b)] (.mapIter (some b) clock #[] clock) := ShR.iter (seen := #[])
    obtain ⟨h1, h2⟩ := hr.pushX (x := .ob (.iter clock [] clock) [.mp o]) (y := .mapIter (some b) clock #[] clock) (esz := 0) (tot := 0) (.ob hs (.cons (.mp e2) .nil)) (w' := { w with heap := w.heap.push (.mapIter (some b) clock #[] clock) }) rfl
    refine ⟨.pointer (some ⟨w.heap.size, 0, none⟩), _, _, ?_, h1, ?_, h2⟩
    · simp [execOp, Instr.range, e1, run_underlying ht, getMap e3, newObj, Sem.run]
    · exact .ptr (base := 0) (off := 0) (esz := 0) (tot := 0) (by rw [← hr.len]; simp)
theorem step_rangeZ {t kt et : TypeId} {x : Operand} (ht : P.underlying t = some (.map kt et)) (hx : opd env x = .sc (.map none)) : Step P ⟨dst, .range t x, ty, pos, after, guard⟩ env hp (is (.ptr hp.length 0) (hp ++ [.ob (.iter 0 [] 0) [.sc (.map none)]])) :=
  Step.of fun F μ w a hr he => by
    have e1 := he.sc hx
    have hs : ShR (.iter 0 [] 0) [.map none] (.mapIter none 0 #[] 0) := ShR.iter (seen := #[])
    obtain ⟨h1, h2⟩ := hr.pushX (x := .ob (.iter 0 [] 0) [.sc (.map none)]) (y := .mapIter none 0 #[] 0) (esz := 0) (tot := 0) (.ob hs (.cons (.sc rfl) .nil)) (w' := { w with heap := w.heap.push (.mapIter none 0 #[] 0) }) rfl
    refine ⟨.pointer (some ⟨w.heap.size, 0, none⟩), _, _, ?_, h1, ?_, h2⟩
    · simp [execOp, Instr.range, e1, run_underlying ht, newObj, Sem.run]
    · exact .ptr (base := 0) (off := 0) (esz := 0) (tot := 0) (by rw [← hr.len]; simp)

/-- An iterator that lies somewhere. -/
theorem EnvR.iter {a : Act} (h : EnvR F env μ w a.tmps) (hr : HR F hp μ w) {x : Operand} {o since stepped : Nat} {seen : List Nat} {m : AV} (hx : SL.opd env x = .ptr o 0) (ho : hp[o]? = some (.ob (.iter since seen stepped) [m])) :
    ∃ b esz tot mv, a.eval x = .pointer (some ⟨b, 0, none⟩) ∧ μ[o]? = some (Nm.at b 0 esz tot) ∧ w.heap[b]? = some (.mapIter mv since seen.toArray stepped) ∧ VR F μ w m (.map mv) := by
  have h1 := h.opd x
  rw [hx] at h1
  generalize a.eval x = v at h1
  cases h1 with
  | ptrD h => exact absurd h (hr.live o _ ho (by simp))
  | ptr h =>
    obtain ⟨hb, y, vs, g1, g2, g3⟩ := hr.objo h ho
    subst hb
    cases g2 with
    | iter =>
      cases g3 with
      | cons g4 g5 => exact ⟨_, _, _, _, rfl, h, by simpa using g1, g4⟩

theorem step_nextZ {it : Operand} {o since stepped : Nat} {seen : List Nat} (hx : opd env it = .ptr o 0) (ho : hp[o]? = some (.ob (.iter since seen stepped) [.sc (.map none)])) :
    Step P ⟨dst, .next it false, ty, pos, after, guard⟩ env hp (is (.tup [.sc (.bool false)]) hp) :=
  Step.val fun F μ w a hr he => by
    obtain ⟨b, esz, tot, mv, e1, e2, e3, e4⟩ := he.iter hr hx ho
    cases e4 with | sc e4 =>
    exact ⟨.tuple #[.bool false], by simp [execOp, e1, Instr.next, getObj, Sem.run, e3], .tup (.cons (.sc rfl) .nil)⟩

theorem step_next {it : Operand} {o m since stepped clock : Nat} {seen births : List Nat} {cells : List AV} (hx : opd env it = .ptr o 0) (ho : hp[o]? = some (.ob (.iter since seen stepped) [.mp m]))
    (hm : hp[m]? = some (.ob (.map births clock) cells)) (hold : ∀ b ∈ births, b < since) (hsc : since ≤ stepped) :
    Step P ⟨dst, .next it false, ty, pos, after, guard⟩ env hp (fun x hp' => ((∀ b ∈ births, b ∈ seen) ∧ x = .tup [.sc (.bool false)] ∧ hp' = hp) ∨
      ∃ (j b : Nat) (k v : AV), births[j]? = some b ∧ b ∉ seen ∧ cells[j]? = some k ∧ cells[births.length + j]? = some v ∧ x = .tup [.sc (.bool true), k, v] ∧ hp' = hp.set o (.ob (.iter since (seen ++ [b]) clock) [.mp m])) := by
  intro F μ w a hr he next Q k
  obtain ⟨b, esz, tot, mv, e1, e2, e3, e4⟩ := he.iter hr hx ho
  obtain ⟨bm, esz2, tot2, es, f1, f2, f3, f4, f5, f6, f7⟩ := hr.mapAt hm e4
  injection f1 with f1
  subst f1
  have hold' : ∀ x ∈ es.toList, x.born < since := fun x hx => hold _ (by rw [← f4]; exact List.mem_map_of_mem hx)
  rcases run_next_at (P := P) w ty b bm since stepped seen.toArray es clock e3 f3 hold' hsc with ⟨g1, g2⟩ | ⟨e, g1, w1, g2, g3⟩
  · have hex : (execOp a.eval ⟨dst, .next it false, ty, pos, after, guard⟩).run P w = .ok (.value (.tuple #[.bool false])) w := by
      simp only [execOp, e1, Sem.run_bind, g2, Result.andThen_ok]; rfl
    unfold Oper.wp
    rw [hex]
    refine k _ _ hp μ w (.inl ⟨fun b' hb' => ?_, rfl, rfl⟩) hr (.tup (.cons (.sc rfl) .nil)) (Fr.refl _ _)
    rw [← f4] at hb'
    obtain ⟨x, hx1, hx2⟩ := List.mem_map.1 hb'
    have := all_seen es seen.toArray g1 x hx1
    rw [hx2] at this
    simpa using this
  · obtain ⟨g4, g5⟩ := mem_left g1
    obtain ⟨j, hj⟩ := List.mem_iff_getElem?.1 g4
    have hw1 : w1.heap = w.heap ∧ w1.os = w.os ∧ w1.output = w.output := by rcases g2 with rfl | rfl <;> exact ⟨rfl, rfl, rfl⟩
    have hl : births.length = es.toList.length := by rw [← f4]; simp
    have hj' : j < es.toList.length := by
      rcases Nat.lt_or_ge j es.toList.length with h | h
      · exact h
      · simp [List.getElem?_eq_none h] at hj
    have hbj : births[j]? = some e.born := by rw [← f4, List.getElem?_map, hj]; rfl
    obtain ⟨kx, hkx⟩ : ∃ kx, cells[j]? = some kx := ⟨_, List.getElem?_eq_getElem (by omega)⟩
    obtain ⟨vx, hvx⟩ : ∃ vx, cells[births.length + j]? = some vx := ⟨_, List.getElem?_eq_getElem (by omega)⟩
    obtain ⟨kv, k1, k2⟩ := f5.get (i := j) (x := kx) (by rw [List.getElem?_take, if_pos (by omega)]; exact hkx)
    obtain ⟨vv, v1, v2⟩ := f6.get (i := j) (x := vx) (by rw [List.getElem?_drop]; exact hvx)
    rw [List.getElem?_map, hj] at k1 v1
    simp only [Option.map_some, Option.some.injEq] at k1 v1
    subst k1; subst v1
    have hex : (execOp a.eval ⟨dst, .next it false, ty, pos, after, guard⟩).run P w = .ok (.value (.tuple #[.bool true, e.key, e.val])) (ChangeMaps.setBlock w1 b (.mapIter (some bm) since (seen.toArray.push e.born) clock)) := by
      simp only [execOp, e1, Sem.run_bind, g3, Result.andThen_ok]; rfl
    unfold Oper.wp
    rw [hex]
    have hs : ShR (.iter since (seen ++ [e.born]) clock) [.map (some bm)] (.mapIter (some bm) since (seen.toArray.push e.born) clock) := by
      have := ShR.iter (m := some bm) (since := since) (stepped := clock) (seen := seen.toArray.push e.born)
      simpa using this
    obtain ⟨h1, h2⟩ := hr.turn (w' := ChangeMaps.setBlock w1 b (.mapIter (some bm) since (seen.toArray.push e.born) clock)) ho e2 hs (.cons (.mp f2) .nil) (by show w1.heap.setIfInBounds _ _ = _; rw [hw1.1]) ⟨hw1.2.1, hw1.2.2⟩
    have hns : e.born ∉ seen := by simpa using g5
    exact k _ _ _ μ _ (.inr ⟨j, e.born, kx, vx, hbj, hns, hkx, hvx, rfl, rfl⟩) h1 (.tup (.cons (.sc rfl) (.cons (k2.mono h2) (.cons (v2.mono h2) .nil)))) h2

theorem find_idx (b : Nat) : ∀ (l : List MapEntry) (j i : Nat), (l.map (·.born)).findIdx? (Nat.beq b) = some j → ∃ e, l[j]? = some e ∧ l.find? (fun e => e.born == b) = some e
  | [], j, i, h => by simp at h
  | x :: l, j, i, h => by
    simp only [List.map_cons, List.findIdx?_cons] at h
    cases hb : Nat.beq b x.born
    · rw [hb] at h
      simp only [Bool.false_eq_true, if_false, Option.map_eq_some_iff] at h
      obtain ⟨j', h1, rfl⟩ := h
      obtain ⟨e, h2, h3⟩ := find_idx b l j' i h1
      refine ⟨e, by simpa using h2, ?_⟩
      rw [List.find?_cons]
      have hne : (x.born == b) = false := by
        rw [beq_eq_false_iff_ne]; intro h; rw [h, Nat.beq_refl] at hb; simp at hb
      rw [hne]; exact h3
    · rw [hb] at h
      simp only [if_true, Option.some.injEq] at h
      subst h
      have := Nat.eq_of_beq_eq_true hb
      exact ⟨x, rfl, by rw [List.find?_cons]; simp [this]⟩
theorem step_entry {it : Operand} {o m since clock b j : Nat} {seen births : List Nat} {cells : List AV} {k v : AV} (hx : opd env it = .ptr o 0) (ho : hp[o]? = some (.ob (.iter since seen clock) [.mp m]))
    (hm : hp[m]? = some (.ob (.map births clock) cells)) (hb : seen.getLast? = some b) (hj : births.findIdx? (Nat.beq b) = some j) (hk : cells[j]? = some k) (hv : cells[births.length + j]? = some v) :
    Step P ⟨dst, .entry it, ty, pos, after, guard⟩ env hp (is (.tup [k, v]) hp) :=
  Step.val fun F μ w a hr he => by
    obtain ⟨b', esz, tot, mv, e1, e2, e3, e4⟩ := he.iter hr hx ho
    obtain ⟨bm, esz2, tot2, es, f1, f2, f3, f4, f5, f6, f7⟩ := hr.mapAt hm e4
    injection f1 with f1
    subst f1
    rw [← f4] at hj
    obtain ⟨e, h1, h2⟩ := find_idx b es.toList j 0 hj
    rw [f4] at hj
    have hl : births.length = es.toList.length := by rw [← f4]; simp
    have hj' : j < es.toList.length := by
      rcases Nat.lt_or_ge j es.toList.length with h | h
      · exact h
      · simp [List.getElem?_eq_none h] at h1
    obtain ⟨kv, k1, k2⟩ := f5.get (i := j) (x := k) (by rw [List.getElem?_take, if_pos (by omega)]; exact hk)
    obtain ⟨vv, v1, v2⟩ := f6.get (i := j) (x := v) (by rw [List.getElem?_drop]; exact hv)
    rw [List.getElem?_map, h1] at k1 v1
    simp only [Option.map_some, Option.some.injEq] at k1 v1
    subst k1; subst v1
    have h3 : es.find? (fun e => e.born == b) = some e := by rw [← Array.find?_toList]; exact h2
    have h4 : seen.toArray.back? = some b := by simpa using hb
    refine ⟨.tuple #[e.key, e.val], ?_, .tup (.cons k2 (.cons v2 .nil))⟩
    simp [execOp, e1, Instr.entry, getObj, Sem.run, e3, h4, f3, h3]

/-- The entries that an iterator has not shown. -/
def leftI (seen : List Nat) : List Nat → Nat → List Nat
  | [], _ => []
  | b :: bs, i => bif memN seen b then leftI seen bs (i + 1) else i :: leftI seen bs (i + 1)
theorem mem_leftI {seen : List Nat} : ∀ {bs : List Nat} {i j : Nat} {b : Nat}, bs[j]? = some b → b ∉ seen → i + j ∈ leftI seen bs i
  | [], i, j, b, h, _ => by simp at h
  | x :: bs, i, j, b, h, hb => by
    cases j with
    | zero =>
      simp only [List.getElem?_cons_zero, Option.some.injEq] at h
      subst h
      have : memN seen x = false := by
        cases hm : memN seen x
        · rfl
        · exact absurd (memN_iff.1 hm) hb
      simp [leftI, this]
    | succ j =>
      simp only [List.getElem?_cons_succ] at h
      have ih := mem_leftI (seen := seen) (i := i + 1) h hb
      have e : i + 1 + j = i + (j + 1) := by omega
      rw [e] at ih
      simp only [leftI]
      cases memN seen x
      · exact List.mem_cons_of_mem _ ih
      · exact ih
def allLtN (l : List Nat) (k : Nat) : Bool := l.all fun b => Nat.blt b k
theorem allLtN.ok {l : List Nat} {k : Nat} (h : allLtN l k = true) : ∀ b ∈ l, b < k := fun b hb => Nat.le_of_ble_eq_true (List.all_eq_true.1 h b hb)

def evMakeMap (hp : List AObj) : R := some (.ef (.mp hp.length) (hp ++ [.ob (.map [] 0) []]), [])
theorem evMakeMap.ok {t : TypeId} : Ok P ⟨dst, .makeMap t none, ty, pos, after, guard⟩ env hp (evMakeMap hp) := Ok.ef (by simp) fun _ => step_makeMap

def evLookup (P : Program) (t : TypeId) (hp : List AObj) (commaOk : Bool) (k : AV) : AV → R
  | .mp o => match mapT P t with
    | some (kt, et) => match nth hp o with
      | some (.ob (.map births clock) cells) => bif ckV P 10000 kt k then match findAV P kt k (cells.take births.length) 0 with
          | some (some j) => (match nth cells (births.length + j) with
            | some y => rq1 (okV commaOk y true) o (.ob (.map births clock) cells)
            | none => none)
          | some none => (match zeroB P et with
            | some z => rq1 (okV commaOk (lit z) false) o (.ob (.map births clock) cells)
            | none => none)
          | none => none
        else none
      | _ => none
    | none => none
  | .sc (.map none) => match mapT P t with
    | some (kt, et) => bif ckV P 10000 kt k then (match zeroB P et with
        | some z => rq (okV commaOk (lit z) false)
        | none => none) else none
    | none => none
  | _ => none
theorem evLookup.ok {t : TypeId} {m k : Operand} {commaOk : Bool} : Ok P ⟨dst, .lookup t m k commaOk, ty, pos, after, guard⟩ env hp (evLookup P t hp commaOk (opd env k) (opd env m)) := by
  unfold evLookup; split
  · rename_i o hm; split
    · rename_i kt et ht; split
      · rename_i births clock cells ho; rw [nth_eq] at ho
        cases hc : ckV P 10000 kt (opd env k)
        · exact Ok.none
        · simp only [cond_true]; split
          · rename_i j hf; split
            · rename_i y hy; rw [nth_eq] at hy
              exact Ok.q1 ho fun hp ho => step_lookup (mapT.ok ht) hm ho hc hf hy
            · exact Ok.none
          · rename_i hf; split
            · rename_i z hz; exact Ok.q1 ho fun hp ho => step_lookupN (mapT.ok ht) hm ho hc hf (zeroB.ok hz)
            · exact Ok.none
          · exact Ok.none
      · exact Ok.none
    · exact Ok.none
  · rename_i hm; split
    · rename_i kt et ht
      cases hc : ckV P 10000 kt (opd env k)
      · exact Ok.none
      · simp only [cond_true]; split
        · rename_i z hz; exact Ok.q fun hp => step_lookupZ (mapT.ok ht) hm hc (zeroB.ok hz)
        · exact Ok.none
    · exact Ok.none
  · exact Ok.none

def evMapUpd (P : Program) (t : TypeId) (hp : List AObj) (k x : AV) : AV → R
  | .mp o => match mapT P t with
    | some (kt, et) => match nth hp o with
      | some (.ob (.map births clock) cells) => bif ckV P 10000 kt k then match findAV P kt k (cells.take births.length) 0 with
          | some none => some (.ef (.sc undef) (hp.set o (.ob (.map (updB none births clock) (updK none clock)) (updV births.length none k x cells))), [])
          | some (some j) => some (.ef (.sc undef) (hp.set o (.ob (.map (updB (some j) births clock) (updK (some j) clock)) (updV births.length (some j) k x cells))), [nth cells j = some k])
          | none => none
        else none
      | _ => none
    | none => none
  | _ => none
theorem evMapUpd.ok {t : TypeId} {m k x : Operand} : Ok P ⟨dst, .mapUpdate t m k x, ty, pos, after, guard⟩ env hp (evMapUpd P t hp (opd env k) (opd env x) (opd env m)) := by
  unfold evMapUpd; split
  · rename_i o hm; split
    · rename_i kt et ht; split
      · rename_i births clock cells ho; rw [nth_eq] at ho
        cases hc : ckV P 10000 kt (opd env k)
        · exact Ok.none
        · simp only [cond_true]; split
          · rename_i hf; exact Ok.ef (by simp) fun h => step_mapUpd (mapT.ok ht) hm ho hc hf (fun j h => by simp at h)
          · rename_i j hf; exact Ok.ef (by simp) fun h => step_mapUpd (mapT.ok ht) hm ho hc hf (fun j' hj => by simp only [Option.some.injEq] at hj; subst hj; rw [← nth_eq]; exact h.1)
          · exact Ok.none
      · exact Ok.none
    · exact Ok.none
  · exact Ok.none

theorem evMapIns.ok {t : TypeId} {m k x : Operand} : Ok P ⟨dst, .insert t m k x, ty, pos, after, guard⟩ env hp (evMapUpd P t hp (opd env k) (opd env x) (opd env m)) := by
  unfold evMapUpd; split
  · rename_i o hm; split
    · rename_i kt et ht; split
      · rename_i births clock cells ho; rw [nth_eq] at ho
        cases hc : ckV P 10000 kt (opd env k)
        · exact Ok.none
        · simp only [cond_true]; split
          · rename_i hf; exact Ok.ef (by simp) fun h => step_insert (mapT.ok ht) hm ho hc hf (fun j h => by simp at h)
          · rename_i j hf; exact Ok.ef (by simp) fun h => step_insert (mapT.ok ht) hm ho hc hf (fun j' hj => by simp only [Option.some.injEq] at hj; subst hj; rw [← nth_eq]; exact h.1)
          · exact Ok.none
      · exact Ok.none
    · exact Ok.none
  · exact Ok.none

def evDelete (P : Program) (t : TypeId) (hp : List AObj) (k : AV) : AV → R
  | .mp o => match mapT P t with
    | some (kt, et) => match nth hp o with
      | some (.ob (.map births clock) cells) => bif ckV P 10000 kt k then match findAV P kt k (cells.take births.length) 0 with
          | some r => some (.ef (.tup []) (hp.set o (delO r births clock cells)), [])
          | none => none
        else none
      | _ => none
    | none => none
  | _ => none
theorem evDelete.ok {t t' : TypeId} {m k : Operand} : Ok P ⟨dst, .call ⟨.builtin .delete, #[m, k], #[t, t']⟩, ty, pos, after, guard⟩ env hp (evDelete P t hp (opd env k) (opd env m)) := by
  unfold evDelete; split
  · rename_i o hm; split
    · rename_i kt et ht; split
      · rename_i births clock cells ho; rw [nth_eq] at ho
        cases hc : ckV P 10000 kt (opd env k)
        · exact Ok.none
        · simp only [cond_true]; split
          · rename_i r hf; exact Ok.ef (by simp) fun h => step_delete (mapT.ok ht) hm ho hc hf
          · exact Ok.none
      · exact Ok.none
    · exact Ok.none
  · exact Ok.none

def evLenM (P : Program) (t : TypeId) (hp : List AObj) : AV → R
  | .mp o => match mapT P t with
    | some (kt, et) => match nth hp o with
      | some (.ob (.map births clock) cells) => rq1 (.sc (.int .i64 births.length)) o (.ob (.map births clock) cells)
      | _ => none
    | none => none
  | .sc (.map none) => match mapT P t with
    | some (kt, et) => rq (.sc (.int .i64 0))
    | none => none
  | _ => none
theorem evLenM.ok {t : TypeId} {x : Operand} : Ok P ⟨dst, .call ⟨.builtin .len, #[x], #[t]⟩, ty, pos, after, guard⟩ env hp (evLenM P t hp (opd env x)) := by
  unfold evLenM; split
  · rename_i o hm; split
    · rename_i kt et ht; split
      · rename_i births clock cells ho; rw [nth_eq] at ho
        exact Ok.q1 ho fun hp ho => step_lenM (mapT.ok ht) hm ho
      · exact Ok.none
    · exact Ok.none
  · rename_i hm; split
    · rename_i kt et ht; exact Ok.q fun hp => step_lenMZ (mapT.ok ht) hm
    · exact Ok.none
  · exact Ok.none

def evRange (P : Program) (t : TypeId) (hp : List AObj) : AV → R
  | .mp o => match mapT P t with
    | some (kt, et) => match nth hp o with
      | some (.ob (.map births clock) cells) => some (.ef (.ptr hp.length 0) (hp ++ [.ob (.iter clock [] clock) [.mp o]]), [])
      | _ => none
    | none => none
  | .sc (.map none) => match mapT P t with
    | some (kt, et) => some (.ef (.ptr hp.length 0) (hp ++ [.ob (.iter 0 [] 0) [.sc (.map none)]]), [])
    | none => none
  | _ => none
theorem evRange.ok {t : TypeId} {x : Operand} : Ok P ⟨dst, .range t x, ty, pos, after, guard⟩ env hp (evRange P t hp (opd env x)) := by
  unfold evRange; split
  · rename_i o hm; split
    · rename_i kt et ht; split
      · rename_i births clock cells ho; rw [nth_eq] at ho
        exact Ok.ef (by simp) fun _ => step_range (mapT.ok ht) hm ho
      · exact Ok.none
    · exact Ok.none
  · rename_i hm; split
    · rename_i kt et ht; exact Ok.ef (by simp) fun _ => step_rangeZ (mapT.ok ht) hm
    · exact Ok.none
  · exact Ok.none

/-- One step over a map, where at most one entry is left. -/
def evNext (hp : List AObj) : AV → R
  | .ptr o 0 => match nth hp o with
    | some (.ob (.iter since seen stepped) [.mp m]) => match nth hp m with
      | some (.ob (.map births clock) cells) => bif allLtN births since && Nat.ble since stepped then match leftI seen births 0 with
          | [] => some (.ef (.tup [.sc (.bool false)]) hp, [])
          | [j] => (match nth births j, nth cells j, nth cells (births.length + j) with
            | some b, some k, some v => some (.ef (.tup [.sc (.bool true), k, v]) (hp.set o (.ob (.iter since (seen ++ [b]) clock) [.mp m])), [])
            | _, _, _ => none)
          | _ => none
        else none
      | _ => none
    | some (.ob (.iter _ _ _) [.sc (.map none)]) => some (.ef (.tup [.sc (.bool false)]) hp, [])
    | _ => none
  | _ => none
theorem evNext.ok {it : Operand} : Ok P ⟨dst, .next it false, ty, pos, after, guard⟩ env hp (evNext hp (opd env it)) := by
  unfold evNext; split
  · rename_i o hx; split
    · rename_i since seen stepped m ho; rw [nth_eq] at ho; split
      · rename_i births clock cells hm; rw [nth_eq] at hm
        cases hb : allLtN births since && Nat.ble since stepped
        · exact Ok.none
        · simp only [cond_true]
          simp only [Bool.and_eq_true] at hb
          have hs := step_next (P := P) (ty := ty) (pos := pos) (after := after) (guard := guard) (dst := dst) hx ho hm (allLtN.ok hb.1) (Nat.le_of_ble_eq_true hb.2)
          split
          · rename_i hl
            refine Ok.ef (Nat.le_refl _) fun _ => hs.mono ?_
            rintro x hp' (⟨_, rfl, rfl⟩ | ⟨j, b, k, v, h1, h2, _⟩)
            · exact ⟨rfl, rfl⟩
            · have := mem_leftI (i := 0) h1 h2
              rw [hl] at this; simp at this
          · rename_i j hl; split
            · rename_i b k v h1 h2 h3
              rw [nth_eq] at h1 h2 h3
              refine Ok.ef (by simp) fun _ => hs.mono ?_
              rintro x hp' (⟨h4, _, _⟩ | ⟨j', b', k', v', g1, g2, g3, g4, rfl, rfl⟩)
              · exfalso
                have hj : j ∈ leftI seen births 0 := by rw [hl]; simp
                have hno : leftI seen births 0 = [] := by
                  clear hl hj hs h1 h2 h3 hb ho hm
                  have : ∀ (l : List Nat) (i : Nat), (∀ b ∈ l, b ∈ seen) → leftI seen l i = [] := by
                    intro l
                    induction l with
                    | nil => intros; rfl
                    | cons x l ih =>
                      intro i h
                      have hx : memN seen x = true := memN_iff.2 (h x (by simp))
                      simp only [leftI, hx, cond_true]
                      exact ih _ fun b hb => h b (by simp [hb])
                  exact this births 0 h4
                rw [hno] at hj; simp at hj
              · have := mem_leftI (i := 0) g1 g2
                rw [hl] at this
                simp only [Nat.zero_add, List.mem_singleton] at this
                subst this
                rw [h1] at g1; rw [h2] at g3; rw [h3] at g4
                injection g1 with g1; injection g3 with g3; injection g4 with g4
                subst g1; subst g3; subst g4
                exact ⟨rfl, rfl⟩
            · exact Ok.none
          · exact Ok.none
      · exact Ok.none
    · rename_i ho; rw [nth_eq] at ho
      exact Ok.ef (Nat.le_refl _) fun _ => step_nextZ hx ho
    · exact Ok.none
  · exact Ok.none

def evEntry (hp : List AObj) : AV → R
  | .ptr o 0 => match nth hp o with
    | some (.ob (.iter since seen stepped) [.mp m]) => match nth hp m with
      | some (.ob (.map births clock) cells) => bif Nat.beq stepped clock then match seen.getLast? with
          | some b => (match births.findIdx? (Nat.beq b) with
            | some j => (match nth cells j, nth cells (births.length + j) with
              | some k, some v => some (.q (.tup [k, v]) [(o, .ob (.iter since seen stepped) [.mp m]), (m, .ob (.map births clock) cells)], [])
              | _, _ => none)
            | none => none)
          | none => none
        else none
      | _ => none
    | _ => none
  | _ => none
theorem evEntry.ok {it : Operand} : Ok P ⟨dst, .entry it, ty, pos, after, guard⟩ env hp (evEntry hp (opd env it)) := by
  unfold evEntry; split
  · rename_i o hx; split
    · rename_i since seen stepped m ho; rw [nth_eq] at ho; split
      · rename_i births clock cells hm; rw [nth_eq] at hm
        cases hb : Nat.beq stepped clock
        · exact Ok.none
        · simp only [cond_true]
          have := Nat.eq_of_beq_eq_true hb; subst this
          split
          · rename_i b h1; split
            · rename_i j h2; split
              · rename_i k v h3 h4
                rw [nth_eq] at h3 h4
                intro kd cs e _; injection e with e; injection e with e1 e2; subst e1
                refine ⟨fun hp hO => step_entry hx (hO (o, _) (.head _)) (hO (m, _) (.tail _ (.head _))) h1 h2 h3 h4, fun p hp' => ?_⟩
                simp only [List.mem_cons, List.not_mem_nil, or_false] at hp'
                rcases hp' with rfl | rfl
                · exact ho
                · exact hm
              · exact Ok.none
            · exact Ok.none
          · exact Ok.none
      · exact Ok.none
    · exact Ok.none
  · exact Ok.none

def isPtrT (P : Program) (t : TypeId) : Bool := match P.underlying t with | some (.pointer _) => true | _ => false
theorem isPtrT.ok {t : TypeId} (h : isPtrT P t = true) : ∃ e, P.underlying t = some (.pointer e) := by
  unfold isPtrT at h; split at h
  · rename_i hu; exact ⟨_, hu⟩
  · simp at h
theorem run_cmp {op : BinOp} {t : TypeId} {x y : Operand} {v u : Value} {r b : Bool} (hg : (eqGuard op t x y v u).run P w = .ok () w) (he : (Op.equal t v u).run P w = .ok r w) (hb : isEq op = some b)
    (h1 : binOp .eql t v u = (do pure (.bool (← Op.equal t v u)))) (h2 : binOp .neq t v u = (do pure (.bool (!(← Op.equal t v u))))) :
    ((eqGuard op t x y v u >>= fun _ => binOp op t v u)).run P w = .ok (.bool (r == b)) w := by
  rcases isEq.ok hb with ⟨rfl, rfl⟩ | ⟨rfl, rfl⟩
  · simp only [Sem.run_bind, hg, Result.andThen_ok, h1, he]; cases r <;> rfl
  · simp only [Sem.run_bind, hg, Result.andThen_ok, h2, he]; cases r <;> rfl
theorem ptr_eq_nil {t e : TypeId} (hu : P.underlying t = some (.pointer e)) {a : Option Addr} : (Op.equal t (.pointer a) (.pointer none)).run P w = .ok a.isNone w := by
  show (Op.equalIn (9999 + 1) t _ _).run P w = _
  unfold Op.equalIn
  cases a <;> simp [Sem.run_bind, run_underlying hu]
theorem map_eq_nil {t k e : TypeId} (hu : P.underlying t = some (.map k e)) {a : Option Nat} : (Op.equal t (.map a) (.map none)).run P w = .ok a.isNone w := by
  show (Op.equalIn (9999 + 1) t _ _).run P w = _
  unfold Op.equalIn
  cases a <;> simp [Sem.run_bind, run_underlying hu]
theorem step_ptrCmp {op : BinOp} {t t' : TypeId} {x y : Operand} {b : Bool} {q : Bool} (hb : isEq op = some b) (ht : isPtrT P t = true) (hy : opd env y = .sc (.pointer none))
    (hx : ∀ (F : Nat → Prop) (μ : List Nm) (w : World) (a : Act), HR F hp μ w → EnvR F env μ w a.tmps → ∃ c, a.eval x = .pointer c ∧ c.isNone = q) :
    Step P ⟨dst, .binOp op t x y t', ty, pos, after, guard⟩ env hp (is (.sc (.bool (q == b))) hp) :=
  Step.val fun F μ w a hr he => ⟨_, by
    obtain ⟨c, e1, rfl⟩ := hx F μ w a hr he
    obtain ⟨e, hu⟩ := isPtrT.ok ht
    have e2 := he.sc hy
    have hg : (eqGuard op t x y (.pointer c) (.pointer none)).run P w = .ok () w := by cases op <;> simp [eqGuard]
    have := run_cmp hg (ptr_eq_nil hu (a := c)) hb rfl rfl
    simp only [Sem.run_bind] at this
    simp only [execOp, e1, e2, Sem.run_bind, this, Result.andThen_ok]; rfl, .sc rfl⟩
theorem step_mapCmp {op : BinOp} {t t' : TypeId} {x y : Operand} {b : Bool} {q : Bool} {k e : TypeId} (hb : isEq op = some b) (ht : mapT P t = some (k, e)) (hy : opd env y = .sc (.map none))
    (hx : ∀ (F : Nat → Prop) (μ : List Nm) (w : World) (a : Act), HR F hp μ w → EnvR F env μ w a.tmps → ∃ c, a.eval x = .map c ∧ c.isNone = q) :
    Step P ⟨dst, .binOp op t x y t', ty, pos, after, guard⟩ env hp (is (.sc (.bool (q == b))) hp) :=
  Step.val fun F μ w a hr he => ⟨_, by
    obtain ⟨c, e1, rfl⟩ := hx F μ w a hr he
    have e2 := he.sc hy
    have hg : (eqGuard op t x y (.map c) (.map none)).run P w = .ok () w := by cases op <;> simp [eqGuard]
    have := run_cmp hg (map_eq_nil (mapT.ok ht) (a := c)) hb rfl rfl
    simp only [Sem.run_bind] at this
    simp only [execOp, e1, e2, Sem.run_bind, this, Result.andThen_ok]; rfl, .sc rfl⟩

/-- Pointers and maps, held against nil. -/
def evNilCmp (P : Program) (op : BinOp) (t : TypeId) (hp : List AObj) (x : AV) : AV → R
  | .sc (.pointer none) => match isEq op with
    | some b => bif isPtrT P t then match x with
        | .ptr o off => (match nth hp o with
          | some (.row esz cells) => rq1 (.sc (.bool (false == b))) o (.row esz cells)
          | _ => none)
        | .ip _ _ => rq (.sc (.bool (false == b)))
        | .sc (.pointer (some _)) => rq (.sc (.bool (false == b)))
        | .sc (.pointer none) => rq (.sc (.bool (true == b)))
        | _ => none
      else none
    | none => none
  | .sc (.map none) => match isEq op, mapT P t with
    | some b, some (k, e) => match x with
        | .mp o => (match nth hp o with
          | some (.ob (.map births clock) cells) => rq1 (.sc (.bool (false == b))) o (.ob (.map births clock) cells)
          | _ => none)
        | .sc (.map none) => rq (.sc (.bool (true == b)))
        | _ => none
    | _, _ => none
  | _ => none
theorem evNilCmp.ok {op : BinOp} {t t' : TypeId} {x y : Operand} : Ok P ⟨dst, .binOp op t x y t', ty, pos, after, guard⟩ env hp (evNilCmp P op t hp (opd env x) (opd env y)) := by
  unfold evNilCmp; split
  · rename_i hy; split
    · rename_i b hb
      cases ht : isPtrT P t
      · exact Ok.none
      · simp only [cond_true]; split
        · rename_i o off hx; split
          · rename_i esz cells ho; rw [nth_eq] at ho
            exact Ok.q1 ho fun hp ho => step_ptrCmp hb ht hy fun F μ w a hr he => by
              obtain ⟨b, base, tot, c, el, fr, g1, _⟩ := EnvR.ptr he hr hx ho
              exact ⟨_, g1, rfl⟩
          · exact Ok.none
        · rename_i hx
          exact Ok.q fun hp => step_ptrCmp hb ht hy fun F μ w a hr he => by
            obtain ⟨b, off, c, el, fr, g1, _⟩ := he.ip hx
            exact ⟨_, g1, rfl⟩
        · rename_i hx; exact Ok.q fun hp => step_ptrCmp hb ht hy fun F μ w a hr he => ⟨_, he.sc hx, rfl⟩
        · rename_i hx; exact Ok.q fun hp => step_ptrCmp hb ht hy fun F μ w a hr he => ⟨_, he.sc hx, rfl⟩
        · exact Ok.none
    · exact Ok.none
  · rename_i hy; split
    · rename_i b k e hb ht; split
      · rename_i o hx; split
        · rename_i births clock cells ho; rw [nth_eq] at ho
          exact Ok.q1 ho fun hp ho => step_mapCmp hb ht hy fun F μ w a hr he => by
            obtain ⟨b, esz, tot, es, g1, _⟩ := hr.mapAt ho (hx ▸ he.opd x)
            exact ⟨_, g1, rfl⟩
        · exact Ok.none
      · rename_i hx; exact Ok.q fun hp => step_mapCmp hb ht hy fun F μ w a hr he => ⟨_, he.sc hx, rfl⟩
      · exact Ok.none
    · exact Ok.none
  · exact Ok.none
end Go.SL

set_option linter.unusedVariables false
set_option linter.unusedSimpArgs false
set_option linter.unusedSectionVars false
namespace Go.SL
open Go
variable [Tabs]
variable {P : Program} {n : Nat} {F : Nat → Prop} {μ μ' : List Nm} {w w' : World} {env : Nat → AV} {hp : List AObj} {dst : Option Nat} {ty : TypeId} {pos : String} {after : Array Edge} {guard : Option (Nat × Bool)}

/-- A table of the program, read. -/
theorem step_loadG {t : TypeId} {x : Operand} {g off : Nat} {xs : List Value} {v : Value} (ha : IsAgg P t false) (hx : opd env x = .sc (.pointer (some ⟨g, off, none⟩))) (ht : Tabs.tab g = some xs) (hy : xs[off]? = some v) (hv : plainV v = true) :
    Step P ⟨dst, .load t x, ty, pos, after, guard⟩ env hp (is (.sc v) hp) := by
  refine Step.val fun F μ w a hr he => ?_
  obtain ⟨⟨c, el, fr, h1, h2⟩, _⟩ := hr.tb g xs ht
  refine ⟨v, ?_, .sc hv⟩
  have e1 := he.sc hx
  have : w.cell? ⟨g, off, none⟩ = some v := by simp only [World.cell?, h1]; rw [← h2] at hy; simpa using hy
  simp [execOp, e1, Instr.loadAt, Instr.sureAddr, loadVar, ha w, this]
theorem step_idxG {t e : TypeId} {x ix : Operand} {g off sz len : Nat} {k : IntKind} {i : Int} (ht : Und P t (.array len e)) (hs : SizeOf P e sz) (hx : opd env x = .sc (.pointer (some ⟨g, off, none⟩)))
    (hi : opd env ix = .sc (.int k i)) (h0 : 0 ≤ i) (h1 : i < len) :
    Step P ⟨dst, .indexAddr t x ix, ty, pos, after, guard⟩ env hp (is (.sc (.pointer (some ⟨g, off + i.toNat * sz, none⟩))) hp) :=
  Step.val fun F μ w a hr he => by
    refine ⟨_, ?_, .sc rfl⟩
    have g1 := he.sc hx
    have e1 := he.sc hi
    simp only [execOp, g1, e1, Instr.indexAt, asIntOf, Sem.run_bind, Sem.run_pure, Result.andThen_ok, ht w, Instr.sureAddr]
    rw [if_pos ⟨h0, h1⟩]
    simp only [Sem.run_bind, hs w, Result.andThen_ok, Sem.run_pure, addr_add, Nat.add_assoc]
def evLoad (P : Program) (t : TypeId) (hp : List AObj) : AV → R
  | .ptr o off => match nth hp o with
    | some (.row esz cells) => match aggB P t with
      | some false => match nth cells off with
        | some y => rq1 y o (.row esz cells)
        | none => none
      | some true => match szB P t with
        | some k => bif Nat.ble (off + k) cells.length then rq1 (.agg ((cells.drop off).take k)) o (.row esz cells) else none
        | none => none
      | none => none
    | _ => none
  | .ip cells i => match aggB P t with
    | some false => match nth cells i with
      | some y => rq y
      | none => none
    | some true => match szB P t with
      | some k => bif Nat.ble (i + k) cells.length then rq (.agg ((cells.drop i).take k)) else none
      | none => none
    | none => none
  | .sc (.pointer (some ⟨g, off, none⟩)) => match aggB P t with
    | some false => match Tabs.tab g with
      | some xs => match nth xs off with
        | some v => bif plainV v then rq (.sc v) else none
        | none => none
      | none => none
    | _ => none
  | _ => none
theorem evLoad.ok {t : TypeId} {x : Operand} : Ok P ⟨dst, .load t x, ty, pos, after, guard⟩ env hp (evLoad P t hp (opd env x)) := by
  unfold evLoad
  split
  · rename_i o off hx
    split
    · rename_i esz cells ho
      rw [nth_eq] at ho
      split
      · rename_i ha
        split
        · rename_i y hy; rw [nth_eq] at hy
          exact Ok.q1 ho fun hp ho => step_load (aggB.ok ha) hx ho hy
        · exact Ok.none
      · rename_i ha
        split
        · rename_i k hk
          cases hb : Nat.ble (off + k) cells.length
          · exact Ok.none
          · exact Ok.q1 ho fun hp ho => step_loadA (aggB.ok ha) (szB.ok hk) hx ho (Nat.le_of_ble_eq_true hb)
        · exact Ok.none
      · exact Ok.none
    · exact Ok.none
  · rename_i cells i hx
    split
    · rename_i ha
      split
      · rename_i y hy; rw [nth_eq] at hy
        exact Ok.q fun hp => step_loadI (aggB.ok ha) hx hy
      · exact Ok.none
    · rename_i ha
      split
      · rename_i k hk
        cases hb : Nat.ble (i + k) cells.length
        · exact Ok.none
        · exact Ok.q fun hp => step_loadIA (aggB.ok ha) (szB.ok hk) hx (Nat.le_of_ble_eq_true hb)
      · exact Ok.none
    · exact Ok.none
  · rename_i g off hx
    split
    · rename_i ha
      split
      · rename_i xs ht
        split
        · rename_i v hv; rw [nth_eq] at hv
          cases hb : plainV v
          · exact Ok.none
          · exact Ok.q fun hp => step_loadG (aggB.ok ha) hx ht hv hb
        · exact Ok.none
      · exact Ok.none
    · exact Ok.none
  · exact Ok.none

def evStore (P : Program) (t : TypeId) (hp : List AObj) (v : AV) : AV → R
  | .ptr o off => match nth hp o with
    | some (.row esz cells) => match szB P t with
      | some k => bif (cellsOf v).all cellAV && Nat.beq (cellsOf v).length k && Nat.ble (off + k) cells.length then some (.ef (.sc undef) (hp.set o (.row esz (splice cells off (cellsOf v)))), []) else none
      | none => none
    | _ => none
  | _ => none
theorem evStore.ok {t : TypeId} {x y : Operand} : Ok P ⟨dst, .store t x y, ty, pos, after, guard⟩ env hp (evStore P t hp (opd env y) (opd env x)) := by
  unfold evStore
  split
  · rename_i o off hx
    split
    · rename_i esz cells ho
      rw [nth_eq] at ho
      split
      · rename_i k hk
        cases hb : (cellsOf (opd env y)).all cellAV && Nat.beq (cellsOf (opd env y)).length k && Nat.ble (off + k) cells.length
        · exact Ok.none
        · simp only [Bool.and_eq_true] at hb
          exact Ok.ef (by simp) fun _ => step_store (szB.ok hk) hx ho rfl hb.1.1 (Nat.eq_of_beq_eq_true hb.1.2) (Nat.le_of_ble_eq_true hb.2)
      · exact Ok.none
    · exact Ok.none
  · exact Ok.none

def evAlloc (P : Program) (t : TypeId) : R := match zeroB P t with
  | some z => ral 1 (z.cells.toList.map litC) (fun k => .ptr k 0)
  | none => none
theorem evAlloc.ok {t : TypeId} : Ok P ⟨dst, .alloc t, ty, pos, after, guard⟩ env hp (evAlloc P t) := by
  unfold evAlloc; split
  · rename_i z hz; exact Ok.al (al_alloc (zeroB.ok hz))
  · exact Ok.none
def evBox (v : AV) : R := bif (cellsOf v).all cellAV then ral 1 (cellsOf v) (fun k => .ptr k 0) else none
theorem evBox.ok {t : TypeId} {x : Operand} : Ok P ⟨dst, .box t x, ty, pos, after, guard⟩ env hp (evBox (opd env x)) := by
  unfold evBox
  cases h : (cellsOf (opd env x)).all cellAV
  · exact Ok.none
  · exact Ok.al (al_box rfl h)

def evFieldAddr (P : Program) (s f : Nat) (hp : List AObj) : AV → R
  | .ptr o off => match nth hp o with
    | some (.row esz cells) => match fieldOffB P s f with
      | some k => rq1 (.ptr o (off + k)) o (.row esz cells)
      | none => none
    | _ => none
  | .ip cells i => match fieldOffB P s f with
    | some k => rq (.ip cells (i + k))
    | none => none
  | _ => none
theorem evFieldAddr.ok {s f : Nat} {x : Operand} : Ok P ⟨dst, .fieldAddr s x f, ty, pos, after, guard⟩ env hp (evFieldAddr P s f hp (opd env x)) := by
  unfold evFieldAddr
  split
  · rename_i o off hx
    split
    · rename_i esz cells ho
      rw [nth_eq] at ho
      split
      · rename_i k hk; exact Ok.q1 ho fun hp ho => step_field (FieldOff.mk hk) hx ho
      · exact Ok.none
    · exact Ok.none
  · rename_i cells i hx
    split
    · rename_i k hk; exact Ok.q fun hp => step_fieldI (FieldOff.mk hk) hx
    · exact Ok.none
  · exact Ok.none

/-- An element of an array behind a pointer. -/
theorem step_idxArr {t e : TypeId} {x ix : Operand} {o off esz sz len : Nat} {cells : List AV} {k : IntKind} {i : Int} (ht : Und P t (.array len e)) (hs : SizeOf P e sz) (hx : opd env x = .ptr o off)
    (ho : hp[o]? = some (AObj.row esz cells)) (hi : opd env ix = .sc (.int k i)) (h0 : 0 ≤ i) (h1 : i < len) :
    Step P ⟨dst, .indexAddr t x ix, ty, pos, after, guard⟩ env hp (is (.ptr o (off + i.toNat * sz)) hp) :=
  Step.val fun F μ w a hr he => by
    obtain ⟨b, base, tot, c, el, fr, g1, g2, g3, g4, g5, g6, g7⟩ := EnvR.ptr he hr hx ho
    refine ⟨_, ?_, .ptr (base := base) (off := off + i.toNat * sz) g2⟩
    have e1 := he.sc hi
    simp only [execOp, g1, e1, Instr.indexAt, asIntOf, Sem.run_bind, Sem.run_pure, Result.andThen_ok, ht w, Instr.sureAddr]
    rw [if_pos ⟨h0, h1⟩]
    simp only [Sem.run_bind, hs w, Result.andThen_ok, Sem.run_pure, addr_add, Nat.add_assoc]

def elemT (P : Program) (t : TypeId) : Option TypeId := match P.underlying t with | some (.slice e) => some e | _ => none
theorem elemT.ok {t e : TypeId} (h : elemT P t = some e) : Und P t (.slice e) := by
  unfold elemT at h; split at h
  · rename_i hu; injection h with h; subst h; exact fun w => run_und hu
  · simp at h
def arrT (P : Program) (t : TypeId) : Option (Nat × TypeId) := match P.underlying t with | some (.array n e) => some (n, e) | _ => none
theorem arrT.ok {t e : TypeId} {n : Nat} (h : arrT P t = some (n, e)) : Und P t (.array n e) := by
  unfold arrT at h; split at h
  · rename_i hu; injection h with h; injection h with h1 h2; subst h1; subst h2; exact fun w => run_und hu
  · simp at h

def ltI (i : Int) (n : Nat) : Bool := match i with | .ofNat m => Nat.blt m n | .negSucc _ => false
theorem ltI.ok {i : Int} {n : Nat} (h : ltI i n = true) : 0 ≤ i ∧ i < n := by
  cases i with
  | ofNat m => have : m < n := Nat.le_of_ble_eq_true h; constructor <;> simp <;> omega
  | negSucc m => simp [ltI] at h

def evIdx (P : Program) (t : TypeId) (hp : List AObj) : AV → AV → R
  | .ptr o off, .sc (.int k i) => match nth hp o with
    | some (.row esz cells) => match arrT P t with
      | some (n, e) => match szB P e with
        | some sz => bif ltI i n then rq1 (.ptr o (off + i.toNat * sz)) o (.row esz cells) else none
        | none => none
      | none => none
    | _ => none
  | .sl o off len, .sc (.int k i) => match nth hp o with
    | some (.row esz cells) => match elemT P t with
      | some e => match szB P e with
        | some sz => bif Nat.beq sz esz && ltI i len then rq1 (.ptr o (off + i.toNat * esz)) o (.row esz cells) else none
        | none => none
      | none => none
    | _ => none
  | .im esz cells, .sc (.int k i) => match elemT P t with
    | some e => match szB P e with
      | some sz => bif Nat.beq sz esz && Nat.blt 0 esz && Nat.beq (cells.length / esz * esz) cells.length && ltI i (cells.length / esz) then rq (.ip cells (i.toNat * esz)) else none
      | none => none
    | none => none
  | .sc (.pointer (some ⟨g, off, none⟩)), .sc (.int k i) => match arrT P t with
    | some (n, e) => match szB P e with
      | some sz => bif ltI i n then rq (.sc (.pointer (some ⟨g, off + i.toNat * sz, none⟩))) else none
      | none => none
    | none => none
  | _, _ => none
theorem evIdx.ok {t : TypeId} {x ix : Operand} : Ok P ⟨dst, .indexAddr t x ix, ty, pos, after, guard⟩ env hp (evIdx P t hp (opd env x) (opd env ix)) := by
  unfold evIdx
  split
  · rename_i o off k i hx hi
    split
    · rename_i esz cells ho; rw [nth_eq] at ho
      split
      · rename_i n e hn
        split
        · rename_i sz hz
          cases hb : ltI i n
          · exact Ok.none
          · exact Ok.q1 ho fun hp ho => step_idxArr (arrT.ok hn) (szB.ok hz) hx ho hi (ltI.ok hb).1 (ltI.ok hb).2
        · exact Ok.none
      · exact Ok.none
    · exact Ok.none
  · rename_i o off len k i hx hi
    split
    · rename_i esz cells ho; rw [nth_eq] at ho
      split
      · rename_i e hn
        split
        · rename_i sz hz
          cases hb : Nat.beq sz esz && ltI i len
          · exact Ok.none
          · simp only [Bool.and_eq_true] at hb
            have e1 := Nat.eq_of_beq_eq_true hb.1; subst e1
            exact Ok.q1 ho fun hp ho => step_idx (elemT.ok hn) (szB.ok hz) hx ho hi (ltI.ok hb.2).1 (ltI.ok hb.2).2
        · exact Ok.none
      · exact Ok.none
    · exact Ok.none
  · rename_i esz cells k i hx hi
    split
    · rename_i e hn
      split
      · rename_i sz hz
        cases hb : Nat.beq sz esz && Nat.blt 0 esz && Nat.beq (cells.length / esz * esz) cells.length && ltI i (cells.length / esz)
        · exact Ok.none
        · simp only [Bool.and_eq_true] at hb
          have e1 := Nat.eq_of_beq_eq_true hb.1.1.1; subst e1
          exact Ok.q fun hp => step_idxI (elemT.ok hn) (szB.ok hz) hx (Nat.eq_of_beq_eq_true hb.1.2) (Nat.le_of_ble_eq_true hb.1.1.2) hi (ltI.ok hb.2).1 (ltI.ok hb.2).2
      · exact Ok.none
    · exact Ok.none
  · rename_i g off k i hx hi
    split
    · rename_i n e hn
      split
      · rename_i sz hz
        cases hb : ltI i n
        · exact Ok.none
        · exact Ok.q fun hp => step_idxG (arrT.ok hn) (szB.ok hz) hx hi (ltI.ok hb).1 (ltI.ok hb).2
      · exact Ok.none
    · exact Ok.none
  · exact Ok.none

def evNil (hp : List AObj) : AV → R
  | .ptr o off => match nth hp o with
    | some (.row esz cells) => rq1 (.ptr o off) o (.row esz cells)
    | _ => none
  | .ip cells i => rq (.ip cells i)
  | _ => none
theorem step_nilpI' {x : Operand} {i : Nat} {cells : List AV} (hx : opd env x = .ip cells i) : Step P ⟨dst, .nilCheck x, ty, pos, after, guard⟩ env hp (is (.ip cells i) hp) :=
  Step.val fun F μ w a hr he => by
    have h := he.opd x
    rw [hx] at h
    generalize hv : a.eval x = v at h
    cases h with
    | ip h1 h2 h3 h4 => exact ⟨_, by simp only [execOp, hv]; rfl, .ip h1 h2 h3 h4⟩
theorem evNil.ok {x : Operand} : Ok P ⟨dst, .nilCheck x, ty, pos, after, guard⟩ env hp (evNil hp (opd env x)) := by
  unfold evNil; split
  · rename_i o off hx; split
    · rename_i esz cells ho; rw [nth_eq] at ho; exact Ok.q1 ho fun hp ho => step_nilp hx ho
    · exact Ok.none
  · rename_i hx; exact Ok.q fun hp => step_nilpI' hx
  · exact Ok.none

/-- An array's elements given. -/
theorem step_buildArr {t e : TypeId} {z : Value} {sz len : Nat} {parts : Array (Nat × Operand)} {out : List AV} (hz : ZeroV P t z) (ht : Und P t (.array len e)) (hs : SizeOf P e sz)
    (hf : fillAV (fun i => some (i * sz, sz)) (z.cells.toList.map litC) (parts.toList.map fun p => (p.1, opd env p.2)) = some out) :
    Step P ⟨dst, .build t parts, ty, pos, after, guard⟩ env hp (is (.agg out) hp) := by
  refine Step.val fun F μ w a hr he => ?_
  obtain ⟨cs', hc1, hc2⟩ := fill_rel (F := F) (μ := μ) (w := w) (place := fun i => some (i * sz, sz)) (parts := parts.toList.map fun p => (p.1, opd env p.2)) (parts' := (parts.map fun (i, x) => (i, a.eval x)).toList) (cs := z.cells)
    (by simp [Function.comp_def]) (by
      have : ∀ l : List (Nat × Operand), VRL F μ w ((l.map fun p => (p.1, opd env p.2)).map (·.2)) ((l.map fun p => (p.1, a.eval p.2)).map (·.2)) := by
        intro l
        induction l with
        | nil => exact .nil
        | cons p l ih => exact .cons (he.opd p.2) ih
      simpa using this parts.toList) (litL_rel _) hf
  refine ⟨.agg cs', ?_, .agg hc2⟩
  simp only [execOp, Instr.build, Sem.run_bind, hz w, Result.andThen_ok, ht w, hs w]
  rw [hc1]
  simp
def evBuild (P : Program) (t : TypeId) (env : Nat → AV) (parts : Array (Nat × Operand)) : R := match zeroB P t with
  | some z => match placesB P t with
    | some pl => match fillAV (fun i => nth pl i) (z.cells.toList.map litC) (parts.toList.map fun p => (p.1, opd env p.2)) with
      | some out => rq (.agg out)
      | none => none
    | none => match arrT P t with
      | some (n, e) => match szB P e with
        | some sz => match fillAV (fun i => some (i * sz, sz)) (z.cells.toList.map litC) (parts.toList.map fun p => (p.1, opd env p.2)) with
          | some out => rq (.agg out)
          | none => none
        | none => none
      | none => none
  | none => none
theorem evBuild.ok {t : TypeId} {parts : Array (Nat × Operand)} : Ok P ⟨dst, .build t parts, ty, pos, after, guard⟩ env hp (evBuild P t env parts) := by
  unfold evBuild; split
  · rename_i z hz; split
    · rename_i pl hpl; split
      · rename_i out ho
        simp only [nth_eq] at ho
        exact Ok.q fun hp => step_build (zeroB.ok hz) (PlacesOf.mk hpl) ho
      · exact Ok.none
    · split
      · rename_i n e hn; split
        · rename_i sz hs; split
          · rename_i out ho
            exact Ok.q fun hp => step_buildArr (zeroB.ok hz) (arrT.ok hn) (szB.ok hs) ho
          · exact Ok.none
        · exact Ok.none
      · exact Ok.none
  · exact Ok.none

def evBuildSl (P : Program) (t : TypeId) (len : Nat) (env : Nat → AV) (parts : Array (Nat × Operand)) : R := match elemT P t with
  | some e => match eiB P e with
    | some (z, esz, bs) => match fillAV (fun i => some (i * esz, esz)) (zerosAV z len) (parts.toList.map fun p => (p.1, opd env p.2)) with
      | some out => bif Nat.beq z.cells.size esz && Nat.ble (len * esz) 16777216 && Nat.beq out.length (len * esz) then ral esz out (fun k => .sl k 0 len) else none
      | none => none
    | none => none
  | none => none
theorem evBuildSl.ok {t : TypeId} {len : Nat} {parts : Array (Nat × Operand)} : Ok P ⟨dst, .buildSlice t len parts, ty, pos, after, guard⟩ env hp (evBuildSl P t len env parts) := by
  unfold evBuildSl; split
  · rename_i e he; split
    · rename_i z esz bs hz; split
      · rename_i out ho
        cases hb : Nat.beq z.cells.size esz && Nat.ble (len * esz) 16777216 && Nat.beq out.length (len * esz)
        · exact Ok.none
        · simp only [Bool.and_eq_true] at hb
          exact Ok.al (al_buildSlice (elemT.ok he) (eiB.ok hz) (Nat.eq_of_beq_eq_true hb.1.1) (Nat.le_of_ble_eq_true hb.1.2) ho (Nat.eq_of_beq_eq_true hb.2))
      · exact Ok.none
    · exact Ok.none
  · exact Ok.none

def intT (P : Program) (t : TypeId) : Option IntKind := match P.underlying t with | some (.int k) => some k | _ => none
theorem intT.ok {t : TypeId} {k : IntKind} (h : intT P t = some k) : Und P t (.int k) := by
  unfold intT at h; split at h
  · rename_i hu; injection h with h; subst h; exact fun w => run_und hu
  · simp at h
def isStrT (P : Program) (t : TypeId) : Bool := match P.underlying t with | some .string => true | _ => false
theorem isStrT.ok {t : TypeId} (h : isStrT P t = true) : P.underlying t = some .string := by
  unfold isStrT at h; split at h
  · rename_i hu; exact hu
  · simp at h
def isU8T (P : Program) (t : TypeId) : Bool := match P.underlying t with | some (.int .u8) => true | _ => false
theorem isU8T.ok {t : TypeId} (h : isU8T P t = true) : P.underlying t = some (.int .u8) := by
  unfold isU8T at h; split at h
  · rename_i hu; exact hu
  · simp at h

theorem step_runeStr {s t : TypeId} {x : Operand} {k : IntKind} {p : Int} {d : TypeDesc} (hs : Und P s d) (ht : P.underlying t = some .string) (hx : opd env x = .sc (.int k p)) (hd : ∃ k', d = .int k') :
    Step P ⟨dst, .convert s t x, ty, pos, after, guard⟩ env hp (is (.sc (.string (Utf8.encode p))) hp) :=
  Step.val fun F μ w a hr he => ⟨_, by
    obtain ⟨k', rfl⟩ := hd
    have e2 : (underlying t).run P w = .ok .string w := run_und ht
    simp only [execOp, he.sc hx, Sem.run_bind, convert, hs w, e2, Result.andThen_ok, Conv.intToString, Sem.run_pure], .sc rfl⟩

def evConv (P : Program) (s t : TypeId) : AV → R
  | .sc (.int k p) => match intT P s with
    | some ks => match intT P t with
      | some kt => rq (.sc (.int kt (kt.wrap p)))
      | none => bif isStrT P t then rq (.sc (.string (Utf8.encode p))) else none
    | none => none
  | .sc (.string b) => match elemT P t with
    | some e => bif isStrT P s && isU8T P e then ral 1 (b.data.toList.map byteAV) (fun k => .sl k 0 b.size) else none
    | none => none
  | _ => none
theorem elemT.ok' {t e : TypeId} (h : elemT P t = some e) : P.underlying t = some (.slice e) := by
  unfold elemT at h; split at h
  · rename_i hu; injection h with h; subst h; exact hu
  · simp at h
theorem evConv.ok {s t : TypeId} {x : Operand} : Ok P ⟨dst, .convert s t x, ty, pos, after, guard⟩ env hp (evConv P s t (opd env x)) := by
  unfold evConv; split
  · rename_i k p hx; split
    · rename_i ks hs; split
      · rename_i kt ht; exact Ok.q fun hp => step_conv (intT.ok hs) (intT.ok ht) hx
      · cases hb : isStrT P t
        · exact Ok.none
        · exact Ok.q fun hp => step_runeStr (intT.ok hs) (isStrT.ok hb) hx ⟨_, rfl⟩
    · exact Ok.none
  · rename_i b hx; split
    · rename_i e he
      cases hb : isStrT P s && isU8T P e
      · exact Ok.none
      · simp only [Bool.and_eq_true] at hb
        exact Ok.al (al_strB (isStrT.ok hb.1) (elemT.ok' he) (isU8T.ok hb.2) hx)
    · exact Ok.none
  · exact Ok.none

def evExtract (i : Nat) : AV → R
  | .tup xs => match nth xs i with | some y => rq y | none => none
  | _ => none
theorem evExtract.ok {x : Operand} {i : Nat} : Ok P ⟨dst, .extract x i, ty, pos, after, guard⟩ env hp (evExtract i (opd env x)) := by
  unfold evExtract; split
  · rename_i xs hx; split
    · rename_i y hy; rw [nth_eq] at hy; exact Ok.q fun hp => step_extract hx hy
    · exact Ok.none
  · exact Ok.none

def evFn (fn : Fn) (env : Nat → AV) (first caps : Array Operand) : R := match fn with
  | .func f => rq (.fn f (first.toList.map (opd env)) (caps.toList.map (opd env)))
  | _ => none
theorem evFn.ok {fn : Fn} {first caps : Array Operand} : Ok P ⟨dst, .makeFunc fn first caps, ty, pos, after, guard⟩ env hp (evFn fn env first caps) := by
  unfold evFn; split
  · exact Ok.q fun hp => step_fn
  · exact Ok.none

def evIndex (P : Program) (t : TypeId) : AV → AV → R
  | .sc (.string s), .sc (.int k (.ofNat i)) => bif isStrT P t then (match nth s.data.toList i with | some c => rq (.sc (.int .u8 c.toNat)) | none => none) else none
  | _, _ => none
theorem evIndex.ok {t : TypeId} {x ix : Operand} : Ok P ⟨dst, .index t x ix, ty, pos, after, guard⟩ env hp (evIndex P t (opd env x) (opd env ix)) := by
  unfold evIndex; split
  · rename_i s k i hx hi
    cases hb : isStrT P t
    · exact Ok.none
    · show Ok _ _ _ _ (match nth s.data.toList i with | some c => _ | none => _)
      split
      · rename_i c hc; rw [nth_eq] at hc
        exact Ok.q fun hp => step_index (fun w => run_und (isStrT.ok hb)) hx hi (by simp) hc
      · exact Ok.none
  · exact Ok.none

def evLen (P : Program) (t : TypeId) (hp : List AObj) : AV → R
  | .sc (.string s) => bif isStrT P t then rq (.sc (.int .i64 s.size)) else none
  | .sl o off len => match nth hp o with
    | some (.row esz cells) => match elemT P t with | some e => rq1 (.sc (.int .i64 len)) o (.row esz cells) | none => none
    | _ => none
  | .nil => match elemT P t with | some e => rq (.sc (.int .i64 0)) | none => none
  | .im esz cells => match elemT P t with | some e => bif Nat.blt 0 esz && Nat.beq (cells.length / esz * esz) cells.length then rq (.sc (.int .i64 ((cells.length / esz : Nat) : Int))) else none | none => none
  | _ => none
theorem evLen.ok {t : TypeId} {x : Operand} : Ok P ⟨dst, .call ⟨.builtin .len, #[x], #[t]⟩, ty, pos, after, guard⟩ env hp (evLen P t hp (opd env x)) := by
  unfold evLen; split
  · rename_i s hx
    cases hb : isStrT P t
    · exact Ok.none
    · exact Ok.q fun hp => step_lenS (fun w => run_und (isStrT.ok hb)) hx
  · rename_i o off len hx; split
    · rename_i esz cells ho; rw [nth_eq] at ho; split
      · rename_i e he; exact Ok.q1 ho fun hp ho => step_lenL (elemT.ok he) hx ho
      · exact Ok.none
    · exact Ok.none
  · rename_i hx; split
    · rename_i e he; exact Ok.q fun hp => step_lenN (elemT.ok he) hx
    · exact Ok.none
  · rename_i esz cells hx; split
    · rename_i e he
      cases hb : Nat.blt 0 esz && Nat.beq (cells.length / esz * esz) cells.length
      · exact Ok.none
      · simp only [Bool.and_eq_true] at hb
        exact Ok.q fun hp => step_lenI (elemT.ok he) hx (Nat.eq_of_beq_eq_true hb.2) (Nat.le_of_ble_eq_true hb.1)
    · exact Ok.none
  · exact Ok.none

def bdV (d : Nat) : Option AV → Option Nat
  | none => some d
  | some (.sc (.int _ (.ofNat n))) => some n
  | _ => none
theorem bdV.ok {d v : Nat} {x : Option Operand} (h : bdV d (x.map (opd env)) = some v) : Bd env x d v := by
  cases x with
  | none => simp only [Option.map_none, bdV, Option.some.injEq] at h; exact h.symm
  | some x =>
    simp only [Option.map_some] at h
    unfold bdV at h
    split at h
    · rename_i h1; simp at h1
    · rename_i k n h1
      simp only [Option.some.injEq] at h1 h; subst h
      exact Bd.some h1 rfl
    · simp at h
/-- A slice of an array behind a pointer. -/
theorem step_sliceArr {t e : TypeId} {x : Operand} {lo hi : Option Operand} {o off esz l h n : Nat} {cells : List AV} (ht : Und P t (.array n e)) (hs : SizeOf P e esz) (hx : opd env x = .ptr o off)
    (ho : hp[o]? = some (AObj.row esz cells)) (hl : Bd env lo 0 l) (hh : Bd env hi n h) (h1 : l ≤ h) (h2 : h ≤ n) (hn : off + n * esz ≤ cells.length) :
    Step P ⟨dst, .slice t x lo hi none, ty, pos, after, guard⟩ env hp (is (.sl o (off + l * esz) (h - l)) hp) :=
  Step.val fun F μ w a hr he => by
    obtain ⟨b, base, tot, c, el, fr, g1, g2, g3, g4, g5, g6, g7⟩ := EnvR.ptr he hr hx ho
    have hbd := run_bounds (P := P) (w := w) (isS := false) (len := n) (cap := n) he hl hh h1 h2 (fun _ => h2)
    have hln : n * esz = l * esz + (n - l) * esz := by rw [← Nat.add_mul]; congr 1; omega
    by_cases hk : n = l
    · subst hk
      have e1 : h - n = 0 := by omega
      refine ⟨.slice (some ⟨b, base + off, none⟩) (h - n) (n - n), ?_, ?_⟩
      · simp [execOp, g1, Instr.sliceAt, Instr.sureAddr, ht w, hs w, hbd]
      · rw [e1, Nat.sub_self]; exact .slN g2
    · refine ⟨.slice (some ⟨b, base + (off + l * esz), none⟩) (h - l) (n - l), ?_, .sl g2 (by omega) (by omega)⟩
      simp [execOp, g1, Instr.sliceAt, Instr.sureAddr, ht w, hs w, hbd, hk, addr_add, Nat.add_assoc]
def evSlice (P : Program) (t : TypeId) (hp : List AObj) (lo hi : Option AV) : AV → R
  | .sl o off len => match nth hp o with
    | some (.row esz cells) => match elemT P t with
      | some e => match szB P e, bdV 0 lo, bdV len hi with
        | some sz, some l, some h => bif Nat.beq sz esz && Nat.ble l h && Nat.ble h len then rq1 (.sl o (off + l * esz) (h - l)) o (.row esz cells) else none
        | _, _, _ => none
      | none => none
    | _ => none
  | .im esz cells => match elemT P t with
    | some e => match szB P e, bdV 0 lo, bdV (cells.length / esz) hi with
      | some sz, some l, some h => bif Nat.beq sz esz && Nat.blt 0 esz && Nat.beq (cells.length / esz * esz) cells.length && Nat.ble l h && Nat.ble h (cells.length / esz) then rq (.im esz ((cells.drop (l * esz)).take ((h - l) * esz))) else none
      | _, _, _ => none
    | none => none
  | .ptr o off => match nth hp o with
    | some (.row esz cells) => match arrT P t with
      | some (n, e) => match szB P e, bdV 0 lo, bdV n hi with
        | some sz, some l, some h => bif Nat.beq sz esz && Nat.ble l h && Nat.ble h n && Nat.ble (off + n * esz) cells.length then rq1 (.sl o (off + l * esz) (h - l)) o (.row esz cells) else none
        | _, _, _ => none
      | none => none
    | _ => none
  | .sc (.string s) => match bdV 0 lo, bdV s.size hi with
    | some l, some h => bif isStrT P t && Nat.ble l h && Nat.ble h s.size then rq (.sc (.string (s.extract l h))) else none
    | _, _ => none
  | _ => none
theorem evSlice.ok {t : TypeId} {x : Operand} {lo hi : Option Operand} : Ok P ⟨dst, .slice t x lo hi none, ty, pos, after, guard⟩ env hp (evSlice P t hp (lo.map (opd env)) (hi.map (opd env)) (opd env x)) := by
  unfold evSlice; split
  · rename_i o off len hx; split
    · rename_i esz cells ho; rw [nth_eq] at ho; split
      · rename_i e he; split
        · rename_i sz l h hz hl hh
          cases hb : Nat.beq sz esz && Nat.ble l h && Nat.ble h len
          · exact Ok.none
          · simp only [Bool.and_eq_true] at hb
            have e1 := Nat.eq_of_beq_eq_true hb.1.1; subst e1
            exact Ok.q1 ho fun hp ho => step_slice (elemT.ok he) (szB.ok hz) hx ho (bdV.ok hl) (bdV.ok hh) (Nat.le_of_ble_eq_true hb.1.2) (Nat.le_of_ble_eq_true hb.2)
        · exact Ok.none
      · exact Ok.none
    · exact Ok.none
  · rename_i esz cells hx; split
    · rename_i e he; split
      · rename_i sz l h hz hl hh
        cases hb : Nat.beq sz esz && Nat.blt 0 esz && Nat.beq (cells.length / esz * esz) cells.length && Nat.ble l h && Nat.ble h (cells.length / esz)
        · exact Ok.none
        · simp only [Bool.and_eq_true] at hb
          have e1 := Nat.eq_of_beq_eq_true hb.1.1.1.1; subst e1
          exact Ok.q fun hp => step_sliceI (elemT.ok he) (szB.ok hz) hx (Nat.eq_of_beq_eq_true hb.1.1.2) (Nat.le_of_ble_eq_true hb.1.1.1.2) (bdV.ok hl) (bdV.ok hh) (Nat.le_of_ble_eq_true hb.1.2) (Nat.le_of_ble_eq_true hb.2)
      · exact Ok.none
    · exact Ok.none
  · rename_i o off hx; split
    · rename_i esz cells ho; rw [nth_eq] at ho; split
      · rename_i n e he; split
        · rename_i sz l h hz hl hh
          cases hb : Nat.beq sz esz && Nat.ble l h && Nat.ble h n && Nat.ble (off + n * esz) cells.length
          · exact Ok.none
          · simp only [Bool.and_eq_true] at hb
            have e1 := Nat.eq_of_beq_eq_true hb.1.1.1; subst e1
            exact Ok.q1 ho fun hp ho => step_sliceArr (arrT.ok he) (szB.ok hz) hx ho (bdV.ok hl) (bdV.ok hh) (Nat.le_of_ble_eq_true hb.1.1.2) (Nat.le_of_ble_eq_true hb.1.2) (Nat.le_of_ble_eq_true hb.2)
        · exact Ok.none
      · exact Ok.none
    · exact Ok.none
  · rename_i s hx; split
    · rename_i l h hl hh
      cases hb : isStrT P t && Nat.ble l h && Nat.ble h s.size
      · exact Ok.none
      · simp only [Bool.and_eq_true] at hb
        exact Ok.q fun hp => step_sliceS (fun w => run_und (isStrT.ok hb.1.1)) hx (bdV.ok hl) (bdV.ok hh) (Nat.le_of_ble_eq_true hb.1.2) (Nat.le_of_ble_eq_true hb.2)
    · exact Ok.none
  · exact Ok.none

/-- What append and copy take from. -/
def srcV (hp : List AObj) (esz : Nat) : AV → Option (Nat × List AV)
  | .im e cells => bif Nat.beq e esz && Nat.blt 0 esz && Nat.beq (cells.length / esz * esz) cells.length && cells.all cellAV then some (cells.length / esz, cells) else none
  | .sl o off m => match nth hp o with
    | some (.row e cells) => bif Nat.beq e esz && Nat.ble (off + m * esz) cells.length && ((cells.drop off).take (m * esz)).all cellAV then some (m, (cells.drop off).take (m * esz)) else none
    | _ => none
  | .sc (.string s) => bif Nat.beq esz 1 then some (s.size, s.data.toList.map byteAV) else none
  | .nil => some (0, [])
  | _ => none
theorem srcV.ok {esz m : Nat} {X : List AV} {x : Operand} (h : srcV hp esz (opd env x) = some (m, X)) : Src P env hp esz x m X := by
  unfold srcV at h; split at h
  · rename_i e cells hx
    cases hb : Nat.beq e esz && Nat.blt 0 esz && Nat.beq (cells.length / esz * esz) cells.length && cells.all cellAV
    · rw [hb] at h; simp at h
    · rw [hb] at h
      simp only [cond_true, Option.some.injEq, Prod.mk.injEq] at h
      obtain ⟨rfl, rfl⟩ := h
      simp only [Bool.and_eq_true] at hb
      have e1 := Nat.eq_of_beq_eq_true hb.1.1.1; subst e1
      exact Src.im hx (Nat.eq_of_beq_eq_true hb.1.2) (Nat.le_of_ble_eq_true hb.1.1.2) hb.2
  · rename_i o off k hx; split at h
    · rename_i e cells ho; rw [nth_eq] at ho
      cases hb : Nat.beq e esz && Nat.ble (off + k * esz) cells.length && ((cells.drop off).take (k * esz)).all cellAV
      · rw [hb] at h; simp at h
      · rw [hb] at h
        simp only [cond_true, Option.some.injEq, Prod.mk.injEq] at h
        obtain ⟨rfl, rfl⟩ := h
        simp only [Bool.and_eq_true] at hb
        have e1 := Nat.eq_of_beq_eq_true hb.1.1; subst e1
        exact Src.own hx ho (Nat.le_of_ble_eq_true hb.1.2) hb.2
    · simp at h
  · rename_i s hx
    cases hb : Nat.beq esz 1
    · rw [hb] at h; simp at h
    · rw [hb] at h
      simp only [cond_true, Option.some.injEq, Prod.mk.injEq] at h
      obtain ⟨rfl, rfl⟩ := h
      have e1 := Nat.eq_of_beq_eq_true hb; subst e1
      exact Src.str hx
  · rename_i hx
    simp only [Option.some.injEq, Prod.mk.injEq] at h
    obtain ⟨rfl, rfl⟩ := h
    exact Src.nil hx
  · simp at h
def srcT (P : Program) (t : TypeId) : Option TypeDesc := match P.underlying t with | some (.slice e) => some (.slice e) | some .string => some .string | _ => none
theorem srcT.ok {t : TypeId} {d : TypeDesc} (h : srcT P t = some d) : Und P t d ∧ notInt d := by
  unfold srcT at h; split at h
  · rename_i e hu; injection h with h; subst h; exact ⟨fun w => run_und hu, .inl ⟨_, rfl⟩⟩
  · rename_i hu; injection h with h; subst h; exact ⟨fun w => run_und hu, .inr rfl⟩
  · simp at h
def evAppend (P : Program) (sT xT : TypeId) (hp : List AObj) (s x : AV) : R := match elemT P sT, srcT P xT with
  | some e, some _ => match eiB P e with
    | some (z, esz, bs) => match srcV hp esz x with
      | some (m, X) => bif Nat.blt 0 esz && !Nat.beq bs 0 && Nat.beq z.cells.size esz then (match s with
        | .sl o off len => match nth hp o with
          | some (.row e' cells) => bif Nat.beq e' esz && Nat.beq (off + len * esz) cells.length && Nat.ble ((len + m) * bs) 140737488355328 then some (.ef (.sl hp.length 0 (len + m)) (hp.set o .dead ++ [.row esz (cells.drop off ++ X)]), []) else none
          | _ => none
        | .nil => bif Nat.ble (m * bs) 140737488355328 then some (.ef (.sl hp.length 0 m) (hp ++ [.row esz X]), []) else none
        | _ => none) else none
      | none => none
    | none => none
  | _, _ => none
theorem evAppend.ok {sT xT : TypeId} {s x : Operand} : Ok P ⟨dst, .call ⟨.builtin .append, #[s, x], #[sT, xT]⟩, ty, pos, after, guard⟩ env hp (evAppend P sT xT hp (opd env s) (opd env x)) := by
  unfold evAppend; split
  · rename_i e d he hd; split
    · rename_i z esz bs hz; split
      · rename_i m X hs
        cases hb : Nat.blt 0 esz && !Nat.beq bs 0 && Nat.beq z.cells.size esz
        · exact Ok.none
        · simp only [Bool.and_eq_true, Bool.not_eq_true'] at hb
          have h0 : 0 < esz := Nat.le_of_ble_eq_true hb.1.1
          have h1 : bs ≠ 0 := fun h => by rw [h] at hb; simp at hb
          have h2 := Nat.eq_of_beq_eq_true hb.2
          simp only [cond_true]
          split
          · rename_i o off len hx; split
            · rename_i e' cells ho; rw [nth_eq] at ho
              cases hc : Nat.beq e' esz && Nat.beq (off + len * esz) cells.length && Nat.ble ((len + m) * bs) 140737488355328
              · exact Ok.none
              · simp only [Bool.and_eq_true] at hc
                have e1 := Nat.eq_of_beq_eq_true hc.1.1; subst e1
                exact Ok.ef (by simp) fun _ => step_append (elemT.ok he) (eiB.ok hz) (srcT.ok hd).1 (srcT.ok hd).2 hx ho (Nat.eq_of_beq_eq_true hc.1.2) (srcV.ok hs) (.inl (Nat.le_of_ble_eq_true hc.2)) h0 h1 h2
            · exact Ok.none
          · rename_i hx
            cases hc : Nat.ble (m * bs) 140737488355328
            · exact Ok.none
            · exact Ok.ef (by simp) fun _ => step_append0 (elemT.ok he) (eiB.ok hz) (srcT.ok hd).1 (srcT.ok hd).2 hx (srcV.ok hs) (Nat.le_of_ble_eq_true hc) h0 h1 h2
          · exact Ok.none
      · exact Ok.none
    · exact Ok.none
  · exact Ok.none
def evCopy (P : Program) (dT : TypeId) (hp : List AObj) (d s : AV) : R := match elemT P dT with
  | some e => match eiB P e with
    | some (z, esz, bs) => match srcV hp esz s with
      | some (m, X) => match d with
        | .sl o off len => match nth hp o with
          | some (.row e' cells) => bif Nat.beq e' esz && Nat.ble (off + len * esz) cells.length then some (.ef (.sc (.int .i64 ((min m len : Nat) : Int))) (hp.set o (.row esz (splice cells off (X.take (min m len * esz))))), []) else none
          | _ => none
        | _ => none
      | none => none
    | none => none
  | none => none
theorem evCopy.ok {dT sT : TypeId} {d s : Operand} : Ok P ⟨dst, .call ⟨.builtin .copy, #[d, s], #[dT, sT]⟩, ty, pos, after, guard⟩ env hp (evCopy P dT hp (opd env d) (opd env s)) := by
  unfold evCopy; split
  · rename_i e he; split
    · rename_i z esz bs hz; split
      · rename_i m X hs; split
        · rename_i o off len hx; split
          · rename_i e' cells ho; rw [nth_eq] at ho
            cases hc : Nat.beq e' esz && Nat.ble (off + len * esz) cells.length
            · exact Ok.none
            · simp only [Bool.and_eq_true] at hc
              have e1 := Nat.eq_of_beq_eq_true hc.1; subst e1
              exact Ok.ef (by simp) fun _ => step_copy (elemT.ok he) (eiB.ok hz) hx ho (Nat.le_of_ble_eq_true hc.2) (srcV.ok hs)
          · exact Ok.none
        · exact Ok.none
      · exact Ok.none
    · exact Ok.none
  · exact Ok.none
def evMake (P : Program) (t : TypeId) : AV → AV → R
  | .sc (.int _ (.ofNat l)), .sc (.int _ (.ofNat c)) => match elemT P t with
    | some e => match eiB P e with
      | some (z, esz, bs) => bif Nat.beq z.cells.size esz && Nat.ble l c && Nat.ble c 9223372036854775807 && Nat.ble (c * bs) 281474976710656 && Nat.blt 0 esz then some (.ef (.sl hp.length 0 l) (hp ++ [.row esz (zerosAV z l)]), []) else none
      | none => none
    | none => none
  | _, _ => none
theorem evMake.ok {t : TypeId} {x y : Operand} : Ok P ⟨dst, .makeSlice t x y, ty, pos, after, guard⟩ env hp (evMake (hp := hp) P t (opd env x) (opd env y)) := by
  unfold evMake; split
  · rename_i k l k' c hx hy; split
    · rename_i e he; split
      · rename_i z esz bs hz
        cases hc : Nat.beq z.cells.size esz && Nat.ble l c && Nat.ble c 9223372036854775807 && Nat.ble (c * bs) 281474976710656 && Nat.blt 0 esz
        · exact Ok.none
        · simp only [Bool.and_eq_true] at hc
          exact Ok.ef (by simp) fun _ => step_makeSlice (elemT.ok he) (eiB.ok hz) (Nat.eq_of_beq_eq_true hc.1.1.1.1) hx hy rfl rfl (Nat.le_of_ble_eq_true hc.1.1.1.2) (Nat.le_of_ble_eq_true hc.1.1.2) (Nat.le_of_ble_eq_true hc.1.2) (Nat.le_of_ble_eq_true hc.2)
      · exact Ok.none
    · exact Ok.none
  · exact Ok.none
def evMin : AV → AV → R
  | .sc (.int k p), .sc (.int k' q) => rq (.sc (.int k (if q < p then q else p)))
  | _, _ => none
theorem evMin.ok {t t' : TypeId} {x y : Operand} : Ok P ⟨dst, .call ⟨.builtin .min, #[x, y], #[t, t']⟩, ty, pos, after, guard⟩ env hp (evMin (opd env x) (opd env y)) := by
  unfold evMin; split
  · rename_i hx hy; exact Ok.q fun hp => step_min2 hx hy
  · exact Ok.none
def bytesV : List AV → Option (List UInt8)
  | [] => some []
  | .sc (.int .u8 (.ofNat n)) :: l => bif Nat.blt n 256 then (match bytesV l with | some r => some (UInt8.ofNat n :: r) | none => none) else none
  | _ => none
theorem bytesV.ok : ∀ {l : List AV} {r : List UInt8}, bytesV l = some r → l = r.map byteAV
  | [], r, h => by simp only [bytesV, Option.some.injEq] at h; subst h; rfl
  | x :: l, r, h => by
    unfold bytesV at h
    split at h
    · rename_i h1; simp at h1
    · rename_i n l' h1
      simp only [List.cons.injEq] at h1
      obtain ⟨rfl, rfl⟩ := h1
      cases hb : Nat.blt n 256
      · rw [hb] at h; simp at h
      · rw [hb] at h; simp only [cond_true] at h
        split at h
        · rename_i r' hr
          simp only [Option.some.injEq] at h; subst h
          have hlt : n < 256 := Nat.le_of_ble_eq_true hb
          rw [List.map_cons, ← bytesV.ok hr]
          congr 1
          simp only [byteAV]
          have : (UInt8.ofNat n).toNat = n := by rw [UInt8.toNat_ofNat']; omega
          rw [this]; rfl
        · simp at h
    · simp at h
def evStrOf (P : Program) (s t : TypeId) (hp : List AObj) : AV → R
  | .sl o off len => match nth hp o with
    | some (.row 1 cells) => match elemT P s with
      | some e => match bytesV ((cells.drop off).take len) with
        | some l => bif isU8T P e && isStrT P t && Nat.ble (off + len) cells.length then rq1 (.sc (.string ⟨l.toArray⟩)) o (.row 1 cells) else none
        | none => none
      | none => none
    | _ => none
  | .im 1 cells => match elemT P s with
    | some e => match bytesV cells with
      | some l => bif isU8T P e && isStrT P t then rq (.sc (.string ⟨l.toArray⟩)) else none
      | none => none
    | none => none
  | _ => none
theorem evStrOf.ok {s t : TypeId} {x : Operand} : Ok P ⟨dst, .convert s t x, ty, pos, after, guard⟩ env hp (evStrOf P s t hp (opd env x)) := by
  unfold evStrOf; split
  · rename_i o off len hx; split
    · rename_i cells ho; rw [nth_eq] at ho; split
      · rename_i e he; split
        · rename_i l hl
          cases hb : isU8T P e && isStrT P t && Nat.ble (off + len) cells.length
          · exact Ok.none
          · simp only [Bool.and_eq_true] at hb
            exact Ok.q1 ho fun hp ho => step_strO (elemT.ok' he) (isU8T.ok hb.1.1) (isStrT.ok hb.1.2) hx ho (bytesV.ok hl) (Nat.le_of_ble_eq_true hb.2)
        · exact Ok.none
      · exact Ok.none
    · exact Ok.none
  · rename_i cells hx; split
    · rename_i e he; split
      · rename_i l hl
        cases hb : isU8T P e && isStrT P t
        · exact Ok.none
        · simp only [Bool.and_eq_true] at hb
          exact Ok.q fun hp => step_strI (elemT.ok' he) (isU8T.ok hb.1) (isStrT.ok hb.2) (by rw [hx, bytesV.ok hl])
      · exact Ok.none
    · exact Ok.none
  · exact Ok.none
theorem step_strN {s t e : TypeId} {x : Operand} (hs : P.underlying s = some (.slice e)) (he : P.underlying e = some (.int .u8)) (ht : P.underlying t = some .string) (hx : opd env x = .nil) :
    Step P ⟨dst, .convert s t x, ty, pos, after, guard⟩ env hp (is (.sc (.string ⟨#[]⟩)) hp) := by
  refine Step.val fun F μ w a hr hen => ?_
  have h1 := hen.opd x
  rw [hx] at h1
  generalize ha : a.eval x = v at h1
  refine ⟨.string ⟨#[]⟩, ?_, .sc rfl⟩
  cases h1 with
  | nil =>
    rename_i ad
    have hrun : (Conv.bytesToString (.slice ad 0 0)).run P w = .ok (.string ⟨#[]⟩) w := by
      cases ad with
      | none => rfl
      | some ad => exact run_str (by have := run_loadCells_list (P := P) (w := w) ad [] (fun j v h => by simp at h); simpa using this)
    have := run_convert_bytes_string (P := P) w s t e ad 0 0 hs he ht
    rw [hrun] at this
    simp [execOp, ha, this]
theorem step_convMark {t e : TypeId} {x : Operand} {o off len esz : Nat} {cells : List AV} (ht : P.underlying t = some (.slice e)) (he : P.underlying e = some (.int .u8)) (hx : opd env x = .sl o off len)
    (ho : hp[o]? = some (AObj.row esz cells)) (hl : 0 < len) : Step P ⟨dst, .convert t t x, ty, pos, after, guard⟩ env hp (is (.sl o off len) hp) := by
  refine Step.of fun F μ w a hr hen => ?_
  rcases hen.sl hr hx ho with ⟨b, base, tot, c, el, fr, k, h1, h2, h3, h4, h5, h6, h7, h8, h9⟩ | ⟨h1, _⟩
  · have hsh : w.shape? b = some (el, c.size) := by unfold World.shape?; rw [h5]
    obtain ⟨lo, hi⟩ := fr
    have hlt := heap_lt h5
    have hN : NF (if lo == hi then (c.size, c.size + 1) else (min lo c.size, max hi (c.size + 1))) c.size := by
      rw [← h6] at h9
      split
      · exact ⟨Nat.le_succ _, fun i hi h => by simp only at h; omega⟩
      · rename_i hne
        have hne' : lo ≠ hi := by simpa using hne
        have hle : lo ≤ hi := h9.1
        refine ⟨by simp only; omega, fun i hi' h => ?_⟩
        simp only at h
        have := h9.2 lo
        simp only at this
        omega
    have hw : (w.freeze ⟨b, c.size, none⟩ 1).heap = w.heap.setIfInBounds b (Obj.cells c el (if lo == hi then (c.size, c.size + 1) else (min lo c.size, max hi (c.size + 1)))) := by
      unfold World.freeze
      rw [if_neg (by decide)]
      apply Array.ext
      · simp
      · intro i g1 g2
        simp only [Array.getElem_modify]
        rw [Array.getElem_setIfInBounds (by simpa using g2)]
        by_cases hi : b = i
        · subst hi
          rw [if_pos rfl, if_pos rfl]
          rw [Array.getElem?_eq_getElem hlt] at h5
          rw [Option.some.inj h5]
        · rw [if_neg hi, if_neg hi]
    have hos : (w.freeze ⟨b, c.size, none⟩ 1).os = w.os ∧ (w.freeze ⟨b, c.size, none⟩ 1).output = w.output := by
      unfold World.freeze; rw [if_neg (by decide)]; exact ⟨rfl, rfl⟩
    obtain ⟨g1, g2⟩ := hr.mark h4 h5 hN hw hos
    refine ⟨.slice (some ⟨b, base + off, none⟩) len k, _, μ, ?_, g1, .sl h4 h2 h3, g2⟩
    simp [execOp, h1, convert, run_underlying ht, run_underlying he, markStringish, hsh]
  · omega
def evMark (P : Program) (s t : TypeId) (hp : List AObj) (o off len : Nat) : R :=
  bif Nat.beq s t && Nat.blt 0 len then (match nth hp o with
    | some (.row e' cells) => (match elemT P s with
      | some e => bif isU8T P e then rq1 (.sl o off len) o (.row e' cells) else none
      | none => none)
    | _ => none) else none
theorem evMark.ok {s t : TypeId} {x : Operand} {o off len : Nat} (hx : opd env x = .sl o off len) : Ok P ⟨dst, .convert s t x, ty, pos, after, guard⟩ env hp (evMark P s t hp o off len) := by
  unfold evMark
  cases hb : Nat.beq s t && Nat.blt 0 len
  · exact Ok.none
  · simp only [Bool.and_eq_true] at hb
    have e1 := Nat.eq_of_beq_eq_true hb.1; subst e1
    simp only [cond_true]
    split
    · rename_i e' cells ho; rw [nth_eq] at ho; split
      · rename_i e he
        cases hu : isU8T P e
        · exact Ok.none
        · exact Ok.q1 ho fun hp ho => step_convMark (elemT.ok' he) (isU8T.ok hu) hx ho (Nat.le_of_ble_eq_true hb.2)
      · exact Ok.none
    · exact Ok.none
def evConv2 (P : Program) (s t : TypeId) (hp : List AObj) (x : AV) : R := match x with
  | .sc _ => evConv P s t x
  | .sl o off len => match evMark P s t hp o off len with
    | some r => some r
    | none => evStrOf P s t hp (.sl o off len)
  | .nil => match elemT P s with
    | some e => bif isU8T P e && isStrT P t then rq (.sc (.string ⟨#[]⟩)) else none
    | none => none
  | _ => evStrOf P s t hp x
theorem evConv2.ok {s t : TypeId} {x : Operand} : Ok P ⟨dst, .convert s t x, ty, pos, after, guard⟩ env hp (evConv2 P s t hp (opd env x)) := by
  unfold evConv2; split
  · exact evConv.ok
  · rename_i o off len hx
    have hm := evMark.ok (P := P) (hp := hp) (dst := dst) (ty := ty) (pos := pos) (after := after) (guard := guard) (s := s) (t := t) hx
    have hs := evStrOf.ok (P := P) (hp := hp) (env := env) (dst := dst) (ty := ty) (pos := pos) (after := after) (guard := guard) (s := s) (t := t) (x := x)
    rw [hx] at hs
    split
    · rename_i r hr; rw [hr] at hm; exact hm
    · exact hs
  · rename_i hx; split
    · rename_i e he
      cases hb : isU8T P e && isStrT P t
      · exact Ok.none
      · simp only [Bool.and_eq_true] at hb
        exact Ok.q fun hp => step_strN (elemT.ok' he) (isU8T.ok hb.1) (isStrT.ok hb.2) hx
    · exact Ok.none
  · exact evStrOf.ok

def evBinN (P : Program) (op : BinOp) (t : TypeId) (hp : List AObj) (x y : AV) : R := match y with
  | .sc (.pointer none) => evNilCmp P op t hp x (.sc (.pointer none))
  | .sc (.map none) => evNilCmp P op t hp x (.sc (.map none))
  | y => evBin P op t x y
theorem evBinN.ok {op : BinOp} {t t' : TypeId} {x y : Operand} : Ok P ⟨dst, .binOp op t x y t', ty, pos, after, guard⟩ env hp (evBinN P op t hp (opd env x) (opd env y)) := by
  unfold evBinN; split
  · rename_i h; rw [← h]; exact evNilCmp.ok
  · rename_i h; rw [← h]; exact evNilCmp.ok
  · exact evBin.ok
def evLenN (P : Program) (t : TypeId) (hp : List AObj) (x : AV) : R := match x with
  | .mp o => evLenM P t hp (.mp o)
  | .sc (.map none) => evLenM P t hp (.sc (.map none))
  | x => evLen P t hp x
theorem evLenN.ok {t : TypeId} {x : Operand} : Ok P ⟨dst, .call ⟨.builtin .len, #[x], #[t]⟩, ty, pos, after, guard⟩ env hp (evLenN P t hp (opd env x)) := by
  unfold evLenN; split
  · rename_i h; rw [← h]; exact evLenM.ok
  · rename_i h; rw [← h]; exact evLenM.ok
  · exact evLen.ok

/-- What an operation does, but calls of functions. -/
def evOp (P : Program) (env : Nat → AV) (hp : List AObj) : Op → R
  | .move x | .assign x => rq (opd env x)
  | .pick c a b => evPick (opd env c) (opd env a) (opd env b)
  | .unOp op t x => evUn op (opd env x)
  | .binOp op t x y _ => evBinN P op t hp (opd env x) (opd env y)
  | .load t x => evLoad P t hp (opd env x)
  | .store t x y => evStore P t hp (opd env y) (opd env x)
  | .alloc t => evAlloc P t
  | .box t x => evBox (opd env x)
  | .fieldAddr s x f => evFieldAddr P s f hp (opd env x)
  | .indexAddr t x i => evIdx P t hp (opd env x) (opd env i)
  | .nilCheck x => evNil hp (opd env x)
  | .build t parts => evBuild P t env parts
  | .buildSlice t len parts => evBuildSl P t len env parts
  | .convert s t x => evConv2 P s t hp (opd env x)
  | .slice t x lo hi none => evSlice P t hp (lo.map (opd env)) (hi.map (opd env)) (opd env x)
  | .makeSlice t x y => evMake (hp := hp) P t (opd env x) (opd env y)
  | .extract x i => evExtract i (opd env x)
  | .makeFunc fn first caps => evFn fn env first caps
  | .index t x i => evIndex P t (opd env x) (opd env i)
  | .call ⟨.builtin .len, ⟨[x]⟩, ⟨[t]⟩⟩ => evLenN P t hp (opd env x)
  | .call ⟨.builtin .append, ⟨[s, x]⟩, ⟨[sT, xT]⟩⟩ => evAppend P sT xT hp (opd env s) (opd env x)
  | .call ⟨.builtin .copy, ⟨[d, s]⟩, ⟨[dT, _]⟩⟩ => evCopy P dT hp (opd env d) (opd env s)
  | .call ⟨.builtin .min, ⟨[x, y]⟩, ⟨[_, _]⟩⟩ => evMin (opd env x) (opd env y)
  | .makeMap _ none => evMakeMap hp
  | .lookup t m k ok => evLookup P t hp ok (opd env k) (opd env m)
  | .mapUpdate t m k x => evMapUpd P t hp (opd env k) (opd env x) (opd env m)
  | .insert t m k x => evMapUpd P t hp (opd env k) (opd env x) (opd env m)
  | .call ⟨.builtin .delete, ⟨[m, k]⟩, ⟨[t, _]⟩⟩ => evDelete P t hp (opd env k) (opd env m)
  | .range t x => evRange P t hp (opd env x)
  | .next x false => evNext hp (opd env x)
  | .entry x => evEntry hp (opd env x)
  | _ => none
theorem evOp.ok (o : Oper) : Ok P o env hp (evOp P env hp o.op) := by
  obtain ⟨dst, op, ty, pos, after, guard⟩ := o
  unfold evOp
  split <;> simp only at *
  · rename_i h; subst h; exact Ok.q fun hp => step_move
  · rename_i h; subst h; exact Ok.q fun hp => step_assign
  · rename_i h; subst h; exact evPick.ok
  · rename_i h; subst h; exact evUn.ok
  · rename_i h; subst h; exact evBinN.ok
  · rename_i h; subst h; exact evLoad.ok
  · rename_i h; subst h; exact evStore.ok
  · rename_i h; subst h; exact evAlloc.ok
  · rename_i h; subst h; exact evBox.ok
  · rename_i h; subst h; exact evFieldAddr.ok
  · rename_i h; subst h; exact evIdx.ok
  · rename_i h; subst h; exact evNil.ok
  · rename_i h; subst h; exact evBuild.ok
  · rename_i h; subst h; exact evBuildSl.ok
  · rename_i h; subst h; exact evConv2.ok
  · rename_i h; subst h; exact evSlice.ok
  · rename_i h; subst h; exact evMake.ok
  · rename_i h; subst h; exact evExtract.ok
  · rename_i h; subst h; exact evFn.ok
  · rename_i h; subst h; exact evIndex.ok
  · rename_i h; subst h; exact evLenN.ok
  · rename_i h; subst h; exact evAppend.ok
  · rename_i h; subst h; exact evCopy.ok
  · rename_i h; subst h; exact evMin.ok
  · rename_i h; subst h; exact evMakeMap.ok
  · rename_i h; subst h; exact evLookup.ok
  · rename_i h; subst h; exact evMapUpd.ok
  · rename_i h; subst h; exact evMapIns.ok
  · rename_i h; subst h; exact evDelete.ok
  · rename_i h; subst h; exact evRange.ok
  · rename_i h; subst h; exact evNext.ok
  · rename_i h; subst h; exact evEntry.ok
  · exact Ok.none
end Go.SL

set_option linter.unusedVariables false
set_option linter.unusedSimpArgs false
set_option linter.unusedSectionVars false
namespace Go.SL
open Go
variable [Tabs]
variable {P : Program} {n : Nat} {F : Nat → Prop} {μ μ' : List Nm} {w w' : World} {env : Nat → AV} {hp : List AObj} {dst : Option Nat} {ty : TypeId} {pos : String} {after : Array Edge} {guard : Option (Nat × Bool)}

def bdP (d : Nat) (v : Nat) : Option AV → Option Prop
  | none => some (v = d)
  | some (.sc (.int _ z)) => some (z = (v : Int))
  | _ => none
theorem bdP.ok {d v : Nat} {x : Option Operand} {p : Prop} (h : bdP d v (x.map (opd env)) = some p) (hp : p) : Bd env x d v := by
  cases x with
  | none => simp only [Option.map_none, bdP, Option.some.injEq] at h; subst h; exact hp
  | some x =>
    simp only [Option.map_some] at h
    unfold bdP at h
    split at h
    · rename_i h1; simp at h1
    · rename_i k z h1
      simp only [Option.some.injEq] at h1 h; subst h
      exact Bd.some h1 hp
    · simp at h
/-- A source of append or copy told by what it holds. -/
def srcQ (hp : List AObj) (esz m : Nat) (X : List AV) : AV → Option (List Prop)
  | .im e cells => bif Nat.beq e esz then some [m * e = cells.length, 0 < e, cells.all cellAV = true, cells = X] else none
  | .sl o off m' => match nth hp o with
    | some (.row e cells) => bif Nat.beq e esz then some [m' = m, off + m * esz ≤ cells.length, ((cells.drop off).take (m * esz)).all cellAV = true, (cells.drop off).take (m * esz) = X] else none
    | _ => none
  | x => match srcV hp esz x with
    | some (m', X') => some [m' = m, X' = X]
    | none => none
theorem srcQ.ok {esz m : Nat} {X : List AV} {x : Operand} {ps : List Prop} (h : srcQ hp esz m X (opd env x) = some ps) (hp' : allP ps) : Src P env hp esz x m X := by
  unfold srcQ at h; split at h
  · rename_i e cells hx
    cases hb : Nat.beq e esz
    · rw [hb] at h; simp at h
    · rw [hb] at h; simp only [cond_true, Option.some.injEq] at h; subst h
      have e1 := Nat.eq_of_beq_eq_true hb; subst e1
      obtain ⟨h1, h2, h3, h4, _⟩ := hp'
      subst h4
      exact Src.im hx h1 h2 h3
  · rename_i o off m' hx; split at h
    · rename_i e cells ho; rw [nth_eq] at ho
      cases hb : Nat.beq e esz
      · rw [hb] at h; simp at h
      · rw [hb] at h; simp only [cond_true, Option.some.injEq] at h; subst h
        have e1 := Nat.eq_of_beq_eq_true hb; subst e1
        obtain ⟨h1, h2, h3, h4, _⟩ := hp'
        subst h1; subst h4
        exact Src.own hx ho h2 h3
    · simp at h
  · split at h
    · rename_i m' X' hs
      simp only [Option.some.injEq] at h; subst h
      obtain ⟨h1, h2, _⟩ := hp'
      subst h1; subst h2
      exact srcV.ok hs
    · simp at h

theorem allP_append2 : ∀ {l l' : List Prop}, allP (l ++ l') → allP l ∧ allP l'
  | [], _, h => ⟨trivial, h⟩
  | _ :: _, _, h => ⟨⟨h.1, (allP_append2 h.2).1⟩, (allP_append2 h.2).2⟩

inductive Xt where
  | ms (l : Nat) (ys : List AV)
  | sl (a h q k : Nat)
  | st (ys : List AV)
  | cp (m k : Nat) (X ys : List AV)
  | so (l : List UInt8)
  | ix (j : Nat) (c : UInt8)
  | ss (a h : Nat) (s : ByteArray)
  | sb (l : List UInt8)
  | nn (k : Nat)
  | ap (m k : Nat) (X ys : List AV)
  | na (v : Nat)
  | mk (r : Option Nat) (y : AV) (bs : List Nat) (ys : List AV)
  | mb (vs : List Bool)

/-- Where a key stands, told key by key. -/
def tellF (P : Program) (kt : TypeId) (k : AV) : List AV → List Bool → Nat → Option (Option Nat × List Prop)
  | [], [], _ => some (none, [])
  | x :: xs, v :: vs, i => match eqV P 10000 kt k x with
    | some b => match v with
      | true => some (some i, [b = true])
      | false => match tellF P kt k xs vs (i + 1) with
        | some (r, ps) => some (r, (b = false) :: ps)
        | none => none
    | none => none
  | _, _, _ => none
theorem tellF.ok {kt : TypeId} {k : AV} : ∀ {xs : List AV} {vs : List Bool} {i : Nat} {r : Option Nat} {ps : List Prop}, tellF P kt k xs vs i = some (r, ps) → allP ps → findAV P kt k xs i = some r
  | [], [], i, r, ps, h, _ => by simp only [tellF, Option.some.injEq, Prod.mk.injEq] at h; obtain ⟨rfl, _⟩ := h; rfl
  | [], _ :: _, i, r, ps, h, _ => by simp [tellF] at h
  | _ :: _, [], i, r, ps, h, _ => by simp [tellF] at h
  | x :: xs, v :: vs, i, r, ps, h, hp => by
    simp only [tellF] at h
    split at h
    · rename_i b hb
      cases v with
      | true =>
        simp only [Option.some.injEq, Prod.mk.injEq] at h
        obtain ⟨rfl, rfl⟩ := h
        have h1 : b = true := hp.1
        subst h1
        simp only [findAV, hb]
      | false =>
        simp only at h
        split at h
        · rename_i r1 ps1 h1
          simp only [Option.some.injEq, Prod.mk.injEq] at h
          obtain ⟨rfl, rfl⟩ := h
          have h2 : b = false := hp.1
          subst h2
          simp only [findAV, hb]
          exact tellF.ok h1 hp.2
        · simp at h
    · simp at h
/-- What must hold of a key that is written again. -/
def sameP (cells : List AV) (k : AV) : Option Nat → List Prop
  | some j => [nth cells j = some k]
  | none => []
theorem sameP.ok {cells : List AV} {k : AV} {r : Option Nat} (h : allP (sameP cells k r)) : ∀ j, r = some j → cells[j]? = some k := by
  intro j hj; subst hj; rw [← nth_eq]; exact h.1

/-- What must hold for arithmetic on Nats. -/
def naP (op : BinOp) (k k' : IntKind) (p q v : Nat) : Option (List Prop) := match op with
  | .shl => some [q ≤ k.bits, p * 2 ^ q < cap k, p * 2 ^ q = v]
  | .shr => some [p < cap k, p / 2 ^ q = v]
  | .add => if k = k' then some [p + q < cap k, p + q = v] else none
  | .sub => if k = k' then some [q ≤ p, p < cap k, p - q = v] else none
  | .mul => if k = k' then some [p * q < cap k, p * q = v] else none
  | .and => if k = k' then some [p < cap k, q < cap k, p &&& q = v] else none
  | .or => if k = k' then some [p < cap k, q < cap k, p ||| q = v] else none
  | .xor => if k = k' then some [p < cap k, q < cap k, p ^^^ q = v] else none
  | .quo => if k = k' then some [0 < q, p < cap k, p / q = v] else none
  | .rem => if k = k' then some [0 < q, p % q = v] else none
  | _ => none
theorem naP.ok {op : BinOp} {t t' : TypeId} {x y : Operand} {k k' : IntKind} {p q v : Nat} {ps : List Prop} (hx : opd env x = .sc (.int k (Int.ofNat p))) (hy : opd env y = .sc (.int k' (Int.ofNat q))) (h : naP op k k' p q v = some ps) (hp' : allP ps) :
    Step P ⟨dst, .binOp op t x y t', ty, pos, after, guard⟩ env hp (is (.sc (.int k (v : Int))) hp) := by
  unfold naP at h
  cases op <;> simp only at h <;> first
    | (injection h with h; subst h; obtain ⟨h1, h2, h3, _⟩ := hp'; subst h3; exact step_shlN hx hy h1 h2)
    | (injection h with h; subst h; obtain ⟨h1, h3, _⟩ := hp'; subst h3; exact step_shrN hx hy h1)
    | (split at h
       · rename_i hk; subst hk
         injection h with h; subst h
         first
           | (obtain ⟨h1, h2, _⟩ := hp'; subst h2; exact step_addN hx hy h1)
           | (obtain ⟨h1, h2, h3, _⟩ := hp'; subst h3; exact step_subN hx hy h1 h2)
           | (obtain ⟨h1, h2, _⟩ := hp'; subst h2; exact step_mulN hx hy h1)
           | (obtain ⟨h1, h2, h3, _⟩ := hp'; subst h3; exact step_andN hx hy h1 h2)
           | (obtain ⟨h1, h2, h3, _⟩ := hp'; subst h3; exact step_orN hx hy h1 h2)
           | (obtain ⟨h1, h2, h3, _⟩ := hp'; subst h3; exact step_xorN hx hy h1 h2)
           | (obtain ⟨h1, h2, h3, _⟩ := hp'; subst h3; exact step_quoN hx hy h1 h2)
           | (obtain ⟨h1, h2, _⟩ := hp'; subst h2; exact step_remN hx hy h1)
       · simp at h)
    | simp at h

def special2 (P : Program) (env : Nat → AV) (hp : List AObj) (o : Op) : Xt → Option (Kd × List Prop)
  | .ms l ys => match o with
    | .makeSlice t x y => match opd env x, opd env y with
      | .sc (.int _ p), .sc (.int _ q) => match elemT P t with
        | some e => match eiB P e with
          | some (z, esz, bs) => bif Nat.beq z.cells.size esz && Nat.blt 0 esz then some (.ef (.sl hp.length 0 l) (hp ++ [.row esz ys]), [p = (l : Int), q = (l : Int), l ≤ 9223372036854775807, l * bs ≤ 281474976710656, zerosAV z l = ys]) else none
          | none => none
        | none => none
      | _, _ => none
    | _ => none
  | .sl a h q k => match o with
    | .slice t x lo hi none => match elemT P t with
      | some e => match szB P e, opd env x with
        | some sz, .sl o off len => match nth hp o with
          | some (.row esz cells) => match bdP 0 a (lo.map (opd env)), bdP len h (hi.map (opd env)) with
            | some p1, some p2 => bif Nat.beq sz esz then some (.q (.sl o q k) [(o, .row esz cells)], [p1, p2, a ≤ h, h ≤ len, off + a * esz = q, h - a = k]) else none
            | _, _ => none
          | _ => none
        | _, _ => none
      | none => none
    | _ => none
  | .st ys => match o with
    | .store t x y => match opd env x with
      | .ptr o off => match nth hp o with
        | some (.row esz cells) => match szB P t with
          | some k => bif (cellsOf (opd env y)).all cellAV && Nat.beq (cellsOf (opd env y)).length k then some (.ef (.sc undef) (hp.set o (.row esz ys)), [off + k ≤ cells.length, splice cells off (cellsOf (opd env y)) = ys]) else none
          | none => none
        | _ => none
      | _ => none
    | _ => none
  | .cp m k X ys => match o with
    | .call ⟨.builtin .copy, ⟨[d, s]⟩, ⟨[dT, _]⟩⟩ => match elemT P dT with
      | some e => match eiB P e with
        | some (z, esz, bs) => match srcQ hp esz m X (opd env s), opd env d with
          | some ps, .sl o off len => match nth hp o with
            | some (.row e' cells) => bif Nat.beq e' esz then some (.ef (.sc (.int .i64 (k : Int))) (hp.set o (.row esz ys)), ps ++ [off + len * esz ≤ cells.length, min m len = k, splice cells off (X.take (k * esz)) = ys]) else none
            | _ => none
          | _, _ => none
        | none => none
      | none => none
    | _ => none
  | .so l => match o with
    | .convert s t x => match elemT P s with
      | some e => bif isU8T P e && isStrT P t then (match opd env x with
        | .sl o off len => match nth hp o with
          | some (.row 1 cells) => some (.q (.sc (.string ⟨l.toArray⟩)) [(o, .row 1 cells)], [(cells.drop off).take len = l.map byteAV, off + len ≤ cells.length])
          | _ => none
        | .im 1 cells => some (.q (.sc (.string ⟨l.toArray⟩)) [], [cells = l.map byteAV])
        | _ => none) else none
      | none => none
    | _ => none
  | .ix j c => match o with
    | .index t x i => bif isStrT P t then (match opd env x, opd env i with
      | .sc (.string s), .sc (.int _ z) => some (.q (.sc (.int .u8 c.toNat)) [], [z = (j : Int), s.data.toList[j]? = some c])
      | _, _ => none) else none
    | _ => none
  | .ss a h s' => match o with
    | .slice t x lo hi none => bif isStrT P t then (match opd env x with
      | .sc (.string s) => match bdP 0 a (lo.map (opd env)), bdP s.size h (hi.map (opd env)) with
        | some p1, some p2 => some (.q (.sc (.string s')) [], [p1, p2, a ≤ h, h ≤ s.size, s.extract a h = s'])
        | _, _ => none
      | _ => none) else none
    | _ => none
  | .sb l => match o with
    | .convert s t x => match opd env x, elemT P t with
      | .sc (.string b), some e => bif isStrT P s && isU8T P e then some (.al 1 (l.map byteAV) (fun k => .sl k 0 l.length), [b.data.toList = l]) else none
      | _, _ => none
    | _ => none
  | .nn k => match o with
    | .call ⟨.builtin .len, ⟨[x]⟩, ⟨[t]⟩⟩ => match opd env x with
      | .sc (.string s) => bif isStrT P t then some (.q (.sc (.int .i64 (k : Int))) [], [s.size = k]) else none
      | .sl o off len => match nth hp o, elemT P t with
        | some (.row esz cells), some e => some (.q (.sc (.int .i64 (k : Int))) [(o, .row esz cells)], [len = k])
        | _, _ => none
      | _ => none
    | _ => none
  | .ap m k X ys => match o with
    | .call ⟨.builtin .append, ⟨[s, x]⟩, ⟨[sT, xT]⟩⟩ => match elemT P sT, srcT P xT with
      | some e, some _ => match eiB P e with
        | some (z, esz, bs) => match srcQ hp esz m X (opd env x) with
          | some ps => bif Nat.blt 0 esz && !Nat.beq bs 0 && Nat.beq z.cells.size esz then (match opd env s with
            | .sl o off len => match nth hp o with
              | some (.row e' cells) => bif Nat.beq e' esz then some (.ef (.sl hp.length 0 k) (hp.set o .dead ++ [.row esz ys]), ps ++ [off + len * esz = cells.length, (k * bs ≤ 140737488355328 ∨ (bs = 1 ∧ k ≤ 200000000000000)), len + m = k, cells.drop off ++ X = ys]) else none
              | _ => none
            | .nil => some (.ef (.sl hp.length 0 k) (hp ++ [.row esz ys]), ps ++ [k * bs ≤ 140737488355328, m = k, X = ys])
            | _ => none) else none
          | none => none
        | none => none
      | _, _ => none
    | _ => none
  | .na v => match o with
    | .binOp op t x y t' => match opd env x, opd env y with
      | .sc (.int k (.ofNat p)), .sc (.int k' (.ofNat q)) => match naP op k k' p q v with
        | some ps => some (.q (.sc (.int k (v : Int))) [], ps)
        | none => none
      | _, _ => none
    | .convert s t x => match opd env x, intT P s, intT P t with
      | .sc (.int k (.ofNat p)), some ks, some kt => some (.q (.sc (.int kt (v : Int))) [], [kt.wrap (p : Int) = (v : Int)])
      | _, _, _ => none
    | .unOp .xor t x => match opd env x with
      | .sc (.int k (.ofNat m)) => bif uns k then some (.q (.sc (.int k (v : Int))) [], [m < cap k, cap k - 1 - m = v]) else none
      | _ => none
    | _ => none
  | .mk r y bs ys => match o with
    | .lookup t m k ok => match opd env m with
      | .mp o => match mapT P t with
        | some (kt, et) => match nth hp o with
          | some (.ob (.map births clock) cells) => bif ckV P 10000 kt (opd env k) then (match r with
            | some j => some (.q (okV ok y true) [(o, .ob (.map births clock) cells)], [findAV P kt (opd env k) (cells.take births.length) 0 = some (some j), cells[births.length + j]? = some y])
            | none => (match zeroB P et with
              | some z => some (.q (okV ok (lit z) false) [(o, .ob (.map births clock) cells)], [findAV P kt (opd env k) (cells.take births.length) 0 = some none])
              | none => none)) else none
          | _ => none
        | none => none
      | _ => none
    | .mapUpdate t m k x => match opd env m with
      | .mp o => match mapT P t with
        | some (kt, et) => match nth hp o with
          | some (.ob (.map births clock) cells) => bif ckV P 10000 kt (opd env k) then some (.ef (.sc undef) (hp.set o (.ob (.map bs (updK r clock)) ys)), [findAV P kt (opd env k) (cells.take births.length) 0 = some r, updB r births clock = bs, updV births.length r (opd env k) (opd env x) cells = ys, ∀ j, r = some j → cells[j]? = some (opd env k)]) else none
          | _ => none
        | none => none
      | _ => none
    | .call ⟨.builtin .delete, ⟨[m, k]⟩, ⟨[t, _]⟩⟩ => match opd env m with
      | .mp o => match mapT P t with
        | some (kt, et) => match nth hp o with
          | some (.ob (.map births clock) cells) => bif ckV P 10000 kt (opd env k) then some (.ef (.tup []) (hp.set o (.ob (.map bs clock) ys)), [findAV P kt (opd env k) (cells.take births.length) 0 = some r, delO r births clock cells = .ob (.map bs clock) ys]) else none
          | _ => none
        | none => none
      | _ => none
    | _ => none
  | .mb vs => match o with
    | .lookup t m k ok => match opd env m with
      | .mp o => match mapT P t with
        | some (kt, et) => match nth hp o with
          | some (.ob (.map births clock) cells) => bif ckV P 10000 kt (opd env k) then (match tellF P kt (opd env k) (cells.take births.length) vs 0 with
            | some (some j, ps) => (match nth cells (births.length + j) with
              | some y => some (.q (okV ok y true) [(o, .ob (.map births clock) cells)], ps)
              | none => none)
            | some (none, ps) => (match zeroB P et with
              | some z => some (.q (okV ok (lit z) false) [(o, .ob (.map births clock) cells)], ps)
              | none => none)
            | none => none) else none
          | _ => none
        | none => none
      | _ => none
    | .mapUpdate t m k x => match opd env m with
      | .mp o => match mapT P t with
        | some (kt, et) => match nth hp o with
          | some (.ob (.map births clock) cells) => bif ckV P 10000 kt (opd env k) then (match tellF P kt (opd env k) (cells.take births.length) vs 0 with
            | some (r, ps) => some (.ef (.sc undef) (hp.set o (.ob (.map (updB r births clock) (updK r clock)) (updV births.length r (opd env k) (opd env x) cells))), sameP cells (opd env k) r ++ ps)
            | none => none) else none
          | _ => none
        | none => none
      | _ => none
    | .call ⟨.builtin .delete, ⟨[m, k]⟩, ⟨[t, _]⟩⟩ => match opd env m with
      | .mp o => match mapT P t with
        | some (kt, et) => match nth hp o with
          | some (.ob (.map births clock) cells) => bif ckV P 10000 kt (opd env k) then (match tellF P kt (opd env k) (cells.take births.length) vs 0 with
            | some (r, ps) => some (.ef (.tup []) (hp.set o (delO r births clock cells)), ps)
            | none => none) else none
          | _ => none
        | none => none
      | _ => none
    | _ => none

theorem special2.ok {o : Oper} {d : Xt} {k : Kd} {ps : List Prop} (h : special2 P env hp o.op d = some (k, ps)) (hp' : allP ps) : OK1 P o env hp k := by
  obtain ⟨dst, op, ty, pos, after, guard⟩ := o
  simp only at h
  cases d with
  | ms l ys =>
    simp only [special2] at h
    split at h
    · rename_i t x y; split at h
      · rename_i k1 p k2 q hx hy; split at h
        · rename_i e he; split at h
          · rename_i z esz bs hz
            cases hb : Nat.beq z.cells.size esz && Nat.blt 0 esz
            · rw [hb] at h; simp at h
            · rw [hb] at h; simp only [cond_true, Option.some.injEq, Prod.mk.injEq] at h
              obtain ⟨rfl, rfl⟩ := h
              simp only [Bool.and_eq_true] at hb
              obtain ⟨h1, h2, h3, h4, h5, _⟩ := hp'
              subst h5
              exact ⟨step_makeSlice (elemT.ok he) (eiB.ok hz) (Nat.eq_of_beq_eq_true hb.1) hx hy h1 h2 (Nat.le_refl _) h3 h4 (Nat.le_of_ble_eq_true hb.2), by simp⟩
          · simp at h
        · simp at h
      · simp at h
    · simp at h
  | sl a hh q kk =>
    simp only [special2] at h
    split at h
    · rename_i t x lo hi; split at h
      · rename_i e he; split at h
        · rename_i sz o off len hz hx; split at h
          · rename_i esz cells ho; rw [nth_eq] at ho; split at h
            · rename_i p1 p2 hp1 hp2
              cases hb : Nat.beq sz esz
              · rw [hb] at h; simp at h
              · rw [hb] at h; simp only [cond_true, Option.some.injEq, Prod.mk.injEq] at h
                obtain ⟨rfl, rfl⟩ := h
                have e1 := Nat.eq_of_beq_eq_true hb; subst e1
                obtain ⟨h1, h2, h3, h4, h5, h6, _⟩ := hp'
                subst h5; subst h6
                exact ⟨fun hp hO => step_slice (elemT.ok he) (szB.ok hz) hx (hO _ (List.mem_singleton.2 rfl)) (bdP.ok hp1 h1) (bdP.ok hp2 h2) h3 h4, fun p hp => by rw [List.mem_singleton] at hp; subst hp; exact ho⟩
            · simp at h
          · simp at h
        · simp at h
      · simp at h
    · simp at h
  | st ys =>
    simp only [special2] at h
    split at h
    · rename_i t x y; split at h
      · rename_i o off hx; split at h
        · rename_i esz cells ho; rw [nth_eq] at ho; split at h
          · rename_i kk hk
            cases hb : (cellsOf (opd env y)).all cellAV && Nat.beq (cellsOf (opd env y)).length kk
            · rw [hb] at h; simp at h
            · rw [hb] at h; simp only [cond_true, Option.some.injEq, Prod.mk.injEq] at h
              obtain ⟨rfl, rfl⟩ := h
              simp only [Bool.and_eq_true] at hb
              obtain ⟨h1, h2, _⟩ := hp'
              subst h2
              exact ⟨step_store (szB.ok hk) hx ho rfl hb.1 (Nat.eq_of_beq_eq_true hb.2) h1, by simp⟩
          · simp at h
        · simp at h
      · simp at h
    · simp at h
  | cp m kk X ys =>
    simp only [special2] at h
    split at h
    · rename_i d s dT sT; split at h
      · rename_i e he; split at h
        · rename_i z esz bs hz; split at h
          · rename_i qs o off len hs hx; split at h
            · rename_i e' cells ho; rw [nth_eq] at ho
              cases hb : Nat.beq e' esz
              · rw [hb] at h; simp at h
              · rw [hb] at h; simp only [cond_true, Option.some.injEq, Prod.mk.injEq] at h
                obtain ⟨rfl, rfl⟩ := h
                have e1 := Nat.eq_of_beq_eq_true hb; subst e1
                obtain ⟨hq, h1, h2, h3, _⟩ := allP_append2 hp'
                subst h2; subst h3
                exact ⟨step_copy (elemT.ok he) (eiB.ok hz) hx ho h1 (srcQ.ok hs hq), by simp⟩
            · simp at h
          · simp at h
        · simp at h
      · simp at h
    · simp at h
  | so l =>
    simp only [special2] at h
    split at h
    · rename_i s t x; split at h
      · rename_i e he
        cases hb : isU8T P e && isStrT P t
        · rw [hb] at h; simp at h
        · rw [hb] at h; simp only [Bool.and_eq_true] at hb
          simp only [cond_true] at h
          split at h
          · rename_i o off len hx; split at h
            · rename_i cells ho; rw [nth_eq] at ho
              simp only [Option.some.injEq, Prod.mk.injEq] at h
              obtain ⟨rfl, rfl⟩ := h
              exact ⟨fun hp hO => step_strO (elemT.ok' he) (isU8T.ok hb.1) (isStrT.ok hb.2) hx (hO _ (List.mem_singleton.2 rfl)) hp'.1 hp'.2.1, fun p hp => by rw [List.mem_singleton] at hp; subst hp; exact ho⟩
            · simp at h
          · rename_i cells hx
            simp only [Option.some.injEq, Prod.mk.injEq] at h
            obtain ⟨rfl, rfl⟩ := h
            exact ⟨fun hp _ => step_strI (elemT.ok' he) (isU8T.ok hb.1) (isStrT.ok hb.2) (by rw [hx, hp'.1]), fun p hp => by simp at hp⟩
          · simp at h
      · simp at h
    · simp at h
  | ix j c =>
    simp only [special2] at h
    split at h
    · rename_i t x i
      cases hb : isStrT P t
      · rw [hb] at h; simp at h
      · rw [hb] at h; simp only [cond_true] at h
        split at h
        · rename_i s k1 z hx hi
          simp only [Option.some.injEq, Prod.mk.injEq] at h
          obtain ⟨rfl, rfl⟩ := h
          obtain ⟨h1, h2, _⟩ := hp'
          exact ⟨fun hp _ => step_index (fun w => run_und (isStrT.ok hb)) hx hi (by omega) (by rw [h1]; exact h2), fun p hp => by simp at hp⟩
        · simp at h
    · simp at h
  | ss a hh s' =>
    simp only [special2] at h
    split at h
    · rename_i t x lo hi
      cases hb : isStrT P t
      · rw [hb] at h; simp at h
      · rw [hb] at h; simp only [cond_true] at h
        split at h
        · rename_i s hx; split at h
          · rename_i p1 p2 hp1 hp2
            simp only [Option.some.injEq, Prod.mk.injEq] at h
            obtain ⟨rfl, rfl⟩ := h
            obtain ⟨h1, h2, h3, h4, h5, _⟩ := hp'
            subst h5
            exact ⟨fun hp _ => step_sliceS (fun w => run_und (isStrT.ok hb)) hx (bdP.ok hp1 h1) (bdP.ok hp2 h2) h3 h4, fun p hp => by simp at hp⟩
          · simp at h
        · simp at h
    · simp at h
  | sb l =>
    simp only [special2] at h
    split at h
    · rename_i s t x; split at h
      · rename_i b e hx he
        cases hb : isStrT P s && isU8T P e
        · rw [hb] at h; simp at h
        · rw [hb] at h; simp only [cond_true, Option.some.injEq, Prod.mk.injEq] at h
          obtain ⟨rfl, rfl⟩ := h
          simp only [Bool.and_eq_true] at hb
          have h1 := hp'.1
          have h2 : b.size = l.length := by rw [← h1]; rfl
          have := al_strB (P := P) (env := env) (dst := dst) (ty := ty) (pos := pos) (after := after) (guard := guard) (isStrT.ok hb.1) (elemT.ok' he) (isU8T.ok hb.2) hx
          rw [h1, h2] at this
          exact this
      · simp at h
    · simp at h
  | nn kk =>
    simp only [special2] at h
    split at h
    · rename_i x t; split at h
      · rename_i s hx
        cases hb : isStrT P t
        · rw [hb] at h; simp at h
        · rw [hb] at h; simp only [cond_true, Option.some.injEq, Prod.mk.injEq] at h
          obtain ⟨rfl, rfl⟩ := h
          have h1 := hp'.1
          refine ⟨fun hp _ => ?_, fun p hp => by simp at hp⟩
          have := step_lenS (P := P) (hp := hp) (dst := dst) (ty := ty) (pos := pos) (after := after) (guard := guard) (fun w => run_und (isStrT.ok hb)) hx
          rw [h1] at this; exact this
      · rename_i o off len hx; split at h
        · rename_i esz cells e ho he; rw [nth_eq] at ho
          simp only [Option.some.injEq, Prod.mk.injEq] at h
          obtain ⟨rfl, rfl⟩ := h
          have h1 := hp'.1
          subst h1
          exact ⟨fun hp hO => step_lenL (elemT.ok he) hx (hO _ (List.mem_singleton.2 rfl)), fun p hp => by rw [List.mem_singleton] at hp; subst hp; exact ho⟩
        · simp at h
      · simp at h
    · simp at h
  | ap m kk X ys =>
    simp only [special2] at h
    split at h
    · rename_i s x sT xT; split at h
      · rename_i e d he hd; split at h
        · rename_i z esz bs hz; split at h
          · rename_i qs hs
            cases hb : Nat.blt 0 esz && !Nat.beq bs 0 && Nat.beq z.cells.size esz
            · rw [hb] at h; simp at h
            · rw [hb] at h
              simp only [Bool.and_eq_true, Bool.not_eq_true'] at hb
              have h0 : 0 < esz := Nat.le_of_ble_eq_true hb.1.1
              have h1 : bs ≠ 0 := fun h => by rw [h] at hb; simp at hb
              have h2 := Nat.eq_of_beq_eq_true hb.2
              simp only [cond_true] at h
              split at h
              · rename_i o off len hx; split at h
                · rename_i e' cells ho; rw [nth_eq] at ho
                  cases hc : Nat.beq e' esz
                  · rw [hc] at h; simp at h
                  · rw [hc] at h; simp only [cond_true, Option.some.injEq, Prod.mk.injEq] at h
                    obtain ⟨rfl, rfl⟩ := h
                    have e1 := Nat.eq_of_beq_eq_true hc; subst e1
                    obtain ⟨hq, h3, h4, h5, h6, _⟩ := allP_append2 hp'
                    subst h5; subst h6
                    exact ⟨step_append (elemT.ok he) (eiB.ok hz) (srcT.ok hd).1 (srcT.ok hd).2 hx ho h3 (srcQ.ok hs hq) h4 h0 h1 h2, by simp⟩
                · simp at h
              · rename_i hx
                simp only [Option.some.injEq, Prod.mk.injEq] at h
                obtain ⟨rfl, rfl⟩ := h
                obtain ⟨hq, h4, h5, h6, _⟩ := allP_append2 hp'
                subst h5; subst h6
                exact ⟨step_append0 (elemT.ok he) (eiB.ok hz) (srcT.ok hd).1 (srcT.ok hd).2 hx (srcQ.ok hs hq) h4 h0 h1 h2, by simp⟩
              · simp at h
          · simp at h
        · simp at h
      · simp at h
    · simp at h
  | na v =>
    simp only [special2] at h
    split at h
    · rename_i op t x y t'; split at h
      · rename_i k1 p k2 q hx hy; split at h
        · rename_i ps1 hn
          simp only [Option.some.injEq, Prod.mk.injEq] at h
          obtain ⟨rfl, rfl⟩ := h
          exact ⟨fun hp _ => naP.ok hx hy hn hp', fun p hp => by simp at hp⟩
        · simp at h
      · simp at h
    · rename_i s t x; split at h
      · rename_i k1 p ks kt hx hs ht
        simp only [Option.some.injEq, Prod.mk.injEq] at h
        obtain ⟨rfl, rfl⟩ := h
        have h1 := hp'.1
        refine ⟨fun hp _ => ?_, fun p hp => by simp at hp⟩
        have := step_conv (hp := hp) (dst := dst) (ty := ty) (pos := pos) (after := after) (guard := guard) (intT.ok hs) (intT.ok ht) hx
        rw [show kt.wrap (Int.ofNat p) = (v : Int) from h1] at this; exact this
      · simp at h
    · rename_i t x; split at h
      · rename_i k1 m hx
        cases hb : uns k1
        · rw [hb] at h; simp at h
        · rw [hb] at h; simp only [cond_true, Option.some.injEq, Prod.mk.injEq] at h
          obtain ⟨rfl, rfl⟩ := h
          obtain ⟨h1, h2, _⟩ := hp'
          subst h2
          exact ⟨fun hp _ => step_notN hx h1 hb, fun p hp => by simp at hp⟩
      · simp at h
    · simp at h
  | mk r y bs ys =>
    simp only [special2] at h
    split at h
    · rename_i t m k1 ok; split at h
      · rename_i o hm; split at h
        · rename_i kt et ht; split at h
          · rename_i births clock cells ho; rw [nth_eq] at ho
            cases hc : ckV P 10000 kt (opd env k1)
            · rw [hc] at h; simp at h
            · rw [hc] at h; simp only [cond_true] at h
              split at h
              · rename_i j
                simp only [Option.some.injEq, Prod.mk.injEq] at h
                obtain ⟨rfl, rfl⟩ := h
                obtain ⟨h1, h2, _⟩ := hp'
                exact ⟨fun hp hO => step_lookup (mapT.ok ht) hm (hO _ (List.mem_singleton.2 rfl)) hc h1 h2, fun p hp => by rw [List.mem_singleton] at hp; subst hp; exact ho⟩
              · split at h
                · rename_i z hz
                  simp only [Option.some.injEq, Prod.mk.injEq] at h
                  obtain ⟨rfl, rfl⟩ := h
                  have h1 := hp'.1
                  exact ⟨fun hp hO => step_lookupN (mapT.ok ht) hm (hO _ (List.mem_singleton.2 rfl)) hc h1 (zeroB.ok hz), fun p hp => by rw [List.mem_singleton] at hp; subst hp; exact ho⟩
                · simp at h
          · simp at h
        · simp at h
      · simp at h
    · rename_i t m k1 x; split at h
      · rename_i o hm; split at h
        · rename_i kt et ht; split at h
          · rename_i births clock cells ho; rw [nth_eq] at ho
            cases hc : ckV P 10000 kt (opd env k1)
            · rw [hc] at h; simp at h
            · rw [hc] at h; simp only [cond_true, Option.some.injEq, Prod.mk.injEq] at h
              obtain ⟨rfl, rfl⟩ := h
              obtain ⟨h1, h2, h3, h4, _⟩ := hp'
              subst h2; subst h3
              exact ⟨step_mapUpd (mapT.ok ht) hm ho hc h1 h4, by simp⟩
          · simp at h
        · simp at h
      · simp at h
    · rename_i m k1 t t'; split at h
      · rename_i o hm; split at h
        · rename_i kt et ht; split at h
          · rename_i births clock cells ho; rw [nth_eq] at ho
            cases hc : ckV P 10000 kt (opd env k1)
            · rw [hc] at h; simp at h
            · rw [hc] at h; simp only [cond_true, Option.some.injEq, Prod.mk.injEq] at h
              obtain ⟨rfl, rfl⟩ := h
              obtain ⟨h1, h2, _⟩ := hp'
              have := step_delete (P := P) (dst := dst) (ty := ty) (pos := pos) (after := after) (guard := guard) (t' := t') (mapT.ok ht) hm ho hc h1
              rw [h2] at this
              exact ⟨this, by simp⟩
          · simp at h
        · simp at h
      · simp at h
    · simp at h
  | mb vs =>
    simp only [special2] at h
    split at h
    · rename_i t m k1 ok; split at h
      · rename_i o hm; split at h
        · rename_i kt et ht; split at h
          · rename_i births clock cells ho; rw [nth_eq] at ho
            cases hc : ckV P 10000 kt (opd env k1)
            · rw [hc] at h; simp at h
            · rw [hc] at h; simp only [cond_true] at h
              split at h
              · rename_i j ps1 hf; split at h
                · rename_i y hy; rw [nth_eq] at hy
                  simp only [Option.some.injEq, Prod.mk.injEq] at h
                  obtain ⟨rfl, rfl⟩ := h
                  exact ⟨fun hp hO => step_lookup (mapT.ok ht) hm (hO _ (List.mem_singleton.2 rfl)) hc (tellF.ok hf hp') hy, fun p hp => by rw [List.mem_singleton] at hp; subst hp; exact ho⟩
                · simp at h
              · rename_i ps1 hf; split at h
                · rename_i z hz
                  simp only [Option.some.injEq, Prod.mk.injEq] at h
                  obtain ⟨rfl, rfl⟩ := h
                  exact ⟨fun hp hO => step_lookupN (mapT.ok ht) hm (hO _ (List.mem_singleton.2 rfl)) hc (tellF.ok hf hp') (zeroB.ok hz), fun p hp => by rw [List.mem_singleton] at hp; subst hp; exact ho⟩
                · simp at h
              · simp at h
          · simp at h
        · simp at h
      · simp at h
    · rename_i t m k1 x; split at h
      · rename_i o hm; split at h
        · rename_i kt et ht; split at h
          · rename_i births clock cells ho; rw [nth_eq] at ho
            cases hc : ckV P 10000 kt (opd env k1)
            · rw [hc] at h; simp at h
            · rw [hc] at h; simp only [cond_true] at h
              split at h
              · rename_i r1 ps1 hf
                simp only [Option.some.injEq, Prod.mk.injEq] at h
                obtain ⟨rfl, rfl⟩ := h
                obtain ⟨h1, h2⟩ := allP_append2 hp'
                exact ⟨step_mapUpd (mapT.ok ht) hm ho hc (tellF.ok hf h2) (sameP.ok h1), by simp⟩
              · simp at h
          · simp at h
        · simp at h
      · simp at h
    · rename_i m k1 t t'; split at h
      · rename_i o hm; split at h
        · rename_i kt et ht; split at h
          · rename_i births clock cells ho; rw [nth_eq] at ho
            cases hc : ckV P 10000 kt (opd env k1)
            · rw [hc] at h; simp at h
            · rw [hc] at h; simp only [cond_true] at h
              split at h
              · rename_i r1 ps1 hf
                simp only [Option.some.injEq, Prod.mk.injEq] at h
                obtain ⟨rfl, rfl⟩ := h
                exact ⟨step_delete (mapT.ok ht) hm ho hc (tellF.ok hf hp'), by simp⟩
              · simp at h
          · simp at h
        · simp at h
      · simp at h
    · simp at h
end Go.SL

set_option linter.unusedVariables false
set_option linter.unusedSimpArgs false
set_option linter.unusedSectionVars false
namespace Go.SL
open Go
variable [Tabs]
variable {P : Program} {n : Nat} {F : Nat → Prop} {μ μ' μ0 μ1 μ2 : List Nm} {w w' w0 w1 w2 : World} {K : Exit → SS → Prop} {env : Nat → AV} {hp : List AObj}
/-- Rows let go: those named are dead from here on. -/
def killL (ks : List Nat) : Nat → List AObj → List AObj
  | _, [] => []
  | i, x :: l => (bif memN ks i then .dead else x) :: killL ks (i + 1) l
def killN (ks : List Nat) : Nat → List Nm → List Nm
  | _, [] => []
  | i, x :: l => (bif memN ks i then unDead x else x) :: killN ks (i + 1) l
theorem killL_get {ks : List Nat} : ∀ {l : List AObj} {i o : Nat}, (killL ks i l)[o]? = (l[o]?).map fun x => bif memN ks (i + o) then .dead else x
  | [], _, _ => by simp [killL]
  | x :: l, i, 0 => by simp [killL]
  | x :: l, i, o + 1 => by simp only [killL, List.getElem?_cons_succ]; rw [killL_get, show i + 1 + o = i + (o + 1) by omega]
theorem killN_get {ks : List Nat} : ∀ {l : List Nm} {i o : Nat}, (killN ks i l)[o]? = (l[o]?).map fun x => bif memN ks (i + o) then unDead x else x
  | [], _, _ => by simp [killN]
  | x :: l, i, 0 => by simp [killN]
  | x :: l, i, o + 1 => by simp only [killN, List.getElem?_cons_succ]; rw [killN_get, show i + 1 + o = i + (o + 1) by omega]
theorem killL_len {ks : List Nat} : ∀ {l : List AObj} {i : Nat}, (killL ks i l).length = l.length
  | [], _ => rfl
  | _ :: l, i => by simp [killL, killL_len]
theorem killN_len {ks : List Nat} : ∀ {l : List Nm} {i : Nat}, (killN ks i l).length = l.length
  | [], _ => rfl
  | _ :: l, i => by simp [killN, killN_len]
theorem killN_at {ks : List Nat} {μ : List Nm} {o : Nat} {nm : Nm} (h : (killN ks 0 μ)[o]? = some nm) (hn : nm ≠ .dead) (hu : nm ≠ .un) : μ[o]? = some nm ∧ memN ks o = false := by
  rw [killN_get, Nat.zero_add] at h
  cases hm : μ[o]? with
  | none => rw [hm] at h; simp at h
  | some m =>
    rw [hm] at h
    simp only [Option.map_some, Option.some.injEq] at h
    cases hk : memN ks o
    · rw [hk] at h; simp only [cond_false] at h; exact ⟨by rw [h], rfl⟩
    · rw [hk] at h; simp only [cond_true] at h
      cases m <;> simp only [unDead] at h <;> first | exact absurd h.symm hn | exact absurd h.symm hu
theorem killN_blocks {ks : List Nat} {μ : List Nm} {b : Nat} (h : blocks (killN ks 0 μ) b) : blocks μ b := by
  obtain ⟨o, base, esz, tot, h⟩ := h
  exact ⟨o, base, esz, tot, (killN_at h (by simp) (by simp)).1⟩
theorem kill_Fr (ks : List Nat) (μ : List Nm) (w : World) : Fr μ w (killN ks 0 μ) w := by
  refine ⟨Nat.le_refl _, fun _ _ _ => rfl, fun b hb => .inl (killN_blocks hb), fun o nm h => ?_, by rw [killN_len]; exact Nat.le_refl _, rfl, rfl⟩
  rw [killN_get, Nat.zero_add, h]
  cases memN ks o
  · exact .inl rfl
  · cases nm <;> simp [unDead]
theorem kill_sr {ks : List Nat} {env : Nat → AV} {hp : List AObj} {a : Act} (hs : SR F n ⟨env, hp⟩ μ a w) : SR F n ⟨env, killL ks 0 hp⟩ (killN ks 0 μ) a w := by
  have hF := kill_Fr ks μ w
  refine ⟨⟨by rw [killN_len, hs.hr.len]; exact killL_len.symm, fun o b base esz tot ho => ?_, fun o ho => ?_, fun o x ho hx hd => ?_, fun o o' b base esz tot base' esz' tot' h1 h2 => ?_, fun b hb => hs.hr.fo b (killN_blocks hb), hs.hr.fb, hs.hr.tbF hF⟩, fun i => (hs.env i).mono hF, hs.size, hs.defers⟩
  · obtain ⟨h1, h2⟩ := killN_at ho (by simp) (by simp)
    obtain ⟨x, y, g1, g2, g3⟩ := hs.hr.obj o b base esz tot h1
    refine ⟨x, y, ?_, g2, g3.mono hF⟩
    show (killL ks 0 hp)[o]? = _
    have g1' : hp[o]? = some x := g1
    rw [killL_get, Nat.zero_add, g1', Option.map_some, h2]; rfl
  · obtain ⟨h1, h2⟩ := killN_at ho (by simp) (by simp)
    obtain ⟨esz, g1⟩ := hs.hr.em o h1
    have g1' : hp[o]? = some (AObj.row esz []) := g1
    refine ⟨esz, ?_⟩
    show (killL ks 0 hp)[o]? = _
    rw [killL_get, Nat.zero_add, g1', Option.map_some, h2]; rfl
  · have ho' : (killL ks 0 hp)[o]? = some x := ho
    rw [killL_get, Nat.zero_add] at ho'
    rw [killN_get, Nat.zero_add] at hd
    cases hh : hp[o]? with
    | none => rw [hh] at ho'; simp at ho'
    | some x' =>
      rw [hh] at ho'
      simp only [Option.map_some, Option.some.injEq] at ho'
      cases hk : memN ks o
      · rw [hk] at ho' hd
        simp only [cond_false] at ho' hd
        subst ho'
        refine hs.hr.live o x' hh hx ?_
        cases hm : μ[o]? with
        | none => rw [hm] at hd; simp at hd
        | some m => rw [hm] at hd; simpa using hd
      · rw [hk] at ho'; simp only [cond_true] at ho'; exact hx ho'.symm
  · exact hs.hr.inj _ _ _ _ _ _ _ _ _ (killN_at h1 (by simp) (by simp)).1 (killN_at h2 (by simp) (by simp)).1
/-- Values where the rows named are frozen. -/
inductive FzV (ks : List Nat) (hp : List AObj) : AV → AV → Prop
  | keep {x} : FzV ks hp x x
  | nil {e : Nat} : FzV ks hp .nil (.im e [])
  | sl {o off len esz : Nat} {cells ys : List AV} (ho : hp[o]? = some (AObj.row esz cells)) (hk : memN ks o = true) (hl : off + len * esz ≤ cells.length) (he : (cells.drop off).take (len * esz) = ys) (hn : noOwnL ys = true) : FzV ks hp (.sl o off len) (.im esz ys)
  | ptr {o off esz : Nat} {cells : List AV} (ho : hp[o]? = some (AObj.row esz cells)) (hk : memN ks o = true) (hl : off ≤ cells.length) (hc : 0 < cells.length) (hn : noOwnL cells = true) : FzV ks hp (.ptr o off) (.ip cells off)
theorem nil_im0 {F : Nat → Prop} {μ : List Nm} {w : World} {e : Nat} {v : Value} (h : VR F μ w .nil v) : VR F μ w (.im e []) v := by cases h; exact .im0
theorem killN_free {ks : List Nat} {b : Nat} (h : Free μ F b) : Free (killN ks 0 μ) F b := ⟨fun h' => h.1 (killN_blocks h'), h.2⟩
theorem FzV.rel {ks : List Nat} {hp : List AObj} (hr : HR F hp μ w) {x y : AV} {v : Value} (hz : FzV ks hp x y) (hv : VR F μ w x v) : VR F (killN ks 0 μ) w y v := by
  cases hz with
  | keep => exact hv.mono (kill_Fr ks μ w)
  | nil => exact nil_im0 (hv.mono (kill_Fr ks μ w))
  | @sl o off len esz cells ys ho hk hl he hn =>
    subst he
    rcases hr.row ho with h2 | ⟨h2, h3⟩ | ⟨b, base, tot, c, el, fr, h2, h3, h4, h5, h6, h7⟩
    · cases hv with
      | sl h hc hll => rw [h2] at h; simp at h
      | slN h => rw [h2] at h; simp at h
      | slE h => rw [h2] at h; simp at h
      | slD h => rw [h2] at h; simp at h
    · cases hv with
      | sl h hc hll => rw [h2] at h; simp at h
      | slN h => rw [h2] at h; simp at h
      | slE h => simpa using VR.im0
      | slD h => rw [h2] at h; simp at h
    · cases hv with
      | sl h hc hll =>
        rw [h2] at h
        injection h with h; injection h with e1 e2 e3 e4
        subst e1; subst e2; subst e3; subst e4
        have hlen : ((cells.drop off).take (len * esz)).length = len * esz := by simp; omega
        refine .im h3 (fun h' => ?_) ⟨hr.fo b ⟨o, base, esz, tot, h2⟩, hn⟩ hlen.symm hll ?_
        · obtain ⟨o', base', esz', tot', h''⟩ := h'
          obtain ⟨h8, h9⟩ := killN_at h'' (by simp) (by simp)
          have := hr.inj _ _ _ _ _ _ _ _ _ h2 h8
          subst this
          rw [hk] at h9; simp at h9
        · rw [hlen]
          exact (window_sub h6 hl).move hn fun b' _ hb => killN_free hb
      | slN h => simpa using VR.im0
      | slE h => rw [h2] at h; simp at h
      | slD h => rw [h2] at h; simp at h
  | @ptr o off esz cells ho hk hl hcn hn =>
    rcases hr.row ho with h2 | ⟨h2, h3⟩ | ⟨b, base, tot, c, el, fr, h2, h3, h4, h5, h6, h7⟩
    · cases hv with
      | ptr h => rw [h2] at h; simp at h
      | ptrD h => rw [h2] at h; simp at h
    · subst h3; simp at hcn
    · cases hv with
      | ptr h =>
        rw [h2] at h
        injection h with h; injection h with e1 e2 e3 e4
        subst e1; subst e2; subst e3; subst e4
        refine .ip h3 (fun h' => ?_) ⟨hr.fo b ⟨o, base, esz, tot, h2⟩, hn⟩ ?_
        · obtain ⟨o', base', esz', tot', h''⟩ := h'
          obtain ⟨h8, h9⟩ := killN_at h'' (by simp) (by simp)
          have := hr.inj _ _ _ _ _ _ _ _ _ h2 h8
          subst this
          rw [hk] at h9; simp at h9
        · exact h6.move hn fun b' _ hb => killN_free hb
      | ptrD h => rw [h2] at h; simp at h
/-- Some slots told anew. -/
def FzO (ks : List Nat) (hp : List AObj) : List (AV × AV) → Prop
  | [] => True
  | q :: l => FzV ks hp q.1 q.2 ∧ FzO ks hp l
theorem FzO.at {ks : List Nat} {hp : List AObj} {e0 : List (Nat × AV)} {i : Nat} : ∀ {l : List (Nat × AV)}, FzO ks hp (l.map fun q => (tbl e0 q.1, q.2)) → FzV ks hp (tbl e0 i) (tbl (l ++ e0) i)
  | [], _ => .keep
  | (d, x) :: l, ⟨h1, h2⟩ => by
    rw [List.cons_append]
    simp only [tbl]
    cases hb : Nat.beq i d with
    | true =>
      have := Nat.eq_of_beq_eq_true hb
      subst this
      exact h1
    | false => exact FzO.at h2
theorem WO.fzK {ops : Array Oper} {li : List Nat} {e0 : List (Nat × AV)} (ks : List Nat) (l : List (Nat × AV)) (hz : FzO ks hp (l.map fun q => (tbl e0 q.1, q.2))) (hk : WO P n ops li K ⟨tbl (l ++ e0), killL ks 0 hp⟩) : WO P n ops li K ⟨tbl e0, hp⟩ := by
  intro F μ a w hs
  have hk1 := kill_sr (ks := ks) hs
  exact wpOps_post (fun e a w => Post.mono (kill_Fr ks μ _)) (hk F (killN ks 0 μ) a w ⟨hk1.hr, fun i => FzV.rel hs.hr (FzO.at hz) (hs.env i), hs.size, hs.defers⟩)
end Go.SL

set_option linter.unusedVariables false
set_option linter.unusedSimpArgs false
set_option linter.unusedSectionVars false
namespace Go.SL
open Go
variable [Tabs]
variable {P : Program} {n : Nat} {F : Nat → Prop} {μ μ' : List Nm} {w w' : World} {env : Nat → AV} {hp : List AObj} {dst : Option Nat} {ty : TypeId} {pos : String} {after : Array Edge} {guard : Option (Nat × Bool)}

/-- A loop of so many rounds at most. -/
def loopK (P : Program) (n : Nat) (c : Code) (K : Exit → SS → Prop) : Nat → Exit → SS → Prop
  | 0, .normal, _ => False
  | k + 1, .normal, σ => W P n c (loopK P n c K k) σ
  | _, e, σ => K e σ
theorem W.loopN {c : Code} {K : Exit → SS → Prop} {σ : SS} (k : Nat) (h : W P n c (loopK P n c K k) σ) : W P n (.loop c) K σ := by
  intro F μ a w hs b kk cs
  have key : ∀ (k : Nat) (σ : SS), W P n c (loopK P n c K k) σ → ∀ μ a w, SR F n σ μ a w →
      ∃ e a' w', Post F n K μ w e a' w' ∧ Arrives P (lone (b.at a (.code c :: .inLoop c :: kk)) cs w) b kk cs e a' w' := by
    intro k
    induction k with
    | zero =>
      intro σ h μ a w hs
      obtain ⟨e, a1, w1, ⟨σ1, μ1, hK, hs1, hf⟩, harr⟩ := h F μ a w hs b (.inLoop c :: kk) cs
      cases e with
      | normal => exact hK.elim
      | exit id => exact ⟨_, a1, w1, ⟨σ1, μ1, hK, hs1, hf⟩, .pass (x := .inLoop c) rfl (fun _ _ => .inl (by simp)) harr⟩
      | goto l => exact ⟨_, a1, w1, ⟨σ1, μ1, hK, hs1, hf⟩, .pass (x := .inLoop c) rfl (fun _ _ => .inl (by simp)) harr⟩
      | ret => exact ⟨_, a1, w1, ⟨σ1, μ1, hK, hs1, hf⟩, .pass (x := .inLoop c) rfl (fun _ _ => .inl (by simp)) harr⟩
      | panic ch => exact ⟨_, a1, w1, ⟨σ1, μ1, hK, hs1, hf⟩, .pass (x := .inLoop c) rfl (fun _ _ => .inl (by simp)) harr⟩
      | outgrown => exact ⟨_, a1, w1, ⟨σ1, μ1, hK, hs1, hf⟩, .pass (x := .inLoop c) rfl (fun _ _ => .inl (by simp)) harr⟩
    | succ k ih =>
      intro σ h μ a w hs
      obtain ⟨e, a1, w1, ⟨σ1, μ1, hK, hs1, hf⟩, harr⟩ := h F μ a w hs b (.inLoop c :: kk) cs
      cases e with
      | normal =>
        obtain ⟨e3, a3, w3, hp3, harr3⟩ := ih σ1 hK μ1 a1 w1 hs1
        exact ⟨e3, a3, w3, Post.mono hf hp3, .of_steps (Steps.trans harr (.one step_inLoop)) harr3⟩
      | exit id => exact ⟨_, a1, w1, ⟨σ1, μ1, hK, hs1, hf⟩, .pass (x := .inLoop c) rfl (fun _ _ => .inl (by simp)) harr⟩
      | goto l => exact ⟨_, a1, w1, ⟨σ1, μ1, hK, hs1, hf⟩, .pass (x := .inLoop c) rfl (fun _ _ => .inl (by simp)) harr⟩
      | ret => exact ⟨_, a1, w1, ⟨σ1, μ1, hK, hs1, hf⟩, .pass (x := .inLoop c) rfl (fun _ _ => .inl (by simp)) harr⟩
      | panic ch => exact ⟨_, a1, w1, ⟨σ1, μ1, hK, hs1, hf⟩, .pass (x := .inLoop c) rfl (fun _ _ => .inl (by simp)) harr⟩
      | outgrown => exact ⟨_, a1, w1, ⟨σ1, μ1, hK, hs1, hf⟩, .pass (x := .inLoop c) rfl (fun _ _ => .inl (by simp)) harr⟩
  obtain ⟨e, a', w', hq, harr⟩ := key k σ h μ a w hs
  exact ⟨e, a', w', hq, .of_steps (.one step_loop) harr⟩

/-- A call through a function value, with what it has caught. -/
theorem step_callV {fo : Operand} {args : Array Operand} {tys : Array TypeId} {g : Nat} {first caps : List AV} {R : AV → List AObj → Prop} (hb : HasBody P g) (hf : opd env fo = .fn g first caps)
    (hs : Spec P g (first ++ args.toList.map (opd env) ++ caps) hp R) :
    Step P ⟨dst, .call ⟨.value fo, args, tys⟩, ty, pos, after, guard⟩ env hp R := by
  intro F μ w a hr he next Q k
  have hv := hf ▸ he.opd fo
  obtain ⟨x, y, hx, h1, h2⟩ : ∃ x y : Array Value, a.eval fo = .func (.func g) x y ∧ VRL F μ w first x.toList ∧ VRL F μ w caps y.toList := by
    generalize a.eval fo = v at hv
    cases hv with
    | fn h1 h2 => exact ⟨_, _, rfl, h1, h2⟩
  have hex : (execOp a.eval ⟨dst, .call ⟨.value fo, args, tys⟩, ty, pos, after, guard⟩).run P w = .ok (.enter g (x ++ args.map a.eval ++ y)) w := by
    simp [execOp, resolve, hx, Deferred.ofValue, invoke, hb _ w]
  refine upon_calls hex ?_
  have hargs : VRL F μ w (first ++ args.toList.map (opd env) ++ caps) (x ++ args.map a.eval ++ y).toList := by
    simp only [Array.toList_append, Array.toList_map]
    exact (h1.append (mapVRL he args.toList)).append h2
  refine (hs F μ w _ hr hargs).mono ?_
  rintro e w' ⟨r, v, hp', μ', rfl, hR, hHR, hv', hfr⟩
  exact ⟨v, rfl, k r v hp' μ' w' hR hHR hv' hfr⟩

abbrev Env := List (Nat × AV)
def putE (env : Env) : Option Nat → AV → Env
  | some d, x => (d, x) :: env
  | none, _ => env
theorem putE_tbl {env : Env} {d : Option Nat} {x : AV} : tbl (putE env d x) = put (tbl env) d x := by
  cases d <;> rfl

/-- What a walk is told beforehand: at operation i of region r of function f: a bool's, a number's, a value's form; that a call goes by contract. -/
inductive Item where
  | b (f r i : Nat) (v : Bool)
  | z (f r i : Nat) (v : Int)
  | v (f r i : Nat) (x : AV)
  | c (f r i : Nat) (x : AV)
  | n (f r i k : Nat)
  | j (f r i m j : Nat)
  | l (f r i : Nat) (y : AV)
  | t (f r i m l h : Nat) (ys : List AV)
  | p (f r i m k : Nat) (X ys : List AV)
  | k (f r i : Nat) (x : AV)
  | q (f r i : Nat) (z : Int)
  | e (f r i : Nat) (x : AV)
  | r (f r i : Nat)
  | fz (f r i : Nat) (l : List (Nat × AV))
  | x (f r i : Nat) (d : Xt)
  | h (f r i : Nat) (ys : List AV) (x : AV)
  | o (f r i n : Nat) (cells rest : List AV)
  | u (f r i : Nat) (x : AV) (hp : List AObj)
  | g (f r i : Nat) (ks : List Nat) (l : List (Nat × AV))

structure St where
  sc : List Item
  cs : List Prop
  eq : List (Option AObj × Option AObj)
def St.Good (s : St) : Prop := allP s.cs ∧ ∀ p ∈ s.eq, p.1 = p.2

theorem allP_append : ∀ {l l' : List Prop}, allP (l ++ l') → allP l ∧ allP l'
  | [], _, h => ⟨trivial, h⟩
  | _ :: _, _, h => ⟨⟨h.1, (allP_append h.2).1⟩, (allP_append h.2).2⟩
theorem St.Good.app {s : St} {ps : List Prop} (h : St.Good ⟨s.sc, ps ++ s.cs, s.eq⟩) : allP ps ∧ s.Good := ⟨(allP_append h.1).1, (allP_append h.1).2, h.2⟩

def key (f r i f' r' i' : Nat) : Bool := Nat.beq i i' && Nat.beq r r' && Nat.beq f f'

/-- The value of a kind told in another form. -/
def setK : Kd → AV → Kd
  | .q _ O, x => .q x O
  | .ef _ h, x => .ef x h
  | k, _ => k
def valK : Kd → Option AV
  | .q x _ => some x
  | .ef x _ => some x
  | _ => none
theorem setK.ok {o : Oper} {k : Kd} {x y : AV} (hk : valK k = some x) (e : x = y) (h : OK1 P o env hp k) : OK1 P o env hp (setK k y) := by
  subst e
  cases k <;> simp only [valK] at hk <;> first | (injection hk with hk; subst hk; exact h) | (simp at hk)
def useI (f r i : Nat) (k : Kd) (s : St) : Kd × St := match s.sc with
  | .b f' r' i' v :: l => bif key f r i f' r' i' then (match valK k with
      | some (.sc (.bool b)) => (setK k (.sc (.bool v)), ⟨l, (b = v) :: s.cs, s.eq⟩)
      | _ => (k, s)) else (k, s)
  | .z f' r' i' v :: l => bif key f r i f' r' i' then (match valK k with
      | some (.sc (.int kd z)) => (setK k (.sc (.int kd v)), ⟨l, (z = v) :: s.cs, s.eq⟩)
      | _ => (k, s)) else (k, s)
  | .v f' r' i' v :: l => bif key f r i f' r' i' then (match valK k with
      | some x => (setK k v, ⟨l, (x = v) :: s.cs, s.eq⟩)
      | _ => (k, s)) else (k, s)
  | _ => (k, s)
theorem useI.ok {f r i : Nat} {o : Oper} {k : Kd} {s : St} (hg : (useI f r i k s).2.Good) (h : s.Good → OK1 P o env hp k) : s.Good ∧ OK1 P o env hp (useI f r i k s).1 := by
  unfold useI at hg ⊢
  split
  · rename_i f' r' i' v l hs
    simp only [hs] at hg
    cases hk : key f r i f' r' i'
    · rw [hk] at hg; exact ⟨hg, h hg⟩
    · rw [hk] at hg
      simp only [cond_true] at hg ⊢
      split
      · rename_i b hb
        rw [hb] at hg
        have hg' : s.Good := ⟨hg.1.2, hg.2⟩
        exact ⟨hg', setK.ok hb (by rw [show b = v from hg.1.1]) (h hg')⟩
      · rename_i hb
        split at hg
        · rename_i b hb'; exact absurd hb' (hb b)
        · exact ⟨hg, h hg⟩
  · rename_i f' r' i' v l hs
    simp only [hs] at hg
    cases hk : key f r i f' r' i'
    · rw [hk] at hg; exact ⟨hg, h hg⟩
    · rw [hk] at hg
      simp only [cond_true] at hg ⊢
      split
      · rename_i kd z hb
        rw [hb] at hg
        have hg' : s.Good := ⟨hg.1.2, hg.2⟩
        exact ⟨hg', setK.ok hb (by rw [show z = v from hg.1.1]) (h hg')⟩
      · rename_i hb
        split at hg
        · rename_i kd z hb'; exact absurd hb' (hb kd z)
        · exact ⟨hg, h hg⟩
  · rename_i f' r' i' v l hs
    simp only [hs] at hg
    cases hk : key f r i f' r' i'
    · rw [hk] at hg; exact ⟨hg, h hg⟩
    · rw [hk] at hg
      simp only [cond_true] at hg ⊢
      split
      · rename_i x hb
        rw [hb] at hg
        have hg' : s.Good := ⟨hg.1.2, hg.2⟩
        exact ⟨hg', setK.ok hb hg.1.1 (h hg')⟩
      · rename_i hb
        split at hg
        · rename_i x hb'; exact absurd hb' (hb x)
        · exact ⟨hg, h hg⟩
  · rename_i h1 h2 h3
    split at hg
    · rename_i hs; exact absurd hs (h1 _ _ _ _ _)
    · rename_i hs; exact absurd hs (h2 _ _ _ _ _)
    · rename_i hs; exact absurd hs (h3 _ _ _ _ _)
    · exact ⟨hg, h hg⟩

abbrev CallF := Nat → List AV → List AObj → St → Option (AV × List AObj × St)
def CallOK (P : Program) (call : CallF) : Prop := ∀ g xs hp st x hp' st', call g xs hp st = some (x, hp', st') → st'.Good → st.Good ∧ hp.length ≤ hp'.length ∧ HasBody P g ∧ Spec P g xs hp (is x hp')

/-- Whom an operation calls, and with what. -/
def callee (env : Nat → AV) : Op → Option (Nat × List AV)
  | .call ⟨.value fo, args, _⟩ => match opd env fo with
    | .fn g first caps => some (g, first ++ args.toList.map (opd env) ++ caps)
    | _ => none
  | _ => none
theorem callee.ok {o : Oper} {g : Nat} {xs : List AV} (h : callee env o.op = some (g, xs)) {R : AV → List AObj → Prop} (hb : HasBody P g) (hs : Spec P g xs hp R) : Step P o env hp R := by
  obtain ⟨dst, op, ty, pos, after, guard⟩ := o
  unfold callee at h
  split at h
  · rename_i fo args tys hop
    simp only at hop; subst hop
    split at h
    · rename_i g' first caps hf
      injection h with h; injection h with h1 h2; subst h1; subst h2
      exact step_callV hb hf hs
    · simp at h
  · simp at h

def isC (f r i : Nat) : List Item → Option (Option Bool × AV × List Item)
  | .c f' r' i' x :: l => bif key f r i f' r' i' then some (some true, x, l) else none
  | .k f' r' i' x :: l => bif key f r i f' r' i' then some (some false, x, l) else none
  | .e f' r' i' x :: l => bif key f r i f' r' i' then some (none, x, l) else none
  | _ => none

/-- A call by a contract that says what becomes of the own rows. -/
def isU (f r i : Nat) : List Item → Option (AV × List AObj × List Item)
  | .u f' r' i' x hp' :: l => bif key f r i f' r' i' then some (x, hp', l) else none
  | _ => none
def isH (f r i : Nat) : List Item → Option (List AV × AV × List Item)
  | .h f' r' i' ys x :: l => bif key f r i f' r' i' then some (ys, x, l) else none
  | _ => none

/-- A function that hands back first a slice of a new row of its own. -/
def SpecO (P : Program) (k : Nat) (args cells : List AV) (n : Nat) (rest : List AV) : Prop := Spec P k args [] (fun r h => r = .tup (.sl 0 0 n :: rest) ∧ h = [.row 1 cells])
def isO (f r i : Nat) : List Item → Option (Nat × List AV × List AV × List Item)
  | .o f' r' i' n cells rest :: l => bif key f r i f' r' i' then some (n, cells, rest, l) else none
  | _ => none
theorem step_ownV {o : Oper} {g n : Nat} {xs cells rest : List AV} (h : callee env o.op = some (g, xs)) (hb : HasBody P g) (hno : noOwnL xs = true) (hs : SpecO P g xs cells n rest) (hc : noOwnL cells = true) (hr : noOwnL rest = true) :
    Step P o env hp (is (.tup (.sl hp.length 0 n :: rest)) (hp ++ [.row 1 cells])) :=
  callee.ok h hb (Spec.own hs hno hc (by simp only [ren, renL, renL_noOwn _ rest hr, Nat.zero_add]))
/-- Arguments as a callee reads them to whom slices of own rows are lent. -/
def bwV (hp : List AObj) : List AV → Option (List AV)
  | [] => some []
  | .sl o off len :: xs => match nth hp o with
    | some (.row esz cells) => bif Nat.ble (off + len * esz) cells.length && noOwnL ((cells.drop off).take (len * esz)) then (match bwV hp xs with
      | some ys => some (.im esz ((cells.drop off).take (len * esz)) :: ys)
      | none => none) else none
    | _ => none
  | x :: xs => bif noOwn x then (match bwV hp xs with
    | some ys => some (x :: ys)
    | none => none) else none
theorem bwV.ok : ∀ {xs ys : List AV}, bwV hp xs = some ys → Bw hp xs ys
  | [], ys, h => by simp only [bwV, Option.some.injEq] at h; subst h; exact .nil
  | x :: xs, ys, h => by
    unfold bwV at h
    split at h
    · rename_i h1; simp at h1
    · rename_i o off len xs' h1
      simp only [List.cons.injEq] at h1
      obtain ⟨rfl, rfl⟩ := h1
      split at h
      · rename_i esz cells ho; rw [nth_eq] at ho
        cases hb : Nat.ble (off + len * esz) cells.length && noOwnL ((cells.drop off).take (len * esz))
        · rw [hb] at h; simp at h
        · rw [hb] at h; simp only [cond_true] at h
          simp only [Bool.and_eq_true] at hb
          split at h
          · rename_i zs hz; simp only [Option.some.injEq] at h; subst h
            exact .sl ho (Nat.le_of_ble_eq_true hb.1) hb.2 (bwV.ok hz)
          · simp at h
      · simp at h
    · rename_i x' xs' hne h1
      simp only [List.cons.injEq] at h1
      obtain ⟨rfl, rfl⟩ := h1
      cases hb : noOwn x
      · rw [hb] at h; simp at h
      · rw [hb] at h; simp only [cond_true] at h
        split at h
        · rename_i zs hz; simp only [Option.some.injEq] at h; subst h
          exact .keep hb (bwV.ok hz)
        · simp at h

/-- A contract used where no own row is handed over. -/
theorem step_pureV {o : Oper} {g : Nat} {xs : List AV} {r : AV} (h : callee env o.op = some (g, xs)) (hb : HasBody P g) (hno : noOwnL xs = true) (hs : Spec0 P g xs r) (hr : noOwn r = true) : ∀ hp, Step P o env hp (is r hp) := by
  intro hp
  refine callee.ok h hb ?_
  intro F μ w args' hrr hargs
  let Fc : Nat → Prop := fun b => F b ∨ blocks μ b
  have h0 : HR Fc [] [] w := ⟨rfl, fun o b base esz tot h => by simp at h, fun o h => by simp at h, fun o x h => by simp at h, fun o o' b base esz tot _ _ _ h => by simp at h,
    fun b ⟨_, _, _, _, h⟩ => by simp at h, fun b h => h.elim (hrr.fb b) hrr.lt, hrr.tb.nil⟩
  have hmove : ∀ b, Free μ F b → Free [] Fc b := fun b hb => ⟨fun ⟨_, _, _, _, h⟩ => by simp at h, fun h => h.elim hb.2 hb.1⟩
  refine (hs Fc [] w _ h0 (hargs.move hno fun b _ h => hmove b h)).mono ?_
  rintro e w' ⟨r', v, hp', μ', rfl, ⟨rfl, rfl⟩, hHR, hv, hf⟩
  have hμ' : μ' = [] := List.eq_nil_of_length_eq_zero hHR.len
  subst hμ'
  have hF : Fr μ w μ w' := ⟨hf.size, fun b hb _ => hf.keep b hb (fun ⟨_, _, _, _, h⟩ => by simp at h), fun b hb => .inl hb, fun o nm h => .inl h, Nat.le_refl _, hf.oo⟩
  refine ⟨_, v, hp, μ, rfl, ⟨rfl, rfl⟩, ?_, ?_, hF⟩
  · refine ⟨hrr.len, fun o b base esz tot ho => ?_, hrr.em, hrr.live, hrr.inj, hrr.foF hF, hrr.fbF hF, hrr.tbF hF⟩
    obtain ⟨x', y', g1, g2, g3⟩ := hrr.obj o b base esz tot ho
    exact ⟨x', y', g1, by rw [hf.keep b (heap_lt g2) (fun ⟨_, _, _, _, h⟩ => by simp at h)]; exact g2, g3.mono hF⟩
  · exact hv.move hr fun b hb hfr => ⟨fun h => hfr.2 (.inr h), fun h => hfr.2 (.inl h)⟩

/-- A contract used where slices of own rows are lent. -/
theorem step_lentV {o : Oper} {g : Nat} {xs ys : List AV} {r : AV} (h : callee env o.op = some (g, xs)) (hb : HasBody P g) (hn : Bw hp xs ys) (hs : Spec0 P g ys r) (hfl : flat r = true) : Step P o env hp (is r hp) := by
  refine callee.ok h hb ?_
  intro F μ w args' hrr hargs0
  have hargs := hn.rel hrr hargs0
  have h0 : HR F [] [] w := ⟨rfl, fun o b base esz tot h => by simp at h, fun o h => by simp at h, fun o x h => by simp at h, fun o o' b base esz tot _ _ _ h => by simp at h,
    fun b ⟨_, _, _, _, h⟩ => by simp at h, hrr.fb, hrr.tb.nil⟩
  refine (hs F [] w _ h0 hargs).mono ?_
  rintro e w' ⟨r', v, hp', μ', rfl, ⟨rfl, rfl⟩, hHR, hv, hf⟩
  have hF : Fr μ w μ w' := ⟨hf.size, fun b hb _ => hf.keep b hb (fun ⟨_, _, _, _, h⟩ => by simp at h), fun b hb => .inl hb, fun o nm h => .inl h, Nat.le_refl _, hf.oo⟩
  refine ⟨_, v, hp, μ, rfl, ⟨rfl, rfl⟩, ?_, hv.flat hfl, hF⟩
  refine ⟨hrr.len, fun o b base esz tot ho => ?_, hrr.em, hrr.live, hrr.inj, hrr.foF hF, hrr.fbF hF, hrr.tbF hF⟩
  obtain ⟨x', y', g1, g2, g3⟩ := hrr.obj o b base esz tot ho
  exact ⟨x', y', g1, by rw [hf.keep b (heap_lt g2) (fun ⟨_, _, _, _, h⟩ => by simp at h)]; exact g2, g3.mono hF⟩

/-- A source of append told by what it holds. -/
def srcP (hp : List AObj) (esz m : Nat) (X : List AV) : AV → Option (List Prop)
  | .im e cells => bif Nat.beq e esz then some [m * e = cells.length, 0 < e, cells.all cellAV = true, cells = X] else none
  | x => match srcV hp esz x with
    | some (m', X') => some [m' = m, X' = X]
    | none => none
theorem srcP.ok {esz m : Nat} {X : List AV} {x : Operand} {ps : List Prop} (h : srcP hp esz m X (opd env x) = some ps) (hp' : allP ps) : Src P env hp esz x m X := by
  unfold srcP at h; split at h
  · rename_i e cells hx
    cases hb : Nat.beq e esz
    · rw [hb] at h; simp at h
    · rw [hb] at h; simp only [cond_true, Option.some.injEq] at h; subst h
      have e1 := Nat.eq_of_beq_eq_true hb; subst e1
      obtain ⟨h1, h2, h3, h4, _⟩ := hp'
      subst h4
      exact Src.im hx h1 h2 h3
  · split at h
    · rename_i m' X' hs
      simp only [Option.some.injEq] at h; subst h
      obtain ⟨h1, h2, _⟩ := hp'
      subst h1; subst h2
      exact srcV.ok hs
    · simp at h

/-- Slices of unknown length: what is told beforehand of an operation. -/
def special (P : Program) (f r i : Nat) (env : Nat → AV) (hp : List AObj) (o : Op) (sc : List Item) : Option (Kd × List Prop × List Item) := match sc with
  | .n f' r' i' k :: l => bif key f r i f' r' i' then (match o with
    | .call ⟨.builtin .len, ⟨[x]⟩, ⟨[t]⟩⟩ => match opd env x, elemT P t with
      | .im esz cells, some e => some (.q (.sc (.int .i64 (k : Int))) [], [k * esz = cells.length, 0 < esz], l)
      | _, _ => none
    | _ => none) else none
  | .j f' r' i' m j :: l => bif key f r i f' r' i' then (match o with
    | .indexAddr t x ix => match elemT P t with
      | some e => match szB P e, opd env ix with
        | some sz, .sc (.int _ z) => match opd env x with
          | .im esz cells => bif Nat.beq sz esz then some (.q (.ip cells (j * esz)) [], [m * esz = cells.length, 0 < esz, z = (j : Int), j < m], l) else none
          | .sl o off len => match nth hp o with
            | some (.row esz cells) => bif Nat.beq sz esz then some (.q (.ptr o (off + j * esz)) [(o, .row esz cells)], [z = (j : Int), j < len], l) else none
            | _ => none
          | _ => none
        | _, _ => none
      | none => none
    | _ => none) else none
  | .l f' r' i' y :: l => bif key f r i f' r' i' then (match o with
    | .load t x => match opd env x with
      | .ip cells q => match aggB P t with
        | some false => some (.q y [], [cells[q]? = some y], l)
        | some true => match szB P t, y with
          | some k, .agg ys => some (.q y [], [(cells.drop q).take k = ys, q + k ≤ cells.length], l)
          | _, _ => none
        | none => none
      | .ptr o off => match nth hp o with
        | some (.row esz cells) => match aggB P t with
          | some false => some (.q y [(o, .row esz cells)], [cells[off]? = some y], l)
          | some true => match szB P t, y with
            | some k, .agg ys => some (.q y [(o, .row esz cells)], [(cells.drop off).take k = ys, off + k ≤ cells.length], l)
            | _, _ => none
          | none => none
        | _ => none
      | _ => none
    | _ => none) else none
  | .t f' r' i' m a h ys :: l => bif key f r i f' r' i' then (match o with
    | .slice t x lo hi none => match elemT P t with
      | some e => match szB P e, opd env x with
        | some sz, .im esz cells => match bdP 0 a (lo.map (opd env)), bdP m h (hi.map (opd env)) with
          | some p1, some p2 => bif Nat.beq sz esz then some (.q (.im esz ys) [], [p1, p2, m * esz = cells.length, 0 < esz, a ≤ h, h ≤ m, (cells.drop (a * esz)).take ((h - a) * esz) = ys], l) else none
          | _, _ => none
        | _, _ => none
      | none => none
    | _ => none) else none
  | .p f' r' i' m k X ys :: l => bif key f r i f' r' i' then (match o with
    | .call ⟨.builtin .append, ⟨[s, x]⟩, ⟨[sT, xT]⟩⟩ => match elemT P sT, srcT P xT with
      | some e, some _ => match eiB P e with
        | some (z, esz, bs) => match srcP hp esz m X (opd env x) with
          | some ps => bif Nat.blt 0 esz && !Nat.beq bs 0 && Nat.beq z.cells.size esz then (match opd env s with
            | .sl o off len => match nth hp o with
              | some (.row e' cells) => bif Nat.beq e' esz then some (.ef (.sl hp.length 0 k) (hp.set o .dead ++ [.row esz ys]), ps ++ [off + len * esz = cells.length, k * bs ≤ 140737488355328, len + m = k, cells.drop off ++ X = ys], l) else none
              | _ => none
            | .nil => some (.ef (.sl hp.length 0 k) (hp ++ [.row esz ys]), ps ++ [k * bs ≤ 140737488355328, m = k, X = ys], l)
            | _ => none) else none
          | none => none
        | none => none
      | _, _ => none
    | _ => none) else none
  | .q f' r' i' z :: l => bif key f r i f' r' i' then (match o with
    | .binOp .rem _ x y _ => match opd env x, opd env y with
      | .sc (.int k p), .sc (.int k' q) => if k = k' then some (.q (.sc (.int k z)) [], [q ≠ 0, p.tmod q = z], l) else none
      | _, _ => none
    | .binOp .quo _ x y _ => match opd env x, opd env y with
      | .sc (.int k p), .sc (.int k' q) => if k = k' then some (.q (.sc (.int k z)) [], [q ≠ 0, k.wrap (p.tdiv q) = z], l) else none
      | _, _ => none
    | _ => none) else none
  | .x f' r' i' d :: l => bif key f r i f' r' i' then (match special2 P env hp o d with
    | some (k, ps) => some (k, ps, l)
    | none => none) else none
  | _ => none
theorem special.ok {f r i : Nat} {o : Oper} {sc l : List Item} {k : Kd} {ps : List Prop} (h : special P f r i env hp o.op sc = some (k, ps, l)) (hp' : allP ps) : OK1 P o env hp k := by
  obtain ⟨dst, op, ty, pos, after, guard⟩ := o
  simp only at h
  unfold special at h
  split at h
  · rename_i f' r' i' n l'
    cases hk : key f r i f' r' i'
    · rw [hk] at h; simp at h
    · rw [hk] at h; simp only [cond_true] at h
      split at h
      · rename_i x t; split at h
        · rename_i esz cells e hx he
          simp only [Option.some.injEq, Prod.mk.injEq] at h
          obtain ⟨rfl, rfl, rfl⟩ := h
          exact ⟨fun hp _ => step_lenI (elemT.ok he) hx hp'.1 hp'.2.1, fun p hp => by simp at hp⟩
        · simp at h
      · simp at h
  · rename_i f' r' i' m j l'
    cases hk : key f r i f' r' i'
    · rw [hk] at h; simp at h
    · rw [hk] at h; simp only [cond_true] at h
      split at h
      · rename_i t x ix; split at h
        · rename_i e he; split at h
          · rename_i sz kd z hz hix; split at h
            · rename_i esz cells hx
              cases hb : Nat.beq sz esz
              · rw [hb] at h; simp at h
              · rw [hb] at h; simp only [cond_true, Option.some.injEq, Prod.mk.injEq] at h
                obtain ⟨rfl, rfl, rfl⟩ := h
                have e1 := Nat.eq_of_beq_eq_true hb; subst e1
                obtain ⟨h1, h2, h3, h4, _⟩ := hp'
                refine ⟨fun hp _ => ?_, fun p hp => by simp at hp⟩
                have := step_idxI (hp := hp) (dst := dst) (ty := ty) (pos := pos) (after := after) (guard := guard) (elemT.ok he) (szB.ok hz) hx h1 h2 hix (by omega) (by omega)
                rw [h3] at this; simpa using this
            · rename_i o off len hx; split at h
              · rename_i esz cells ho; rw [nth_eq] at ho
                cases hb : Nat.beq sz esz
                · rw [hb] at h; simp at h
                · rw [hb] at h; simp only [cond_true, Option.some.injEq, Prod.mk.injEq] at h
                  obtain ⟨rfl, rfl, rfl⟩ := h
                  have e1 := Nat.eq_of_beq_eq_true hb; subst e1
                  obtain ⟨h3, h4, _⟩ := hp'
                  refine ⟨fun hp hO => ?_, fun p hp => by rw [List.mem_singleton] at hp; subst hp; exact ho⟩
                  have := step_idx (hp := hp) (dst := dst) (ty := ty) (pos := pos) (after := after) (guard := guard) (elemT.ok he) (szB.ok hz) hx (hO _ (List.mem_singleton.2 rfl)) hix (by omega) (by omega)
                  rw [h3] at this; simpa using this
              · simp at h
            · simp at h
          · simp at h
        · simp at h
      · simp at h
  · rename_i f' r' i' y l'
    cases hk : key f r i f' r' i'
    · rw [hk] at h; simp at h
    · rw [hk] at h; simp only [cond_true] at h
      split at h
      · rename_i t x; split at h
        · rename_i cells q hx; split at h
          · rename_i ha
            simp only [Option.some.injEq, Prod.mk.injEq] at h
            obtain ⟨rfl, rfl, rfl⟩ := h
            exact ⟨fun hp _ => step_loadI (aggB.ok ha) hx hp'.1, fun p hp => by simp at hp⟩
          · rename_i ha; split at h
            · rename_i k ys hz
              simp only [Option.some.injEq, Prod.mk.injEq] at h
              obtain ⟨rfl, rfl, rfl⟩ := h
              refine ⟨fun hp _ => ?_, fun p hp => by simp at hp⟩
              have := step_loadIA (hp := hp) (dst := dst) (ty := ty) (pos := pos) (after := after) (guard := guard) (aggB.ok ha) (szB.ok hz) hx hp'.2.1
              rw [hp'.1] at this; exact this
            · simp at h
          · simp at h
        · rename_i o off hx; split at h
          · rename_i esz cells ho; rw [nth_eq] at ho; split at h
            · rename_i ha
              simp only [Option.some.injEq, Prod.mk.injEq] at h
              obtain ⟨rfl, rfl, rfl⟩ := h
              exact ⟨fun hp hO => step_load (aggB.ok ha) hx (hO _ (List.mem_singleton.2 rfl)) hp'.1, fun p hp => by rw [List.mem_singleton] at hp; subst hp; exact ho⟩
            · rename_i ha; split at h
              · rename_i k ys hz
                simp only [Option.some.injEq, Prod.mk.injEq] at h
                obtain ⟨rfl, rfl, rfl⟩ := h
                refine ⟨fun hp hO => ?_, fun p hp => by rw [List.mem_singleton] at hp; subst hp; exact ho⟩
                have := step_loadA (hp := hp) (dst := dst) (ty := ty) (pos := pos) (after := after) (guard := guard) (aggB.ok ha) (szB.ok hz) hx (hO _ (List.mem_singleton.2 rfl)) hp'.2.1
                rw [hp'.1] at this; exact this
              · simp at h
            · simp at h
          · simp at h
        · simp at h
      · simp at h
  · rename_i f' r' i' m a b ys l'
    cases hk : key f r i f' r' i'
    · rw [hk] at h; simp at h
    · rw [hk] at h; simp only [cond_true] at h
      split at h
      · rename_i t x lo hi; split at h
        · rename_i e he; split at h
          · rename_i sz esz cells hz hx; split at h
            · rename_i p1 p2 hp1 hp2
              cases hb : Nat.beq sz esz
              · rw [hb] at h; simp at h
              · rw [hb] at h; simp only [cond_true, Option.some.injEq, Prod.mk.injEq] at h
                obtain ⟨rfl, rfl, rfl⟩ := h
                have e1 := Nat.eq_of_beq_eq_true hb; subst e1
                obtain ⟨h1, h2, h3, h4, h5, h6, h7, _⟩ := hp'
                refine ⟨fun hp _ => ?_, fun p hp => by simp at hp⟩
                have := step_sliceI (hp := hp) (dst := dst) (ty := ty) (pos := pos) (after := after) (guard := guard) (elemT.ok he) (szB.ok hz) hx h3 h4 (bdP.ok hp1 h1) (bdP.ok hp2 h2) h5 h6
                rw [h7] at this; exact this
            · simp at h
          · simp at h
        · simp at h
      · simp at h
  · rename_i f' r' i' m kk X ys l'
    cases hk : key f r i f' r' i'
    · rw [hk] at h; simp at h
    · rw [hk] at h; simp only [cond_true] at h
      split at h
      · rename_i s x sT xT; split at h
        · rename_i e d he hd; split at h
          · rename_i z esz bs hz; split at h
            · rename_i qs hs
              cases hb : Nat.blt 0 esz && !Nat.beq bs 0 && Nat.beq z.cells.size esz
              · rw [hb] at h; simp at h
              · rw [hb] at h
                simp only [Bool.and_eq_true, Bool.not_eq_true'] at hb
                have h0 : 0 < esz := Nat.le_of_ble_eq_true hb.1.1
                have h1 : bs ≠ 0 := fun h => by rw [h] at hb; simp at hb
                have h2 := Nat.eq_of_beq_eq_true hb.2
                simp only [cond_true] at h
                split at h
                · rename_i o off len hx; split at h
                  · rename_i e' cells ho; rw [nth_eq] at ho
                    cases hc : Nat.beq e' esz
                    · rw [hc] at h; simp at h
                    · rw [hc] at h; simp only [cond_true, Option.some.injEq, Prod.mk.injEq] at h
                      obtain ⟨rfl, rfl, rfl⟩ := h
                      have e1 := Nat.eq_of_beq_eq_true hc; subst e1
                      obtain ⟨hq, h3, h4, h5, h6, _⟩ := allP_append hp'
                      subst h5; subst h6
                      exact ⟨step_append (elemT.ok he) (eiB.ok hz) (srcT.ok hd).1 (srcT.ok hd).2 hx ho h3 (srcP.ok hs hq) (.inl h4) h0 h1 h2, by simp⟩
                  · simp at h
                · rename_i hx
                  simp only [Option.some.injEq, Prod.mk.injEq] at h
                  obtain ⟨rfl, rfl, rfl⟩ := h
                  obtain ⟨hq, h4, h5, h6, _⟩ := allP_append hp'
                  subst h5; subst h6
                  exact ⟨step_append0 (elemT.ok he) (eiB.ok hz) (srcT.ok hd).1 (srcT.ok hd).2 hx (srcP.ok hs hq) h4 h0 h1 h2, by simp⟩
                · simp at h
            · simp at h
          · simp at h
        · simp at h
      · simp at h
  · rename_i f' r' i' z l'
    cases hk : key f r i f' r' i'
    · rw [hk] at h; simp at h
    · rw [hk] at h; simp only [cond_true] at h
      split at h
      · rename_i x y; split at h
        · rename_i k p k' q hx hy; split at h
          · rename_i hkk; subst hkk
            simp only [Option.some.injEq, Prod.mk.injEq] at h
            obtain ⟨rfl, rfl, rfl⟩ := h
            obtain ⟨h1, h2, _⟩ := hp'
            subst h2
            exact ⟨fun hp _ => step_rem hx hy h1, fun p hp => by simp at hp⟩
          · simp at h
        · simp at h
      · rename_i x y; split at h
        · rename_i k p k' q hx hy; split at h
          · rename_i hkk; subst hkk
            simp only [Option.some.injEq, Prod.mk.injEq] at h
            obtain ⟨rfl, rfl, rfl⟩ := h
            obtain ⟨h1, h2, _⟩ := hp'
            subst h2
            exact ⟨fun hp _ => step_quo hx hy h1, fun p hp => by simp at hp⟩
          · simp at h
        · simp at h
      · simp at h
  · rename_i f' r' i' d l'
    cases hk : key f r i f' r' i'
    · rw [hk] at h; simp at h
    · rw [hk] at h; simp only [cond_true] at h
      split at h
      · rename_i k1 ps1 hs
        simp only [Option.some.injEq, Prod.mk.injEq] at h
        obtain ⟨rfl, rfl, rfl⟩ := h
        exact special2.ok (o := ⟨dst, op, ty, pos, after, guard⟩) hs hp'
      · simp at h
  · simp at h

/-- What an operation does, calls too. bodies: functions with a body in Go. -/
def kdOf (call : CallF) (P : Program) (bodies : Nat → Bool) (f r i : Nat) (env : Nat → AV) (hp : List AObj) (o : Op) (s : St) : Option (Kd × St) :=
  match callee env o with
  | some (g, xs) => match isU f r i s.sc with
    | some (x, hp', l) => bif bodies g then some (.ef x hp', ⟨l, Spec P g xs hp (is x hp') :: (hp.length ≤ hp'.length) :: s.cs, s.eq⟩) else none
    | none => match isO f r i s.sc with
    | some (n, cells, rest, l) => bif bodies g && noOwnL xs then some (.ef (.tup (.sl hp.length 0 n :: rest)) (hp ++ [.row 1 cells]), ⟨l, SpecO P g xs cells n rest :: (noOwnL cells = true) :: (noOwnL rest = true) :: s.cs, s.eq⟩) else none
    | none => match isH f r i s.sc with
    | some (ys, x, l) => bif bodies g && flat x then some (.ef x hp, ⟨l, Bw hp xs ys :: Spec0 P g ys x :: s.cs, s.eq⟩) else none
    | none => match isC f r i s.sc with
    | some (some true, x, l) => bif bodies g && noOwnL xs && noOwn x then some (.q x [], ⟨l, Spec0 P g xs x :: s.cs, s.eq⟩) else none
    | some (none, x, l) => match bwV hp xs with
      | some ys => bif bodies g && flat x then some (.ef x hp, ⟨l, Spec0 P g ys x :: s.cs, s.eq⟩) else none
      | none => none
    | some (some false, x, l) => bif bodies g then some (.q x [], ⟨l, (noOwnL xs = true) :: Spec0 P g xs x :: (noOwn x = true) :: s.cs, s.eq⟩) else none
    | none => match call g xs hp s with
      | some (x, hp', s') => some (useI f r i (.ef x hp') s')
      | none => none
  | none => match special P f r i env hp o s.sc with
    | some (k, ps, l) => some (k, ⟨l, ps ++ s.cs, s.eq⟩)
    | none => match evOp P env hp o with
      | some (k, ps) => some (useI f r i k ⟨s.sc, ps ++ s.cs, s.eq⟩)
      | none => none
theorem kdOf.ok {call : CallF} (hc : CallOK P call) {bodies : Nat → Bool} (hb : ∀ g, bodies g = true → HasBody P g) {f r i : Nat} {o : Oper} {s s' : St} {k : Kd} (h : kdOf call P bodies f r i env hp o.op s = some (k, s')) (hg : s'.Good) : s.Good ∧ OK1 P o env hp k := by
  unfold kdOf at h
  split at h
  · rename_i g xs hcal
    split at h
    · rename_i x hp' l hiu
      cases hbb : bodies g
      · rw [hbb] at h; simp at h
      · rw [hbb] at h; simp only [cond_true] at h
        injection h with h; injection h with h1 h2; subst h1; subst h2
        exact ⟨⟨hg.1.2.2, hg.2⟩, callee.ok hcal (hb g hbb) hg.1.1, hg.1.2.1⟩
    split at h
    · rename_i n cells rest l hio
      cases hbb : bodies g && noOwnL xs
      · rw [hbb] at h; simp at h
      · rw [hbb] at h; simp only [cond_true] at h
        injection h with h; injection h with h1 h2; subst h1; subst h2
        simp only [Bool.and_eq_true] at hbb
        exact ⟨⟨hg.1.2.2.2, hg.2⟩, step_ownV hcal (hb g hbb.1) hbb.2 hg.1.1 hg.1.2.1 hg.1.2.2.1, by simp⟩
    split at h
    · rename_i ys x l hi0
      cases hbb : bodies g && flat x
      · rw [hbb] at h; simp at h
      · rw [hbb] at h; simp only [cond_true] at h
        injection h with h; injection h with h1 h2; subst h1; subst h2
        simp only [Bool.and_eq_true] at hbb
        exact ⟨⟨hg.1.2.2, hg.2⟩, step_lentV hcal (hb g hbb.1) hg.1.1 hg.1.2.1 hbb.2, Nat.le_refl _⟩
    split at h
    · rename_i x l hi
      cases hbb : bodies g && noOwnL xs && noOwn x
      · rw [hbb] at h; simp at h
      · rw [hbb] at h; simp only [cond_true] at h
        injection h with h; injection h with h1 h2; subst h1; subst h2
        simp only [Bool.and_eq_true] at hbb
        refine ⟨⟨hg.1.2, hg.2⟩, fun hp _ => ?_, fun p hp => by simp at hp⟩
        exact step_pureV hcal (hb g hbb.1.1) hbb.1.2 hg.1.1 hbb.2 hp
    · rename_i x l hi
      split at h
      · rename_i ys hy
        cases hbb : bodies g && flat x
        · rw [hbb] at h; simp at h
        · rw [hbb] at h; simp only [cond_true] at h
          injection h with h; injection h with h1 h2; subst h1; subst h2
          simp only [Bool.and_eq_true] at hbb
          exact ⟨⟨hg.1.2, hg.2⟩, step_lentV hcal (hb g hbb.1) (bwV.ok hy) hg.1.1 hbb.2, Nat.le_refl _⟩
      · simp at h
    · rename_i x l hi
      cases hbb : bodies g
      · rw [hbb] at h; simp at h
      · rw [hbb] at h; simp only [cond_true] at h
        injection h with h; injection h with h1 h2; subst h1; subst h2
        refine ⟨⟨hg.1.2.2.2, hg.2⟩, fun hp _ => ?_, fun p hp => by simp at hp⟩
        exact step_pureV hcal (hb g hbb) hg.1.1 hg.1.2.1 hg.1.2.2.1 hp
    · split at h
      · rename_i x hp' s1 hcall
        injection h with h
        have e1 : k = (useI f r i (.ef x hp') s1).1 := by rw [h]
        have e2 : s' = (useI f r i (.ef x hp') s1).2 := by rw [h]
        subst e1; subst e2
        have := useI.ok (P := P) (env := env) (hp := hp) (o := o) hg (fun hs1 => by
          obtain ⟨g1, g2, g3, g4⟩ := hc _ _ _ _ _ _ _ hcall hs1
          exact ⟨callee.ok hcal g3 g4, g2⟩)
        exact ⟨(hc _ _ _ _ _ _ _ hcall this.1).1, this.2⟩
      · simp at h
  · split at h
    · rename_i k1 ps l hsp
      injection h with h; injection h with h1 h2; subst h1; subst h2
      have hq := allP_append hg.1
      exact ⟨⟨hq.2, hg.2⟩, special.ok hsp hq.1⟩
    split at h
    · rename_i k1 ps hev
      injection h with h
      have e1 : k = (useI f r i k1 ⟨s.sc, ps ++ s.cs, s.eq⟩).1 := by rw [h]
      have e2 : s' = (useI f r i k1 ⟨s.sc, ps ++ s.cs, s.eq⟩).2 := by rw [h]
      subst e1; subst e2
      have := useI.ok (P := P) (env := env) (hp := hp) (o := o) hg (fun hs1 => evOp.ok o _ _ hev hs1.app.1)
      exact ⟨this.1.app.2, this.2⟩
    · simp at h

theorem OK1.step {o : Oper} {k : Kd} (h : OK1 P o env hp k) : Step P o env hp (is (k.val hp) (k.heap hp)) ∧ hp.length ≤ (k.heap hp).length := by
  cases k with
  | sk => exact h.elim
  | q r O => exact ⟨h.1 hp h.2, Nat.le_refl _⟩
  | al e cs mk => exact ⟨StepAl.step h, by simp [Kd.heap]⟩
  | ef r hp' => exact h

def dstB (n : Nat) : Option Nat → Bool
  | some d => Nat.blt d n
  | none => true
theorem dstB.ok {d : Option Nat} (h : dstB n d = true) : dstOk n d := by
  cases d with
  | none => trivial
  | some d => exact Nat.le_of_ble_eq_true h

/-- Values frozen, pair by pair. -/
def FzQ (hp : List AObj) : List (AV × AV) → Prop
  | [] => True
  | q :: l => Fz 0 hp q.1 q.2 ∧ FzQ hp l
theorem FzQ.t {hp : List AObj} {env : Nat → AV} : ∀ {l : List (Nat × AV)}, FzQ hp (l.map fun q => (env q.1, q.2)) → FzT 0 ⟨env, hp⟩ l
  | [], _ => trivial
  | (d, x) :: l, h => ⟨h.1, FzQ.t h.2⟩
/-- Own rows let go before an operation, what is kept told. -/
def fzS (f r i : Nat) (env : Env) (hp : List AObj) (s : St) : Env × List AObj × St := match s.sc with
  | .fz f' r' i' l0 :: l => bif key f r i f' r' i' then (l0, List.replicate hp.length .dead, ⟨l, FzQ hp (l0.map fun q => (tbl env q.1, q.2)) :: s.cs, s.eq⟩) else (env, hp, s)
  | .g f' r' i' ks l0 :: l => bif key f r i f' r' i' then (l0 ++ env, killL ks 0 hp, ⟨l, FzO ks hp (l0.map fun q => (tbl env q.1, q.2)) :: s.cs, s.eq⟩) else (env, hp, s)
  | _ => (env, hp, s)
theorem fzS.ok {ops : Array Oper} {f r i : Nat} {env env1 : Env} {hp hp1 : List AObj} {s s1 : St} (h : fzS f r i env hp s = (env1, hp1, s1)) (hg : s1.Good) :
    s.Good ∧ hp.length ≤ hp1.length ∧ ∀ (K : Exit → SS → Prop) li, WO P n ops li K ⟨tbl env1, hp1⟩ → WO P n ops li K ⟨tbl env, hp⟩ := by
  unfold fzS at h
  split at h
  · rename_i f' r' i' l0 l hs
    cases hk : key f r i f' r' i'
    · rw [hk] at h; simp only [cond_false, Prod.mk.injEq] at h
      obtain ⟨rfl, rfl, rfl⟩ := h
      exact ⟨hg, Nat.le_refl _, fun K li h => h⟩
    · rw [hk] at h; simp only [cond_true, Prod.mk.injEq] at h
      obtain ⟨rfl, rfl, rfl⟩ := h
      exact ⟨⟨hg.1.2, hg.2⟩, by simp, fun K li h => WO.frz _ (FzQ.t hg.1.1) h⟩
  · rename_i f' r' i' ks l0 l hs
    cases hk : key f r i f' r' i'
    · rw [hk] at h; simp only [cond_false, Prod.mk.injEq] at h
      obtain ⟨rfl, rfl, rfl⟩ := h
      exact ⟨hg, Nat.le_refl _, fun K li h => h⟩
    · rw [hk] at h; simp only [cond_true, Prod.mk.injEq] at h
      obtain ⟨rfl, rfl, rfl⟩ := h
      exact ⟨⟨hg.1.2, hg.2⟩, by rw [killL_len]; exact Nat.le_refl _, fun K li h => WO.fzK ks l0 hg.1.1 h⟩
  · simp only [Prod.mk.injEq] at h
    obtain ⟨rfl, rfl, rfl⟩ := h
    exact ⟨hg, Nat.le_refl _, fun K li h => h⟩
def opsR (call : CallF) (P : Program) (bodies : Nat → Bool) (n : Nat) (ops : Array Oper) (f r : Nat) : List Oper → Nat → Env → List AObj → St → Option (Env × List AObj × St)
  | [], _, env, hp, s => some (env, hp, s)
  | o :: l, i, env0, hp0, s0 => match fzS f r i env0 hp0 s0 with
  | (env, hp, s) => bif dstB n o.dst then (match wants ops (tbl env) o with
    | some false => opsR call P bodies n ops f r l (i + 1) (putE env o.dst (.sc undef)) hp s
    | some true => match kdOf call P bodies f r i (tbl env) hp o.op s with
      | some (k, s') => opsR call P bodies n ops f r l (i + 1) (putE env o.dst (k.val hp)) (k.heap hp) s'
      | none => none
    | none => none) else none
theorem opsR.ok {call : CallF} (hc : CallOK P call) {bodies : Nat → Bool} (hb : ∀ g, bodies g = true → HasBody P g) {ops : Array Oper} {f r : Nat} : ∀ {l : List Oper} {i : Nat} {env env' : Env} {hp hp' : List AObj} {s s' : St}, ops.toList.drop i = l →
    opsR call P bodies n ops f r l i env hp s = some (env', hp', s') → s'.Good → s.Good ∧ hp.length ≤ hp'.length ∧ ∀ K, K .normal ⟨tbl env', hp'⟩ → WO P n ops (List.range' i l.length) K ⟨tbl env, hp⟩
  | [], i, env, env', hp, hp', s, s', _, h, hg => by
    simp only [opsR, Option.some.injEq, Prod.mk.injEq] at h
    obtain ⟨rfl, rfl, rfl⟩ := h
    exact ⟨hg, Nat.le_refl _, fun K hK => WO.nil hK⟩
  | o :: l, i, env, env', hp, hp', s, s', hl, h, hg => by
    have hlt : i < ops.toList.length := by
      rcases Nat.lt_or_ge i ops.toList.length with h1 | h1
      · exact h1
      · rw [List.drop_eq_nil_of_le h1] at hl; simp at hl
    have ho : ops[i]? = some o := by
      have := List.drop_eq_getElem_cons hlt
      rw [hl] at this
      injection this with h1 h2
      simp at hlt
      rw [Array.getElem?_eq_getElem hlt, h1]; simp
    have hl' : ops.toList.drop (i + 1) = l := by
      have := List.drop_eq_getElem_cons hlt
      rw [hl] at this
      injection this with h1 h2
      exact h2.symm
    simp only [opsR] at h
    generalize hz : fzS f r i env hp s = z at h
    obtain ⟨env1, hp1, s0⟩ := z
    simp only at h
    obtain ⟨k1, k2, k3⟩ : s0.Good ∧ hp1.length ≤ hp'.length ∧ ∀ K, K .normal ⟨tbl env', hp'⟩ → WO P n ops (List.range' i (o :: l).length) K ⟨tbl env1, hp1⟩ := by
      cases hd : dstB n o.dst
      · rw [hd] at h; simp at h
      · rw [hd] at h
        simp only [cond_true] at h
        split at h
        · rename_i hw
          obtain ⟨g1, g2, g3⟩ := opsR.ok hc hb hl' h hg
          refine ⟨g1, g2, fun K hK => ?_⟩
          refine WO.skip ho hw (dstB.ok hd) ?_
          have := g3 K hK
          rwa [putE_tbl] at this
        · rename_i hw
          split at h
          · rename_i k s1 hk
            obtain ⟨g1, g2, g3⟩ := opsR.ok hc hb hl' h hg
            obtain ⟨g4, g5⟩ := kdOf.ok hc hb hk g1
            obtain ⟨g6, g7⟩ := g5.step
            refine ⟨g4, Nat.le_trans g7 g2, fun K hK => ?_⟩
            refine WO.one ho hw (dstB.ok hd) g6 ?_
            have := g3 K hK
            rwa [putE_tbl] at this
          · simp at h
        · simp at h
    obtain ⟨j1, j2, j3⟩ := fzS.ok (P := P) (n := n) (ops := ops) hz k1
    exact ⟨j1, Nat.le_trans j2 k2, fun K hK => j3 K _ (k3 K hK)⟩
end Go.SL

set_option linter.unusedVariables false
set_option linter.unusedSimpArgs false
set_option linter.unusedSectionVars false
namespace Go.SL
open Go
variable [Tabs]
variable {P : Program} {n : Nat} {F : Nat → Prop} {μ μ' : List Nm} {w w' : World} {env : Nat → AV} {hp : List AObj}

def efB (ops : Array Oper) (env : Nat → AV) (hp : List AObj) (o : Oper) : Kd → Bool
  | .ef _ _ => (o.looksAt ops).all (fun t => idsLt hp.length (env t)) && hp.all (rowLt hp.length)
  | _ => true

/-- May the effect stand in a region whose order is open? Of rows of unknown content that is told beforehand. -/
def efC (ops : Array Oper) (env : Nat → AV) (hp : List AObj) (o : Oper) (f r i : Nat) (k : Kd) (s : St) : Option St := match k with
  | .ef _ _ => bif (o.looksAt ops).all (fun t => idsLt hp.length (env t)) then (match s.sc with
    | .r f' r' i' :: l => bif key f r i f' r' i' then some ⟨l, (hp.all (rowLt hp.length) = true) :: s.cs, s.eq⟩ else (bif hp.all (rowLt hp.length) then some s else none)
    | _ => bif hp.all (rowLt hp.length) then some s else none) else none
  | _ => some s
theorem efC.ok {ops : Array Oper} {env : Nat → AV} {hp : List AObj} {o : Oper} {f r i : Nat} {k : Kd} {s s' : St} (h : efC ops env hp o f r i k s = some s') (hg : s'.Good) : s.Good ∧ efB ops env hp o k = true := by
  unfold efC at h
  split at h
  · rename_i x hp1
    cases h1 : (o.looksAt ops).all (fun t => idsLt hp.length (env t))
    · rw [h1] at h; simp at h
    · rw [h1] at h; simp only [cond_true] at h
      have key2 : (bif hp.all (rowLt hp.length) then some s else none) = some s' → s.Good ∧ efB ops env hp o (.ef x hp1) = true := by
        intro h
        cases h2 : hp.all (rowLt hp.length)
        · rw [h2] at h; simp at h
        · rw [h2] at h; simp only [cond_true, Option.some.injEq] at h; subst h
          exact ⟨hg, by simp only [efB, h1, h2, Bool.and_self]⟩
      split at h
      · rename_i f' r' i' l hs
        cases h3 : key f r i f' r' i'
        · rw [h3] at h; simp only [cond_false] at h; exact key2 h
        · rw [h3] at h; simp only [cond_true, Option.some.injEq] at h; subst h
          exact ⟨⟨hg.1.2, hg.2⟩, by simp only [efB, h1, hg.1.1, Bool.and_self]⟩
      · exact key2 h
  · rename_i hne
    simp only [Option.some.injEq] at h; subst h
    refine ⟨hg, ?_⟩
    cases k with
    | ef x hp1 => exact absurd rfl (hne _ _)
    | _ => rfl

def drawR (call : CallF) (P : Program) (bodies : Nat → Bool) (n : Nat) (ops : Array Oper) (f r : Nat) : List Oper → Nat → Env → List AObj → St → Option (TR × Env × List AObj × St)
  | [], _, env, hp, s => some ([], env, hp, s)
  | o :: l, i, env, hp, s => bif dstB n o.dst then (match wants ops (rs ops (tbl env) o) o with
    | some false => match drawR call P bodies n ops f r l (i + 1) (putE env o.dst (.sc undef)) hp s with
      | some (T, e, h, s') => some ((o, .sk) :: T, e, h, s')
      | none => none
    | some true => match kdOf call P bodies f r i (rs ops (tbl env) o) hp o.op s with
      | some (k, s1) => match efC ops (tbl env) hp o f r i k s1 with
        | some s0 => match drawR call P bodies n ops f r l (i + 1) (putE env o.dst (k.val hp)) (k.heap hp) s0 with
          | some (T, e, h, s') => some ((o, k) :: T, e, h, s')
          | none => none
        | none => none
      | none => none
    | none => none) else none
theorem drawR.ok {call : CallF} (hc : CallOK P call) {bodies : Nat → Bool} (hb : ∀ g, bodies g = true → HasBody P g) {ops : Array Oper} {f r : Nat} : ∀ {l : List Oper} {i : Nat} {env env' : Env} {hp hp' : List AObj} {s s' : St} {T : TR},
    drawR call P bodies n ops f r l i env hp s = some (T, env', hp', s') → s'.Good → s.Good ∧ hp.length ≤ hp'.length ∧ T.map (·.1) = l ∧ RunOK P n ops T hp (tbl env) ∧ envAt T hp (tbl env) T.length = tbl env' ∧ hpAt T hp T.length = hp'
  | [], i, env, env', hp, hp', s, s', T, h, hg => by
    simp only [drawR, Option.some.injEq, Prod.mk.injEq] at h
    obtain ⟨rfl, rfl, rfl, rfl⟩ := h
    exact ⟨hg, Nat.le_refl _, rfl, trivial, rfl, rfl⟩
  | o :: l, i, env, env', hp, hp', s, s', T, h, hg => by
    simp only [drawR] at h
    cases hd : dstB n o.dst
    · rw [hd] at h; simp at h
    · rw [hd] at h
      simp only [cond_true] at h
      split at h
      · rename_i hw
        split at h
        · rename_i T1 e1 h1 s1 hr
          simp only [Option.some.injEq, Prod.mk.injEq] at h
          obtain ⟨rfl, rfl, rfl, rfl⟩ := h
          obtain ⟨g1, g2, g3, g4, g5, g6⟩ := drawR.ok hc hb hr hg
          rw [putE_tbl] at g4 g5
          exact ⟨g1, g2, by simp [g3], ⟨⟨dstB.ok hd, Nat.le_refl _, hw⟩, g4⟩, g5, g6⟩
        · simp at h
      · rename_i hw
        split at h
        · rename_i k s1 hk
          split at h
          · rename_i s0 he0
            split at h
            · rename_i T1 e1 h1 s2 hr
              simp only [Option.some.injEq, Prod.mk.injEq] at h
              obtain ⟨rfl, rfl, rfl, rfl⟩ := h
              obtain ⟨g1, g2, g3, g4, g5, g6⟩ := drawR.ok hc hb hr hg
              obtain ⟨g0, he⟩ := efC.ok he0 g1
              obtain ⟨g7, g8⟩ := kdOf.ok hc hb hk g0
              have hlen := g8.step.2
              rw [putE_tbl] at g4 g5
              refine ⟨g7, Nat.le_trans hlen g2, by simp [g3], ⟨⟨dstB.ok hd, hlen, ?_⟩, g4⟩, g5, g6⟩
              cases k with
              | sk => exact g8.elim
              | q r O => exact ⟨hw, g8.1⟩
              | al e cs mk => exact ⟨hw, g8⟩
              | ef r hp1 =>
                simp only [efB, Bool.and_eq_true, List.all_eq_true] at he
                exact ⟨hw, g8.1, he.1, he.2⟩
            · simp at h
          · simp at h
        · simp at h
      · simp at h

def eqsOf (T : TR) (hp : List AObj) (M : List Nat) : List (Option AObj × Option AObj) :=
  (List.range T.length).flatMap fun i => (obsAt T hp i).flatMap fun p => ((List.range (efs T T.length + 1)).filter (winB T M i)).map fun m => (nth (CL T hp m) p.1, some p.2)
theorem eqsOf.ok {T : TR} {M : List Nat} (h : ∀ q ∈ eqsOf T hp M, q.1 = q.2) : oblP T hp M := by
  refine allP_of fun p hp' => ?_
  rw [List.mem_flatMap] at hp'
  obtain ⟨i, hi, hp'⟩ := hp'
  rw [List.mem_flatMap] at hp'
  obtain ⟨q, hq, hp'⟩ := hp'
  rw [List.mem_map] at hp'
  obtain ⟨m, hm, rfl⟩ := hp'
  have := h (nth (CL T hp m) q.1, some q.2) (by
    unfold eqsOf
    rw [List.mem_flatMap]
    refine ⟨i, hi, ?_⟩
    rw [List.mem_flatMap]
    refine ⟨q, hq, ?_⟩
    rw [List.mem_map]
    exact ⟨m, hm, rfl⟩)
  rw [← nth_eq]; exact this

abbrev Out := Option (Exit × Env × List AObj × St)

def regR (call : CallF) (P : Program) (bodies : Nat → Bool) (n f r : Nat) (ops : Array Oper) (env : Env) (hp : List AObj) (s : St) : Out := match opsR call P bodies n ops f r ops.toList 0 env hp s with
  | some (e, h, s') => some (.normal, e, h, s')
  | none => none
def regD (call : CallF) (P : Program) (bodies : Nat → Bool) (n f r : Nat) (ops : Array Oper) (env : Env) (hp : List AObj) (s : St) : Out := match drawR call P bodies n ops f r ops.toList 0 env hp s with
  | some (T, e, h, s') => bif stat ops (T.map (·.2.isEf)) (mOf ops) then some (.normal, e, h, ⟨s'.sc, s'.cs, eqsOf T hp (mOf ops) ++ s'.eq⟩) else none
  | none => none

def loopR (ex : Env → List AObj → St → Out) : Nat → Env → List AObj → St → Out
  | 0, _, _, _ => none
  | k + 1, env, hp, s => match ex env hp s with
    | some (.normal, e, h, s') => loopR ex k e h s'
    | x => x
def isGoto : Exit → Bool | .goto _ => true | _ => false
def scopeR (ex : Code → Env → List AObj → St → Out) (c : Code) : Nat → Code → Env → List AObj → St → Out
  | 0, _, _, _, _ => none
  | k + 1, cur, env, hp, s => match ex cur env hp s with
    | some (.goto l, e, h, s') => match findLabel c l with
      | some rest => scopeR ex c k rest e h s'
      | none => none
    | x => x

def exec (call : CallF) (P : Program) (bodies : Nat → Bool) (n f : Nat) : Nat → Code → Env → List AObj → St → Out
  | 0, _, _, _, _ => none
  | m + 1, c, env, hp, s => match c with
    | .skip => some (.normal, env, hp, s)
    | .region r ops drawn => bif drawn then regD call P bodies n f r ops env hp s else regR call P bodies n f r ops env hp s
    | .seq a b => match exec call P bodies n f m a env hp s with
      | some (.normal, e, h, s') => exec call P bodies n f m b e h s'
      | x => x
    | .cond c x y => match opd (tbl env) c with
      | .sc (.bool true) => exec call P bodies n f m x env hp s
      | .sc (.bool false) => exec call P bodies n f m y env hp s
      | _ => none
    | .block id c => match exec call P bodies n f m c env hp s with
      | some (.exit id', e, h, s') => bif Nat.beq id' id then some (.normal, e, h, s') else some (.exit id', e, h, s')
      | x => x
    | .loop c => loopR (exec call P bodies n f m c) m env hp s
    | .scope c => match scopeR (exec call P bodies n f m) c m c env hp s with
      | some (e, r) => bif isGoto e then none else some (e, r)
      | none => none
    | .exit id => some (.exit id, env, hp, s)
    | .goto l => some (.goto l, env, hp, s)
    | .label _ => some (.normal, env, hp, s)
    | .ret => some (.ret, env, hp, s)
    | _ => none

/-- What is computed is what the code does. -/
def Does (P : Program) (n : Nat) (c : Code) (env : Env) (hp : List AObj) (s : St) (o : Out) : Prop := ∀ e env' hp' s', o = some (e, env', hp', s') → s'.Good → s.Good ∧ hp.length ≤ hp'.length ∧ ∀ K, K e ⟨tbl env', hp'⟩ → W P n c K ⟨tbl env, hp⟩

theorem loopR.ok {c : Code} {ex : Env → List AObj → St → Out} (hex : ∀ env hp s, Does P n c env hp s (ex env hp s)) : ∀ {k : Nat} {env env' : Env} {hp hp' : List AObj} {s s' : St} {e : Exit}, loopR ex k env hp s = some (e, env', hp', s') → s'.Good →
    s.Good ∧ hp.length ≤ hp'.length ∧ ∀ K, K e ⟨tbl env', hp'⟩ → W P n c (loopK P n c K k) ⟨tbl env, hp⟩
  | 0, _, _, _, _, _, _, _, h, _ => by simp [loopR] at h
  | k + 1, env, env', hp, hp', s, s', e, h, hg => by
    simp only [loopR] at h
    split at h
    · rename_i e1 h1 s1 hx
      obtain ⟨g1, g2, g3⟩ := loopR.ok hex h hg
      obtain ⟨g4, g5, g6⟩ := hex env hp s _ _ _ _ hx g1
      exact ⟨g4, Nat.le_trans g5 g2, fun K hK => g6 _ (g3 K hK)⟩
    · rename_i x hne
      obtain ⟨g4, g5, g6⟩ := hex env hp s _ _ _ _ h hg
      refine ⟨g4, g5, fun K hK => g6 _ ?_⟩
      have hn : e ≠ .normal := fun he => by subst he; exact hne _ _ _ h
      cases e <;> first | exact hK | exact absurd rfl hn

theorem scopeR.ok {c : Code} {ex : Code → Env → List AObj → St → Out} (hex : ∀ c env hp s, Does P n c env hp s (ex c env hp s)) : ∀ {k : Nat} {cur : Code} {env env' : Env} {hp hp' : List AObj} {s s' : St} {e : Exit}, scopeR ex c k cur env hp s = some (e, env', hp', s') → isGoto e = false → s'.Good →
    s.Good ∧ hp.length ≤ hp'.length ∧ ∀ K, K e ⟨tbl env', hp'⟩ → W P n cur (scopeK P n c K k) ⟨tbl env, hp⟩
  | 0, _, _, _, _, _, _, _, _, h, _, _ => by simp [scopeR] at h
  | k + 1, cur, env, env', hp, hp', s, s', e, h, hi, hg => by
    simp only [scopeR] at h
    split at h
    · rename_i l e1 h1 s1 hx
      split at h
      · rename_i rest hf
        obtain ⟨g1, g2, g3⟩ := scopeR.ok hex h hi hg
        obtain ⟨g4, g5, g6⟩ := hex cur env hp s _ _ _ _ hx g1
        exact ⟨g4, Nat.le_trans g5 g2, fun K hK => g6 _ ⟨rest, hf, g3 K hK⟩⟩
      · simp at h
    · rename_i x hne
      obtain ⟨g4, g5, g6⟩ := hex cur env hp s _ _ _ _ h hg
      refine ⟨g4, g5, fun K hK => g6 _ ?_⟩
      cases e <;> first | exact hK | simp [isGoto] at hi

theorem exec.ok (hm : P.follows .mixedOrders = true) {call : CallF} (hc : CallOK P call) {bodies : Nat → Bool} (hb : ∀ g, bodies g = true → HasBody P g) {f : Nat} : ∀ (m : Nat) (c : Code) (env : Env) (hp : List AObj) (s : St), Does P n c env hp s (exec call P bodies n f m c env hp s)
  | 0, c, env, hp, s => fun _ _ _ _ h => by simp [exec] at h
  | m + 1, c, env, hp, s => by
    intro e env' hp' s' h hg
    cases c with
    | skip =>
      simp only [exec, Option.some.injEq, Prod.mk.injEq] at h
      obtain ⟨rfl, rfl, rfl, rfl⟩ := h
      exact ⟨hg, Nat.le_refl _, fun K hK => W.skip hK⟩
    | region r ops drawn =>
      simp only [exec] at h
      cases drawn with
      | false =>
        simp only [cond_false, regR] at h
        split at h
        · rename_i e1 h1 s1 hr
          simp only [Option.some.injEq, Prod.mk.injEq] at h
          obtain ⟨rfl, rfl, rfl, rfl⟩ := h
          obtain ⟨g1, g2, g3⟩ := opsR.ok hc hb (i := 0) (l := ops.toList) rfl hr hg
          refine ⟨g1, g2, fun K hK => W.region ?_⟩
          have := g3 K hK
          rwa [← List.range_eq_range', show ops.toList.length = ops.size from rfl] at this
        · simp at h
      | true =>
        simp only [cond_true, regD] at h
        split at h
        · rename_i T e1 h1 s1 hr
          cases hst : stat ops (T.map (·.2.isEf)) (mOf ops)
          · rw [hst] at h; simp at h
          · rw [hst] at h
            simp only [cond_true, Option.some.injEq, Prod.mk.injEq] at h
            obtain ⟨rfl, rfl, rfl, rfl⟩ := h
            have hg1 : s1.Good := ⟨hg.1, fun p hp => hg.2 p (List.mem_append_right _ hp)⟩
            obtain ⟨g1, g2, g3, g4, g5, g6⟩ := drawR.ok hc hb hr hg1
            refine ⟨g1, g2, fun K hK => W.draw hm ⟨T, g3, g4, ⟨_, hst, eqsOf.ok fun q hq => hg.2 q (List.mem_append_left _ hq)⟩, ?_⟩⟩
            rw [g5, g6]; exact hK
        · simp at h
    | seq a b =>
      simp only [exec] at h
      split at h
      · rename_i e1 h1 s1 ha
        obtain ⟨g1, g2, g3⟩ := exec.ok hm hc hb m b e1 h1 s1 _ _ _ _ h hg
        obtain ⟨g4, g5, g6⟩ := exec.ok hm hc hb m a env hp s _ _ _ _ ha g1
        exact ⟨g4, Nat.le_trans g5 g2, fun K hK => W.seq (g6 _ (g3 K hK))⟩
      · rename_i x hne
        obtain ⟨g4, g5, g6⟩ := exec.ok hm hc hb m a env hp s _ _ _ _ h hg
        refine ⟨g4, g5, fun K hK => W.seq (g6 _ ?_)⟩
        have hn : e ≠ .normal := fun he => by subst he; exact hne _ _ _ h
        cases e <;> first | exact hK | exact absurd rfl hn
    | cond c x y =>
      simp only [exec] at h
      split at h
      · rename_i hcc
        obtain ⟨g1, g2, g3⟩ := exec.ok hm hc hb m x env hp s _ _ _ _ h hg
        exact ⟨g1, g2, fun K hK => W.condT hcc (g3 K hK)⟩
      · rename_i hcc
        obtain ⟨g1, g2, g3⟩ := exec.ok hm hc hb m y env hp s _ _ _ _ h hg
        exact ⟨g1, g2, fun K hK => W.condF hcc (g3 K hK)⟩
      · simp at h
    | block id c =>
      simp only [exec] at h
      split at h
      · rename_i id' e1 h1 s1 hx
        cases hi : Nat.beq id' id
        · rw [hi] at h
          simp only [cond_false, Option.some.injEq, Prod.mk.injEq] at h
          obtain ⟨rfl, rfl, rfl, rfl⟩ := h
          obtain ⟨g1, g2, g3⟩ := exec.ok hm hc hb m c env hp s _ _ _ _ hx hg
          exact ⟨g1, g2, fun K hK => W.block (g3 _ (by simp only [blockK, hi, cond_false]; exact hK))⟩
        · rw [hi] at h
          simp only [cond_true, Option.some.injEq, Prod.mk.injEq] at h
          obtain ⟨rfl, rfl, rfl, rfl⟩ := h
          obtain ⟨g1, g2, g3⟩ := exec.ok hm hc hb m c env hp s _ _ _ _ hx hg
          exact ⟨g1, g2, fun K hK => W.block (g3 _ (by simp only [blockK, hi, cond_true]; exact hK))⟩
      · rename_i x hne
        obtain ⟨g1, g2, g3⟩ := exec.ok hm hc hb m c env hp s _ _ _ _ h hg
        refine ⟨g1, g2, fun K hK => W.block (g3 _ ?_)⟩
        cases e with
        | exit id' => exact absurd h (hne _ _ _ _)
        | _ => exact hK
    | loop c =>
      simp only [exec] at h
      obtain ⟨g1, g2, g3⟩ := loopR.ok (fun env hp s => exec.ok hm hc hb m c env hp s) h hg
      exact ⟨g1, g2, fun K hK => W.loopN m (g3 K hK)⟩
    | scope c =>
      simp only [exec] at h
      split at h
      · rename_i e1 r1 hx
        cases hi : isGoto e1
        · rw [hi] at h
          simp only [cond_false, Option.some.injEq, Prod.mk.injEq] at h
          obtain ⟨rfl, rfl⟩ := h
          obtain ⟨g1, g2, g3⟩ := scopeR.ok (fun c env hp s => exec.ok hm hc hb m c env hp s) hx hi hg
          refine ⟨g1, g2, fun K hK => ?_⟩
          refine W.mono (K := fun e σ => isGoto e = false ∧ K e σ) (W.scopeN m (fun l σ h => by simp [isGoto] at h) (g3 _ ⟨hi, hK⟩)) fun e σ h => h.2
        · rw [hi] at h; simp at h
      · simp at h
    | exit id =>
      simp only [exec, Option.some.injEq, Prod.mk.injEq] at h
      obtain ⟨rfl, rfl, rfl, rfl⟩ := h
      exact ⟨hg, Nat.le_refl _, fun K hK => W.exit hK⟩
    | goto l =>
      simp only [exec, Option.some.injEq, Prod.mk.injEq] at h
      obtain ⟨rfl, rfl, rfl, rfl⟩ := h
      exact ⟨hg, Nat.le_refl _, fun K hK => W.goto hK⟩
    | label l =>
      simp only [exec, Option.some.injEq, Prod.mk.injEq] at h
      obtain ⟨rfl, rfl, rfl, rfl⟩ := h
      exact ⟨hg, Nat.le_refl _, fun K hK => W.label hK⟩
    | ret =>
      simp only [exec, Option.some.injEq, Prod.mk.injEq] at h
      obtain ⟨rfl, rfl, rfl, rfl⟩ := h
      exact ⟨hg, Nat.le_refl _, fun K hK => W.ret hK⟩
    | _ => simp [exec] at h

/-- A function's results. -/
def resV (P : Program) (env : Env) (hp : List AObj) : List ResultVar → Option (List AV)
  | [] => some []
  | .tmp i :: l => match resV P env hp l with
    | some xs => some (tbl env i :: xs)
    | none => none
  | .cell i ty :: l => match tbl env i with
    | .ptr o off => match nth hp o with
      | some (.row _ cells) => match resV P env hp l with
        | some xs => match aggB P ty with
          | some false => match nth cells off with
            | some y => some (y :: xs)
            | none => none
          | some true => match szB P ty with
            | some k => bif Nat.ble (off + k) cells.length then some (.agg ((cells.drop off).take k) :: xs) else none
            | none => none
          | none => none
        | none => none
      | _ => none
    | _ => none
theorem resV.ok {env : Env} {hp : List AObj} : ∀ {l : List ResultVar} {xs : List AV}, resV P env hp l = some xs → Res P l ⟨tbl env, hp⟩ xs
  | [], xs, h => by simp only [resV, Option.some.injEq] at h; subst h; exact Res.nil
  | .tmp i :: l, xs, h => by
    simp only [resV] at h
    split at h
    · rename_i ys hy
      simp only [Option.some.injEq] at h; subst h
      exact Res.tmp rfl (resV.ok hy)
    · simp at h
  | .cell i ty :: l, xs, h => by
    simp only [resV] at h
    split at h
    · rename_i o off hx
      split at h
      · rename_i esz cells ho
        rw [nth_eq] at ho
        split at h
        · rename_i ys hy
          split at h
          · rename_i ha
            split at h
            · rename_i y hyy; rw [nth_eq] at hyy
              simp only [Option.some.injEq] at h; subst h
              exact Res.cell (aggB.ok ha) hx ho hyy (resV.ok hy)
            · simp at h
          · rename_i ha
            split at h
            · rename_i k hk
              cases hb : Nat.ble (off + k) cells.length
              · rw [hb] at h; simp at h
              · rw [hb] at h
                simp only [cond_true, Option.some.injEq] at h; subst h
                exact Res.cellA (aggB.ok ha) (szB.ok hk) hx ho (Nat.le_of_ble_eq_true hb) (resV.ok hy)
            · simp at h
          · simp at h
        · simp at h
      · simp at h
    · simp at h

def enumE : Nat → List AV → Env
  | _, [] => []
  | i, x :: xs => (i, x) :: enumE (i + 1) xs
theorem enumE_at : ∀ (xs : List AV) (k i : Nat), tbl (enumE k xs) i = .any ∨ (k ≤ i ∧ tbl (enumE k xs) i = xs.getD (i - k) (.sc undef))
  | [], _, _ => .inl rfl
  | x :: xs, k, i => by
    by_cases hi : i = k
    · subst hi
      exact .inr ⟨Nat.le_refl _, by simp [enumE, tbl]⟩
    · have hb : Nat.beq i k = false := nbeq hi
      simp only [enumE, tbl, hb, cond_false]
      rcases enumE_at xs (k + 1) i with h | ⟨h1, h2⟩
      · exact .inl h
      · refine .inr ⟨by omega, ?_⟩
        rw [h2]
        obtain ⟨j, rfl⟩ : ∃ j, i = k + 1 + j := ⟨i - (k + 1), by omega⟩
        rw [show k + 1 + j - (k + 1) = j by omega, show k + 1 + j - k = j + 1 by omega]
        simp

def ftAt : List (Nat × Func) → Nat → Option Func
  | [], _ => none
  | (k, fn) :: l, g => bif Nat.beq k g then some fn else ftAt l g
def AllF (P : Program) : List (Nat × Func) → Prop
  | [] => True
  | (k, fn) :: l => (P.funcs[k]? = some fn ∧ HasBody P k) ∧ AllF P l
theorem AllF.at : ∀ {l : List (Nat × Func)} {g : Nat} {fn : Func}, AllF P l → ftAt l g = some fn → P.funcs[g]? = some fn ∧ HasBody P g
  | (k, f) :: l, g, fn, h, hf => by
    simp only [ftAt] at hf
    cases hk : Nat.beq k g
    · rw [hk] at hf; exact AllF.at h.2 hf
    · rw [hk] at hf
      have := Nat.eq_of_beq_eq_true hk
      subst this
      simp only [cond_true, Option.some.injEq] at hf; subst hf
      exact h.1
def ftHas (l : List (Nat × Func)) (g : Nat) : Bool := match ftAt l g with | some _ => true | none => false
theorem ftHas.ok {l : List (Nat × Func)} (h : AllF P l) (g : Nat) (hg : ftHas l g = true) : HasBody P g := by
  unfold ftHas at hg; split at hg
  · rename_i fn hf; exact (AllF.at h hf).2
  · simp at hg

def isRet : Exit → Bool | .ret | .normal => true | _ => false
/-- A call, d calls deep at most. -/
def run (P : Program) (ft : List (Nat × Func)) (m : Nat) : Nat → CallF
  | 0 => fun _ _ _ _ => none
  | d + 1 => fun g xs hp s => match ftAt ft g with
    | some fn => match fn.body with
      | some c => bif Nat.ble xs.length fn.ntmps then (match exec (run P ft m d) P (ftHas ft) fn.ntmps g m c (enumE 0 xs) hp s with
        | some (e, env, hp', s') => bif isRet e then (match resV P env hp' fn.results.toList with
          | some ys => some (oneAV ys, hp', s')
          | none => none) else none
        | none => none) else none
      | none => none
    | none => none
theorem run.ok (hm : P.follows .mixedOrders = true) {ft : List (Nat × Func)} (hF : AllF P ft) {m : Nat} : ∀ d, CallOK P (run P ft m d)
  | 0 => fun _ _ _ _ _ _ _ h => by simp [run] at h
  | d + 1 => by
    intro g xs hp s x hp' s' h hg
    simp only [run] at h
    split at h
    · rename_i fn hfn
      obtain ⟨hf, hb⟩ := AllF.at hF hfn
      split at h
      · rename_i c hc
        cases hn : Nat.ble xs.length fn.ntmps
        · rw [hn] at h; simp at h
        · rw [hn] at h
          simp only [cond_true] at h
          split at h
          · rename_i e env h1 s1 hx
            cases hr : isRet e
            · rw [hr] at h; simp at h
            · rw [hr] at h
              simp only [cond_true] at h
              split at h
              · rename_i ys hy
                simp only [Option.some.injEq, Prod.mk.injEq] at h
                obtain ⟨rfl, rfl, rfl⟩ := h
                obtain ⟨g1, g2, g3⟩ := exec.ok hm (run.ok hm hF d) (ftHas.ok hF) m c _ hp s _ _ _ _ hx hg
                refine ⟨g1, g2, hb, Spec.body hf hc (Nat.le_of_ble_eq_true hn) ?_⟩
                refine W.weaken (σ' := ⟨tbl (enumE 0 xs), hp⟩) ⟨rfl, fun i => ?_⟩ (g3 _ ⟨?_, ys, _, _, resV.ok hy, Cv.refl g2, rfl, rfl⟩)
                · rcases enumE_at xs 0 i with h | ⟨_, h⟩
                  · exact .inl h
                  · exact .inr (by show tbl (enumE 0 xs) i = argEnv xs i; rw [h]; simp [argEnv])
                · cases e <;> first | exact .inl rfl | exact .inr rfl | simp [isRet] at hr
              · simp at h
          · simp at h
      · simp at h
    · simp at h

mutual
/-- A value behind which no row stays. -/
def fz (hp : List AObj) : AV → Option AV
  | .sl o off len => match nth hp o with
    | some (.row esz cells) => bif Nat.ble (off + len * esz) cells.length && noOwnL ((cells.drop off).take (len * esz)) then some (.im esz ((cells.drop off).take (len * esz))) else none
    | _ => none
  | .tup xs => match fzL hp xs with
    | some ys => some (.tup ys)
    | none => none
  | .agg xs => match fzL hp xs with
    | some ys => some (.agg ys)
    | none => none
  | x => bif noOwn x then some x else none
def fzL (hp : List AObj) : List AV → Option (List AV)
  | [] => some []
  | x :: xs => match fz hp x with
    | some y => match fzL hp xs with
      | some ys => some (y :: ys)
      | none => none
    | none => none
end
theorem fz_keep {x y : AV} (h : (bif noOwn x then some x else none) = some y) : Fz 0 hp x y := by
  cases hn : noOwn x
  · rw [hn] at h; simp at h
  · rw [hn] at h; simp only [cond_true, Option.some.injEq] at h; subst h; exact .keep hn
mutual
theorem fz.ok : ∀ {x y : AV}, fz hp x = some y → Fz 0 hp x y
  | .sl o off len, y, h => by
    simp only [fz] at h
    split at h
    · rename_i esz cells ho; rw [nth_eq] at ho
      cases hb : Nat.ble (off + len * esz) cells.length && noOwnL ((cells.drop off).take (len * esz))
      · rw [hb] at h; simp at h
      · rw [hb] at h; simp only [cond_true, Option.some.injEq] at h; subst h
        simp only [Bool.and_eq_true] at hb
        exact .sl ho (Nat.zero_le _) (Nat.le_of_ble_eq_true hb.1) hb.2
    · simp at h
  | .tup xs, y, h => by
    simp only [fz] at h
    split at h
    · rename_i ys hy; simp only [Option.some.injEq] at h; subst h; exact .tup (fzL.ok hy)
    · simp at h
  | .agg xs, y, h => by
    simp only [fz] at h
    split at h
    · rename_i ys hy; simp only [Option.some.injEq] at h; subst h; exact .agg (fzL.ok hy)
    · simp at h
  | .any, y, h => fz_keep h
  | .nil, y, h => fz_keep h
  | .sc v, y, h => fz_keep h
  | .ptr a b, y, h => fz_keep h
  | .im a b, y, h => fz_keep h
  | .ip a b, y, h => fz_keep h
  | .fn a b c, y, h => fz_keep h
  | .ifc a b, y, h => fz_keep h
  | .mp a, y, h => fz_keep h
theorem fzL.ok : ∀ {xs ys : List AV}, fzL hp xs = some ys → FzL 0 hp xs ys
  | [], ys, h => by simp only [fzL, Option.some.injEq] at h; subst h; exact .nil
  | x :: xs, ys, h => by
    simp only [fzL] at h
    split at h
    · rename_i y hy; split at h
      · rename_i zs hz; simp only [Option.some.injEq] at h; subst h; exact .cons (fz.ok hy) (fzL.ok hz)
      · simp at h
    · simp at h
end

/-- What is left of a run: its value, no row; what must hold for it. -/
abbrev RunR := Option (AV × List AObj × St)
def rX : RunR → Option AV
  | some (x, hp, ⟨[], _, _⟩) => fz hp x
  | _ => none
def rC : RunR → List Prop
  | some (_, _, s) => s.cs
  | _ => [False]
def rL : RunR → List (Option AObj)
  | some (_, _, s) => s.eq.map (·.1)
  | _ => []
def rR : RunR → List (Option AObj)
  | some (_, _, s) => s.eq.map (·.2)
  | _ => []
theorem pairs_eq : ∀ {l : List (Option AObj × Option AObj)}, l.map (·.1) = l.map (·.2) → ∀ p ∈ l, p.1 = p.2
  | [], _, p, hp => by simp at hp
  | q :: l, h, p, hp => by
    simp only [List.map_cons, List.cons.injEq] at h
    simp only [List.mem_cons] at hp
    rcases hp with rfl | hp
    · exact h.1
    · exact pairs_eq h.2 p hp

/-- A function's contract out of its run. -/
theorem sx0 (hm : P.follows .mixedOrders = true) {ft : List (Nat × Func)} (hF : AllF P ft) {k : Nat} {args : List AV} {x : AV} (m d : Nat) (sc : List Item) (cs : List Prop)
    (h : (rX (run P ft m d k args [] ⟨sc, [], []⟩), rC (run P ft m d k args [] ⟨sc, [], []⟩), rL (run P ft m d k args [] ⟨sc, [], []⟩)) = (some x, cs, rR (run P ft m d k args [] ⟨sc, [], []⟩))) (hc : allP cs) : Spec0 P k args x := by
  have hok := run.ok hm hF (m := m) d k args [] ⟨sc, [], []⟩
  generalize run P ft m d k args [] ⟨sc, [], []⟩ = r at h hok
  simp only [Prod.mk.injEq] at h
  obtain ⟨h1, h2, h3⟩ := h
  match r, h1, h2, h3, hok with
  | some (y, hp, ⟨[], c, e⟩), h1, h2, h3, hok =>
    simp only [rC] at h2; subst h2
    obtain ⟨_, _, _, hs⟩ := hok _ _ _ rfl ⟨hc, pairs_eq h3⟩
    intro F μ w args' hr ha
    refine (hs F μ w args' hr ha).mono ?_
    rintro e w' ⟨x1, v, hp1, μ1, rfl, ⟨rfl, rfl⟩, g1, g2, g3⟩
    obtain ⟨μ2, k1, k2, k3, k4, k5⟩ := Cv.frz0 (fz.ok h1) F μ1 w' v g1 g2
    have hμ : μ = [] := List.eq_nil_of_length_eq_zero hr.len
    subst hμ
    refine ⟨_, v, [], μ2, rfl, ⟨rfl, rfl⟩, k1, k2, ⟨g3.size, g3.keep, fun b hb => g3.new b (k3 b hb), fun o nm h => by simp at h, Nat.zero_le _, g3.oo⟩⟩
end Go.SL

set_option linter.unusedVariables false
set_option linter.unusedSimpArgs false
set_option linter.unusedSectionVars false
namespace Go.SL
open Go
variable [Tabs]
variable {P : Program} {hp : List AObj}

def rV : RunR → Option (AV × List AObj)
  | some (x, hp, ⟨[], _, _⟩) => some (x, hp)
  | _ => none
/-- A function's contract out of its run, its result frozen by a proof. -/
theorem Fz.slE {p : Nat} {hp : List AObj} {o off len esz : Nat} {cells ys : List AV} (ho : nth hp o = some (AObj.row esz cells)) (hpo : p ≤ o) (hl : Nat.ble (off + len * esz) cells.length = true) (he : (cells.drop off).take (len * esz) = ys) (hn : noOwnL ys = true) : Fz p hp (.sl o off len) (.im esz ys) := by
  subst he
  rw [nth_eq] at ho
  exact .sl ho hpo (Nat.le_of_ble_eq_true hl) hn
theorem Fz.slF {p : Nat} {hp : List AObj} {o off len esz : Nat} {cells ys zs : List AV} (ho : nth hp o = some (AObj.row esz cells)) (hpo : p ≤ o) (hl : Nat.ble (off + len * esz) cells.length = true) (he : (cells.drop off).take (len * esz) = zs) (hz : FzL p hp zs ys) (hn : noOwnL ys = true) : Fz p hp (.sl o off len) (.im esz ys) := by
  subst he
  rw [nth_eq] at ho
  exact .slD ho hpo (Nat.le_of_ble_eq_true hl) hz hn
theorem sxF (hm : P.follows .mixedOrders = true) {ft : List (Nat × Func)} (hF : AllF P ft) {k : Nat} {args : List AV} {y : AV} (m d : Nat) (sc : List Item) (cs : List Prop) (x : AV) (hp1 : List AObj)
    (h : (rV (run P ft m d k args [] ⟨sc, [], []⟩), rC (run P ft m d k args [] ⟨sc, [], []⟩), rL (run P ft m d k args [] ⟨sc, [], []⟩)) = (some (x, hp1), cs, rR (run P ft m d k args [] ⟨sc, [], []⟩))) (hc : allP cs) (hf : Fz 0 hp1 x y) : Spec0 P k args y := by
  have hok := run.ok hm hF (m := m) d k args [] ⟨sc, [], []⟩
  generalize run P ft m d k args [] ⟨sc, [], []⟩ = r at h hok
  simp only [Prod.mk.injEq] at h
  obtain ⟨h1, h2, h3⟩ := h
  match r, h1, h2, h3, hok with
  | some (y1, hp, ⟨[], c, e⟩), h1, h2, h3, hok =>
    simp only [rC] at h2; subst h2
    simp only [rV, Option.some.injEq, Prod.mk.injEq] at h1
    obtain ⟨rfl, rfl⟩ := h1
    obtain ⟨_, _, _, hs⟩ := hok _ _ _ rfl ⟨hc, pairs_eq h3⟩
    intro F μ w args' hr ha
    refine (hs F μ w args' hr ha).mono ?_
    rintro e w' ⟨x1, v, hp1, μ1, rfl, ⟨rfl, rfl⟩, g1, g2, g3⟩
    obtain ⟨μ2, k1, k2, k3, k4, k5⟩ := Cv.frz0 hf F μ1 w' v g1 g2
    have hμ : μ = [] := List.eq_nil_of_length_eq_zero hr.len
    subst hμ
    refine ⟨_, v, [], μ2, rfl, ⟨rfl, rfl⟩, k1, k2, ⟨g3.size, g3.keep, fun b hb => g3.new b (k3 b hb), fun o nm h => by simp at h, Nat.zero_le _, g3.oo⟩⟩

abbrev mB (l : List UInt8) : List AV := List.map byteAV l
theorem getD_nth {l : List UInt8} {j : Nat} (h : j < l.length) : l[j]? = some (l.getD j 0) := by
  rw [List.getD_eq_getElem?_getD, List.getElem?_eq_getElem h]; rfl
end Go.SL

set_option linter.unusedVariables false
set_option linter.unusedSimpArgs false
set_option linter.unusedSectionVars false
namespace Go.SL
open Go
variable [Tabs]
variable {P : Program} {n : Nat} {hp : List AObj}

theorem tbl_le {l : Env} {σ : SS} (h : l.map (fun p => σ.env p.1) = l.map (·.2)) : Le ⟨tbl l, σ.hp⟩ σ := by
  refine Le.tbl fun p hp => ?_
  induction l with
  | nil => simp at hp
  | cons q l ih =>
    simp only [List.map_cons, List.cons.injEq] at h
    simp only [List.mem_cons] at hp
    rcases hp with rfl | hp
    · exact h.1
    · exact ih h.2 hp

/-- Where a piece ends, with what rows, with what in the slots that are asked for. -/
def yE (ds : List Nat) : Out → Option (Exit × List AObj × List AV)
  | some (e, env, hp, ⟨[], _, _⟩) => some (e, hp, ds.map (tbl env))
  | _ => none
/-- What a piece returns: its value, no row. -/
def yR (P : Program) (rs : List ResultVar) : Out → Option (Exit × AV)
  | some (e, env, hp, ⟨[], _, _⟩) => match resV P env hp rs with
    | some ys => match fz hp (oneAV ys) with
      | some x => some (e, x)
      | none => none
    | none => none
  | _ => none
def yC : Out → List Prop
  | some (_, _, _, s) => s.cs
  | _ => [False]
def yL : Out → List (Option AObj)
  | some (_, _, _, s) => s.eq.map (·.1)
  | _ => []
def yQ : Out → List (Option AObj)
  | some (_, _, _, s) => s.eq.map (·.2)
  | _ => []

abbrev piece (P : Program) (ft : List (Nat × Func)) (m d n f : Nat) (c : Code) (l0 : Env) (hp : List AObj) (sc : List Item) : Out := exec (run P ft m d) P (ftHas ft) n f m c l0 hp ⟨sc, [], []⟩

theorem W.sx (hm : P.follows .mixedOrders = true) {ft : List (Nat × Func)} (hF : AllF P ft) {c : Code} {K : Exit → SS → Prop} {l0 : Env} (f m d : Nat) (sc : List Item) (cs : List Prop) (e : Exit) (out : Env) (hp' : List AObj)
    (h : (yE (out.map (·.1)) (piece P ft m d n f c l0 hp sc), yC (piece P ft m d n f c l0 hp sc), yL (piece P ft m d n f c l0 hp sc)) = (some (e, hp', out.map (·.2)), cs, yQ (piece P ft m d n f c l0 hp sc))) (hc : allP cs)
    (hk : ∀ σ, Le ⟨tbl out, hp'⟩ σ → K e σ) : W P n c K ⟨tbl l0, hp⟩ := by
  have hok := exec.ok (n := n) hm (run.ok hm hF (m := m) d) (ftHas.ok hF) (f := f) m c l0 hp ⟨sc, [], []⟩
  unfold piece at h
  generalize exec (run P ft m d) P (ftHas ft) n f m c l0 hp ⟨sc, [], []⟩ = r at h hok
  simp only [Prod.mk.injEq] at h
  obtain ⟨h1, h2, h3⟩ := h
  match r, h1, h2, h3, hok with
  | some (e1, env, hp1, ⟨[], c1, q1⟩), h1, h2, h3, hok =>
    simp only [yC] at h2; subst h2
    simp only [yE, Option.some.injEq, Prod.mk.injEq] at h1
    obtain ⟨rfl, rfl, h9⟩ := h1
    obtain ⟨_, _, g⟩ := hok _ _ _ _ rfl ⟨hc, pairs_eq h3⟩
    refine g K (hk _ ?_)
    exact tbl_le (σ := ⟨tbl env, hp1⟩) (by rw [← h9, List.map_map]; rfl)
theorem W.sxR (hm : P.follows .mixedOrders = true) {ft : List (Nat × Func)} (hF : AllF P ft) {c : Code} {K : Exit → SS → Prop} {l0 : Env} (f m d : Nat) (sc : List Item) (cs : List Prop) (rs : List ResultVar) (e : Exit) (x : AV)
    (h : (yR P rs (piece P ft m d n f c l0 hp sc), yC (piece P ft m d n f c l0 hp sc), yL (piece P ft m d n f c l0 hp sc)) = (some (e, x), cs, yQ (piece P ft m d n f c l0 hp sc))) (hc : allP cs)
    (hk : ∀ σ xs, Res P rs σ xs → Cv 0 σ.hp (oneAV xs) [] x → K e σ) : W P n c K ⟨tbl l0, hp⟩ := by
  have hok := exec.ok (n := n) hm (run.ok hm hF (m := m) d) (ftHas.ok hF) (f := f) m c l0 hp ⟨sc, [], []⟩
  unfold piece at h
  generalize exec (run P ft m d) P (ftHas ft) n f m c l0 hp ⟨sc, [], []⟩ = r at h hok
  simp only [Prod.mk.injEq] at h
  obtain ⟨h1, h2, h3⟩ := h
  match r, h1, h2, h3, hok with
  | some (e1, env, hp1, ⟨[], c1, q1⟩), h1, h2, h3, hok =>
    simp only [yC] at h2; subst h2
    simp only [yR] at h1
    split at h1
    · rename_i ys hy
      split at h1
      · rename_i y hz
        simp only [Option.some.injEq, Prod.mk.injEq] at h1
        obtain ⟨rfl, rfl⟩ := h1
        obtain ⟨_, _, g⟩ := hok _ _ _ _ rfl ⟨hc, pairs_eq h3⟩
        exact g K (hk _ ys (resV.ok hy) (Cv.frz0 (fz.ok hz)))
      · simp at h1
    · simp at h1

/-- A body from its arguments. -/
theorem Spec0.walk {k : Nat} {fn : Func} {c : Code} {args : List AV} {x : AV} (hf : P.funcs[k]? = some fn) (hb : fn.body = some c) (hn : Nat.ble args.length fn.ntmps = true)
    (h : W P fn.ntmps c (retK P 0 fn.results.toList (fun r hp' => r = x ∧ hp' = [])) ⟨tbl (enumE 0 args), []⟩) : Spec0 P k args x := by
  refine Spec.body (hp := []) hf hb (Nat.le_of_ble_eq_true hn) (W.weaken (σ' := ⟨tbl (enumE 0 args), []⟩) ⟨rfl, fun i => ?_⟩ h)
  rcases enumE_at args 0 i with h | ⟨_, h⟩
  · exact .inl h
  · exact .inr (by show tbl (enumE 0 args) i = argEnv args i; rw [h]; simp [argEnv])
theorem retK.mk {rs : List ResultVar} {x : AV} {σ : SS} {xs : List AV} {e : Exit} (he : e = .ret ∨ e = .normal) (h1 : Res P rs σ xs) (h2 : Cv 0 σ.hp (oneAV xs) [] x) : retK P 0 rs (fun r hp' => r = x ∧ hp' = []) e σ :=
  ⟨he, xs, x, [], h1, h2, rfl, rfl⟩
/-- What stands behind k pieces. -/
def dropS : Nat → Code → Code
  | k + 1, .seq _ b => dropS k b
  | _, c => c
/-- The first k pieces carried out. -/
def execP (ex : Code → Env → List AObj → St → Out) : Nat → Code → Env → List AObj → St → Out
  | 0, _, env, hp, s => some (.normal, env, hp, s)
  | k + 1, .seq a b, env, hp, s => match ex a env hp s with
    | some (.normal, e, h, s') => execP ex k b e h s'
    | _ => none
  | _, _, _, _, _ => none
theorem execP.ok {ex : Code → Env → List AObj → St → Out} (hex : ∀ c env hp s, Does P n c env hp s (ex c env hp s)) : ∀ {k : Nat} {c : Code} {env env' : Env} {hp hp' : List AObj} {s s' : St} {e : Exit}, execP ex k c env hp s = some (e, env', hp', s') → s'.Good →
    s.Good ∧ hp.length ≤ hp'.length ∧ e = .normal ∧ ∀ K, W P n (dropS k c) K ⟨tbl env', hp'⟩ → W P n c K ⟨tbl env, hp⟩
  | 0, c, env, env', hp, hp', s, s', e, h, hg => by
    simp only [execP, Option.some.injEq, Prod.mk.injEq] at h
    obtain ⟨rfl, rfl, rfl, rfl⟩ := h
    refine ⟨hg, Nat.le_refl _, rfl, fun K hK => ?_⟩
    simpa only [dropS] using hK
  | k + 1, .seq a b, env, env', hp, hp', s, s', e, h, hg => by
    simp only [execP] at h
    split at h
    · rename_i e1 h1 s1 hx
      obtain ⟨g1, g2, g3, g4⟩ := execP.ok hex h hg
      obtain ⟨g5, g6, g7⟩ := hex a env hp s _ _ _ _ hx g1
      exact ⟨g5, Nat.le_trans g6 g2, g3, fun K hK => W.seq (g7 _ (g4 K (by simpa only [dropS] using hK)))⟩
    · simp at h
  | k + 1, .skip, _, _, _, _, _, _, _, h, _ => by simp [execP] at h
  | k + 1, .region _ _ _, _, _, _, _, _, _, _, h, _ => by simp [execP] at h
  | k + 1, .cond _ _ _, _, _, _, _, _, _, _, h, _ => by simp [execP] at h
  | k + 1, .block _ _, _, _, _, _, _, _, _, h, _ => by simp [execP] at h
  | k + 1, .loop _, _, _, _, _, _, _, _, h, _ => by simp [execP] at h
  | k + 1, .rangeFunc _ _ _ _, _, _, _, _, _, _, _, h, _ => by simp [execP] at h
  | k + 1, .exit _, _, _, _, _, _, _, _, h, _ => by simp [execP] at h
  | k + 1, .scope _, _, _, _, _, _, _, _, h, _ => by simp [execP] at h
  | k + 1, .label _, _, _, _, _, _, _, _, h, _ => by simp [execP] at h
  | k + 1, .goto _, _, _, _, _, _, _, _, h, _ => by simp [execP] at h
  | k + 1, .ret, _, _, _, _, _, _, _, h, _ => by simp [execP] at h
  | k + 1, .refuse _, _, _, _, _, _, _, _, h, _ => by simp [execP] at h

abbrev pieceP (P : Program) (ft : List (Nat × Func)) (m d n f k : Nat) (c : Code) (l0 : Env) (hp : List AObj) (sc : List Item) : Out := execP (exec (run P ft m d) P (ftHas ft) n f m) k c l0 hp ⟨sc, [], []⟩

theorem W.sxP (hm : P.follows .mixedOrders = true) {ft : List (Nat × Func)} (hF : AllF P ft) {c : Code} {K : Exit → SS → Prop} {l0 : Env} (f k m d : Nat) (sc : List Item) (cs : List Prop) (out : Env) (hp' : List AObj)
    (h : (yE (out.map (·.1)) (pieceP P ft m d n f k c l0 hp sc), yC (pieceP P ft m d n f k c l0 hp sc), yL (pieceP P ft m d n f k c l0 hp sc)) = (some (.normal, hp', out.map (·.2)), cs, yQ (pieceP P ft m d n f k c l0 hp sc))) (hc : allP cs)
    (hk : W P n (dropS k c) K ⟨tbl out, hp'⟩) : W P n c K ⟨tbl l0, hp⟩ := by
  have hok := @execP.ok _ P n (exec (run P ft m d) P (ftHas ft) n f m) (fun c env hp s => exec.ok (n := n) hm (run.ok hm hF (m := m) d) (ftHas.ok hF) (f := f) m c env hp s) k c l0
  unfold pieceP at h
  generalize hr : execP (exec (run P ft m d) P (ftHas ft) n f m) k c l0 hp ⟨sc, [], []⟩ = r at h
  simp only [Prod.mk.injEq] at h
  obtain ⟨h1, h2, h3⟩ := h
  match r, hr, h1, h2, h3 with
  | some (e1, env, hp1, ⟨[], c1, q1⟩), hr, h1, h2, h3 =>
    simp only [yC] at h2; subst h2
    simp only [yE, Option.some.injEq, Prod.mk.injEq] at h1
    obtain ⟨rfl, rfl, h9⟩ := h1
    obtain ⟨_, _, _, g⟩ := hok hr ⟨hc, pairs_eq h3⟩
    refine g K (W.weaken ?_ hk)
    exact tbl_le (σ := ⟨tbl env, hp1⟩) (by rw [← h9, List.map_map]; rfl)
end Go.SL
