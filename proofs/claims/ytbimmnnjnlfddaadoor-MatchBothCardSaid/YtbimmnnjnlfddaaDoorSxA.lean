/-
  Operations evaluated: what one does is computed from the abstract values, and the computed is what the operation does.
-/
import Derived.Test.YtbimmnnjnlfddaaDoorSlAb
import Derived.Laws.StructEq
import Derived.ChangeKeysEq
set_option linter.unusedVariables false
set_option linter.unusedSimpArgs false
set_option linter.unusedSectionVars false
namespace Go.SL
open Go
variable [Tabs]
variable {P : Program} {n : Nat} {F : Nat → Prop} {μ μ' : List Nm} {w w' : World} {env : Nat → AV} {hp : List AObj} {dst : Option Nat} {ty : TypeId} {pos : String} {after : Array Edge} {guard : Option (Nat × Bool)}

def nth {α : Type} : List α → Nat → Option α
  | [], _ => none
  | x :: _, 0 => some x
  | _ :: l, n + 1 => nth l n
theorem nth_eq {α : Type} : ∀ (l : List α) (n : Nat), nth l n = l[n]?
  | [], _ => rfl
  | _ :: _, 0 => rfl
  | _ :: l, n + 1 => by simpa [nth] using nth_eq l n

def szB (P : Program) (t : TypeId) : Option Nat := match P.info? t with | some i => some i.size | none => none
theorem szB.ok {t : TypeId} {k : Nat} (h : szB P t = some k) : SizeOf P t k := by
  intro w; unfold szB at h; split at h
  · rename_i i hi; injection h with h; subst h; simp [sizeOf, typeInfo, hi]
  · simp at h
def aggB (P : Program) (t : TypeId) : Option Bool := match P.underlying t with | some (.struct _) => some true | some (.array _ _) => some true | some _ => some false | none => none
theorem aggB.ok {t : TypeId} {b : Bool} (h : aggB P t = some b) : IsAgg P t b := by
  intro w; unfold aggB at h
  split at h
  · rename_i f hu; injection h with h; subst h; simp [isAgg, underlying, hu]
  · rename_i k e hu; injection h with h; subst h; simp [isAgg, underlying, hu]
  · rename_i d h1 h2 hu; injection h with h; subst h
    have e : (underlying t).run P w = .ok d w := run_und hu
    simp only [isAgg, Sem.run_bind, e, Result.andThen_ok]
    cases d <;> first | rfl | exact absurd hu (h1 _) | exact absurd hu (h2 _ _)
  · simp at h
def zeroB (P : Program) (t : TypeId) : Option Value := match P.info? t with | some i => i.zero | none => none
theorem zeroB.ok {t : TypeId} {z : Value} (h : zeroB P t = some z) : ZeroV P t z := by
  intro w; unfold zeroB at h; split at h
  · rename_i i hi; simp [zeroValue, typeInfo, hi, h]
  · simp at h
def eiB (P : Program) (e : TypeId) : Option (Value × Nat × Nat) := match P.info? e with | some i => (match i.zero with | some z => some (z, i.size, i.bytes) | none => none) | none => none
theorem eiB.ok {e : TypeId} {z : Value} {a b : Nat} (h : eiB P e = some (z, a, b)) : EI P e z a b := by
  unfold eiB at h; unfold EI; split at h
  · rename_i i hi; split at h
    · rename_i z' hz; injection h with h; injection h with h1 h2; injection h2 with h2 h3; subst h1; subst h2; subst h3; simp [hi, hz]
    · simp at h
  · simp at h

abbrev R := Option (Kd × List Prop)
def rq (x : AV) : R := some (.q x [], [])
def rq1 (x : AV) (o : Nat) (row : AObj) : R := some (.q x [(o, row)], [])
def ral (e : Nat) (cs : List AV) (mk : Nat → AV) : R := some (.al e cs mk, [])

/-- What a kind says of an operation. -/
def OK1 (P : Program) (o : Oper) (env : Nat → AV) (hp : List AObj) : Kd → Prop
  | .sk => False
  | .q r O => StepQ P o env r O ∧ ∀ p ∈ O, hp[p.1]? = some p.2
  | .al e cs mk => StepAl P o env e cs mk
  | .ef r hp' => Step P o env hp (is r hp') ∧ hp.length ≤ hp'.length

/-- The computed is right. -/
def Ok (P : Program) (o : Oper) (env : Nat → AV) (hp : List AObj) (r : R) : Prop := ∀ k cs, r = some (k, cs) → allP cs → OK1 P o env hp k

theorem Ok.none {o : Oper} : Ok P o env hp none := fun _ _ h => by simp at h
theorem Ok.q {o : Oper} {x : AV} (h : ∀ hp, Step P o env hp (is x hp)) : Ok P o env hp (rq x) := by
  intro k cs e _; injection e with e; injection e with e1 e2; subst e1
  exact ⟨fun hp _ => h hp, fun p hp => by simp at hp⟩
theorem Ok.q1 {o : Oper} {x : AV} {i : Nat} {row : AObj} (hi : hp[i]? = some row) (h : ∀ hp, hp[i]? = some row → Step P o env hp (is x hp)) : Ok P o env hp (rq1 x i row) := by
  intro k cs e _; injection e with e; injection e with e1 e2; subst e1
  exact ⟨fun hp hO => h hp (hO (i, row) (List.mem_singleton.2 rfl)), fun p hp => by rw [List.mem_singleton] at hp; subst hp; exact hi⟩
theorem Ok.al {o : Oper} {e : Nat} {cs : List AV} {mk : Nat → AV} (h : StepAl P o env e cs mk) : Ok P o env hp (ral e cs mk) := by
  intro k cs' e' _; injection e' with e'; injection e' with e1 e2; subst e1; exact h
theorem Ok.ef {o : Oper} {x : AV} {hp' : List AObj} {ps : List Prop} (hl : hp.length ≤ hp'.length) (h : allP ps → Step P o env hp (is x hp')) : Ok P o env hp (some (.ef x hp', ps)) := by
  intro k cs e hc; injection e with e; injection e with e1 e2; subst e1; subst e2; exact ⟨h hc, hl⟩
theorem Ok.qp {o : Oper} {x : AV} {ps : List Prop} (h : allP ps → ∀ hp, Step P o env hp (is x hp)) : Ok P o env hp (some (.q x [], ps)) := by
  intro k cs e hc; injection e with e; injection e with e1 e2; subst e1; subst e2
  exact ⟨fun hp _ => h hc hp, fun p hp => by simp at hp⟩

def evPick (c a b : AV) : R := match c with
  | .sc (.bool true) => rq a
  | .sc (.bool false) => rq b
  | _ => none
theorem evPick.ok {c x y : Operand} : Ok P ⟨dst, .pick c x y, ty, pos, after, guard⟩ env hp (evPick (opd env c) (opd env x) (opd env y)) := by
  unfold evPick; split
  · rename_i h; exact Ok.q fun hp => step_pick_t h rfl
  · rename_i h; exact Ok.q fun hp => step_pick_f h rfl
  · exact Ok.none

def evUn (op : UnOp) (x : AV) : R := match op, x with
  | .not, .sc (.bool b) => rq (.sc (.bool !b))
  | .neg, .sc (.int k m) => rq (.sc (.int k (k.wrap (0 - m))))
  | .xor, .sc (.int k m) => rq (.sc (.int k (k.wrap (BitVec.ofInt k.bits (if k.signed then -1 else k.max) ^^^ BitVec.ofInt k.bits m).toNat)))
  | _, _ => none
theorem evUn.ok {op : UnOp} {t : TypeId} {x : Operand} : Ok P ⟨dst, .unOp op t x, ty, pos, after, guard⟩ env hp (evUn op (opd env x)) := by
  unfold evUn; split
  · rename_i h; exact Ok.q fun hp => step_not h
  · rename_i h; exact Ok.q fun hp => step_neg h
  · rename_i h; exact Ok.q fun hp => step_xor1 h
  · exact Ok.none

def isZ : Int → Bool | .ofNat 0 => true | _ => false
theorem isZ.ok {q : Int} (h : isZ q = false) : q ≠ 0 := by rintro rfl; simp [isZ] at h
def nonneg : Int → Bool | .ofNat _ => true | .negSucc _ => false
theorem nonneg.ok {q : Int} (h : nonneg q = true) : 0 ≤ q := by cases q <;> simp_all [nonneg]

def evInt (op : BinOp) (k k' : IntKind) (p q : Int) : R := match op with
  | .shl => bif nonneg q then rq (.sc (.int k (k.wrap (p * 2 ^ min q.toNat k.bits)))) else none
  | .shr => bif nonneg q then rq (.sc (.int k (p.fdiv (2 ^ min q.toNat k.bits)))) else none
  | .quo => if k = k' then bif isZ q then none else rq (.sc (.int k (k.wrap (p.tdiv q)))) else none
  | .rem => if k = k' then bif isZ q then none else rq (.sc (.int k (p.tmod q))) else none
  | op => if k = k' then (match int2 op k p q with | some v => rq (.sc v) | none => none) else none
theorem evInt.ok {op : BinOp} {t t' : TypeId} {x y : Operand} {k k' : IntKind} {p q : Int} (hx : opd env x = .sc (.int k p)) (hy : opd env y = .sc (.int k' q)) :
    Ok P ⟨dst, .binOp op t x y t', ty, pos, after, guard⟩ env hp (evInt op k k' p q) := by
  unfold evInt; split
  · cases h : nonneg q
    · exact Ok.none
    · exact Ok.q fun hp => step_shl hx hy (nonneg.ok h)
  · cases h : nonneg q
    · exact Ok.none
    · exact Ok.q fun hp => step_shr hx hy (nonneg.ok h)
  · split
    · rename_i h; subst h
      cases h : isZ q
      · exact Ok.q fun hp => step_quo hx hy (isZ.ok h)
      · exact Ok.none
    · exact Ok.none
  · split
    · rename_i h; subst h
      cases h : isZ q
      · exact Ok.q fun hp => step_rem hx hy (isZ.ok h)
      · exact Ok.none
    · exact Ok.none
  · split
    · rename_i h; subst h
      split
      · rename_i v hv; exact Ok.q fun hp => step_int2 hx hy hv
      · exact Ok.none
    · exact Ok.none

def evStr (op : BinOp) (p q : ByteArray) : R := match op with
  | .add => some (.q (.sc (.string (p ++ q))) [], [p.size + q.size ≤ 9223372036854775807])
  | op => match str2 op p q with | some v => rq (.sc v) | none => none
theorem evStr.ok {op : BinOp} {t t' : TypeId} {x y : Operand} {p q : ByteArray} (hx : opd env x = .sc (.string p)) (hy : opd env y = .sc (.string q)) :
    Ok P ⟨dst, .binOp op t x y t', ty, pos, after, guard⟩ env hp (evStr op p q) := by
  unfold evStr; split
  · exact Ok.qp fun h hp => step_cat hx hy h.1
  · split
    · rename_i v hv; exact Ok.q fun hp => step_str2 hx hy hv
    · exact Ok.none

/-- A function value is nil or not. -/
theorem fn_inv {f : Nat} {a b : List AV} {v : Value} (h : VR F μ w (.fn f a b) v) : ∃ x y, v = .func (.func f) x y := by cases h; exact ⟨_, _, rfl⟩
theorem eqGuard_fn {op : BinOp} {t : TypeId} {x y : Operand} {f : Fn} {c d : Array Value} : (eqGuard op t x y (.func f c d) .nilFunc).run P w = .ok () w := by
  cases op <;> simp [eqGuard]
theorem eqGuard_nf {op : BinOp} {t : TypeId} {x y : Operand} : (eqGuard op t x y .nilFunc .nilFunc).run P w = .ok () w := by
  cases op <;> simp [eqGuard]
theorem run_eqFn {t : TypeId} {f : Fn} {c d : Array Value} {ps rs : Array TypeId} {v : Bool} (ht : P.underlying t = some (.func ps rs v)) : (Op.equal t (.func f c d) .nilFunc).run P w = .ok false w := by
  show (Op.equalIn (9999 + 1) t _ _).run P w = _
  have e : (underlying t).run P w = .ok (.func ps rs v) w := run_und ht
  unfold Op.equalIn
  simp only [Sem.run_bind, e, Result.andThen_ok, Sem.run_pure]
theorem run_eqNf {t : TypeId} {ps rs : Array TypeId} {v : Bool} (ht : P.underlying t = some (.func ps rs v)) : (Op.equal t .nilFunc .nilFunc).run P w = .ok true w := by
  show (Op.equalIn (9999 + 1) t _ _).run P w = _
  have e : (underlying t).run P w = .ok (.func ps rs v) w := run_und ht
  unfold Op.equalIn
  simp only [Sem.run_bind, e, Result.andThen_ok, Sem.run_pure]
theorem step_fnNil {op : BinOp} {t t' : TypeId} {x y : Operand} {f : Nat} {a b : List AV} {ps rs : Array TypeId} {v : Bool} (ht : P.underlying t = some (.func ps rs v)) (hx : opd env x = .fn f a b) (hy : opd env y = .sc .nilFunc) (ho : op = .eql ∨ op = .neq) :
    Step P ⟨dst, .binOp op t x y t', ty, pos, after, guard⟩ env hp (is (.sc (.bool (match op with | .eql => false | _ => true))) hp) :=
  Step.val fun F μ w a0 hr he => ⟨_, by
    obtain ⟨c, d, e⟩ := fn_inv (hx ▸ he.opd x)
    have e2 := he.sc hy
    have hg : (eqGuard op t x y (.func (.func f) c d) .nilFunc).run P w = .ok () w := eqGuard_fn
    simp only [execOp, e, e2, Sem.run_bind, hg, Result.andThen_ok]
    rcases ho with rfl | rfl
    · simp only [binOp, Sem.run_bind, run_eqFn ht, Result.andThen_ok]; rfl
    · simp only [binOp, Sem.run_bind, run_eqFn ht, Result.andThen_ok]; rfl, .sc rfl⟩
theorem step_nilNil {op : BinOp} {t t' : TypeId} {x y : Operand} {ps rs : Array TypeId} {v : Bool} (ht : P.underlying t = some (.func ps rs v)) (hx : opd env x = .sc .nilFunc) (hy : opd env y = .sc .nilFunc) (ho : op = .eql ∨ op = .neq) :
    Step P ⟨dst, .binOp op t x y t', ty, pos, after, guard⟩ env hp (is (.sc (.bool (match op with | .eql => true | _ => false))) hp) :=
  Step.val fun F μ w a0 hr he => ⟨_, by
    have e := he.sc hx
    have e2 := he.sc hy
    have hg : (eqGuard op t x y .nilFunc .nilFunc).run P w = .ok () w := eqGuard_nf
    simp only [execOp, e, e2, Sem.run_bind, hg, Result.andThen_ok]
    rcases ho with rfl | rfl
    · simp only [binOp, Sem.run_bind, run_eqNf ht, Result.andThen_ok]; rfl
    · simp only [binOp, Sem.run_bind, run_eqNf ht, Result.andThen_ok]; rfl, .sc rfl⟩

def isEq : BinOp → Option Bool | .eql => some true | .neq => some false | _ => none
def isBoolT (P : Program) (t : TypeId) : Bool := match P.underlying t with | some .bool => true | _ => false
def isFnT (P : Program) (t : TypeId) : Bool := match P.underlying t with | some (.func _ _ _) => true | _ => false
theorem isEq.ok {op : BinOp} {b : Bool} (h : isEq op = some b) : (op = .eql ∧ b = true) ∨ (op = .neq ∧ b = false) := by cases op <;> simp_all [isEq]

/-- A part of a struct. -/
def partAV (P : Program) (t : TypeId) (cells : List AV) (off : Nat) : Option AV := match aggB P t with
  | some true => match szB P t with
    | some k => some (.agg ((cells.drop off).take k))
    | none => none
  | some false => nth cells off
  | none => none
theorem partAV.ok {t : TypeId} {cells : List AV} {off : Nat} {x : AV} {cs : Array Value} (h : partAV P t cells off = some x) (hv : VRL F μ w cells cs.toList) : ∃ v, (part t cs off).run P w = .ok v w ∧ VR F μ w x v := by
  unfold partAV at h
  split at h
  · rename_i ha; split at h
    · rename_i k hk
      injection h with h; subst h
      refine ⟨.agg (cs.extract off (off + k)), by simp [part, aggB.ok ha w, szB.ok hk w], .agg ?_⟩
      have : (cs.extract off (off + k)).toList = (cs.toList.drop off).take k := by simp [List.extract_eq_take_drop]
      rw [this]
      exact VRL.take k (VRL.drop off hv)
    · simp at h
  · rename_i ha; rw [nth_eq] at h
    obtain ⟨v, h1, h2⟩ := hv.get h
    have h3 : cs[off]? = some v := by simpa using h1
    exact ⟨v, by simp [part, aggB.ok ha w, h3], h2⟩
  · simp at h

def eqF (rec : TypeId → AV → AV → Option Bool) (P : Program) (xs ys : List AV) : List Field → Option Bool
  | [] => some true
  | f :: fs => if f.name = "_" then eqF rec P xs ys fs else match partAV P f.type xs f.offset, partAV P f.type ys f.offset with
    | some a, some b => match rec f.type a b, eqF rec P xs ys fs with
      | some r, some r' => some (r && r')
      | _, _ => none
    | _, _ => none
def eqI (rec : TypeId → AV → AV → Option Bool) (P : Program) (e : TypeId) (c : Nat) (xs ys : List AV) : List Nat → Option Bool
  | [] => some true
  | i :: is => match partAV P e xs (i * c), partAV P e ys (i * c) with
    | some a, some b => match rec e a b, eqI rec P e c xs ys is with
      | some r, some r' => some (r && r')
      | _, _ => none
    | _, _ => none
/-- Are values the same? -/
def eqV (P : Program) : Nat → TypeId → AV → AV → Option Bool
  | 0, _, _, _ => none
  | d + 1, t, x, y => match P.underlying t with
    | some .bool => match x, y with
      | .sc (.bool a), .sc (.bool b) => some (a == b)
      | _, _ => none
    | some (.int _) => match x, y with
      | .sc (.int k a), .sc (.int k' b) => if k = k' then some (a == b) else none
      | _, _ => none
    | some .string => match x, y with
      | .sc (.string a), .sc (.string b) => some (a == b)
      | _, _ => none
    | some (.struct fs) => match x, y with
      | .agg xs, .agg ys => bif P.stoodInHeld t then none else eqF (eqV P d) P xs ys fs.toList
      | _, _ => none
    | some (.array n e) => match x, y with
      | .agg xs, .agg ys => match P.info? e with
        | some i => eqI (eqV P d) P e i.size xs ys (List.range n)
        | none => none
      | _, _ => none
    | _ => none

theorem eqF.ok {rec : TypeId → AV → AV → Option Bool} {d : Nat} (hrec : ∀ t x y b v u, rec t x y = some b → VR F μ w x v → VR F μ w y u → (Op.equalIn d t v u).run P w = .ok b w) {xs ys : List AV} {cs ds : Array Value}
    (hx : VRL F μ w xs cs.toList) (hy : VRL F μ w ys ds.toList) : ∀ (fs : List Field) (b : Bool), eqF rec P xs ys fs = some b → (Op.eqFields d cs ds fs).run P w = .ok b w
  | [], b, h => by simp only [eqF, Option.some.injEq] at h; subst h; simp [Op.eqFields]
  | f :: fs, b, h => by
    simp only [eqF] at h
    split at h
    · rename_i hn
      simp only [Op.eqFields, hn, ne_eq, not_true_eq_false, if_false]
      exact eqF.ok hrec hx hy fs b h
    · rename_i hn
      split at h
      · rename_i a c ha hc
        obtain ⟨v, h1, h2⟩ := partAV.ok ha hx
        obtain ⟨u, h3, h4⟩ := partAV.ok hc hy
        split at h
        · rename_i r r' hr hr'
          injection h with h; subst h
          have h5 := hrec _ _ _ _ _ _ hr h2 h4
          have h6 := eqF.ok hrec hx hy fs r' hr'
          simp only [Op.eqFields, hn, ne_eq, not_false_eq_true, if_true, Sem.run_bind, h1, h3, h5, Result.andThen_ok]
          cases r
          · simp
          · simpa using h6
        · simp at h
      · simp at h
theorem eqI.ok {rec : TypeId → AV → AV → Option Bool} {d : Nat} (hrec : ∀ t x y b v u, rec t x y = some b → VR F μ w x v → VR F μ w y u → (Op.equalIn d t v u).run P w = .ok b w) {e : TypeId} {c : Nat} {xs ys : List AV} {cs ds : Array Value}
    (hx : VRL F μ w xs cs.toList) (hy : VRL F μ w ys ds.toList) : ∀ (is : List Nat) (b : Bool), eqI rec P e c xs ys is = some b → (Op.eqItems d e c cs ds is).run P w = .ok b w
  | [], b, h => by simp only [eqI, Option.some.injEq] at h; subst h; simp [Op.eqItems]
  | i :: is, b, h => by
    simp only [eqI] at h
    split at h
    · rename_i a c' ha hc
      obtain ⟨v, h1, h2⟩ := partAV.ok ha hx
      obtain ⟨u, h3, h4⟩ := partAV.ok hc hy
      split at h
      · rename_i r r' hr hr'
        injection h with h; subst h
        have h5 := hrec _ _ _ _ _ _ hr h2 h4
        have h6 := eqI.ok hrec hx hy is r' hr'
        simp only [Op.eqItems, Sem.run_bind, h1, h3, h5, Result.andThen_ok]
        cases r
        · simp
        · simpa using h6
      · simp at h
    · simp at h
theorem eqV.ok : ∀ (d : Nat) (t : TypeId) (x y : AV) (b : Bool) (v u : Value), eqV P d t x y = some b → VR F μ w x v → VR F μ w y u → (Op.equalIn d t v u).run P w = .ok b w
  | 0, t, x, y, b, v, u, h, _, _ => by simp [eqV] at h
  | d + 1, t, x, y, b, v, u, h, hx, hy => by
    simp only [eqV] at h
    split at h
    · rename_i hu; split at h
      · injection h with h; subst h
        cases hx; cases hy
        have e : (underlying t).run P w = .ok .bool w := run_und hu
        unfold Op.equalIn; simp only [Sem.run_bind, e, Result.andThen_ok]; rfl
      · simp at h
    · rename_i k hu; split at h
      · split at h
        · rename_i hk; subst hk
          injection h with h; subst h
          cases hx; cases hy
          have e : (underlying t).run P w = .ok (.int k) w := run_und hu
          unfold Op.equalIn; simp only [Sem.run_bind, e, Result.andThen_ok, if_true]; rfl
        · simp at h
      · simp at h
    · rename_i hu; split at h
      · injection h with h; subst h
        cases hx; cases hy
        have e : (underlying t).run P w = .ok .string w := run_und hu
        unfold Op.equalIn; simp only [Sem.run_bind, e, Result.andThen_ok]; rfl
      · simp at h
    · rename_i fs hu; split at h
      · rename_i xs ys
        cases hs : P.stoodInHeld t
        · rw [hs] at h; simp only [cond_false] at h
          cases hx with | agg hx => cases hy with | agg hy =>
          have hf : P.fieldsOf t = fs := by simp [Program.fieldsOf, hu]
          rw [run_equalIn_struct w d t _ _ (by rw [hf]; exact hu) hs, hf]
          exact eqF.ok (fun t x y b v u h1 h2 h3 => eqV.ok d t x y b v u h1 h2 h3) hx hy _ _ h
        · rw [hs] at h; simp at h
      · simp at h
    · rename_i n e hu; split at h
      · rename_i xs ys
        split at h
        · rename_i i hi
          cases hx with | agg hx => cases hy with | agg hy =>
          have hsz : P.cellsOf e = i.size := by simp [Program.cellsOf, hi]
          rw [run_equalIn_array w d _ _ hu hi, hsz]
          exact eqI.ok (fun t x y b v u h1 h2 h3 => eqV.ok d t x y b v u h1 h2 h3) hx hy _ _ h
        · simp at h
      · simp at h
    · simp at h

theorem step_eqV {op : BinOp} {t t' : TypeId} {x y : Operand} {xs ys : List AV} {b : Bool} (hg : P.eqGuardType P.depth t = false) (hx : opd env x = .agg xs) (hy : opd env y = .agg ys) (ho : op = .eql ∨ op = .neq) (hb : eqV P 10000 t (.agg xs) (.agg ys) = some b) :
    Step P ⟨dst, .binOp op t x y t', ty, pos, after, guard⟩ env hp (is (.sc (.bool (match op with | .eql => b | _ => !b))) hp) :=
  Step.val fun F μ w a hr he => ⟨_, by
    have hvx := hx ▸ he.opd x
    have hvy := hy ▸ he.opd y
    have e1 : (Op.equal t (a.eval x) (a.eval y)).run P w = .ok b w := eqV.ok 10000 t _ _ b _ _ hb hvx hvy
    obtain ⟨c, d, hc, hd⟩ : ∃ c d, a.eval x = .agg c ∧ a.eval y = .agg d := by
      generalize a.eval x = v at hvx
      generalize a.eval y = u at hvy
      cases hvx; cases hvy; exact ⟨_, _, rfl, rfl⟩
    rw [hc, hd] at e1
    have hgd : (eqGuard op t x y (.agg c) (.agg d)).run P w = .ok () w := run_eqGuard_agg w op t x y c d hg
    simp only [execOp, hc, hd, Sem.run_bind, hgd, Result.andThen_ok]
    rcases ho with rfl | rfl
    · simp only [binOp, Sem.run_bind, e1, Result.andThen_ok]; rfl
    · simp only [binOp, Sem.run_bind, e1, Result.andThen_ok]; rfl, .sc rfl⟩

def evBin (P : Program) (op : BinOp) (t : TypeId) (x y : AV) : R := match x, y with
  | .sc (.int k p), .sc (.int k' q) => evInt op k k' p q
  | .sc (.string p), .sc (.string q) => evStr op p q
  | .sc (.bool p), .sc (.bool q) => bif isBoolT P t then (match op with | .eql => rq (.sc (.bool (p == q))) | .neq => rq (.sc (.bool !(p == q))) | _ => none) else none
  | .fn _ _ _, .sc .nilFunc => bif isFnT P t then (match op with | .eql => rq (.sc (.bool false)) | .neq => rq (.sc (.bool true)) | _ => none) else none
  | .agg xs, .agg ys => bif P.eqGuardType P.depth t then none else match eqV P 10000 t (.agg xs) (.agg ys) with
    | some b => (match op with | .eql => rq (.sc (.bool b)) | .neq => rq (.sc (.bool !b)) | _ => none)
    | none => none
  | .sc .nilFunc, .sc .nilFunc => bif isFnT P t then (match op with | .eql => rq (.sc (.bool true)) | .neq => rq (.sc (.bool false)) | _ => none) else none
  | _, _ => none
theorem isBoolT.ok {t : TypeId} (h : isBoolT P t = true) : Und P t .bool := by
  unfold isBoolT at h; split at h
  · rename_i hu; exact fun w => run_und hu
  · simp at h
theorem isFnT.ok {t : TypeId} (h : isFnT P t = true) : ∃ a b c, P.underlying t = some (.func a b c) := by
  unfold isFnT at h; split at h
  · rename_i hu; exact ⟨_, _, _, hu⟩
  · simp at h
theorem evBin.ok {op : BinOp} {t t' : TypeId} {x y : Operand} : Ok P ⟨dst, .binOp op t x y t', ty, pos, after, guard⟩ env hp (evBin P op t (opd env x) (opd env y)) := by
  unfold evBin; split
  · rename_i h1 h2; exact evInt.ok h1 h2
  · rename_i h1 h2; exact evStr.ok h1 h2
  · rename_i h1 h2
    cases hb : isBoolT P t
    · exact Ok.none
    · show Ok _ _ _ _ (match op with | .eql => _ | .neq => _ | _ => _)
      split
      · exact Ok.q fun hp => step_eqBool (isBoolT.ok hb) h1 h2
      · exact Ok.q fun hp => step_neBool (isBoolT.ok hb) h1 h2
      · exact Ok.none
  · rename_i h1 h2
    cases hb : isFnT P t
    · exact Ok.none
    · obtain ⟨_, _, _, ht⟩ := isFnT.ok hb
      show Ok _ _ _ _ (match op with | .eql => _ | .neq => _ | _ => _)
      split
      · exact Ok.q fun hp => step_fnNil ht h1 h2 (.inl rfl)
      · exact Ok.q fun hp => step_fnNil ht h1 h2 (.inr rfl)
      · exact Ok.none
  · rename_i xs ys h1 h2
    cases hg : P.eqGuardType P.depth t
    · simp only [cond_false]
      split
      · rename_i b hb
        split
        · exact Ok.q fun hp => step_eqV hg h1 h2 (.inl rfl) hb
        · exact Ok.q fun hp => step_eqV hg h1 h2 (.inr rfl) hb
        · exact Ok.none
      · exact Ok.none
    · exact Ok.none
  · rename_i h1 h2
    cases hb : isFnT P t
    · exact Ok.none
    · obtain ⟨_, _, _, ht⟩ := isFnT.ok hb
      show Ok _ _ _ _ (match op with | .eql => _ | .neq => _ | _ => _)
      split
      · exact Ok.q fun hp => step_nilNil ht h1 h2 (.inl rfl)
      · exact Ok.q fun hp => step_nilNil ht h1 h2 (.inr rfl)
      · exact Ok.none
  · exact Ok.none
end Go.SL
