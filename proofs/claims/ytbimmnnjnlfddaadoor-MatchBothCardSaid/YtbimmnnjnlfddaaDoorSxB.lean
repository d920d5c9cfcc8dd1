/-
  Operations evaluated: memory, structs, indexes, literals, texts; and all of them by one function.
-/
import Derived.Test.YtbimmnnjnlfddaaDoorSxA
set_option linter.unusedVariables false
set_option linter.unusedSimpArgs false
set_option linter.unusedSectionVars false
namespace Go.SL
open Go
variable [Tabs]
variable {P : Program} {n : Nat} {F : Nat → Prop} {μ μ' : List Nm} {w w' : World} {env : Nat → AV} {hp : List AObj} {dst : Option Nat} {ty : TypeId} {pos : String} {after : Array Edge} {guard : Option (Nat × Bool)}

/-- A table of the program, read. -/
theorem step_loadG {t : TypeId} {x : Operand} {g off : Nat} {xs : List Value} {v : Value} (ha : IsAgg P t false) (hx : opd env x = .sc (.pointer (some ⟨g, off, none⟩))) (ht : Tabs.tab g = some xs) (hy : xs[off]? = some v) (hv : plainV v = true) :
    Step P ⟨dst, .load t x, ty, pos, after, guard⟩ env hp (is (.sc v) hp) := by
  refine Step.val fun F μ w a hr he => ?_
  obtain ⟨⟨c, el, fr, h1, h2⟩, _⟩ := hr.tb g xs ht
  refine ⟨v, ?_, .sc hv⟩
  have e1 := he.sc hx
  have : w.cell? ⟨g, off, none⟩ = some v := by simp only [World.cell?, h1]; rw [← h2] at hy; simpa using hy
  simp [execOp, e1, Instr.loadAt, Instr.sureAddr, loadVar, ha w, this]
theorem step_idxG {t e : TypeId} {x ix : Operand} {g off sz len : Nat} {k : IntKind} {i : Int} (ht : Und P t (.array len e)) (hs : SizeOf P e sz) (hx : opd env x = .sc (.pointer (some ⟨g, off, none⟩)))
    (hi : opd env ix = .sc (.int k i)) (h0 : 0 ≤ i) (h1 : i < len) :
    Step P ⟨dst, .indexAddr t x ix, ty, pos, after, guard⟩ env hp (is (.sc (.pointer (some ⟨g, off + i.toNat * sz, none⟩))) hp) :=
  Step.val fun F μ w a hr he => by
    refine ⟨_, ?_, .sc rfl⟩
    have g1 := he.sc hx
    have e1 := he.sc hi
    simp only [execOp, g1, e1, Instr.indexAt, asIntOf, Sem.run_bind, Sem.run_pure, Result.andThen_ok, ht w, Instr.sureAddr]
    rw [if_pos ⟨h0, h1⟩]
    simp only [Sem.run_bind, hs w, Result.andThen_ok, Sem.run_pure, addr_add, Nat.add_assoc]
def evLoad (P : Program) (t : TypeId) (hp : List AObj) : AV → R
  | .ptr o off => match nth hp o with
    | some (.row esz cells) => match aggB P t with
      | some false => match nth cells off with
        | some y => rq1 y o (.row esz cells)
        | none => none
      | some true => match szB P t with
        | some k => bif Nat.ble (off + k) cells.length then rq1 (.agg ((cells.drop off).take k)) o (.row esz cells) else none
        | none => none
      | none => none
    | _ => none
  | .ip cells i => match aggB P t with
    | some false => match nth cells i with
      | some y => rq y
      | none => none
    | some true => match szB P t with
      | some k => bif Nat.ble (i + k) cells.length then rq (.agg ((cells.drop i).take k)) else none
      | none => none
    | none => none
  | .sc (.pointer (some ⟨g, off, none⟩)) => match aggB P t with
    | some false => match Tabs.tab g with
      | some xs => match nth xs off with
        | some v => bif plainV v then rq (.sc v) else none
        | none => none
      | none => none
    | _ => none
  | _ => none
theorem evLoad.ok {t : TypeId} {x : Operand} : Ok P ⟨dst, .load t x, ty, pos, after, guard⟩ env hp (evLoad P t hp (opd env x)) := by
  unfold evLoad
  split
  · rename_i o off hx
    split
    · rename_i esz cells ho
      rw [nth_eq] at ho
      split
      · rename_i ha
        split
        · rename_i y hy; rw [nth_eq] at hy
          exact Ok.q1 ho fun hp ho => step_load (aggB.ok ha) hx ho hy
        · exact Ok.none
      · rename_i ha
        split
        · rename_i k hk
          cases hb : Nat.ble (off + k) cells.length
          · exact Ok.none
          · exact Ok.q1 ho fun hp ho => step_loadA (aggB.ok ha) (szB.ok hk) hx ho (Nat.le_of_ble_eq_true hb)
        · exact Ok.none
      · exact Ok.none
    · exact Ok.none
  · rename_i cells i hx
    split
    · rename_i ha
      split
      · rename_i y hy; rw [nth_eq] at hy
        exact Ok.q fun hp => step_loadI (aggB.ok ha) hx hy
      · exact Ok.none
    · rename_i ha
      split
      · rename_i k hk
        cases hb : Nat.ble (i + k) cells.length
        · exact Ok.none
        · exact Ok.q fun hp => step_loadIA (aggB.ok ha) (szB.ok hk) hx (Nat.le_of_ble_eq_true hb)
      · exact Ok.none
    · exact Ok.none
  · rename_i g off hx
    split
    · rename_i ha
      split
      · rename_i xs ht
        split
        · rename_i v hv; rw [nth_eq] at hv
          cases hb : plainV v
          · exact Ok.none
          · exact Ok.q fun hp => step_loadG (aggB.ok ha) hx ht hv hb
        · exact Ok.none
      · exact Ok.none
    · exact Ok.none
  · exact Ok.none

def evStore (P : Program) (t : TypeId) (hp : List AObj) (v : AV) : AV → R
  | .ptr o off => match nth hp o with
    | some (.row esz cells) => match szB P t with
      | some k => bif (cellsOf v).all cellAV && Nat.beq (cellsOf v).length k && Nat.ble (off + k) cells.length then some (.ef (.sc undef) (hp.set o (.row esz (splice cells off (cellsOf v)))), []) else none
      | none => none
    | _ => none
  | _ => none
theorem evStore.ok {t : TypeId} {x y : Operand} : Ok P ⟨dst, .store t x y, ty, pos, after, guard⟩ env hp (evStore P t hp (opd env y) (opd env x)) := by
  unfold evStore
  split
  · rename_i o off hx
    split
    · rename_i esz cells ho
      rw [nth_eq] at ho
      split
      · rename_i k hk
        cases hb : (cellsOf (opd env y)).all cellAV && Nat.beq (cellsOf (opd env y)).length k && Nat.ble (off + k) cells.length
        · exact Ok.none
        · simp only [Bool.and_eq_true] at hb
          exact Ok.ef (by simp) fun _ => step_store (szB.ok hk) hx ho rfl hb.1.1 (Nat.eq_of_beq_eq_true hb.1.2) (Nat.le_of_ble_eq_true hb.2)
      · exact Ok.none
    · exact Ok.none
  · exact Ok.none

def evAlloc (P : Program) (t : TypeId) : R := match zeroB P t with
  | some z => ral 1 (z.cells.toList.map litC) (fun k => .ptr k 0)
  | none => none
theorem evAlloc.ok {t : TypeId} : Ok P ⟨dst, .alloc t, ty, pos, after, guard⟩ env hp (evAlloc P t) := by
  unfold evAlloc; split
  · rename_i z hz; exact Ok.al (al_alloc (zeroB.ok hz))
  · exact Ok.none
def evBox (v : AV) : R := bif (cellsOf v).all cellAV then ral 1 (cellsOf v) (fun k => .ptr k 0) else none
theorem evBox.ok {t : TypeId} {x : Operand} : Ok P ⟨dst, .box t x, ty, pos, after, guard⟩ env hp (evBox (opd env x)) := by
  unfold evBox
  cases h : (cellsOf (opd env x)).all cellAV
  · exact Ok.none
  · exact Ok.al (al_box rfl h)

def evFieldAddr (P : Program) (s f : Nat) (hp : List AObj) : AV → R
  | .ptr o off => match nth hp o with
    | some (.row esz cells) => match fieldOffB P s f with
      | some k => rq1 (.ptr o (off + k)) o (.row esz cells)
      | none => none
    | _ => none
  | .ip cells i => match fieldOffB P s f with
    | some k => rq (.ip cells (i + k))
    | none => none
  | _ => none
theorem evFieldAddr.ok {s f : Nat} {x : Operand} : Ok P ⟨dst, .fieldAddr s x f, ty, pos, after, guard⟩ env hp (evFieldAddr P s f hp (opd env x)) := by
  unfold evFieldAddr
  split
  · rename_i o off hx
    split
    · rename_i esz cells ho
      rw [nth_eq] at ho
      split
      · rename_i k hk; exact Ok.q1 ho fun hp ho => step_field (FieldOff.mk hk) hx ho
      · exact Ok.none
    · exact Ok.none
  · rename_i cells i hx
    split
    · rename_i k hk; exact Ok.q fun hp => step_fieldI (FieldOff.mk hk) hx
    · exact Ok.none
  · exact Ok.none

/-- An element of an array behind a pointer. -/
theorem step_idxArr {t e : TypeId} {x ix : Operand} {o off esz sz len : Nat} {cells : List AV} {k : IntKind} {i : Int} (ht : Und P t (.array len e)) (hs : SizeOf P e sz) (hx : opd env x = .ptr o off)
    (ho : hp[o]? = some (AObj.row esz cells)) (hi : opd env ix = .sc (.int k i)) (h0 : 0 ≤ i) (h1 : i < len) :
    Step P ⟨dst, .indexAddr t x ix, ty, pos, after, guard⟩ env hp (is (.ptr o (off + i.toNat * sz)) hp) :=
  Step.val fun F μ w a hr he => by
    obtain ⟨b, base, tot, c, el, fr, g1, g2, g3, g4, g5, g6, g7⟩ := EnvR.ptr he hr hx ho
    refine ⟨_, ?_, .ptr (base := base) (off := off + i.toNat * sz) g2⟩
    have e1 := he.sc hi
    simp only [execOp, g1, e1, Instr.indexAt, asIntOf, Sem.run_bind, Sem.run_pure, Result.andThen_ok, ht w, Instr.sureAddr]
    rw [if_pos ⟨h0, h1⟩]
    simp only [Sem.run_bind, hs w, Result.andThen_ok, Sem.run_pure, addr_add, Nat.add_assoc]

def elemT (P : Program) (t : TypeId) : Option TypeId := match P.underlying t with | some (.slice e) => some e | _ => none
theorem elemT.ok {t e : TypeId} (h : elemT P t = some e) : Und P t (.slice e) := by
  unfold elemT at h; split at h
  · rename_i hu; injection h with h; subst h; exact fun w => run_und hu
  · simp at h
def arrT (P : Program) (t : TypeId) : Option (Nat × TypeId) := match P.underlying t with | some (.array n e) => some (n, e) | _ => none
theorem arrT.ok {t e : TypeId} {n : Nat} (h : arrT P t = some (n, e)) : Und P t (.array n e) := by
  unfold arrT at h; split at h
  · rename_i hu; injection h with h; injection h with h1 h2; subst h1; subst h2; exact fun w => run_und hu
  · simp at h

def ltI (i : Int) (n : Nat) : Bool := match i with | .ofNat m => Nat.blt m n | .negSucc _ => false
theorem ltI.ok {i : Int} {n : Nat} (h : ltI i n = true) : 0 ≤ i ∧ i < n := by
  cases i with
  | ofNat m => have : m < n := Nat.le_of_ble_eq_true h; constructor <;> simp <;> omega
  | negSucc m => simp [ltI] at h

def evIdx (P : Program) (t : TypeId) (hp : List AObj) : AV → AV → R
  | .ptr o off, .sc (.int k i) => match nth hp o with
    | some (.row esz cells) => match arrT P t with
      | some (n, e) => match szB P e with
        | some sz => bif ltI i n then rq1 (.ptr o (off + i.toNat * sz)) o (.row esz cells) else none
        | none => none
      | none => none
    | _ => none
  | .sl o off len, .sc (.int k i) => match nth hp o with
    | some (.row esz cells) => match elemT P t with
      | some e => match szB P e with
        | some sz => bif Nat.beq sz esz && ltI i len then rq1 (.ptr o (off + i.toNat * esz)) o (.row esz cells) else none
        | none => none
      | none => none
    | _ => none
  | .im esz cells, .sc (.int k i) => match elemT P t with
    | some e => match szB P e with
      | some sz => bif Nat.beq sz esz && Nat.blt 0 esz && Nat.beq (cells.length / esz * esz) cells.length && ltI i (cells.length / esz) then rq (.ip cells (i.toNat * esz)) else none
      | none => none
    | none => none
  | .sc (.pointer (some ⟨g, off, none⟩)), .sc (.int k i) => match arrT P t with
    | some (n, e) => match szB P e with
      | some sz => bif ltI i n then rq (.sc (.pointer (some ⟨g, off + i.toNat * sz, none⟩))) else none
      | none => none
    | none => none
  | _, _ => none
theorem evIdx.ok {t : TypeId} {x ix : Operand} : Ok P ⟨dst, .indexAddr t x ix, ty, pos, after, guard⟩ env hp (evIdx P t hp (opd env x) (opd env ix)) := by
  unfold evIdx
  split
  · rename_i o off k i hx hi
    split
    · rename_i esz cells ho; rw [nth_eq] at ho
      split
      · rename_i n e hn
        split
        · rename_i sz hz
          cases hb : ltI i n
          · exact Ok.none
          · exact Ok.q1 ho fun hp ho => step_idxArr (arrT.ok hn) (szB.ok hz) hx ho hi (ltI.ok hb).1 (ltI.ok hb).2
        · exact Ok.none
      · exact Ok.none
    · exact Ok.none
  · rename_i o off len k i hx hi
    split
    · rename_i esz cells ho; rw [nth_eq] at ho
      split
      · rename_i e hn
        split
        · rename_i sz hz
          cases hb : Nat.beq sz esz && ltI i len
          · exact Ok.none
          · simp only [Bool.and_eq_true] at hb
            have e1 := Nat.eq_of_beq_eq_true hb.1; subst e1
            exact Ok.q1 ho fun hp ho => step_idx (elemT.ok hn) (szB.ok hz) hx ho hi (ltI.ok hb.2).1 (ltI.ok hb.2).2
        · exact Ok.none
      · exact Ok.none
    · exact Ok.none
  · rename_i esz cells k i hx hi
    split
    · rename_i e hn
      split
      · rename_i sz hz
        cases hb : Nat.beq sz esz && Nat.blt 0 esz && Nat.beq (cells.length / esz * esz) cells.length && ltI i (cells.length / esz)
        · exact Ok.none
        · simp only [Bool.and_eq_true] at hb
          have e1 := Nat.eq_of_beq_eq_true hb.1.1.1; subst e1
          exact Ok.q fun hp => step_idxI (elemT.ok hn) (szB.ok hz) hx (Nat.eq_of_beq_eq_true hb.1.2) (Nat.le_of_ble_eq_true hb.1.1.2) hi (ltI.ok hb.2).1 (ltI.ok hb.2).2
      · exact Ok.none
    · exact Ok.none
  · rename_i g off k i hx hi
    split
    · rename_i n e hn
      split
      · rename_i sz hz
        cases hb : ltI i n
        · exact Ok.none
        · exact Ok.q fun hp => step_idxG (arrT.ok hn) (szB.ok hz) hx hi (ltI.ok hb).1 (ltI.ok hb).2
      · exact Ok.none
    · exact Ok.none
  · exact Ok.none

def evNil (hp : List AObj) : AV → R
  | .ptr o off => match nth hp o with
    | some (.row esz cells) => rq1 (.ptr o off) o (.row esz cells)
    | _ => none
  | .ip cells i => rq (.ip cells i)
  | _ => none
theorem step_nilpI' {x : Operand} {i : Nat} {cells : List AV} (hx : opd env x = .ip cells i) : Step P ⟨dst, .nilCheck x, ty, pos, after, guard⟩ env hp (is (.ip cells i) hp) :=
  Step.val fun F μ w a hr he => by
    have h := he.opd x
    rw [hx] at h
    generalize hv : a.eval x = v at h
    cases h with
    | ip h1 h2 h3 h4 => exact ⟨_, by simp only [execOp, hv]; rfl, .ip h1 h2 h3 h4⟩
theorem evNil.ok {x : Operand} : Ok P ⟨dst, .nilCheck x, ty, pos, after, guard⟩ env hp (evNil hp (opd env x)) := by
  unfold evNil; split
  · rename_i o off hx; split
    · rename_i esz cells ho; rw [nth_eq] at ho; exact Ok.q1 ho fun hp ho => step_nilp hx ho
    · exact Ok.none
  · rename_i hx; exact Ok.q fun hp => step_nilpI' hx
  · exact Ok.none

def evBuild (P : Program) (t : TypeId) (env : Nat → AV) (parts : Array (Nat × Operand)) : R := match zeroB P t with
  | some z => match placesB P t with
    | some pl => match fillAV (fun i => nth pl i) (z.cells.toList.map litC) (parts.toList.map fun p => (p.1, opd env p.2)) with
      | some out => rq (.agg out)
      | none => none
    | none => none
  | none => none
theorem evBuild.ok {t : TypeId} {parts : Array (Nat × Operand)} : Ok P ⟨dst, .build t parts, ty, pos, after, guard⟩ env hp (evBuild P t env parts) := by
  unfold evBuild; split
  · rename_i z hz; split
    · rename_i pl hpl; split
      · rename_i out ho
        simp only [nth_eq] at ho
        exact Ok.q fun hp => step_build (zeroB.ok hz) (PlacesOf.mk hpl) ho
      · exact Ok.none
    · exact Ok.none
  · exact Ok.none

def evBuildSl (P : Program) (t : TypeId) (len : Nat) (env : Nat → AV) (parts : Array (Nat × Operand)) : R := match elemT P t with
  | some e => match eiB P e with
    | some (z, esz, bs) => match fillAV (fun i => some (i * esz, esz)) (zerosAV z len) (parts.toList.map fun p => (p.1, opd env p.2)) with
      | some out => bif Nat.beq z.cells.size esz && Nat.ble (len * esz) 16777216 && Nat.beq out.length (len * esz) then ral esz out (fun k => .sl k 0 len) else none
      | none => none
    | none => none
  | none => none
theorem evBuildSl.ok {t : TypeId} {len : Nat} {parts : Array (Nat × Operand)} : Ok P ⟨dst, .buildSlice t len parts, ty, pos, after, guard⟩ env hp (evBuildSl P t len env parts) := by
  unfold evBuildSl; split
  · rename_i e he; split
    · rename_i z esz bs hz; split
      · rename_i out ho
        cases hb : Nat.beq z.cells.size esz && Nat.ble (len * esz) 16777216 && Nat.beq out.length (len * esz)
        · exact Ok.none
        · simp only [Bool.and_eq_true] at hb
          exact Ok.al (al_buildSlice (elemT.ok he) (eiB.ok hz) (Nat.eq_of_beq_eq_true hb.1.1) (Nat.le_of_ble_eq_true hb.1.2) ho (Nat.eq_of_beq_eq_true hb.2))
      · exact Ok.none
    · exact Ok.none
  · exact Ok.none

def intT (P : Program) (t : TypeId) : Option IntKind := match P.underlying t with | some (.int k) => some k | _ => none
theorem intT.ok {t : TypeId} {k : IntKind} (h : intT P t = some k) : Und P t (.int k) := by
  unfold intT at h; split at h
  · rename_i hu; injection h with h; subst h; exact fun w => run_und hu
  · simp at h
def isStrT (P : Program) (t : TypeId) : Bool := match P.underlying t with | some .string => true | _ => false
theorem isStrT.ok {t : TypeId} (h : isStrT P t = true) : P.underlying t = some .string := by
  unfold isStrT at h; split at h
  · rename_i hu; exact hu
  · simp at h
def isU8T (P : Program) (t : TypeId) : Bool := match P.underlying t with | some (.int .u8) => true | _ => false
theorem isU8T.ok {t : TypeId} (h : isU8T P t = true) : P.underlying t = some (.int .u8) := by
  unfold isU8T at h; split at h
  · rename_i hu; exact hu
  · simp at h

theorem step_runeStr {s t : TypeId} {x : Operand} {k : IntKind} {p : Int} {d : TypeDesc} (hs : Und P s d) (ht : P.underlying t = some .string) (hx : opd env x = .sc (.int k p)) (hd : ∃ k', d = .int k') :
    Step P ⟨dst, .convert s t x, ty, pos, after, guard⟩ env hp (is (.sc (.string (Utf8.encode p))) hp) :=
  Step.val fun F μ w a hr he => ⟨_, by
    obtain ⟨k', rfl⟩ := hd
    have e2 : (underlying t).run P w = .ok .string w := run_und ht
    simp only [execOp, he.sc hx, Sem.run_bind, convert, hs w, e2, Result.andThen_ok, Conv.intToString, Sem.run_pure], .sc rfl⟩

def evConv (P : Program) (s t : TypeId) : AV → R
  | .sc (.int k p) => match intT P s with
    | some ks => match intT P t with
      | some kt => rq (.sc (.int kt (kt.wrap p)))
      | none => bif isStrT P t then rq (.sc (.string (Utf8.encode p))) else none
    | none => none
  | .sc (.string b) => match elemT P t with
    | some e => bif isStrT P s && isU8T P e then ral 1 (b.data.toList.map byteAV) (fun k => .sl k 0 b.size) else none
    | none => none
  | _ => none
theorem elemT.ok' {t e : TypeId} (h : elemT P t = some e) : P.underlying t = some (.slice e) := by
  unfold elemT at h; split at h
  · rename_i hu; injection h with h; subst h; exact hu
  · simp at h
theorem evConv.ok {s t : TypeId} {x : Operand} : Ok P ⟨dst, .convert s t x, ty, pos, after, guard⟩ env hp (evConv P s t (opd env x)) := by
  unfold evConv; split
  · rename_i k p hx; split
    · rename_i ks hs; split
      · rename_i kt ht; exact Ok.q fun hp => step_conv (intT.ok hs) (intT.ok ht) hx
      · cases hb : isStrT P t
        · exact Ok.none
        · exact Ok.q fun hp => step_runeStr (intT.ok hs) (isStrT.ok hb) hx ⟨_, rfl⟩
    · exact Ok.none
  · rename_i b hx; split
    · rename_i e he
      cases hb : isStrT P s && isU8T P e
      · exact Ok.none
      · simp only [Bool.and_eq_true] at hb
        exact Ok.al (al_strB (isStrT.ok hb.1) (elemT.ok' he) (isU8T.ok hb.2) hx)
    · exact Ok.none
  · exact Ok.none

def evExtract (i : Nat) : AV → R
  | .tup xs => match nth xs i with | some y => rq y | none => none
  | _ => none
theorem evExtract.ok {x : Operand} {i : Nat} : Ok P ⟨dst, .extract x i, ty, pos, after, guard⟩ env hp (evExtract i (opd env x)) := by
  unfold evExtract; split
  · rename_i xs hx; split
    · rename_i y hy; rw [nth_eq] at hy; exact Ok.q fun hp => step_extract hx hy
    · exact Ok.none
  · exact Ok.none

def evFn (fn : Fn) (env : Nat → AV) (first caps : Array Operand) : R := match fn with
  | .func f => rq (.fn f (first.toList.map (opd env)) (caps.toList.map (opd env)))
  | _ => none
theorem evFn.ok {fn : Fn} {first caps : Array Operand} : Ok P ⟨dst, .makeFunc fn first caps, ty, pos, after, guard⟩ env hp (evFn fn env first caps) := by
  unfold evFn; split
  · exact Ok.q fun hp => step_fn
  · exact Ok.none

def evIndex (P : Program) (t : TypeId) : AV → AV → R
  | .sc (.string s), .sc (.int k (.ofNat i)) => bif isStrT P t then (match nth s.data.toList i with | some c => rq (.sc (.int .u8 c.toNat)) | none => none) else none
  | _, _ => none
theorem evIndex.ok {t : TypeId} {x ix : Operand} : Ok P ⟨dst, .index t x ix, ty, pos, after, guard⟩ env hp (evIndex P t (opd env x) (opd env ix)) := by
  unfold evIndex; split
  · rename_i s k i hx hi
    cases hb : isStrT P t
    · exact Ok.none
    · show Ok _ _ _ _ (match nth s.data.toList i with | some c => _ | none => _)
      split
      · rename_i c hc; rw [nth_eq] at hc
        exact Ok.q fun hp => step_index (fun w => run_und (isStrT.ok hb)) hx hi (by simp) hc
      · exact Ok.none
  · exact Ok.none

def evLen (P : Program) (t : TypeId) (hp : List AObj) : AV → R
  | .sc (.string s) => bif isStrT P t then rq (.sc (.int .i64 s.size)) else none
  | .sl o off len => match nth hp o with
    | some (.row esz cells) => match elemT P t with | some e => rq1 (.sc (.int .i64 len)) o (.row esz cells) | none => none
    | _ => none
  | .nil => match elemT P t with | some e => rq (.sc (.int .i64 0)) | none => none
  | .im esz cells => match elemT P t with | some e => bif Nat.blt 0 esz && Nat.beq (cells.length / esz * esz) cells.length then rq (.sc (.int .i64 ((cells.length / esz : Nat) : Int))) else none | none => none
  | _ => none
theorem evLen.ok {t : TypeId} {x : Operand} : Ok P ⟨dst, .call ⟨.builtin .len, #[x], #[t]⟩, ty, pos, after, guard⟩ env hp (evLen P t hp (opd env x)) := by
  unfold evLen; split
  · rename_i s hx
    cases hb : isStrT P t
    · exact Ok.none
    · exact Ok.q fun hp => step_lenS (fun w => run_und (isStrT.ok hb)) hx
  · rename_i o off len hx; split
    · rename_i esz cells ho; rw [nth_eq] at ho; split
      · rename_i e he; exact Ok.q1 ho fun hp ho => step_lenL (elemT.ok he) hx ho
      · exact Ok.none
    · exact Ok.none
  · rename_i hx; split
    · rename_i e he; exact Ok.q fun hp => step_lenN (elemT.ok he) hx
    · exact Ok.none
  · rename_i esz cells hx; split
    · rename_i e he
      cases hb : Nat.blt 0 esz && Nat.beq (cells.length / esz * esz) cells.length
      · exact Ok.none
      · simp only [Bool.and_eq_true] at hb
        exact Ok.q fun hp => step_lenI (elemT.ok he) hx (Nat.eq_of_beq_eq_true hb.2) (Nat.le_of_ble_eq_true hb.1)
    · exact Ok.none
  · exact Ok.none

def bdV (d : Nat) : Option AV → Option Nat
  | none => some d
  | some (.sc (.int _ (.ofNat n))) => some n
  | _ => none
theorem bdV.ok {d v : Nat} {x : Option Operand} (h : bdV d (x.map (opd env)) = some v) : Bd env x d v := by
  cases x with
  | none => simp only [Option.map_none, bdV, Option.some.injEq] at h; exact h.symm
  | some x =>
    simp only [Option.map_some] at h
    unfold bdV at h
    split at h
    · rename_i h1; simp at h1
    · rename_i k n h1
      simp only [Option.some.injEq] at h1 h; subst h
      exact Bd.some h1 rfl
    · simp at h
/-- A slice of an array behind a pointer. -/
theorem step_sliceArr {t e : TypeId} {x : Operand} {lo hi : Option Operand} {o off esz l h n : Nat} {cells : List AV} (ht : Und P t (.array n e)) (hs : SizeOf P e esz) (hx : opd env x = .ptr o off)
    (ho : hp[o]? = some (AObj.row esz cells)) (hl : Bd env lo 0 l) (hh : Bd env hi n h) (h1 : l ≤ h) (h2 : h ≤ n) (hn : off + n * esz ≤ cells.length) :
    Step P ⟨dst, .slice t x lo hi none, ty, pos, after, guard⟩ env hp (is (.sl o (off + l * esz) (h - l)) hp) :=
  Step.val fun F μ w a hr he => by
    obtain ⟨b, base, tot, c, el, fr, g1, g2, g3, g4, g5, g6, g7⟩ := EnvR.ptr he hr hx ho
    have hbd := run_bounds (P := P) (w := w) (isS := false) (len := n) (cap := n) he hl hh h1 h2 (fun _ => h2)
    have hln : n * esz = l * esz + (n - l) * esz := by rw [← Nat.add_mul]; congr 1; omega
    by_cases hk : n = l
    · subst hk
      have e1 : h - n = 0 := by omega
      refine ⟨.slice (some ⟨b, base + off, none⟩) (h - n) (n - n), ?_, ?_⟩
      · simp [execOp, g1, Instr.sliceAt, Instr.sureAddr, ht w, hs w, hbd]
      · rw [e1, Nat.sub_self]; exact .slN g2
    · refine ⟨.slice (some ⟨b, base + (off + l * esz), none⟩) (h - l) (n - l), ?_, .sl g2 (by omega) (by omega)⟩
      simp [execOp, g1, Instr.sliceAt, Instr.sureAddr, ht w, hs w, hbd, hk, addr_add, Nat.add_assoc]
def evSlice (P : Program) (t : TypeId) (hp : List AObj) (lo hi : Option AV) : AV → R
  | .sl o off len => match nth hp o with
    | some (.row esz cells) => match elemT P t with
      | some e => match szB P e, bdV 0 lo, bdV len hi with
        | some sz, some l, some h => bif Nat.beq sz esz && Nat.ble l h && Nat.ble h len then rq1 (.sl o (off + l * esz) (h - l)) o (.row esz cells) else none
        | _, _, _ => none
      | none => none
    | _ => none
  | .im esz cells => match elemT P t with
    | some e => match szB P e, bdV 0 lo, bdV (cells.length / esz) hi with
      | some sz, some l, some h => bif Nat.beq sz esz && Nat.blt 0 esz && Nat.beq (cells.length / esz * esz) cells.length && Nat.ble l h && Nat.ble h (cells.length / esz) then rq (.im esz ((cells.drop (l * esz)).take ((h - l) * esz))) else none
      | _, _, _ => none
    | none => none
  | .ptr o off => match nth hp o with
    | some (.row esz cells) => match arrT P t with
      | some (n, e) => match szB P e, bdV 0 lo, bdV n hi with
        | some sz, some l, some h => bif Nat.beq sz esz && Nat.ble l h && Nat.ble h n && Nat.ble (off + n * esz) cells.length then rq1 (.sl o (off + l * esz) (h - l)) o (.row esz cells) else none
        | _, _, _ => none
      | none => none
    | _ => none
  | .sc (.string s) => match bdV 0 lo, bdV s.size hi with
    | some l, some h => bif isStrT P t && Nat.ble l h && Nat.ble h s.size then rq (.sc (.string (s.extract l h))) else none
    | _, _ => none
  | _ => none
theorem evSlice.ok {t : TypeId} {x : Operand} {lo hi : Option Operand} : Ok P ⟨dst, .slice t x lo hi none, ty, pos, after, guard⟩ env hp (evSlice P t hp (lo.map (opd env)) (hi.map (opd env)) (opd env x)) := by
  unfold evSlice; split
  · rename_i o off len hx; split
    · rename_i esz cells ho; rw [nth_eq] at ho; split
      · rename_i e he; split
        · rename_i sz l h hz hl hh
          cases hb : Nat.beq sz esz && Nat.ble l h && Nat.ble h len
          · exact Ok.none
          · simp only [Bool.and_eq_true] at hb
            have e1 := Nat.eq_of_beq_eq_true hb.1.1; subst e1
            exact Ok.q1 ho fun hp ho => step_slice (elemT.ok he) (szB.ok hz) hx ho (bdV.ok hl) (bdV.ok hh) (Nat.le_of_ble_eq_true hb.1.2) (Nat.le_of_ble_eq_true hb.2)
        · exact Ok.none
      · exact Ok.none
    · exact Ok.none
  · rename_i esz cells hx; split
    · rename_i e he; split
      · rename_i sz l h hz hl hh
        cases hb : Nat.beq sz esz && Nat.blt 0 esz && Nat.beq (cells.length / esz * esz) cells.length && Nat.ble l h && Nat.ble h (cells.length / esz)
        · exact Ok.none
        · simp only [Bool.and_eq_true] at hb
          have e1 := Nat.eq_of_beq_eq_true hb.1.1.1.1; subst e1
          exact Ok.q fun hp => step_sliceI (elemT.ok he) (szB.ok hz) hx (Nat.eq_of_beq_eq_true hb.1.1.2) (Nat.le_of_ble_eq_true hb.1.1.1.2) (bdV.ok hl) (bdV.ok hh) (Nat.le_of_ble_eq_true hb.1.2) (Nat.le_of_ble_eq_true hb.2)
      · exact Ok.none
    · exact Ok.none
  · rename_i o off hx; split
    · rename_i esz cells ho; rw [nth_eq] at ho; split
      · rename_i n e he; split
        · rename_i sz l h hz hl hh
          cases hb : Nat.beq sz esz && Nat.ble l h && Nat.ble h n && Nat.ble (off + n * esz) cells.length
          · exact Ok.none
          · simp only [Bool.and_eq_true] at hb
            have e1 := Nat.eq_of_beq_eq_true hb.1.1.1; subst e1
            exact Ok.q1 ho fun hp ho => step_sliceArr (arrT.ok he) (szB.ok hz) hx ho (bdV.ok hl) (bdV.ok hh) (Nat.le_of_ble_eq_true hb.1.1.2) (Nat.le_of_ble_eq_true hb.1.2) (Nat.le_of_ble_eq_true hb.2)
        · exact Ok.none
      · exact Ok.none
    · exact Ok.none
  · rename_i s hx; split
    · rename_i l h hl hh
      cases hb : isStrT P t && Nat.ble l h && Nat.ble h s.size
      · exact Ok.none
      · simp only [Bool.and_eq_true] at hb
        exact Ok.q fun hp => step_sliceS (fun w => run_und (isStrT.ok hb.1.1)) hx (bdV.ok hl) (bdV.ok hh) (Nat.le_of_ble_eq_true hb.1.2) (Nat.le_of_ble_eq_true hb.2)
    · exact Ok.none
  · exact Ok.none

/-- What append and copy take from. -/
def srcV (hp : List AObj) (esz : Nat) : AV → Option (Nat × List AV)
  | .im e cells => bif Nat.beq e esz && Nat.blt 0 esz && Nat.beq (cells.length / esz * esz) cells.length && cells.all cellAV then some (cells.length / esz, cells) else none
  | .sl o off m => match nth hp o with
    | some (.row e cells) => bif Nat.beq e esz && Nat.ble (off + m * esz) cells.length && ((cells.drop off).take (m * esz)).all cellAV then some (m, (cells.drop off).take (m * esz)) else none
    | _ => none
  | .sc (.string s) => bif Nat.beq esz 1 then some (s.size, s.data.toList.map byteAV) else none
  | .nil => some (0, [])
  | _ => none
theorem srcV.ok {esz m : Nat} {X : List AV} {x : Operand} (h : srcV hp esz (opd env x) = some (m, X)) : Src P env hp esz x m X := by
  unfold srcV at h; split at h
  · rename_i e cells hx
    cases hb : Nat.beq e esz && Nat.blt 0 esz && Nat.beq (cells.length / esz * esz) cells.length && cells.all cellAV
    · rw [hb] at h; simp at h
    · rw [hb] at h
      simp only [cond_true, Option.some.injEq, Prod.mk.injEq] at h
      obtain ⟨rfl, rfl⟩ := h
      simp only [Bool.and_eq_true] at hb
      have e1 := Nat.eq_of_beq_eq_true hb.1.1.1; subst e1
      exact Src.im hx (Nat.eq_of_beq_eq_true hb.1.2) (Nat.le_of_ble_eq_true hb.1.1.2) hb.2
  · rename_i o off k hx; split at h
    · rename_i e cells ho; rw [nth_eq] at ho
      cases hb : Nat.beq e esz && Nat.ble (off + k * esz) cells.length && ((cells.drop off).take (k * esz)).all cellAV
      · rw [hb] at h; simp at h
      · rw [hb] at h
        simp only [cond_true, Option.some.injEq, Prod.mk.injEq] at h
        obtain ⟨rfl, rfl⟩ := h
        simp only [Bool.and_eq_true] at hb
        have e1 := Nat.eq_of_beq_eq_true hb.1.1; subst e1
        exact Src.own hx ho (Nat.le_of_ble_eq_true hb.1.2) hb.2
    · simp at h
  · rename_i s hx
    cases hb : Nat.beq esz 1
    · rw [hb] at h; simp at h
    · rw [hb] at h
      simp only [cond_true, Option.some.injEq, Prod.mk.injEq] at h
      obtain ⟨rfl, rfl⟩ := h
      have e1 := Nat.eq_of_beq_eq_true hb; subst e1
      exact Src.str hx
  · rename_i hx
    simp only [Option.some.injEq, Prod.mk.injEq] at h
    obtain ⟨rfl, rfl⟩ := h
    exact Src.nil hx
  · simp at h
def srcT (P : Program) (t : TypeId) : Option TypeDesc := match P.underlying t with | some (.slice e) => some (.slice e) | some .string => some .string | _ => none
theorem srcT.ok {t : TypeId} {d : TypeDesc} (h : srcT P t = some d) : Und P t d ∧ notInt d := by
  unfold srcT at h; split at h
  · rename_i e hu; injection h with h; subst h; exact ⟨fun w => run_und hu, .inl ⟨_, rfl⟩⟩
  · rename_i hu; injection h with h; subst h; exact ⟨fun w => run_und hu, .inr rfl⟩
  · simp at h
def evAppend (P : Program) (sT xT : TypeId) (hp : List AObj) (s x : AV) : R := match elemT P sT, srcT P xT with
  | some e, some _ => match eiB P e with
    | some (z, esz, bs) => match srcV hp esz x with
      | some (m, X) => bif Nat.blt 0 esz && !Nat.beq bs 0 && Nat.beq z.cells.size esz then (match s with
        | .sl o off len => match nth hp o with
          | some (.row e' cells) => bif Nat.beq e' esz && Nat.beq (off + len * esz) cells.length && Nat.ble ((len + m) * bs) 140737488355328 then some (.ef (.sl hp.length 0 (len + m)) (hp.set o .dead ++ [.row esz (cells.drop off ++ X)]), []) else none
          | _ => none
        | .nil => bif Nat.ble (m * bs) 140737488355328 then some (.ef (.sl hp.length 0 m) (hp ++ [.row esz X]), []) else none
        | _ => none) else none
      | none => none
    | none => none
  | _, _ => none
theorem evAppend.ok {sT xT : TypeId} {s x : Operand} : Ok P ⟨dst, .call ⟨.builtin .append, #[s, x], #[sT, xT]⟩, ty, pos, after, guard⟩ env hp (evAppend P sT xT hp (opd env s) (opd env x)) := by
  unfold evAppend; split
  · rename_i e d he hd; split
    · rename_i z esz bs hz; split
      · rename_i m X hs
        cases hb : Nat.blt 0 esz && !Nat.beq bs 0 && Nat.beq z.cells.size esz
        · exact Ok.none
        · simp only [Bool.and_eq_true, Bool.not_eq_true'] at hb
          have h0 : 0 < esz := Nat.le_of_ble_eq_true hb.1.1
          have h1 : bs ≠ 0 := fun h => by rw [h] at hb; simp at hb
          have h2 := Nat.eq_of_beq_eq_true hb.2
          simp only [cond_true]
          split
          · rename_i o off len hx; split
            · rename_i e' cells ho; rw [nth_eq] at ho
              cases hc : Nat.beq e' esz && Nat.beq (off + len * esz) cells.length && Nat.ble ((len + m) * bs) 140737488355328
              · exact Ok.none
              · simp only [Bool.and_eq_true] at hc
                have e1 := Nat.eq_of_beq_eq_true hc.1.1; subst e1
                exact Ok.ef (by simp) fun _ => step_append (elemT.ok he) (eiB.ok hz) (srcT.ok hd).1 (srcT.ok hd).2 hx ho (Nat.eq_of_beq_eq_true hc.1.2) (srcV.ok hs) (.inl (Nat.le_of_ble_eq_true hc.2)) h0 h1 h2
            · exact Ok.none
          · rename_i hx
            cases hc : Nat.ble (m * bs) 140737488355328
            · exact Ok.none
            · exact Ok.ef (by simp) fun _ => step_append0 (elemT.ok he) (eiB.ok hz) (srcT.ok hd).1 (srcT.ok hd).2 hx (srcV.ok hs) (Nat.le_of_ble_eq_true hc) h0 h1 h2
          · exact Ok.none
      · exact Ok.none
    · exact Ok.none
  · exact Ok.none
def evCopy (P : Program) (dT : TypeId) (hp : List AObj) (d s : AV) : R := match elemT P dT with
  | some e => match eiB P e with
    | some (z, esz, bs) => match srcV hp esz s with
      | some (m, X) => match d with
        | .sl o off len => match nth hp o with
          | some (.row e' cells) => bif Nat.beq e' esz && Nat.ble (off + len * esz) cells.length then some (.ef (.sc (.int .i64 ((min m len : Nat) : Int))) (hp.set o (.row esz (splice cells off (X.take (min m len * esz))))), []) else none
          | _ => none
        | _ => none
      | none => none
    | none => none
  | none => none
theorem evCopy.ok {dT sT : TypeId} {d s : Operand} : Ok P ⟨dst, .call ⟨.builtin .copy, #[d, s], #[dT, sT]⟩, ty, pos, after, guard⟩ env hp (evCopy P dT hp (opd env d) (opd env s)) := by
  unfold evCopy; split
  · rename_i e he; split
    · rename_i z esz bs hz; split
      · rename_i m X hs; split
        · rename_i o off len hx; split
          · rename_i e' cells ho; rw [nth_eq] at ho
            cases hc : Nat.beq e' esz && Nat.ble (off + len * esz) cells.length
            · exact Ok.none
            · simp only [Bool.and_eq_true] at hc
              have e1 := Nat.eq_of_beq_eq_true hc.1; subst e1
              exact Ok.ef (by simp) fun _ => step_copy (elemT.ok he) (eiB.ok hz) hx ho (Nat.le_of_ble_eq_true hc.2) (srcV.ok hs)
          · exact Ok.none
        · exact Ok.none
      · exact Ok.none
    · exact Ok.none
  · exact Ok.none
def evMake (P : Program) (t : TypeId) : AV → AV → R
  | .sc (.int _ (.ofNat l)), .sc (.int _ (.ofNat c)) => match elemT P t with
    | some e => match eiB P e with
      | some (z, esz, bs) => bif Nat.beq z.cells.size esz && Nat.ble l c && Nat.ble c 9223372036854775807 && Nat.ble (c * bs) 281474976710656 && Nat.blt 0 esz then some (.ef (.sl hp.length 0 l) (hp ++ [.row esz (zerosAV z l)]), []) else none
      | none => none
    | none => none
  | _, _ => none
theorem evMake.ok {t : TypeId} {x y : Operand} : Ok P ⟨dst, .makeSlice t x y, ty, pos, after, guard⟩ env hp (evMake (hp := hp) P t (opd env x) (opd env y)) := by
  unfold evMake; split
  · rename_i k l k' c hx hy; split
    · rename_i e he; split
      · rename_i z esz bs hz
        cases hc : Nat.beq z.cells.size esz && Nat.ble l c && Nat.ble c 9223372036854775807 && Nat.ble (c * bs) 281474976710656 && Nat.blt 0 esz
        · exact Ok.none
        · simp only [Bool.and_eq_true] at hc
          exact Ok.ef (by simp) fun _ => step_makeSlice (elemT.ok he) (eiB.ok hz) (Nat.eq_of_beq_eq_true hc.1.1.1.1) hx hy rfl rfl (Nat.le_of_ble_eq_true hc.1.1.1.2) (Nat.le_of_ble_eq_true hc.1.1.2) (Nat.le_of_ble_eq_true hc.1.2) (Nat.le_of_ble_eq_true hc.2)
      · exact Ok.none
    · exact Ok.none
  · exact Ok.none
def evMin : AV → AV → R
  | .sc (.int k p), .sc (.int k' q) => rq (.sc (.int k (if q < p then q else p)))
  | _, _ => none
theorem evMin.ok {t t' : TypeId} {x y : Operand} : Ok P ⟨dst, .call ⟨.builtin .min, #[x, y], #[t, t']⟩, ty, pos, after, guard⟩ env hp (evMin (opd env x) (opd env y)) := by
  unfold evMin; split
  · rename_i hx hy; exact Ok.q fun hp => step_min2 hx hy
  · exact Ok.none
def bytesV : List AV → Option (List UInt8)
  | [] => some []
  | .sc (.int .u8 (.ofNat n)) :: l => bif Nat.blt n 256 then (match bytesV l with | some r => some (UInt8.ofNat n :: r) | none => none) else none
  | _ => none
theorem bytesV.ok : ∀ {l : List AV} {r : List UInt8}, bytesV l = some r → l = r.map byteAV
  | [], r, h => by simp only [bytesV, Option.some.injEq] at h; subst h; rfl
  | x :: l, r, h => by
    unfold bytesV at h
    split at h
    · rename_i h1; simp at h1
    · rename_i n l' h1
      simp only [List.cons.injEq] at h1
      obtain ⟨rfl, rfl⟩ := h1
      cases hb : Nat.blt n 256
      · rw [hb] at h; simp at h
      · rw [hb] at h; simp only [cond_true] at h
        split at h
        · rename_i r' hr
          simp only [Option.some.injEq] at h; subst h
          have hlt : n < 256 := Nat.le_of_ble_eq_true hb
          rw [List.map_cons, ← bytesV.ok hr]
          congr 1
          simp only [byteAV]
          have : (UInt8.ofNat n).toNat = n := by rw [UInt8.toNat_ofNat']; omega
          rw [this]; rfl
        · simp at h
    · simp at h
def evStrOf (P : Program) (s t : TypeId) (hp : List AObj) : AV → R
  | .sl o off len => match nth hp o with
    | some (.row 1 cells) => match elemT P s with
      | some e => match bytesV ((cells.drop off).take len) with
        | some l => bif isU8T P e && isStrT P t && Nat.ble (off + len) cells.length then rq1 (.sc (.string ⟨l.toArray⟩)) o (.row 1 cells) else none
        | none => none
      | none => none
    | _ => none
  | .im 1 cells => match elemT P s with
    | some e => match bytesV cells with
      | some l => bif isU8T P e && isStrT P t then rq (.sc (.string ⟨l.toArray⟩)) else none
      | none => none
    | none => none
  | _ => none
theorem evStrOf.ok {s t : TypeId} {x : Operand} : Ok P ⟨dst, .convert s t x, ty, pos, after, guard⟩ env hp (evStrOf P s t hp (opd env x)) := by
  unfold evStrOf; split
  · rename_i o off len hx; split
    · rename_i cells ho; rw [nth_eq] at ho; split
      · rename_i e he; split
        · rename_i l hl
          cases hb : isU8T P e && isStrT P t && Nat.ble (off + len) cells.length
          · exact Ok.none
          · simp only [Bool.and_eq_true] at hb
            exact Ok.q1 ho fun hp ho => step_strO (elemT.ok' he) (isU8T.ok hb.1.1) (isStrT.ok hb.1.2) hx ho (bytesV.ok hl) (Nat.le_of_ble_eq_true hb.2)
        · exact Ok.none
      · exact Ok.none
    · exact Ok.none
  · rename_i cells hx; split
    · rename_i e he; split
      · rename_i l hl
        cases hb : isU8T P e && isStrT P t
        · exact Ok.none
        · simp only [Bool.and_eq_true] at hb
          exact Ok.q fun hp => step_strI (elemT.ok' he) (isU8T.ok hb.1) (isStrT.ok hb.2) (by rw [hx, bytesV.ok hl])
      · exact Ok.none
    · exact Ok.none
  · exact Ok.none
def evConv2 (P : Program) (s t : TypeId) (hp : List AObj) (x : AV) : R := match x with
  | .sc _ => evConv P s t x
  | _ => evStrOf P s t hp x
theorem evConv2.ok {s t : TypeId} {x : Operand} : Ok P ⟨dst, .convert s t x, ty, pos, after, guard⟩ env hp (evConv2 P s t hp (opd env x)) := by
  unfold evConv2; split
  · exact evConv.ok
  · exact evStrOf.ok

/-- What an operation does, but calls of functions. -/
def evOp (P : Program) (env : Nat → AV) (hp : List AObj) : Op → R
  | .move x | .assign x => rq (opd env x)
  | .pick c a b => evPick (opd env c) (opd env a) (opd env b)
  | .unOp op t x => evUn op (opd env x)
  | .binOp op t x y _ => evBin P op t (opd env x) (opd env y)
  | .load t x => evLoad P t hp (opd env x)
  | .store t x y => evStore P t hp (opd env y) (opd env x)
  | .alloc t => evAlloc P t
  | .box t x => evBox (opd env x)
  | .fieldAddr s x f => evFieldAddr P s f hp (opd env x)
  | .indexAddr t x i => evIdx P t hp (opd env x) (opd env i)
  | .nilCheck x => evNil hp (opd env x)
  | .build t parts => evBuild P t env parts
  | .buildSlice t len parts => evBuildSl P t len env parts
  | .convert s t x => evConv2 P s t hp (opd env x)
  | .slice t x lo hi none => evSlice P t hp (lo.map (opd env)) (hi.map (opd env)) (opd env x)
  | .makeSlice t x y => evMake (hp := hp) P t (opd env x) (opd env y)
  | .extract x i => evExtract i (opd env x)
  | .makeFunc fn first caps => evFn fn env first caps
  | .index t x i => evIndex P t (opd env x) (opd env i)
  | .call ⟨.builtin .len, ⟨[x]⟩, ⟨[t]⟩⟩ => evLen P t hp (opd env x)
  | .call ⟨.builtin .append, ⟨[s, x]⟩, ⟨[sT, xT]⟩⟩ => evAppend P sT xT hp (opd env s) (opd env x)
  | .call ⟨.builtin .copy, ⟨[d, s]⟩, ⟨[dT, _]⟩⟩ => evCopy P dT hp (opd env d) (opd env s)
  | .call ⟨.builtin .min, ⟨[x, y]⟩, ⟨[_, _]⟩⟩ => evMin (opd env x) (opd env y)
  | _ => none
theorem evOp.ok (o : Oper) : Ok P o env hp (evOp P env hp o.op) := by
  obtain ⟨dst, op, ty, pos, after, guard⟩ := o
  unfold evOp
  split <;> simp only at *
  · rename_i h; subst h; exact Ok.q fun hp => step_move
  · rename_i h; subst h; exact Ok.q fun hp => step_assign
  · rename_i h; subst h; exact evPick.ok
  · rename_i h; subst h; exact evUn.ok
  · rename_i h; subst h; exact evBin.ok
  · rename_i h; subst h; exact evLoad.ok
  · rename_i h; subst h; exact evStore.ok
  · rename_i h; subst h; exact evAlloc.ok
  · rename_i h; subst h; exact evBox.ok
  · rename_i h; subst h; exact evFieldAddr.ok
  · rename_i h; subst h; exact evIdx.ok
  · rename_i h; subst h; exact evNil.ok
  · rename_i h; subst h; exact evBuild.ok
  · rename_i h; subst h; exact evBuildSl.ok
  · rename_i h; subst h; exact evConv2.ok
  · rename_i h; subst h; exact evSlice.ok
  · rename_i h; subst h; exact evMake.ok
  · rename_i h; subst h; exact evExtract.ok
  · rename_i h; subst h; exact evFn.ok
  · rename_i h; subst h; exact evIndex.ok
  · rename_i h; subst h; exact evLen.ok
  · rename_i h; subst h; exact evAppend.ok
  · rename_i h; subst h; exact evCopy.ok
  · rename_i h; subst h; exact evMin.ok
  · exact Ok.none
end Go.SL
