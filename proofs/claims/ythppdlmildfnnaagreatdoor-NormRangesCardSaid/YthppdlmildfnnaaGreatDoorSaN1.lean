/-
  A logic of symbolic states over the model's runs: abstract values and rows, how they read in memory, and what a call may change.
-/
import Derived.Orders
import Derived.ScopeJumps
import Derived.Lib.Hide
import Derived.Laws.Cells
import Derived.Laws.Append
import Derived.Deep.DeepAppendWide
import Derived.Laws.BytesString
import Derived.IntWalk
set_option linter.unusedVariables false
set_option linter.unusedSectionVars false
namespace Go.SL
open Go

/-- Abstract values. sc: the value itself. ptr, sl: a place in a row that this run owns (by its number), a slice of it. im: a slice of memory that stays as it is, by what it holds. ip: a place in such memory. -/
inductive AV where
  | any
  | nil
  | sc (v : Value)
  | ptr (o off : Nat)
  | sl (o off len : Nat)
  | im (esz : Nat) (cells : List AV)
  | ip (cells : List AV) (i : Nat)
  | fn (f : Nat) (first caps : List AV)
  | agg (cells : List AV)
  | tup (vs : List AV)
  | ifc (t : Nat) (v : AV)
  | mp (o : Nat)

mutual
/-- A value that names no own row. -/
def noOwn : AV → Bool
  | .any | .nil | .sc _ => true
  | .ptr _ _ | .sl _ _ _ | .mp _ => false
  | .im _ _ => true
  | .ip _ _ => true
  | .fn _ xs ys => noOwnL xs && noOwnL ys
  | .agg cs => noOwnL cs
  | .tup vs => noOwnL vs
  | .ifc _ v => noOwn v
def noOwnL : List AV → Bool
  | [] => true
  | x :: xs => noOwn x && noOwnL xs
end

/-- What an object that is no row of cells says besides its values. map: when the entries were born, the clock (its values: the keys, then the elements). iter: an iterator over a map (its value: the map). -/
inductive Shp where
  | map (births : List Nat) (clock : Nat)
  | iter (since : Nat) (seen : List Nat) (stepped : Nat)

inductive AObj where
  | dead
  | row (esz : Nat) (cells : List AV)
  | ob (s : Shp) (cells : List AV)

/-- An object with its shape and its values. -/
inductive ShR : Shp → List Value → Obj → Prop
  | map {es : Array MapEntry} {clock : Nat} : ShR (.map (es.toList.map (·.born)) clock) (es.toList.map (·.key) ++ es.toList.map (·.val)) (.map es clock)
  | iter {m : Option Nat} {since stepped : Nat} {seen : Array Nat} : ShR (.iter since seen.toList stepped) [.map m] (.mapIter m since seen stepped)

/-- Where a row lies: nowhere yet; gone; at a block from a cell on, its elements' size, the block's cells. -/
inductive Nm where
  | un
  | dead
  | em
  | at (b base esz tot : Nat)

def blocks (μ : List Nm) (b : Nat) : Prop := ∃ o base esz tot : Nat, μ[o]? = some (Nm.at b base esz tot)

def plainV : Value → Bool
  | .agg _ => false
  | .slice .. => false
  | _ => true

mutual
inductive VR (F : Nat → Prop) (μ : List Nm) (w : World) : AV → Value → Prop
  | any {v} : VR F μ w .any v
  | sc {v} (h : plainV v = true) : VR F μ w (.sc v) v
  | ptr {o off b base esz tot} (h : μ[o]? = some (Nm.at b base esz tot)) : VR F μ w (.ptr o off) (.pointer (some ⟨b, base + off, none⟩))
  | ptrD {o off a} (h : μ[o]? = some Nm.dead) : VR F μ w (.ptr o off) (.pointer a)
  | sl {o off len b base esz tot c} (h : μ[o]? = some (Nm.at b base esz tot)) (hc : base + off + c * esz ≤ tot) (hl : len ≤ c) :
      VR F μ w (.sl o off len) (.slice (some ⟨b, base + off, none⟩) len c)
  | slN {o off a b base esz tot} (h : μ[o]? = some (Nm.at b base esz tot)) : VR F μ w (.sl o off 0) (.slice a 0 0)
  | slE {o off a} (h : μ[o]? = some Nm.em) : VR F μ w (.sl o off 0) (.slice a 0 0)
  | nil {a} : VR F μ w .nil (.slice a 0 0)
  | slD {o off len a n c} (h : μ[o]? = some Nm.dead) : VR F μ w (.sl o off len) (.slice a n c)
  | im0 {esz a c} : VR F μ w (.im esz []) (.slice a 0 c)
  | im {esz xs b off n cap c el fr} (h : w.heap[b]? = some (Obj.cells c el fr)) (hb : ¬ blocks μ b) (hF : ¬ F b ∧ noOwnL xs = true) (hn : n * esz = xs.length) (hn2 : n ≤ cap)
      (hx : VRL F μ w xs ((c.toList.drop off).take xs.length)) : VR F μ w (.im esz xs) (.slice (some ⟨b, off, none⟩) n cap)
  | ip {xs i b off c el fr} (h : w.heap[b]? = some (Obj.cells c el fr)) (hb : ¬ blocks μ b) (hF : ¬ F b ∧ noOwnL xs = true)
      (hx : VRL F μ w xs ((c.toList.drop off).take xs.length)) : VR F μ w (.ip xs i) (.pointer (some ⟨b, off + i, none⟩))
  | fn {f xs ys xs' ys'} (h1 : VRL F μ w xs xs'.toList) (h2 : VRL F μ w ys ys'.toList) : VR F μ w (.fn f xs ys) (.func (.func f) xs' ys')
  | agg {xs ys} (h : VRL F μ w xs ys.toList) : VR F μ w (.agg xs) (.agg ys)
  | tup {xs ys} (h : VRL F μ w xs ys.toList) : VR F μ w (.tup xs) (.tuple ys)
  | ifc {t x y} (h : VR F μ w x y) : VR F μ w (.ifc t x) (.iface t y)
  | mp {o b esz tot} (h : μ[o]? = some (Nm.at b 0 esz tot)) : VR F μ w (.mp o) (.map (some b))
  | mpD {o m} (h : μ[o]? = some Nm.dead) : VR F μ w (.mp o) (.map m)
inductive VRL (F : Nat → Prop) (μ : List Nm) (w : World) : List AV → List Value → Prop
  | nil : VRL F μ w [] []
  | cons {x y xs ys} (h : VR F μ w x y) (t : VRL F μ w xs ys) : VRL F μ w (x :: xs) (y :: ys)
end

/-- None of the first n cells is frozen. -/
def NF (fr : Nat × Nat) (n : Nat) : Prop := fr.1 ≤ fr.2 ∧ ∀ i, i < n → ¬ (fr.1 ≤ i ∧ i < fr.2)

/-- The program's tables that none writes: a variable's number, what it holds. -/
class Tabs where
  tab : Nat → Option (List Value)
variable [Tabs]
/-- The tables are there, and no own row is one. -/
def TB (μ : List Nm) (w : World) : Prop := ∀ g xs, Tabs.tab g = some xs → (∃ c el fr, w.heap[g]? = some (Obj.cells c el fr) ∧ c.toList = xs) ∧ ¬ blocks μ g
theorem TB.sub {μ μ' : List Nm} {w : World} (h : TB μ w) (hb : ∀ b, blocks μ' b → blocks μ b) : TB μ' w := fun g xs hg => ⟨(h g xs hg).1, fun h' => (h g xs hg).2 (hb g h')⟩
theorem TB.nil {μ : List Nm} {w : World} (h : TB μ w) : TB [] w := h.sub fun b ⟨_, _, _, _, h⟩ => by simp at h
theorem TB.next {μ μ' : List Nm} {w w' : World} (h : TB μ w) (hk : ∀ b, b < w.heap.size → ¬ blocks μ b → w'.heap[b]? = w.heap[b]?) (hn : ∀ b, blocks μ' b → blocks μ b ∨ w.heap.size ≤ b) : TB μ' w' := by
  intro g xs hg
  obtain ⟨⟨c, el, fr, h1, h2⟩, h3⟩ := h g xs hg
  have hlt : g < w.heap.size := by
    rcases Nat.lt_or_ge g w.heap.size with h | h
    · exact h
    · simp [Array.getElem?_eq_none h] at h1
  refine ⟨⟨c, el, fr, by rw [hk g hlt h3, h1], h2⟩, fun h' => ?_⟩
  rcases hn g h' with h4 | h4
  · exact h3 h4
  · omega

/-- What lies at a row's block. -/
inductive ObjR (F : Nat → Prop) (μ : List Nm) (w : World) : AObj → Obj → Nat → Nat → Nat → Prop
  | row {esz : Nat} {cells : List AV} {c : Array Value} {el : Nat} {fr : Nat × Nat} {base tot : Nat} (h1 : c.size = tot) (h2 : base + cells.length ≤ tot)
      (h3 : VRL F μ w cells ((c.toList.drop base).take cells.length)) (h4 : NF fr tot) : ObjR F μ w (.row esz cells) (.cells c el fr) base esz tot
  | ob {s : Shp} {cells : List AV} {vs : List Value} {y : Obj} {esz tot : Nat} (h1 : ShR s vs y) (h2 : VRL F μ w cells vs) : ObjR F μ w (.ob s cells) y 0 esz tot

structure HR (F : Nat → Prop) (hp : List AObj) (μ : List Nm) (w : World) : Prop where
  len : μ.length = hp.length
  obj : ∀ o b base esz tot : Nat, μ[o]? = some (Nm.at b base esz tot) → ∃ x y, hp[o]? = some x ∧ w.heap[b]? = some y ∧ ObjR F μ w x y base esz tot
  em : ∀ o : Nat, μ[o]? = some Nm.em → ∃ esz, hp[o]? = some (AObj.row esz [])
  live : ∀ (o : Nat) (x : AObj), hp[o]? = some x → x ≠ .dead → μ[o]? ≠ some Nm.dead
  inj : ∀ o o' b base esz tot base' esz' tot' : Nat, μ[o]? = some (Nm.at b base esz tot) → μ[o']? = some (Nm.at b base' esz' tot') → o = o'
  fo : ∀ b, blocks μ b → ¬ F b
  fb : ∀ b, F b → b < w.heap.size
  tb : TB μ w

structure Fr (μ : List Nm) (w : World) (μ' : List Nm) (w' : World) : Prop where
  size : w.heap.size ≤ w'.heap.size
  keep : ∀ b, b < w.heap.size → ¬ blocks μ b → w'.heap[b]? = w.heap[b]?
  new : ∀ b, blocks μ' b → blocks μ b ∨ w.heap.size ≤ b
  ext : ∀ (o : Nat) (n : Nm), μ[o]? = some n → μ'[o]? = some n ∨ (n ≠ Nm.un ∧ μ'[o]? = some Nm.dead)
  len : μ.length ≤ μ'.length
  oo : w'.os = w.os ∧ w'.output = w.output

theorem heap_lt {w : World} {b : Nat} {x : Obj} (h : w.heap[b]? = some x) : b < w.heap.size := by
  rcases Nat.lt_or_ge b w.heap.size with h1 | h1
  · exact h1
  · simp [Array.getElem?_eq_none h1] at h

variable {F : Nat → Prop} {μ μ' μ'' : List Nm} {w w' w'' : World}

theorem Fr.refl (μ : List Nm) (w : World) : Fr μ w μ w := ⟨Nat.le_refl _, fun _ _ _ => rfl, fun _ h => .inl h, fun _ _ h => .inl h, Nat.le_refl _, rfl, rfl⟩

theorem Fr.trans (h : Fr μ w μ' w') (h' : Fr μ' w' μ'' w'') : Fr μ w μ'' w'' := by
  refine ⟨Nat.le_trans h.size h'.size, fun b hb hn => ?_, fun b hb => ?_, fun o n hn => ?_, Nat.le_trans h.len h'.len, h'.oo.1.trans h.oo.1, h'.oo.2.trans h.oo.2⟩
  · rw [h'.keep b (Nat.lt_of_lt_of_le hb h.size), h.keep b hb hn]
    intro hb'
    rcases h.new b hb' with h1 | h1
    · exact hn h1
    · omega
  · rcases h'.new b hb with h1 | h1
    · exact h.new b h1
    · exact .inr (Nat.le_trans h.size h1)
  · rcases h.ext o n hn with h1 | ⟨h0, h1⟩
    · exact h'.ext o n h1
    · rcases h'.ext o _ h1 with h2 | ⟨_, h2⟩
      · exact .inr ⟨h0, h2⟩
      · exact .inr ⟨h0, h2⟩

theorem Fr.out {b : Nat} (h : Fr μ w μ' w') (hb : b < w.heap.size) (hn : ¬ blocks μ b) : ¬ blocks μ' b := fun h' => by
  rcases h.new b h' with h1 | h1
  · exact hn h1
  · omega

variable {F : Nat → Prop}

theorem HR.foF {hp : List AObj} (h : HR F hp μ w) (f : Fr μ w μ' w') : ∀ b, blocks μ' b → ¬ F b := fun b hb hF => by
  rcases f.new b hb with h1 | h1
  · exact h.fo b h1 hF
  · have := h.fb b hF; omega

theorem HR.fbF {hp : List AObj} (h : HR F hp μ w) (f : Fr μ w μ' w') : ∀ b, F b → b < w'.heap.size := fun b hF => Nat.lt_of_lt_of_le (h.fb b hF) f.size

theorem HR.tbF {hp : List AObj} (h : HR F hp μ w) (f : Fr μ w μ' w') : TB μ' w' := h.tb.next f.keep f.new

mutual
theorem VR.mono (f : Fr μ w μ' w') : ∀ {x : AV} {v : Value}, VR F μ w x v → VR F μ' w' x v
  | _, _, .any => .any
  | _, _, .sc h => .sc h
  | _, _, .ptr h => by
    rcases f.ext _ _ h with h1 | ⟨_, h1⟩
    · exact .ptr h1
    · exact .ptrD h1
  | _, _, .ptrD h => by
    rcases f.ext _ _ h with h1 | ⟨_, h1⟩
    · exact .ptrD h1
    · exact .ptrD h1
  | _, _, .sl h hc hl => by
    rcases f.ext _ _ h with h1 | ⟨_, h1⟩
    · exact .sl h1 hc hl
    · exact .slD h1
  | _, _, .slN h => by
    rcases f.ext _ _ h with h1 | ⟨_, h1⟩
    · exact .slN h1
    · exact .slD h1
  | _, _, .slD h => by
    rcases f.ext _ _ h with h1 | ⟨_, h1⟩
    · exact .slD h1
    · exact .slD h1
  | _, _, .slE h => by
    rcases f.ext _ _ h with h1 | ⟨_, h1⟩
    · exact .slE h1
    · exact .slD h1
  | _, _, .nil => .nil
  | _, _, .im0 => .im0
  | _, _, .im h hb hF hn hn2 hx => .im ((f.keep _ (heap_lt h) hb).trans h) (f.out (heap_lt h) hb) hF hn hn2 (VRL.mono f hx)
  | _, _, .ip h hb hF hx => .ip ((f.keep _ (heap_lt h) hb).trans h) (f.out (heap_lt h) hb) hF (VRL.mono f hx)
  | _, _, .fn h1 h2 => .fn (VRL.mono f h1) (VRL.mono f h2)
  | _, _, .agg h => .agg (VRL.mono f h)
  | _, _, .tup h => .tup (VRL.mono f h)
  | _, _, .ifc h => .ifc (VR.mono f h)
  | _, _, .mp h => by
    rcases f.ext _ _ h with h1 | ⟨_, h1⟩
    · exact .mp h1
    · exact .mpD h1
  | _, _, .mpD h => by
    rcases f.ext _ _ h with h1 | ⟨_, h1⟩
    · exact .mpD h1
    · exact .mpD h1
theorem VRL.mono (f : Fr μ w μ' w') : ∀ {xs : List AV} {vs : List Value}, VRL F μ w xs vs → VRL F μ' w' xs vs
  | _, _, .nil => .nil
  | _, _, .cons h t => .cons (VR.mono f h) (VRL.mono f t)
end

theorem ObjR.mono (f : Fr μ w μ' w') {x : AObj} {y : Obj} {base esz tot : Nat} (h : ObjR F μ w x y base esz tot) : ObjR F μ' w' x y base esz tot := by
  cases h with
  | row h1 h2 h3 h4 => exact .row h1 h2 (VRL.mono f h3) h4
  | ob h1 h2 => exact .ob h1 (VRL.mono f h2)

/-- The values of an object. -/
def AObj.cs : AObj → List AV
  | .dead => []
  | .row _ cs => cs
  | .ob _ cs => cs
theorem ObjR.conv {F F' : Nat → Prop} {x : AObj} {y : Obj} {base esz tot : Nat} (h : ObjR F μ w x y base esz tot) (hg : ∀ vs, VRL F μ w x.cs vs → VRL F' μ' w' x.cs vs) : ObjR F' μ' w' x y base esz tot := by
  cases h with
  | row h1 h2 h3 h4 => exact .row h1 h2 (hg _ h3) h4
  | ob h1 h2 => exact .ob h1 (hg _ h2)

theorem VRL.length {xs : List AV} {vs : List Value} (h : VRL F μ w xs vs) : xs.length = vs.length := by
  induction xs generalizing vs with
  | nil => cases h; rfl
  | cons x xs ih => cases h with | cons h t => simp [ih t]

theorem VRL.get {xs : List AV} {vs : List Value} (h : VRL F μ w xs vs) {i : Nat} {x : AV} (hx : xs[i]? = some x) : ∃ v, vs[i]? = some v ∧ VR F μ w x v := by
  induction xs generalizing vs i with
  | nil => simp at hx
  | cons y ys ih =>
    cases h with
    | cons h t =>
      cases i with
      | zero => simp at hx; subst hx; exact ⟨_, rfl, h⟩
      | succ i => simpa using ih t (by simpa using hx)

theorem VRL.append {xs ys : List AV} {vs us : List Value} (h : VRL F μ w xs vs) (h' : VRL F μ w ys us) : VRL F μ w (xs ++ ys) (vs ++ us) := by
  induction xs generalizing vs with
  | nil => cases h; exact h'
  | cons x xs ih => cases h with | cons h t => exact .cons h (ih t)

theorem VRL.take {xs : List AV} {vs : List Value} (n : Nat) (h : VRL F μ w xs vs) : VRL F μ w (xs.take n) (vs.take n) := by
  induction xs generalizing vs n with
  | nil => cases h; simp; exact .nil
  | cons x xs ih =>
    cases h with
    | cons h t =>
      cases n with
      | zero => simp; exact .nil
      | succ n => exact .cons h (ih n t)

theorem VRL.drop {xs : List AV} {vs : List Value} (n : Nat) (h : VRL F μ w xs vs) : VRL F μ w (xs.drop n) (vs.drop n) := by
  induction xs generalizing vs n with
  | nil => cases h; simp; exact .nil
  | cons x xs ih =>
    cases h with
    | cons h t =>
      cases n with
      | zero => exact .cons h t
      | succ n => exact ih n t

theorem noOwnL_append (xs ys : List AV) : noOwnL (xs ++ ys) = (noOwnL xs && noOwnL ys) := by
  induction xs with
  | nil => simp [noOwnL]
  | cons x xs ih => simp [noOwnL, ih, Bool.and_assoc]
theorem noOwnL_sub {xs : List AV} (h : noOwnL xs = true) (a b : Nat) : noOwnL ((xs.drop a).take b) = true := by
  have h1 : noOwnL (xs.drop a) = true := by
    have := noOwnL_append (xs.take a) (xs.drop a)
    rw [List.take_append_drop, h] at this
    exact ((Bool.and_eq_true _ _).mp this.symm).2
  have := noOwnL_append ((xs.drop a).take b) ((xs.drop a).drop b)
  rw [List.take_append_drop, h1] at this
  exact ((Bool.and_eq_true _ _).mp this.symm).1

theorem VRL.of_get {xs : List AV} {vs : List Value} (hl : xs.length = vs.length) (h : ∀ (i : Nat) (x : AV) (v : Value), xs[i]? = some x → vs[i]? = some v → VR F μ w x v) : VRL F μ w xs vs := by
  induction xs generalizing vs with
  | nil => cases vs <;> simp_all; exact .nil
  | cons x xs ih =>
    cases vs with
    | nil => simp at hl
    | cons v vs => exact .cons (h 0 _ _ rfl rfl) (ih (by simpa using hl) fun i y u hy hu => h (i + 1) y u (by simpa using hy) (by simpa using hu))

theorem VRL.set {xs : List AV} {vs : List Value} (h : VRL F μ w xs vs) (i : Nat) {x : AV} {v : Value} (hv : VR F μ w x v) : VRL F μ w (xs.set i x) (vs.set i v) := by
  induction xs generalizing vs i with
  | nil => cases h; simp; exact .nil
  | cons y ys ih =>
    cases h with
    | cons h t =>
      cases i with
      | zero => exact .cons hv t
      | succ i => exact .cons h (ih t i)

end Go.SL

set_option linter.unusedVariables false
set_option linter.unusedSectionVars false
namespace Go.SL
open Go
variable [Tabs]

structure SS where
  env : Nat → AV
  hp : List AObj

def EnvR (F : Nat → Prop) (env : Nat → AV) (μ : List Nm) (w : World) (t : Array Value) : Prop := ∀ i, VR F μ w (env i) (t.getD i undef)

structure SR (F : Nat → Prop) (n : Nat) (σ : SS) (μ : List Nm) (a : Act) (w : World) : Prop where
  hr : HR F σ.hp μ w
  env : EnvR F σ.env μ w a.tmps
  size : a.tmps.size = n
  defers : a.defers = []

@[reducible] def litC : Value → AV
  | .slice none 0 0 => .nil
  | .slice _ _ _ => .any
  | .agg _ => .any
  | v => .sc v
@[reducible] def lit : Value → AV
  | .agg cs => .agg (cs.toList.map litC)
  | v => litC v

@[reducible] def opd (env : Nat → AV) : Operand → AV
  | .tmp t => env t
  | .const v => lit v
  | .global g => .sc (.pointer (some ⟨g, 0, none⟩))
  | .func f => .fn f [] []

@[reducible] def upd (env : Nat → AV) (d : Nat) (x : AV) : Nat → AV := fun i => bif Nat.beq i d then x else env i
@[reducible] def put (env : Nat → AV) : Option Nat → AV → (Nat → AV)
  | some d, x => upd env d x
  | none, _ => env

variable {F : Nat → Prop} {μ μ' μ'' : List Nm} {w w' w'' : World} {P : Program} {n : Nat}

theorem nbeq {i d : Nat} (h : i ≠ d) : Nat.beq i d = false := by
  cases hb : Nat.beq i d with
  | true => exact absurd (Nat.eq_of_beq_eq_true hb) h
  | false => rfl

theorem VR.sc_inv {x v : Value} (h : VR F μ w (.sc x) v) : v = x := by cases h; rfl

theorem litC_rel (v : Value) : VR F μ w (litC v) v := by
  unfold litC
  split
  · exact .nil
  · exact .any
  · exact .any
  · refine .sc ?_
    rename_i h1 h2 h3
    cases v <;> first | rfl | exact absurd rfl (h2 _ _ _) | exact absurd rfl (h3 _)

theorem litL_rel : ∀ l : List Value, VRL F μ w (l.map litC) l
  | [] => .nil
  | v :: l => .cons (litC_rel v) (litL_rel l)

theorem lit_rel (v : Value) : VR F μ w (lit v) v := by
  unfold lit
  split
  · exact .agg (litL_rel _)
  · exact litC_rel v

theorem EnvR.opd {env : Nat → AV} {a : Act} (h : EnvR F env μ w a.tmps) (x : Operand) : VR F μ w (opd env x) (a.eval x) := by
  cases x with
  | tmp t => exact h t
  | const v => exact lit_rel v
  | global g => exact .sc rfl
  | func f => exact .fn .nil .nil

theorem EnvR.mono {env : Nat → AV} {t : Array Value} (h : EnvR F env μ w t) (f : Fr μ w μ' w') : EnvR F env μ' w' t := fun i => (h i).mono f

theorem EnvR.upd {env : Nat → AV} {t : Array Value} (h : EnvR F env μ w t) {d : Nat} (hd : d < t.size) {x : AV} {v : Value} (hv : VR F μ w x v) :
    EnvR F (upd env d x) μ w (t.setIfInBounds d v) := by
  intro i
  by_cases hi : i = d
  · subst hi
    have : (t.setIfInBounds i v).getD i undef = v := by simp [Array.getD, hd]
    rw [this]
    simpa [SL.upd] using hv
  · have h1 : Nat.beq i d = false := nbeq hi
    have h2 : (t.setIfInBounds d v).getD i undef = t.getD i undef := by
      simp only [Array.getD, Array.size_setIfInBounds]
      split
      · rename_i hlt; simp [hlt, Ne.symm hi]
      · rfl
    simp only [SL.upd, h1, cond_false, h2]
    exact h i

def dstOk (n : Nat) : Option Nat → Prop
  | some d => d < n
  | none => True

theorem EnvR.put {env : Nat → AV} {a : Act} (h : EnvR F env μ w a.tmps) {d : Option Nat} (hd : dstOk a.tmps.size d) {x : AV} {v : Value} (hv : VR F μ w x v) :
    EnvR F (put env d x) μ w (a.put d v).tmps := by
  cases d with
  | none => exact h
  | some d => exact h.upd hd hv

theorem put_size (a : Act) (d : Option Nat) (v : Value) : (a.put d v).tmps.size = a.tmps.size := by cases d <;> simp [Act.put]
theorem put_defers (a : Act) (d : Option Nat) (v : Value) : (a.put d v).defers = a.defers := by cases d <;> rfl

/-- What one operation does to a state: R tells its value and the rows behind it. -/
def Step (P : Program) (o : Oper) (env : Nat → AV) (hp : List AObj) (R : AV → List AObj → Prop) : Prop :=
  ∀ (F : Nat → Prop) (μ : List Nm) (w : World) (a : Act), HR F hp μ w → EnvR F env μ w a.tmps → ∀ (next : Act → World → Prop) (Q : Exit → Act → World → Prop),
    (∀ (x : AV) (v : Value) (hp' : List AObj) (μ' : List Nm) (w' : World), R x hp' → HR F hp' μ' w' → VR F μ' w' x v → Fr μ w μ' w' → next (a.put o.dst v) w') → o.wp P a w next Q

abbrev is (x : AV) (hp : List AObj) : AV → List AObj → Prop := fun y h => y = x ∧ h = hp

def Post (F : Nat → Prop) (n : Nat) (K : Exit → SS → Prop) (μ : List Nm) (w : World) : Exit → Act → World → Prop :=
  fun x a' w' => ∃ σ' μ', K x σ' ∧ SR F n σ' μ' a' w' ∧ Fr μ w μ' w'

def W (P : Program) (n : Nat) (c : Code) (K : Exit → SS → Prop) (σ : SS) : Prop :=
  ∀ F μ a w, SR F n σ μ a w → c.wp P (Post F n K μ w) a w

def WO (P : Program) (n : Nat) (ops : Array Oper) (l : List Nat) (K : Exit → SS → Prop) (σ : SS) : Prop :=
  ∀ F μ a w, SR F n σ μ a w → wpOps P ops (Post F n K μ w) l a w

theorem Post.mono {K : Exit → SS → Prop} (f : Fr μ w μ' w') {x : Exit} {a : Act} {w'' : World} (h : Post F n K μ' w' x a w'') : Post F n K μ w x a w'' := by
  obtain ⟨σ', μ', hk, hs, hf⟩ := h
  exact ⟨σ', μ', hk, hs, f.trans hf⟩

theorem wpOps_post {ops : Array Oper} {l : List Nat} {Q Q' : Exit → Act → World → Prop} (hq : ∀ e a w, Q e a w → Q' e a w) :
    ∀ {a : Act} {w : World}, wpOps P ops Q l a w → wpOps P ops Q' l a w := by
  induction l with
  | nil => exact fun h => hq _ _ _ h
  | cons i rest ih =>
    intro a w h
    simp only [wpOps] at h ⊢
    cases ho : ops[i]? with
    | none => rw [ho] at h; exact ih h
    | some o =>
      rw [ho] at h
      simp only at h ⊢
      split
      · rename_i hw
        simp only [hw, if_true] at h
        rcases h with h | ⟨h1, a0, w0, h2⟩
        · left
          unfold Oper.wp at h ⊢
          generalize (execOp a.eval o).run P w = r at h
          cases r with
          | ok nx w1 =>
            cases nx <;> simp only [Oper.upon] at h ⊢ <;>
              first
                | exact ih h
                | exact Calls.mono h (fun e w2 he => by
                    cases e with
                    | returned v => exact ih he
                    | panicked c => exact hq _ _ _ he
                    | outgrown => obtain ⟨a1, w1, h1⟩ := he; exact ⟨a1, w1, hq _ _ _ h1⟩)
                | exact Rows.mono h (fun _ _ he => ih he)
          | halt x w1 => cases x <;> simp only [Oper.upon] at h ⊢ <;> exact hq _ _ _ h
        · exact .inr ⟨h1, a0, w0, hq _ _ _ h2⟩
      · rename_i hw
        simp only [hw] at h
        exact ih h

def wants (ops : Array Oper) (env : Nat → AV) (o : Oper) : Option Bool :=
  match o.guard with
  | none => some true
  | some (j, want) =>
    match (ops[j]?).bind (·.dst) with
    | some d => match env d with
      | .sc (.bool b) => some (b == want)
      | .sc (.tuple _) => some false
      | _ => none
    | none => none

theorem wants_eq {ops : Array Oper} {env : Nat → AV} {o : Oper} {b : Bool} (h : wants ops env o = some b) {t : Array Value} (he : EnvR F env μ w t) :
    Region.wanted o (yielded ops t) = b := by
  unfold wants at h
  unfold Region.wanted
  cases hg : o.guard with
  | none => rw [hg] at h; simpa using h
  | some g =>
    obtain ⟨j, want⟩ := g
    rw [hg] at h
    simp only at h ⊢
    unfold yielded
    cases hd : (ops[j]?).bind (·.dst) with
    | none => rw [hd] at h; simp at h
    | some d =>
      rw [hd] at h
      simp only [Option.bind_some] at h ⊢
      have hv := he d
      cases hx : env d with
      | sc v =>
        rw [hx] at h hv
        cases v with
        | bool c =>
          simp only [Option.some.injEq] at h
          have : t.getD d undef = .bool c := hv.sc_inv
          have hlt : d < t.size := by
            rcases Nat.lt_or_ge d t.size with h1 | h1
            · exact h1
            · simp [Array.getD, Nat.not_lt.mpr h1, undef] at this
          have h2 : t[d]? = some (.bool c) := by
            have h3 : t.getD d undef = t[d] := by simp [Array.getD, hlt]
            rw [Array.getElem?_eq_getElem hlt, ← h3, this]
          rw [h2]
          subst h
          cases c <;> cases want <;> rfl
        | tuple cs =>
          simp only [Option.some.injEq] at h
          have ht : t.getD d undef = .tuple cs := hv.sc_inv
          subst h
          cases h2 : t[d]? with
          | none => cases want <;> rfl
          | some v =>
            have h3 : t.getD d undef = v := by simp [Array.getD_eq_getD_getElem?, h2]
            rw [ht] at h3
            subst h3
            cases want <;> rfl
        | _ => simp at h
      | _ => rw [hx] at h; simp at h

theorem WO.nil {ops : Array Oper} {K : Exit → SS → Prop} {σ : SS} (h : K .normal σ) : WO P n ops [] K σ :=
  fun F μ _ _ hs => ⟨σ, μ, h, hs, Fr.refl _ _⟩

theorem WO.cons {ops : Array Oper} {i : Nat} {rest : List Nat} {K : Exit → SS → Prop} {σ : SS} {o : Oper} {R : AV → List AObj → Prop}
    (ho : ops[i]? = some o) (hw : wants ops σ.env o = some true) (hd : dstOk n o.dst) (hs : Step P o σ.env σ.hp R)
    (hk : ∀ x hp', R x hp' → WO P n ops rest K ⟨put σ.env o.dst x, hp'⟩) : WO P n ops (i :: rest) K σ := by
  intro F μ a w h
  simp only [wpOps, ho]
  rw [if_pos (wants_eq hw h.env)]
  refine .inl (hs F μ w a h.hr h.env _ _ ?_)
  intro x v hp' μ' w' hR hr hv hf
  refine wpOps_post (fun e a w => Post.mono hf) (hk x hp' hR F μ' _ w' ⟨hr, ?_, ?_, ?_⟩)
  · exact (h.env.mono hf).put (by rw [h.size]; exact hd) hv
  · rw [put_size]; exact h.size
  · rw [put_defers]; exact h.defers

theorem WO.one {ops : Array Oper} {i : Nat} {rest : List Nat} {K : Exit → SS → Prop} {σ : SS} {o : Oper} {x : AV} {hp' : List AObj}
    (ho : ops[i]? = some o) (hw : wants ops σ.env o = some true) (hd : dstOk n o.dst) (hs : Step P o σ.env σ.hp (is x hp'))
    (hk : WO P n ops rest K ⟨put σ.env o.dst x, hp'⟩) : WO P n ops (i :: rest) K σ :=
  WO.cons ho hw hd hs (by rintro _ _ ⟨rfl, rfl⟩; exact hk)

theorem plain_undef : plainV undef = true := rfl

theorem WO.skip {ops : Array Oper} {i : Nat} {rest : List Nat} {K : Exit → SS → Prop} {σ : SS} {o : Oper}
    (ho : ops[i]? = some o) (hw : wants ops σ.env o = some false) (hd : dstOk n o.dst)
    (hk : WO P n ops rest K ⟨put σ.env o.dst (.sc undef), σ.hp⟩) : WO P n ops (i :: rest) K σ := by
  intro F μ a w h
  simp only [wpOps, ho]
  rw [wants_eq hw h.env]
  simp only [Bool.false_eq_true, if_false]
  refine hk F μ _ w ⟨h.hr, ?_, ?_, ?_⟩
  · exact h.env.put (by rw [h.size]; exact hd) (.sc plain_undef)
  · rw [put_size]; exact h.size
  · rw [put_defers]; exact h.defers

theorem W.mono {c : Code} {K K' : Exit → SS → Prop} {σ : SS} (h : W P n c K σ) (hk : ∀ x σ, K x σ → K' x σ) : W P n c K' σ :=
  fun F μ a w hs => wp_mono (h F μ a w hs) fun _ _ _ ⟨σ', μ', h1, h2⟩ => ⟨σ', μ', hk _ _ h1, h2⟩

theorem W.region {id : Nat} {ops : Array Oper} {K : Exit → SS → Prop} {σ : SS} (h : WO P n ops (List.range ops.size) K σ) : W P n (.region id ops false) K σ :=
  fun F μ a w hs => wp_region (h F μ a w hs)

theorem W.skip {K : Exit → SS → Prop} {σ : SS} (h : K .normal σ) : W P n .skip K σ := fun F μ _ _ hs => wp_skip ⟨σ, μ, h, hs, Fr.refl _ _⟩
theorem W.label {l : Nat} {K : Exit → SS → Prop} {σ : SS} (h : K .normal σ) : W P n (.label l) K σ := fun F μ _ _ hs => wp_label ⟨σ, μ, h, hs, Fr.refl _ _⟩
theorem W.exit {id : Nat} {K : Exit → SS → Prop} {σ : SS} (h : K (.exit id) σ) : W P n (.exit id) K σ := fun F μ _ _ hs => wp_exit ⟨σ, μ, h, hs, Fr.refl _ _⟩
theorem W.goto {l : Nat} {K : Exit → SS → Prop} {σ : SS} (h : K (.goto l) σ) : W P n (.goto l) K σ := fun F μ _ _ hs => wp_goto ⟨σ, μ, h, hs, Fr.refl _ _⟩
theorem W.ret {K : Exit → SS → Prop} {σ : SS} (h : K .ret σ) : W P n .ret K σ := fun F μ _ _ hs => wp_ret ⟨σ, μ, h, hs, Fr.refl _ _⟩

def thenK (next : SS → Prop) (K : Exit → SS → Prop) : Exit → SS → Prop
  | .normal, σ => next σ
  | x, σ => K x σ

theorem W.seq {c d : Code} {K : Exit → SS → Prop} {σ : SS} (h : W P n c (thenK (W P n d K) K) σ) : W P n (.seq c d) K σ := by
  intro F μ a w hs
  refine wp_seq (wp_mono (h F μ a w hs) ?_)
  intro e a' w' ⟨σ', μ', hk, hs', hf⟩
  cases e with
  | normal => exact wp_mono (hk F μ' a' w' hs') fun _ _ _ => Post.mono hf
  | exit id => exact ⟨σ', μ', hk, hs', hf⟩
  | goto l => exact ⟨σ', μ', hk, hs', hf⟩
  | ret => exact ⟨σ', μ', hk, hs', hf⟩
  | panic ch => exact ⟨σ', μ', hk, hs', hf⟩
  | outgrown => exact ⟨σ', μ', hk, hs', hf⟩

theorem EnvR.bool {env : Nat → AV} {a : Act} (h : EnvR F env μ w a.tmps) {x : Operand} {b : Bool} (hx : SL.opd env x = .sc (.bool b)) : a.eval x = .bool b := by
  have := h.opd x
  rw [hx] at this
  exact this.sc_inv

theorem W.cond {c : Operand} {x y : Code} {K : Exit → SS → Prop} {σ : SS} {b : Bool} (hc : opd σ.env c = .sc (.bool b))
    (ht : b = true → W P n x K σ) (hf : b = false → W P n y K σ) : W P n (.cond c x y) K σ :=
  fun F μ a w hs => wp_cond_split (hs.env.bool hc) (fun hb => ht hb F μ a w hs) (fun hb => hf hb F μ a w hs)

def blockK (id : Nat) (K : Exit → SS → Prop) : Exit → SS → Prop
  | .exit id', σ => bif Nat.beq id' id then K .normal σ else K (.exit id') σ
  | x, σ => K x σ

theorem W.block {id : Nat} {c : Code} {K : Exit → SS → Prop} {σ : SS} (h : W P n c (blockK id K) σ) : W P n (.block id c) K σ := by
  intro F μ a w hs
  refine wp_block (wp_mono (h F μ a w hs) ?_)
  intro e a' w' ⟨σ', μ', hk, hs', hf⟩
  cases e with
  | exit id' =>
    simp only [Exit.inBlock]
    simp only [blockK] at hk
    by_cases hid : id' = id
    · subst hid
      rw [if_pos rfl]
      rw [Nat.beq_refl] at hk
      exact ⟨σ', μ', hk, hs', hf⟩
    · rw [if_neg hid]
      have : Nat.beq id' id = false := nbeq hid
      rw [this] at hk
      exact ⟨σ', μ', hk, hs', hf⟩
  | normal => exact ⟨σ', μ', hk, hs', hf⟩
  | goto l => exact ⟨σ', μ', hk, hs', hf⟩
  | ret => exact ⟨σ', μ', hk, hs', hf⟩
  | panic ch => exact ⟨σ', μ', hk, hs', hf⟩
  | outgrown => exact ⟨σ', μ', hk, hs', hf⟩

/-- σ' knows no more than σ. -/
def Le (σ' σ : SS) : Prop := σ'.hp = σ.hp ∧ ∀ i, σ'.env i = .any ∨ σ'.env i = σ.env i

theorem Le.sr {σ σ' : SS} (h : Le σ' σ) {a : Act} (hs : SR F n σ μ a w) : SR F n σ' μ a w := by
  refine ⟨h.1 ▸ hs.hr, fun i => ?_, hs.size, hs.defers⟩
  rcases h.2 i with h1 | h1
  · rw [h1]; exact .any
  · rw [h1]; exact hs.env i

theorem Le.refl (σ : SS) : Le σ σ := ⟨rfl, fun _ => .inr rfl⟩

theorem W.weaken {c : Code} {K : Exit → SS → Prop} {σ σ' : SS} (hl : Le σ' σ) (h : W P n c K σ') : W P n c K σ := fun F μ a w hs => h F μ a w (hl.sr hs)

/-- A table of slots; all others are unknown. -/
def tbl : List (Nat × AV) → Nat → AV
  | [], _ => .any
  | (d, x) :: l, i => bif Nat.beq i d then x else tbl l i

theorem Le.tbl {σ : SS} : ∀ {l : List (Nat × AV)}, (∀ p ∈ l, σ.env p.1 = p.2) → Le ⟨SL.tbl l, σ.hp⟩ σ := by
  intro l h
  refine ⟨rfl, fun i => ?_⟩
  induction l with
  | nil => exact .inl rfl
  | cons p l ih =>
    obtain ⟨d, x⟩ := p
    simp only [SL.tbl]
    by_cases hi : i = d
    · subst hi
      rw [Nat.beq_refl]
      exact .inr (h (i, x) (by simp)).symm
    · have : Nat.beq i d = false := nbeq hi
      rw [this]
      exact ih fun p hp => h p (by simp [hp])

theorem W.loop {α : Type} (st : α → SS) (inv : α → Prop) (m : α → Nat) {c : Code} {K : Exit → SS → Prop} {σ : SS} (a0 : α) (h0 : inv a0) (hl : Le (st a0) σ)
    (round : ∀ x, inv x → W P n c (thenK (fun σ' => ∃ y, inv y ∧ m y < m x ∧ Le (st y) σ') K) (st x)) : W P n (.loop c) K σ := by
  intro F μ a w hs b kk cs
  have key : ∀ (k : Nat) (x : α), m x = k → inv x → ∀ μ a w, SR F n (st x) μ a w →
      ∃ e a' w', Post F n K μ w e a' w' ∧ Arrives P (lone (b.at a (.code c :: .inLoop c :: kk)) cs w) b kk cs e a' w' := by
    intro k
    induction k using Nat.strongRecOn with
    | _ k ih =>
      intro x hk hi μ a w hs
      obtain ⟨e, a1, w1, ⟨σ1, μ1, hK, hs1, hf⟩, harr⟩ := round x hi F μ a w hs b (.inLoop c :: kk) cs
      cases e with
      | normal =>
        obtain ⟨y, hy, hlt, hle⟩ := hK
        obtain ⟨e3, a3, w3, hp3, harr3⟩ := ih (m y) (hk ▸ hlt) y rfl hy μ1 a1 w1 (hle.sr hs1)
        exact ⟨e3, a3, w3, Post.mono hf hp3, .of_steps (Steps.trans harr (.one step_inLoop)) harr3⟩
      | exit id => exact ⟨_, a1, w1, ⟨σ1, μ1, hK, hs1, hf⟩, .pass (x := .inLoop c) rfl (fun _ _ => .inl (by simp)) harr⟩
      | goto l => exact ⟨_, a1, w1, ⟨σ1, μ1, hK, hs1, hf⟩, .pass (x := .inLoop c) rfl (fun _ _ => .inl (by simp)) harr⟩
      | ret => exact ⟨_, a1, w1, ⟨σ1, μ1, hK, hs1, hf⟩, .pass (x := .inLoop c) rfl (fun _ _ => .inl (by simp)) harr⟩
      | panic ch => exact ⟨_, a1, w1, ⟨σ1, μ1, hK, hs1, hf⟩, .pass (x := .inLoop c) rfl (fun _ _ => .inl (by simp)) harr⟩
      | outgrown => exact ⟨_, a1, w1, ⟨σ1, μ1, hK, hs1, hf⟩, .pass (x := .inLoop c) rfl (fun _ _ => .inl (by simp)) harr⟩
  obtain ⟨e, a', w', hq, harr⟩ := key _ a0 rfl h0 μ a w (hl.sr hs)
  exact ⟨e, a', w', hq, .of_steps (.one step_loop) harr⟩

end Go.SL

set_option linter.unusedSimpArgs false
set_option linter.unnecessarySimpa false
set_option linter.unusedVariables false
set_option linter.unusedSectionVars false
namespace Go.SL
open Go
variable [Tabs]

variable {F : Nat → Prop} {μ μ' μ'' : List Nm} {w w' w'' : World} {P : Program} {n : Nat}

theorem HR.lt {hp : List AObj} (h : HR F hp μ w) {b : Nat} (hb : blocks μ b) : b < w.heap.size := by
  obtain ⟨o, base, esz, tot, ho⟩ := hb
  obtain ⟨_, _, _, h1, _⟩ := h.obj o b base esz tot ho
  exact heap_lt h1

/-- A row of cells that lies somewhere. -/
theorem HR.objr {hp : List AObj} (h : HR F hp μ w) {o b base esz tot e : Nat} {cells : List AV} (hμ : μ[o]? = some (Nm.at b base esz tot)) (ho : hp[o]? = some (AObj.row e cells)) :
    e = esz ∧ ∃ c el fr, w.heap[b]? = some (Obj.cells c el fr) ∧ c.size = tot ∧ base + cells.length ≤ tot ∧ VRL F μ w cells ((c.toList.drop base).take cells.length) ∧ NF fr tot := by
  obtain ⟨x, y, h1, h2, h3⟩ := h.obj o b base esz tot hμ
  rw [ho] at h1; injection h1 with h1; subst h1
  cases h3 with
  | row g1 g2 g3 g4 => exact ⟨rfl, _, _, _, h2, g1, g2, g3, g4⟩

/-- A live row: where it lies. -/
theorem HR.row {hp : List AObj} (h : HR F hp μ w) {o esz : Nat} {cells : List AV} (ho : hp[o]? = some (AObj.row esz cells)) :
    (μ[o]? = some Nm.un) ∨ (μ[o]? = some Nm.em ∧ cells = []) ∨ ∃ b base tot c el fr, μ[o]? = some (Nm.at b base esz tot) ∧ w.heap[b]? = some (Obj.cells c el fr) ∧ c.size = tot ∧ base + cells.length ≤ tot ∧
      VRL F μ w cells ((c.toList.drop base).take cells.length) ∧ NF fr tot := by
  have hlt : o < μ.length := by
    rw [h.len]
    rcases Nat.lt_or_ge o hp.length with h1 | h1
    · exact h1
    · simp [List.getElem?_eq_none h1] at ho
  cases hm : μ[o] with
  | un => left; rw [List.getElem?_eq_getElem hlt, hm]
  | dead => exact absurd (by rw [List.getElem?_eq_getElem hlt, hm]) (h.live o _ ho (by simp))
  | em =>
    right; left
    have hμ : μ[o]? = some Nm.em := by rw [List.getElem?_eq_getElem hlt, hm]
    obtain ⟨e, he⟩ := h.em o hμ
    rw [ho] at he
    injection he with he
    injection he with _ he
    exact ⟨hμ, he⟩
  | «at» b base esz' tot =>
    right; right
    have hμ : μ[o]? = some (Nm.at b base esz' tot) := by rw [List.getElem?_eq_getElem hlt, hm]
    obtain ⟨h1, c, el, fr, h2, h3, h4, h5, h6⟩ := h.objr hμ ho
    subst h1
    exact ⟨b, base, tot, c, el, fr, hμ, h2, h3, h4, h5, h6⟩

/-- A new object. -/
theorem HR.pushX {hp : List AObj} (h : HR F hp μ w) {x : AObj} {y : Obj} {esz tot : Nat} (hx : ObjR F μ w x y 0 esz tot)
    {w' : World} (hw : w'.heap = w.heap.push y) (hoo : w'.os = w.os ∧ w'.output = w.output := by exact ⟨rfl, rfl⟩) :
    HR F (hp ++ [x]) (μ ++ [.at w.heap.size 0 esz tot]) w' ∧ Fr μ w (μ ++ [.at w.heap.size 0 esz tot]) w' := by
  have hF : Fr μ w (μ ++ [.at w.heap.size 0 esz tot]) w' := by
    refine ⟨by rw [hw]; simp, fun b hb _ => by rw [hw, Array.getElem?_push_lt hb, Array.getElem?_eq_getElem hb], fun b hb => ?_, fun o nm ho => ?_, by simp, hoo⟩
    · obtain ⟨o, base, esz', tot', ho⟩ := hb
      rcases Nat.lt_or_ge o μ.length with h1 | h1
      · rw [List.getElem?_append_left h1] at ho
        exact .inl ⟨o, base, esz', tot', ho⟩
      · rw [List.getElem?_append_right h1] at ho
        right
        cases hk : o - μ.length with
        | zero => rw [hk] at ho; simp at ho; omega
        | succ k => rw [hk] at ho; simp at ho
    · left
      have : o < μ.length := by
        rcases Nat.lt_or_ge o μ.length with h1 | h1
        · exact h1
        · simp [List.getElem?_eq_none h1] at ho
      rw [List.getElem?_append_left this]; exact ho
  refine ⟨⟨by simp [h.len], fun o b base esz' tot' ho => ?_, fun o ho => ?_, fun o x' ho hx' => ?_, fun o o' b base esz1 tot1 base' esz2 tot2 ho ho' => ?_, h.foF hF, h.fbF hF, h.tbF hF⟩, hF⟩
  · rcases Nat.lt_or_ge o μ.length with h1 | h1
    · rw [List.getElem?_append_left h1] at ho
      obtain ⟨x', y', g1, g2, g3⟩ := h.obj o b base esz' tot' ho
      refine ⟨x', y', ?_, ?_, g3.mono hF⟩
      · rw [List.getElem?_append_left (by rw [← h.len]; exact h1)]; exact g1
      · rw [hw, Array.getElem?_push_lt (heap_lt g2), ← g2, Array.getElem?_eq_getElem (heap_lt g2)]
    · rw [List.getElem?_append_right h1] at ho
      cases hk : o - μ.length with
      | succ k => rw [hk] at ho; simp at ho
      | zero =>
        rw [hk] at ho
        simp at ho
        obtain ⟨rfl, rfl, rfl, rfl⟩ := ho
        have ho2 : o = μ.length := by omega
        refine ⟨x, y, ?_, ?_, hx.mono hF⟩
        · rw [ho2, h.len]; simp
        · rw [hw]; simp
  · rcases Nat.lt_or_ge o μ.length with h1 | h1
    · rw [List.getElem?_append_left h1] at ho
      rw [List.getElem?_append_left (by rw [← h.len]; exact h1)]
      exact h.em o ho
    · rw [List.getElem?_append_right h1] at ho
      cases hk : o - μ.length with
      | succ k => rw [hk] at ho; simp at ho
      | zero => rw [hk] at ho; simp at ho
  · intro hd
    rcases Nat.lt_or_ge o μ.length with h1 | h1
    · rw [List.getElem?_append_left h1] at hd
      rw [List.getElem?_append_left (by rw [← h.len]; exact h1)] at ho
      exact h.live o x' ho hx' hd
    · rw [List.getElem?_append_right h1] at hd
      cases hk : o - μ.length with
      | succ k => rw [hk] at hd; simp at hd
      | zero => rw [hk] at hd; simp at hd
  · have key : ∀ o b base esz' tot', (μ ++ [Nm.at w.heap.size 0 esz tot])[o]? = some (Nm.at b base esz' tot') → (o < μ.length ∧ μ[o]? = some (Nm.at b base esz' tot') ∧ b < w.heap.size) ∨ (o = μ.length ∧ b = w.heap.size) := by
      intro o b base esz' tot' ho
      rcases Nat.lt_or_ge o μ.length with h1 | h1
      · rw [List.getElem?_append_left h1] at ho
        exact .inl ⟨h1, ho, h.lt ⟨o, base, esz', tot', ho⟩⟩
      · rw [List.getElem?_append_right h1] at ho
        cases hk : o - μ.length with
        | succ k => rw [hk] at ho; simp at ho
        | zero => rw [hk] at ho; simp at ho; exact .inr ⟨by omega, ho.1.symm⟩
    rcases key _ _ _ _ _ ho with ⟨h1, h2, h3⟩ | ⟨h1, h2⟩ <;> rcases key _ _ _ _ _ ho' with ⟨g1, g2, g3⟩ | ⟨g1, g2⟩
    · exact h.inj _ _ _ _ _ _ _ _ _ h2 g2
    · omega
    · omega
    · omega

/-- A new row. -/
theorem HR.push {hp : List AObj} (h : HR F hp μ w) {c : Array Value} {el esz : Nat} {xs : List AV} (hx : VRL F μ w xs (c.toList.take xs.length)) (hl : xs.length ≤ c.size)
    {fr : Nat × Nat} (hf : NF fr c.size) {w' : World} (hw : w'.heap = w.heap.push (.cells c el fr)) (hoo : w'.os = w.os ∧ w'.output = w.output := by exact ⟨rfl, rfl⟩) :
    HR F (hp ++ [.row esz xs]) (μ ++ [.at w.heap.size 0 esz c.size]) w' ∧ Fr μ w (μ ++ [.at w.heap.size 0 esz c.size]) w' :=
  h.pushX (.row rfl (by omega) (by simpa using hx) hf) hw hoo

/-- An object that is no row of cells, where it lies. -/
theorem HR.objo {hp : List AObj} (h : HR F hp μ w) {o b base esz tot : Nat} {s : Shp} {cells : List AV} (hμ : μ[o]? = some (Nm.at b base esz tot)) (ho : hp[o]? = some (AObj.ob s cells)) :
    base = 0 ∧ ∃ y vs, w.heap[b]? = some y ∧ ShR s vs y ∧ VRL F μ w cells vs := by
  obtain ⟨x, y, h1, h2, h3⟩ := h.obj o b base esz tot hμ
  rw [ho] at h1; injection h1 with h1; subst h1
  cases h3 with
  | ob g1 g2 => exact ⟨rfl, _, _, h2, g1, g2⟩

/-- Such an object turned. -/
theorem HR.turn {hp : List AObj} (h : HR F hp μ w) {o b base esz tot : Nat} {s s' : Shp} {cells cells' : List AV} {y : Obj} {vs : List Value} (ho : hp[o]? = some (AObj.ob s cells)) (hμ : μ[o]? = some (Nm.at b base esz tot))
    (hs : ShR s' vs y) (hv : VRL F μ w cells' vs) (hw : w'.heap = w.heap.setIfInBounds b y) (hoo : w'.os = w.os ∧ w'.output = w.output := by exact ⟨rfl, rfl⟩) :
    HR F (hp.set o (.ob s' cells')) μ w' ∧ Fr μ w μ w' := by
  obtain ⟨hb0, y0, vs0, h1, h2, h3⟩ := h.objo hμ ho
  subst hb0
  have hF : Fr μ w μ w' := by
    refine ⟨by rw [hw]; simp, fun b' hb' hn => ?_, fun _ hb => .inl hb, fun _ _ hn => .inl hn, Nat.le_refl _, hoo⟩
    rw [hw]
    have : b ≠ b' := by rintro rfl; exact hn ⟨o, 0, esz, tot, hμ⟩
    rw [Array.getElem?_setIfInBounds_ne this]
  have hlt : o < hp.length := by
    rcases Nat.lt_or_ge o hp.length with k | k
    · exact k
    · simp [List.getElem?_eq_none k] at ho
  refine ⟨⟨by simp [h.len], fun o' b' base' esz' tot' ho' => ?_, fun o' ho' => ?_, fun o' x' ho' hx' => ?_, h.inj, h.foF hF, h.fbF hF, h.tbF hF⟩, hF⟩
  · obtain ⟨x', y', g1, g2, g3⟩ := h.obj o' b' base' esz' tot' ho'
    by_cases hoo : o = o'
    · subst hoo
      rw [hμ] at ho'
      injection ho' with ho'
      injection ho' with e1 e2 e3 e4
      subst e1; subst e2; subst e3; subst e4
      refine ⟨.ob s' cells', y, by simp [hlt], ?_, .ob hs (hv.mono hF)⟩
      rw [hw, Array.getElem?_setIfInBounds_self_of_lt (heap_lt h1)]
    · refine ⟨x', y', ?_, ?_, g3.mono hF⟩
      · rw [List.getElem?_set_ne hoo]; exact g1
      · have : b ≠ b' := by rintro rfl; exact hoo (h.inj _ _ _ _ _ _ _ _ _ hμ ho')
        rw [hw, Array.getElem?_setIfInBounds_ne this]; exact g2
  · have hoo : o ≠ o' := by rintro rfl; rw [hμ] at ho'; simp at ho'
    rw [List.getElem?_set_ne hoo]; exact h.em o' ho'
  · by_cases hoo : o = o'
    · subst hoo; rw [hμ]; simp
    · rw [List.getElem?_set_ne hoo] at ho'; exact h.live o' x' ho' hx'

def splice {α : Type} (l : List α) (i : Nat) (xs : List α) : List α := l.take i ++ xs ++ l.drop (i + xs.length)

theorem splice_length {α : Type} {l : List α} {i : Nat} {xs : List α} (h : i + xs.length ≤ l.length) : (splice l i xs).length = l.length := by
  simp [splice]; omega

theorem VRL.splice {xs ys : List AV} {vs us : List Value} {i : Nat} (h : VRL F μ w xs vs) (h' : VRL F μ w ys us) : VRL F μ w (splice xs i ys) (SL.splice vs i us) := by
  unfold SL.splice
  rw [h'.length]
  exact ((h.take i).append h').append (h.drop _)

theorem splice_nil {α : Type} (l : List α) (i : Nat) : splice l i [] = l := by simp [splice]

theorem splice_cons {α : Type} (l : List α) (i : Nat) (x : α) (xs : List α) (h : i < l.length) : splice l i (x :: xs) = splice (l.set i x) (i + 1) xs := by
  unfold splice
  have h1 : (l.set i x).take (i + 1) = l.take i ++ [x] := by
    rw [List.take_succ_eq_append_getElem (by simpa using h)]
    simp [List.take_set_of_le]
  rw [h1, List.drop_set_of_lt (by omega)]
  simp [Nat.add_assoc, Nat.add_comm 1]

/-- Cells stored one by one. -/
theorem run_storeL (P : Program) {b o el : Nat} {fr : Nat × Nat} : ∀ (vs : List Value) (i : Nat) (w : World) (c : Array Value), w.heap[b]? = some (Obj.cells c el fr) → o + i + vs.length ≤ c.size → NF fr c.size →
    (∀ v ∈ vs, v.oneCell' = true) → ∃ w' c', (storeCells ⟨b, o, none⟩ vs i).run P w = .ok () w' ∧ w'.heap = w.heap.setIfInBounds b (Obj.cells c' el fr) ∧ c'.size = c.size ∧ c'.toList = splice c.toList (o + i) vs ∧ w'.os = w.os ∧ w'.output = w.output
  | [], i, w, c, hb, _, _, _ => by
    refine ⟨w, c, rfl, ?_, rfl, (splice_nil _ _).symm, rfl, rfl⟩
    have hlt := heap_lt hb
    apply Array.ext (by simp)
    intro j h1 h2
    rw [Array.getElem_setIfInBounds (by simpa using h1)]
    split
    · rename_i hj; subst hj; rw [Array.getElem?_eq_getElem hlt] at hb; exact Option.some.inj hb
    · rfl
  | v :: vs, i, w, c, hb, hl, hf, h1 => by
    simp only [List.length_cons] at hl
    have hadd : (⟨b, o, none⟩ : Addr).add i = ⟨b, o + i, none⟩ := by unfold Addr.add; split <;> simp_all
    have hlt : o + i < c.size := by omega
    have hcell : w.cell? ⟨b, o + i, none⟩ = some c[o + i] := by simp [World.cell?, hb, hlt]
    have hfz : w.frozen? ⟨b, o + i, none⟩ = false := by
      have := hf.2 (o + i) hlt
      simp only [World.frozen?, hb]
      rw [Bool.eq_false_iff]
      intro h2
      simp at h2
      exact this h2
    have hst : (store ((⟨b, o, none⟩ : Addr).add i) v).run P w = .ok () (w.setCell ⟨b, o + i, none⟩ v) := by
      rw [hadd, run_store P w _ v _ (h1 v (by simp))]
      simp [hcell, hfz]
    have hheap : (w.setCell ⟨b, o + i, none⟩ v).heap = w.heap.setIfInBounds b (Obj.cells (c.setIfInBounds (o + i) v) el fr) := by
      have hlt' := heap_lt hb
      apply Array.ext (by simp [World.setCell])
      intro j g1 g2
      simp only [World.setCell, Array.getElem_modify]
      rw [Array.getElem_setIfInBounds (by simpa [World.setCell] using g1)]
      split
      · rename_i hj
        subst hj
        have : w.heap[b] = Obj.cells c el fr := by rw [Array.getElem?_eq_getElem hlt'] at hb; exact Option.some.inj hb
        simp [this]
      · rfl
    have hb' : (w.setCell ⟨b, o + i, none⟩ v).heap[b]? = some (Obj.cells (c.setIfInBounds (o + i) v) el fr) := by
      rw [hheap, Array.getElem?_setIfInBounds_self_of_lt (heap_lt hb)]
    obtain ⟨w', c', r1, r2, r3, r4, r5⟩ := run_storeL P (o := o) vs (i + 1) (w.setCell ⟨b, o + i, none⟩ v) (c.setIfInBounds (o + i) v) hb' (by simp; omega) (by simpa using hf) (fun x hx => h1 x (by simp [hx]))
    refine ⟨w', c', ?_, ?_, by simpa using r3, ?_, r5⟩
    · simp only [storeCells, Sem.run_bind, hst, Result.andThen_ok, r1]
    · rw [r2, hheap]
      apply Array.ext (by simp)
      intro j g1 g2
      by_cases hj : b = j <;> simp [Array.getElem_setIfInBounds, hj]
    · rw [r4, splice_cons _ _ _ _ (by simpa using hlt)]
      simp [Nat.add_assoc]

/-- A row that is written. -/
theorem HR.write {hp : List AObj} (h : HR F hp μ w) {o b base esz tot el : Nat} {cells : List AV} {c c' : Array Value} {fr : Nat × Nat} {off : Nat} {xs : List AV} {vs : List Value}
    (ho : hp[o]? = some (AObj.row esz cells)) (hμ : μ[o]? = some (Nm.at b base esz tot)) (hb : w.heap[b]? = some (Obj.cells c el fr)) (hv : VRL F μ w xs vs)
    (hlen : off + xs.length ≤ cells.length) (hw : w'.heap = w.heap.setIfInBounds b (Obj.cells c' el fr)) (hc : c'.size = c.size) (hc' : c'.toList = splice c.toList (base + off) vs) (hoo : w'.os = w.os ∧ w'.output = w.output := by exact ⟨rfl, rfl⟩) :
    HR F (hp.set o (.row esz (splice cells off xs))) μ w' ∧ Fr μ w μ w' := by
  obtain ⟨h1, c0, el0, fr0, h2, h3, h4, h5, h6⟩ := h.objr hμ ho
  rw [hb] at h2; injection h2 with h2; injection h2 with h2 h2' h2''; subst h2; subst h2'; subst h2''
  have hF : Fr μ w μ w' := by
    refine ⟨by rw [hw]; simp, fun b' hb' hn => ?_, fun _ hb => .inl hb, fun _ _ hn => .inl hn, Nat.le_refl _, hoo⟩
    rw [hw]
    have : b ≠ b' := by rintro rfl; exact hn ⟨o, base, esz, tot, hμ⟩
    rw [Array.getElem?_setIfInBounds_ne this]
  refine ⟨⟨by simp [h.len], fun o' b' base' esz' tot' ho' => ?_, fun o' ho' => ?_, fun o' x' ho' hx' => ?_, h.inj, h.foF hF, h.fbF hF, h.tbF hF⟩, hF⟩
  · obtain ⟨x', y', g1, g2, g3⟩ := h.obj o' b' base' esz' tot' ho'
    by_cases hoo : o = o'
    · subst hoo
      rw [hμ] at ho'
      injection ho' with ho'
      injection ho' with e1 e2 e3 e4
      subst e1; subst e2; subst e3; subst e4
      refine ⟨.row esz (splice cells off xs), .cells c' el fr, ?_, ?_, .row (by rw [hc, h3]) (by rw [splice_length hlen]; exact h4) ?_ h6⟩
      · have : o < hp.length := by
          rcases Nat.lt_or_ge o hp.length with k | k
          · exact k
          · simp [List.getElem?_eq_none k] at ho
        simp [this]
      · rw [hw, Array.getElem?_setIfInBounds_self_of_lt (heap_lt hb)]
      · rw [splice_length hlen]
        have e : ((c'.toList.drop base).take cells.length) = splice ((c.toList.drop base).take cells.length) off vs := by
          rw [hc']
          have hl : c.toList.length = tot := by simpa using h3
          have hvl : vs.length = xs.length := hv.length.symm
          apply List.ext_getElem?
          intro j
          simp only [splice, List.getElem?_take, List.getElem?_drop, List.getElem?_append, List.length_append, List.length_take, List.length_drop]
          grind
        rw [e]
        exact (h5.mono hF).splice (hv.mono hF)
    · refine ⟨x', y', ?_, ?_, g3.mono hF⟩
      · rw [List.getElem?_set_ne hoo]; exact g1
      · have : b ≠ b' := by rintro rfl; exact hoo (h.inj _ _ _ _ _ _ _ _ _ hμ ho')
        rw [hw, Array.getElem?_setIfInBounds_ne this]; exact g2
  · have hoo : o ≠ o' := by rintro rfl; rw [hμ] at ho'; simp at ho'
    rw [List.getElem?_set_ne hoo]; exact h.em o' ho'
  · by_cases hoo : o = o'
    · subst hoo; rw [hμ]; simp
    · rw [List.getElem?_set_ne hoo] at ho'; exact h.live o' x' ho' hx'

/-- A row's block marked behind its cells. -/
theorem HR.mark {hp : List AObj} (h : HR F hp μ w) {o b base esz tot el : Nat} {c : Array Value} {fr fr' : Nat × Nat}
    (hμ : μ[o]? = some (Nm.at b base esz tot)) (hb : w.heap[b]? = some (Obj.cells c el fr)) (hN : NF fr' c.size) (hw : w'.heap = w.heap.setIfInBounds b (Obj.cells c el fr')) (hoo : w'.os = w.os ∧ w'.output = w.output := by exact ⟨rfl, rfl⟩) :
    HR F hp μ w' ∧ Fr μ w μ w' := by
  have hF : Fr μ w μ w' := by
    refine ⟨by rw [hw]; simp, fun b' hb' hn => ?_, fun _ hb => .inl hb, fun _ _ hn => .inl hn, Nat.le_refl _, hoo⟩
    rw [hw]
    have : b ≠ b' := by rintro rfl; exact hn ⟨o, base, esz, tot, hμ⟩
    rw [Array.getElem?_setIfInBounds_ne this]
  refine ⟨⟨h.len, fun o' b' base' esz' tot' ho' => ?_, h.em, h.live, h.inj, h.foF hF, h.fbF hF, h.tbF hF⟩, hF⟩
  obtain ⟨x', y', g1, g2, g3⟩ := h.obj o' b' base' esz' tot' ho'
  by_cases hbb : b = b'
  · subst hbb
    rw [hb] at g2; injection g2 with g2; subst g2
    refine ⟨x', .cells c el fr', g1, by rw [hw, Array.getElem?_setIfInBounds_self_of_lt (heap_lt hb)], ?_⟩
    cases g3 with
    | row k1 k2 k3 k4 => exact .row k1 k2 (k3.mono hF) (k1 ▸ hN)
    | ob k1 k2 => cases k1
  · exact ⟨x', y', g1, by rw [hw, Array.getElem?_setIfInBounds_ne hbb]; exact g2, g3.mono hF⟩

def cellAV : AV → Bool
  | .any | .agg _ | .tup _ => false
  | .sc v => v.oneCell'
  | _ => true

theorem VR.oneCell {x : AV} {v : Value} (h : VR F μ w x v) (hx : cellAV x = true) : v.oneCell' = true := by
  cases h <;> first | rfl | (simpa [cellAV] using hx)

theorem VRL.oneCell {xs : List AV} {vs : List Value} (h : VRL F μ w xs vs) (hx : xs.all cellAV = true) : ∀ v ∈ vs, v.oneCell' = true := by
  induction xs generalizing vs with
  | nil => cases h; simp
  | cons x xs ih =>
    cases h with
    | cons h t =>
      simp only [List.all_cons, Bool.and_eq_true] at hx
      intro v hv
      simp only [List.mem_cons] at hv
      rcases hv with rfl | hv
      · exact h.oneCell hx.1
      · exact ih t hx.2 v hv

/-- Cells read one by one. -/
theorem run_loadL (P : Program) {b off el : Nat} {fr : Nat × Nat} {c : Array Value} {w : World} (k : Nat) (hb : w.heap[b]? = some (Obj.cells c el fr)) (hl : off + k ≤ c.size) :
    (loadCells ⟨b, off, none⟩ k).run P w = .ok ((c.toList.drop off).take k).toArray w := by
  have hk : ((c.toList.drop off).take k).length = k := by simp; omega
  have := run_loadCells_list (P := P) w ⟨b, off, none⟩ ((c.toList.drop off).take k) (fun j v hj => by
    have hj' : j < k := by
      rcases Nat.lt_or_ge j k with h | h
      · exact h
      · rw [List.getElem?_eq_none (by rw [hk]; exact h)] at hj; simp at hj
    have hadd : (⟨b, off, none⟩ : Addr).add j = ⟨b, off + j, none⟩ := by unfold Addr.add; split <;> simp_all
    rw [hadd]
    simp only [World.cell?, hb]
    simp only [List.getElem?_take, hj', if_true, List.getElem?_drop] at hj
    simpa using hj)
  rw [hk] at this
  exact this

end Go.SL

set_option linter.unusedSimpArgs false
set_option linter.unnecessarySimpa false
set_option linter.unusedVariables false
set_option linter.unusedSectionVars false
namespace Go.SL
open Go
variable [Tabs]

variable {F : Nat → Prop} {μ μ' μ'' : List Nm} {w w' w'' : World} {P : Program} {n : Nat} {env : Nat → AV} {hp : List AObj}
variable {dst : Option Nat} {ty : TypeId} {pos : String} {after : Array Edge} {guard : Option (Nat × Bool)}

abbrev SizeOf (P : Program) (t : TypeId) (k : Nat) : Prop := ∀ w, (sizeOf t).run P w = .ok k w
abbrev IsAgg (P : Program) (t : TypeId) (b : Bool) : Prop := ∀ w, (isAgg t).run P w = .ok b w
abbrev Und (P : Program) (t : TypeId) (d : TypeDesc) : Prop := ∀ w, (underlying t).run P w = .ok d w
abbrev ZeroV (P : Program) (t : TypeId) (v : Value) : Prop := ∀ w, (zeroValue t).run P w = .ok v w

theorem Step.of {o : Oper} {x : AV} {hp' : List AObj} (h : ∀ (F : Nat → Prop) (μ : List Nm) (w : World) (a : Act), HR F hp μ w → EnvR F env μ w a.tmps → ∃ v w' μ',
    (execOp a.eval o).run P w = .ok (.value v) w' ∧ HR F hp' μ' w' ∧ VR F μ' w' x v ∧ Fr μ w μ' w') : Step P o env hp (is x hp') := by
  intro F μ w a hr he next Q k
  obtain ⟨v, w', μ', h1, h2, h3, h4⟩ := h F μ w a hr he
  unfold Oper.wp
  rw [h1]
  exact k x v hp' μ' w' ⟨rfl, rfl⟩ h2 h3 h4

theorem Step.of_skip {o : Oper} {hp' : List AObj} (h : ∀ (F : Nat → Prop) (μ : List Nm) (w : World) (a : Act), HR F hp μ w → EnvR F env μ w a.tmps → ∃ w' μ',
    (execOp a.eval o).run P w = .ok .skip w' ∧ HR F hp' μ' w' ∧ Fr μ w μ' w') : Step P o env hp (is (.sc undef) hp') := by
  intro F μ w a hr he next Q k
  obtain ⟨w', μ', h1, h2, h4⟩ := h F μ w a hr he
  unfold Oper.wp
  rw [h1]
  exact k _ undef hp' μ' w' ⟨rfl, rfl⟩ h2 (.sc plain_undef) h4

/-- What needs no memory. -/
theorem Step.val {o : Oper} {x : AV} (h : ∀ (F : Nat → Prop) (μ : List Nm) (w : World) (a : Act), HR F hp μ w → EnvR F env μ w a.tmps → ∃ v,
    (execOp a.eval o).run P w = .ok (.value v) w ∧ VR F μ w x v) : Step P o env hp (is x hp) :=
  Step.of fun F μ w a hr he => by
    obtain ⟨v, h1, h2⟩ := h F μ w a hr he
    exact ⟨v, w, μ, h1, hr, h2, Fr.refl _ _⟩

theorem step_move {x : Operand} : Step P ⟨dst, .move x, ty, pos, after, guard⟩ env hp (is (opd env x) hp) :=
  Step.val fun F μ w a hr he => ⟨a.eval x, rfl, he.opd x⟩
theorem step_assign {x : Operand} : Step P ⟨dst, .assign x, ty, pos, after, guard⟩ env hp (is (opd env x) hp) :=
  Step.val fun F μ w a hr he => ⟨a.eval x, rfl, he.opd x⟩

theorem EnvR.sc {a : Act} (h : EnvR F env μ w a.tmps) {x : Operand} {v : Value} (hx : SL.opd env x = .sc v) : a.eval x = v := by
  have := h.opd x
  rw [hx] at this
  exact this.sc_inv

theorem step_pick_t {c x y : Operand} {b : Bool} (hc : opd env c = .sc (.bool b)) (hb : b = true) : Step P ⟨dst, .pick c x y, ty, pos, after, guard⟩ env hp (is (opd env x) hp) :=
  Step.val fun F μ w a hr he => ⟨a.eval x, by simp [execOp, he.sc hc, asBool, hb], he.opd x⟩
theorem step_pick_f {c x y : Operand} {b : Bool} (hc : opd env c = .sc (.bool b)) (hb : b = false) : Step P ⟨dst, .pick c x y, ty, pos, after, guard⟩ env hp (is (opd env y) hp) :=
  Step.val fun F μ w a hr he => ⟨a.eval y, by simp [execOp, he.sc hc, asBool, hb], he.opd y⟩

theorem step_not {t : TypeId} {x : Operand} {b : Bool} (hx : opd env x = .sc (.bool b)) : Step P ⟨dst, .unOp .not t x, ty, pos, after, guard⟩ env hp (is (.sc (.bool !b)) hp) :=
  Step.val fun F μ w a hr he => ⟨.bool !b, by simp [execOp, he.sc hx, Op.unary], .sc rfl⟩

theorem step_xor1 {t : TypeId} {x : Operand} {k : IntKind} {m : Int} (hx : opd env x = .sc (.int k m)) :
    Step P ⟨dst, .unOp .xor t x, ty, pos, after, guard⟩ env hp (is (.sc (.int k (k.wrap (BitVec.ofInt k.bits (if k.signed then -1 else k.max) ^^^ BitVec.ofInt k.bits m).toNat))) hp) :=
  Step.val fun F μ w a hr he => ⟨_, by simp [execOp, he.sc hx, Op.unary, Op.intBits], .sc rfl⟩

theorem step_neg {t : TypeId} {x : Operand} {k : IntKind} {m : Int} (hx : opd env x = .sc (.int k m)) : Step P ⟨dst, .unOp .neg t x, ty, pos, after, guard⟩ env hp (is (.sc (.int k (k.wrap (0 - m)))) hp) :=
  Step.val fun F μ w a hr he => ⟨_, by simp [execOp, he.sc hx, Op.unary, Op.intArith], .sc rfl⟩

theorem eqGuard_int {op : BinOp} {t : TypeId} {x y : Operand} {k k' : IntKind} {p q : Int} : (eqGuard op t x y (.int k p) (.int k' q)).run P w = .ok () w := by
  cases op <;> rfl
theorem eqGuard_bool {op : BinOp} {t : TypeId} {x y : Operand} {p q : Bool} : (eqGuard op t x y (.bool p) (.bool q)).run P w = .ok () w := by
  cases op <;> rfl
theorem eqGuard_str {op : BinOp} {t : TypeId} {x y : Operand} {p q : ByteArray} : (eqGuard op t x y (.string p) (.string q)).run P w = .ok () w := by
  cases op <;> rfl

/-- Whole numbers of one kind: what an operator gives; none: the code would not go on. -/
def int2 (op : BinOp) (k : IntKind) (x y : Int) : Option Value :=
  match op with
  | .add => some (.int k (k.wrap (x + y)))
  | .sub => some (.int k (k.wrap (x - y)))
  | .mul => some (.int k (k.wrap (x * y)))
  | .and => some (.int k (k.wrap (BitVec.ofInt k.bits x &&& BitVec.ofInt k.bits y).toNat))
  | .or => some (.int k (k.wrap (BitVec.ofInt k.bits x ||| BitVec.ofInt k.bits y).toNat))
  | .xor => some (.int k (k.wrap (BitVec.ofInt k.bits x ^^^ BitVec.ofInt k.bits y).toNat))
  | .andNot => some (.int k (k.wrap (BitVec.ofInt k.bits x &&& ~~~BitVec.ofInt k.bits y).toNat))
  | .eql => some (.bool (x == y))
  | .neq => some (.bool (x != y))
  | .lss => some (.bool (x < y))
  | .leq => some (.bool (x ≤ y))
  | .gtr => some (.bool (x > y))
  | .geq => some (.bool (x ≥ y))
  | _ => none

theorem step_int2 {op : BinOp} {t t' : TypeId} {x y : Operand} {k : IntKind} {p q : Int} {v : Value} (hx : opd env x = .sc (.int k p)) (hy : opd env y = .sc (.int k q)) (hv : int2 op k p q = some v) :
    Step P ⟨dst, .binOp op t x y t', ty, pos, after, guard⟩ env hp (is (.sc v) hp) := by
  refine Step.val fun F μ w a hr he => ⟨v, ?_, ?_⟩
  · simp only [execOp, he.sc hx, he.sc hy, Sem.run_bind, eqGuard_int, Result.andThen_ok, binOp]
    cases op <;> simp [int2] at hv <;> subst hv <;>
      simp [binOp, Op.intArith, Op.intBits, Op.intCmp]
  · cases op <;> simp [int2] at hv <;> subst hv <;> exact .sc rfl

theorem step_quo {t t' : TypeId} {x y : Operand} {k : IntKind} {p q : Int} (hx : opd env x = .sc (.int k p)) (hy : opd env y = .sc (.int k q)) (hq : q ≠ 0) :
    Step P ⟨dst, .binOp .quo t x y t', ty, pos, after, guard⟩ env hp (is (.sc (.int k (k.wrap (p.tdiv q)))) hp) :=
  Step.val fun F μ w a hr he => ⟨_, by
    simp only [execOp, he.sc hx, he.sc hy, Sem.run_bind, eqGuard_int, Result.andThen_ok, binOp]
    simp [Op.intDiv, hq], .sc rfl⟩
theorem step_rem {t t' : TypeId} {x y : Operand} {k : IntKind} {p q : Int} (hx : opd env x = .sc (.int k p)) (hy : opd env y = .sc (.int k q)) (hq : q ≠ 0) :
    Step P ⟨dst, .binOp .rem t x y t', ty, pos, after, guard⟩ env hp (is (.sc (.int k (p.tmod q))) hp) :=
  Step.val fun F μ w a hr he => ⟨_, by
    simp only [execOp, he.sc hx, he.sc hy, Sem.run_bind, eqGuard_int, Result.andThen_ok, binOp]
    simp [Op.intDiv, hq], .sc rfl⟩

theorem step_shl {t t' : TypeId} {x y : Operand} {k k' : IntKind} {p q : Int} (hx : opd env x = .sc (.int k p)) (hy : opd env y = .sc (.int k' q)) (hq : 0 ≤ q) :
    Step P ⟨dst, .binOp .shl t x y t', ty, pos, after, guard⟩ env hp (is (.sc (.int k (k.wrap (p * 2 ^ min q.toNat k.bits)))) hp) :=
  Step.val fun F μ w a hr he => ⟨_, by
    simp only [execOp, he.sc hx, he.sc hy, Sem.run_bind, eqGuard_int, Result.andThen_ok, binOp]
    simp [Op.shift, Int.not_lt.mpr hq], .sc rfl⟩
theorem step_shr {t t' : TypeId} {x y : Operand} {k k' : IntKind} {p q : Int} (hx : opd env x = .sc (.int k p)) (hy : opd env y = .sc (.int k' q)) (hq : 0 ≤ q) :
    Step P ⟨dst, .binOp .shr t x y t', ty, pos, after, guard⟩ env hp (is (.sc (.int k (p.fdiv (2 ^ min q.toNat k.bits)))) hp) :=
  Step.val fun F μ w a hr he => ⟨_, by
    simp only [execOp, he.sc hx, he.sc hy, Sem.run_bind, eqGuard_int, Result.andThen_ok, binOp]
    simp [Op.shift, Int.not_lt.mpr hq], .sc rfl⟩

def str2 (op : BinOp) (x y : ByteArray) : Option Value :=
  match op with
  | .eql => some (.bool (x.toList == y.toList))
  | .neq => some (.bool !(x.toList == y.toList))
  | .lss => some (.bool (Op.bytesLess x.toList y.toList))
  | .leq => some (.bool (Op.bytesLess x.toList y.toList || x.toList == y.toList))
  | .gtr => some (.bool !(Op.bytesLess x.toList y.toList || x.toList == y.toList))
  | .geq => some (.bool !(Op.bytesLess x.toList y.toList))
  | _ => none

theorem step_str2 {op : BinOp} {t t' : TypeId} {x y : Operand} {p q : ByteArray} {v : Value} (hx : opd env x = .sc (.string p)) (hy : opd env y = .sc (.string q)) (hv : str2 op p q = some v) :
    Step P ⟨dst, .binOp op t x y t', ty, pos, after, guard⟩ env hp (is (.sc v) hp) := by
  refine Step.val fun F μ w a hr he => ⟨v, ?_, ?_⟩
  · simp only [execOp, he.sc hx, he.sc hy, Sem.run_bind, eqGuard_str, Result.andThen_ok, binOp]
    cases op <;> simp [str2] at hv <;> subst hv <;> simp [binOp, Op.stringOp]
  · cases op <;> simp [str2] at hv <;> subst hv <;> exact .sc rfl

theorem step_cat {t t' : TypeId} {x y : Operand} {p q : ByteArray} (hx : opd env x = .sc (.string p)) (hy : opd env y = .sc (.string q)) (hl : p.size + q.size ≤ 9223372036854775807) :
    Step P ⟨dst, .binOp .add t x y t', ty, pos, after, guard⟩ env hp (is (.sc (.string (p ++ q))) hp) :=
  Step.val fun F μ w a hr he => ⟨_, by
    simp only [execOp, he.sc hx, he.sc hy, Sem.run_bind, eqGuard_str, Result.andThen_ok, binOp]
    have : ¬ (((p.size + q.size : Nat) : Int) > IntKind.i64.max) := by have : IntKind.i64.max = 9223372036854775807 := rfl; omega
    simp only [Op.stringOp, if_neg this, Sem.run_pure, Sem.run_bind, Result.andThen_ok], .sc rfl⟩

theorem run_eqBool {t : TypeId} {p q : Bool} (ht : Und P t .bool) : (Op.equal t (.bool p) (.bool q)).run P w = .ok (p == q) w := by
  unfold Op.equal Op.maxDepth
  rw [Op.equalIn]
  simp only [Sem.run_bind, ht w, Result.andThen_ok]
  rfl

theorem step_eqBool {t t' : TypeId} {x y : Operand} {p q : Bool} (ht : Und P t .bool) (hx : opd env x = .sc (.bool p)) (hy : opd env y = .sc (.bool q)) :
    Step P ⟨dst, .binOp .eql t x y t', ty, pos, after, guard⟩ env hp (is (.sc (.bool (p == q))) hp) :=
  Step.val fun F μ w a hr he => ⟨_, by
    simp only [execOp, he.sc hx, he.sc hy, Sem.run_bind, eqGuard_bool, Result.andThen_ok, binOp]
    simp only [Sem.run_bind, run_eqBool ht, Result.andThen_ok]; rfl, .sc rfl⟩
theorem step_neBool {t t' : TypeId} {x y : Operand} {p q : Bool} (ht : Und P t .bool) (hx : opd env x = .sc (.bool p)) (hy : opd env y = .sc (.bool q)) :
    Step P ⟨dst, .binOp .neq t x y t', ty, pos, after, guard⟩ env hp (is (.sc (.bool !(p == q))) hp) :=
  Step.val fun F μ w a hr he => ⟨_, by
    simp only [execOp, he.sc hx, he.sc hy, Sem.run_bind, eqGuard_bool, Result.andThen_ok, binOp]
    simp only [Sem.run_bind, run_eqBool ht, Result.andThen_ok]; rfl, .sc rfl⟩

theorem step_conv {s t : TypeId} {x : Operand} {k k' : IntKind} {p : Int} {d : TypeDesc} (hs : Und P s d) (ht : Und P t (.int k')) (hx : opd env x = .sc (.int k p)) :
    Step P ⟨dst, .convert s t x, ty, pos, after, guard⟩ env hp (is (.sc (.int k' (k'.wrap p))) hp) :=
  Step.val fun F μ w a hr he => ⟨_, by simp [execOp, he.sc hx, convert, hs, ht, Conv.intToInt], .sc rfl⟩

theorem step_extract {x : Operand} {i : Nat} {xs : List AV} {y : AV} (hx : opd env x = .tup xs) (hy : xs[i]? = some y) :
    Step P ⟨dst, .extract x i, ty, pos, after, guard⟩ env hp (is y hp) := by
  refine Step.val fun F μ w a hr he => ?_
  have h := he.opd x
  rw [hx] at h
  generalize ha : a.eval x = v at h
  cases h with
  | tup h =>
    obtain ⟨v, h1, h2⟩ := h.get hy
    have h1' := (Array.getElem?_toList ..).symm.trans h1
    exact ⟨v, by simp [execOp, ha, Instr.extract, h1'], h2⟩

theorem EnvR.ptr {a : Act} (h : EnvR F env μ w a.tmps) (hr : HR F hp μ w) {x : Operand} {o off esz : Nat} {cells : List AV} (hx : SL.opd env x = .ptr o off)
    (ho : hp[o]? = some (AObj.row esz cells)) : ∃ b base tot c el fr, a.eval x = .pointer (some ⟨b, base + off, none⟩) ∧ μ[o]? = some (Nm.at b base esz tot) ∧
      w.heap[b]? = some (Obj.cells c el fr) ∧ c.size = tot ∧ base + cells.length ≤ tot ∧ VRL F μ w cells ((c.toList.drop base).take cells.length) ∧ NF fr tot := by
  have h1 := h.opd x
  rw [hx] at h1
  generalize a.eval x = v at h1
  rcases hr.row ho with h2 | ⟨h2, _⟩ | ⟨b, base, tot, c, el, fr, h2, h3, h4, h5, h6, h7⟩
  · cases h1 with
    | ptr h => rw [h2] at h; simp at h
    | ptrD h => rw [h2] at h; simp at h
  · cases h1 with
    | ptr h => rw [h2] at h; simp at h
    | ptrD h => rw [h2] at h; simp at h
  · cases h1 with
    | ptr h =>
      rw [h2] at h
      injection h with h; injection h with e1 e2 e3 e4
      subst e1; subst e2; subst e3; subst e4
      exact ⟨_, _, _, c, el, fr, rfl, h2, h3, h4, h5, h6, h7⟩
    | ptrD h => rw [h2] at h; simp at h

theorem window_get {cells : List AV} {l : List Value} {base off : Nat} {y : AV} (hv : VRL F μ w cells ((l.drop base).take cells.length)) (hy : cells[off]? = some y) :
    ∃ v, l[base + off]? = some v ∧ VR F μ w y v := by
  obtain ⟨v, h1, h2⟩ := hv.get hy
  have hlt : off < cells.length := by
    rcases Nat.lt_or_ge off cells.length with k | k
    · exact k
    · simp [List.getElem?_eq_none k] at hy
  simp only [List.getElem?_take, hlt, if_true, List.getElem?_drop] at h1
  exact ⟨v, h1, h2⟩

theorem window_sub {cells : List AV} {l : List Value} {base off k : Nat} (hv : VRL F μ w cells ((l.drop base).take cells.length)) (hk : off + k ≤ cells.length) :
    VRL F μ w ((cells.drop off).take k) ((l.drop (base + off)).take k) := by
  have := (hv.drop off).take k
  have e : ((((l.drop base).take cells.length).drop off).take k) = ((l.drop (base + off)).take k) := by
    rw [List.drop_take, List.take_take, List.drop_drop, Nat.min_eq_left (by omega)]
  rw [e] at this
  exact this

theorem step_load {t : TypeId} {x : Operand} {o off esz : Nat} {cells : List AV} {y : AV} (ha : IsAgg P t false) (hx : opd env x = .ptr o off) (ho : hp[o]? = some (AObj.row esz cells))
    (hy : cells[off]? = some y) : Step P ⟨dst, .load t x, ty, pos, after, guard⟩ env hp (is y hp) := by
  refine Step.val fun F μ w a hr he => ?_
  obtain ⟨b, base, tot, c, el, fr, h1, h2, h3, h4, h5, h6, h7⟩ := he.ptr hr hx ho
  obtain ⟨v, g1, g2⟩ := window_get h6 hy
  refine ⟨v, ?_, g2⟩
  have : w.cell? ⟨b, base + off, none⟩ = some v := by simp [World.cell?, h3]; simpa using g1
  simp [execOp, h1, Instr.loadAt, Instr.sureAddr, loadVar, ha w, this]

theorem step_loadA {t : TypeId} {x : Operand} {o off esz k : Nat} {cells : List AV} (ha : IsAgg P t true) (hs : SizeOf P t k) (hx : opd env x = .ptr o off) (ho : hp[o]? = some (AObj.row esz cells))
    (hk : off + k ≤ cells.length) : Step P ⟨dst, .load t x, ty, pos, after, guard⟩ env hp (is (.agg ((cells.drop off).take k)) hp) := by
  refine Step.val fun F μ w a hr he => ?_
  obtain ⟨b, base, tot, c, el, fr, h1, h2, h3, h4, h5, h6, h7⟩ := he.ptr hr hx ho
  refine ⟨.agg ((c.toList.drop (base + off)).take k).toArray, ?_, .agg (by simpa using window_sub h6 hk)⟩
  have := run_loadL P (off := base + off) k h3 (by omega)
  simp [execOp, h1, Instr.loadAt, Instr.sureAddr, loadVar, ha w, hs w, this]

theorem EnvR.ip {a : Act} (h : EnvR F env μ w a.tmps) {x : Operand} {i : Nat} {cells : List AV} (hx : SL.opd env x = .ip cells i) :
    ∃ b off c el fr, a.eval x = .pointer (some ⟨b, off + i, none⟩) ∧ w.heap[b]? = some (Obj.cells c el fr) ∧ VRL F μ w cells ((c.toList.drop off).take cells.length) := by
  have h1 := h.opd x
  rw [hx] at h1
  generalize a.eval x = v at h1
  cases h1 with
  | ip h hb hF hx => exact ⟨_, _, _, _, _, rfl, h, hx⟩

theorem step_loadI {t : TypeId} {x : Operand} {i : Nat} {cells : List AV} {y : AV} (ha : IsAgg P t false) (hx : opd env x = .ip cells i)
    (hy : cells[i]? = some y) : Step P ⟨dst, .load t x, ty, pos, after, guard⟩ env hp (is y hp) := by
  refine Step.val fun F μ w a hr he => ?_
  obtain ⟨b, off, c, el, fr, h1, h3, h6⟩ := he.ip hx
  obtain ⟨v, g1, g2⟩ := window_get h6 hy
  refine ⟨v, ?_, g2⟩
  have : w.cell? ⟨b, off + i, none⟩ = some v := by simp [World.cell?, h3]; simpa using g1
  simp [execOp, h1, Instr.loadAt, Instr.sureAddr, loadVar, ha w, this]

theorem step_loadIA {t : TypeId} {x : Operand} {i k : Nat} {cells : List AV} (ha : IsAgg P t true) (hs : SizeOf P t k) (hx : opd env x = .ip cells i)
    (hk : i + k ≤ cells.length) : Step P ⟨dst, .load t x, ty, pos, after, guard⟩ env hp (is (.agg ((cells.drop i).take k)) hp) := by
  refine Step.val fun F μ w a hr he => ?_
  obtain ⟨b, off, c, el, fr, h1, h3, h6⟩ := he.ip hx
  refine ⟨.agg ((c.toList.drop (off + i)).take k).toArray, ?_, .agg (by simpa using window_sub h6 hk)⟩
  have hl := h6.length
  simp only [List.length_take, List.length_drop, Array.length_toList] at hl
  rcases Nat.eq_zero_or_pos k with hk0 | hk0
  · subst hk0
    simp [execOp, h1, Instr.loadAt, Instr.sureAddr, loadVar, ha w, hs w, loadCells, loadCellsFrom]
  · have := run_loadL P (off := off + i) k h3 (by omega)
    simp [execOp, h1, Instr.loadAt, Instr.sureAddr, loadVar, ha w, hs w, this]

@[reducible] def cellsOf : AV → List AV
  | .agg xs => xs
  | x => [x]

theorem VR.cells {x : AV} {v : Value} (h : VR F μ w x v) (hx : (cellsOf x).all cellAV = true) : VRL F μ w (cellsOf x) v.cells.toList := by
  cases h with
  | agg h => exact h
  | any => simp [cellsOf, cellAV] at hx
  | tup h => simp [cellsOf, cellAV] at hx
  | sc h =>
    have : v.cells.toList = [v] := by cases v <;> first | rfl | (simp [plainV] at h)
    rw [this]
    exact .cons (.sc h) .nil
  | ptr h => exact .cons (.ptr h) .nil
  | ptrD h => exact .cons (.ptrD h) .nil
  | sl h hc hl => exact .cons (.sl h hc hl) .nil
  | slN h => exact .cons (.slN h) .nil
  | slD h => exact .cons (.slD h) .nil
  | slE h => exact .cons (.slE h) .nil
  | nil => exact .cons .nil .nil
  | im0 => exact .cons .im0 .nil
  | im h hb hF hn hn2 hy => exact .cons (.im h hb hF hn hn2 hy) .nil
  | ip h hb hF hy => exact .cons (.ip h hb hF hy) .nil
  | fn h1 h2 => exact .cons (.fn h1 h2) .nil
  | ifc h => exact .cons (.ifc h) .nil
  | mp h => exact .cons (.mp h) .nil
  | mpD h => exact .cons (.mpD h) .nil

theorem step_store {t : TypeId} {x y : Operand} {o off esz k : Nat} {cells : List AV} {v : AV} (hs : SizeOf P t k) (hx : opd env x = .ptr o off) (ho : hp[o]? = some (AObj.row esz cells))
    (hy : opd env y = v) (hc : (cellsOf v).all cellAV = true) (hk : (cellsOf v).length = k) (hl : off + k ≤ cells.length) :
    Step P ⟨dst, .store t x y, ty, pos, after, guard⟩ env hp (is (.sc undef) (hp.set o (.row esz (splice cells off (cellsOf v))))) := by
  refine Step.of_skip fun F μ w a hr he => ?_
  obtain ⟨b, base, tot, c, el, fr, h1, h2, h3, h4, h5, h6, h7⟩ := he.ptr hr hx ho
  have hv := he.opd y
  rw [hy] at hv
  have hvl := hv.cells hc
  have hsz : (a.eval y).cells.size = k := by have := hvl.length; simp at this; omega
  obtain ⟨w', c', r1, r2, r3, r4, r5⟩ := run_storeL P (o := base + off) (a.eval y).cells.toList 0 w c h3 (by simp; omega) (h4 ▸ h7) (hvl.oneCell hc)
  obtain ⟨g1, g2⟩ := hr.write (off := off) ho h2 h3 hvl (by omega) r2 r3 (by simpa using r4) r5
  refine ⟨w', μ, ?_, g1, g2⟩
  have r1' : (storeCells ⟨b, base + off, none⟩ (a.eval y).cells.toList).run P w = .ok () w' := r1
  simp [execOp, h1, Instr.storeAt, Instr.sureAddr, storeVar, hs w, hsz, r1']

theorem litL_take (l : List Value) : VRL F μ w (l.map litC) (l.take (l.map litC).length) := by
  rw [List.length_map, List.take_of_length_le (Nat.le_refl _)]; exact litL_rel l

theorem NF_zero (k : Nat) : NF (0, 0) k := ⟨Nat.le_refl _, fun i _ h => by simp at h⟩

/-- Where a field begins (its cells are not none). -/
def FieldOff (P : Program) (s f k : Nat) : Prop := ∃ fields fld, P.underlying s = some (.struct fields) ∧ fields[f]? = some fld ∧ fld.offset = k ∧ ∃ i, P.info? fld.type = some i ∧ i.size ≠ 0

def fieldOffB (P : Program) (s f : Nat) : Option Nat :=
  match P.underlying s with
  | some (.struct fields) => match fields[f]? with
    | some fld => match P.info? fld.type with
      | some i => if i.size = 0 then none else some fld.offset
      | none => none
    | none => none
  | _ => none

theorem FieldOff.mk {s f k : Nat} (h : fieldOffB P s f = some k) : FieldOff P s f k := by
  unfold fieldOffB at h
  split at h
  · rename_i fields h1
    split at h
    · rename_i fld h2
      split at h
      · rename_i i h3
        split at h
        · simp at h
        · rename_i h4
          exact ⟨fields, fld, h1, h2, Option.some.inj h, i, h3, h4⟩
      · simp at h
    · simp at h
  · simp at h

theorem run_und {t : TypeId} {d : TypeDesc} (h : P.underlying t = some d) : (underlying t).run P w = .ok d w := by simp [underlying, h]

theorem run_fieldAt {s f k : Nat} (h : FieldOff P s f k) {b off : Nat} : (Instr.fieldAt s (.pointer (some ⟨b, off, none⟩)) f).run P w = .ok (.pointer (some ⟨b, off + k, none⟩)) w := by
  obtain ⟨fields, fld, h1, h2, h3, i, h4, h5⟩ := h
  have hadd : (⟨b, off, none⟩ : Addr).add k = ⟨b, off + k, none⟩ := by unfold Addr.add; split <;> simp_all
  have hsz : (sizeOf fld.type).run P w = .ok i.size w := by simp [sizeOf, typeInfo, h4]
  simp [Instr.fieldAt, run_und h1, h2, Instr.sureAddr, fieldPlace, hsz, h5, h3, hadd]

theorem step_field {s f k : Nat} {x : Operand} {o off esz : Nat} {cells : List AV} (hf : FieldOff P s f k) (hx : opd env x = .ptr o off) (ho : hp[o]? = some (AObj.row esz cells)) :
    Step P ⟨dst, .fieldAddr s x f, ty, pos, after, guard⟩ env hp (is (.ptr o (off + k)) hp) := by
  refine Step.val fun F μ w a hr he => ?_
  obtain ⟨b, base, tot, c, el, fr, h1, h2, h3, h4, h5, h6, h7⟩ := he.ptr hr hx ho
  refine ⟨.pointer (some ⟨b, base + off + k, none⟩), ?_, ?_⟩
  · simp [execOp, h1, run_fieldAt hf]
  · rw [Nat.add_assoc]; exact .ptr h2

theorem step_fieldI {s f k : Nat} {x : Operand} {i : Nat} {cells : List AV} (hf : FieldOff P s f k) (hx : opd env x = .ip cells i) :
    Step P ⟨dst, .fieldAddr s x f, ty, pos, after, guard⟩ env hp (is (.ip cells (i + k)) hp) := by
  refine Step.val fun F μ w a hr he => ?_
  have h1 := he.opd x
  rw [hx] at h1
  generalize ha : a.eval x = v at h1
  cases h1 with
  | ip h hb hF hx =>
    rename_i b off c el fr
    refine ⟨.pointer (some ⟨b, off + i + k, none⟩), ?_, ?_⟩
    · simp [execOp, ha, run_fieldAt hf]
    · rw [Nat.add_assoc]; exact .ip h hb hF hx

theorem step_lenS {t : TypeId} {x : Operand} {s : ByteArray} (ht : Und P t .string) (hx : opd env x = .sc (.string s)) :
    Step P ⟨dst, .call ⟨.builtin .len, #[x], #[t]⟩, ty, pos, after, guard⟩ env hp (is (.sc (.int .i64 s.size)) hp) :=
  Step.val fun F μ w a hr he => ⟨_, by simp [execOp, resolve, he.sc hx, invoke, builtin, Builtin.len_, ht w, goInt], .sc rfl⟩

theorem step_lenL {t e : TypeId} {x : Operand} {o off len esz : Nat} {cells : List AV} (ht : Und P t (.slice e)) (hx : opd env x = .sl o off len) (ho : hp[o]? = some (AObj.row esz cells)) :
    Step P ⟨dst, .call ⟨.builtin .len, #[x], #[t]⟩, ty, pos, after, guard⟩ env hp (is (.sc (.int .i64 len)) hp) := by
  refine Step.val fun F μ w a hr he => ?_
  have h1 := he.opd x
  rw [hx] at h1
  generalize ha : a.eval x = v at h1
  refine ⟨.int .i64 len, ?_, .sc rfl⟩
  rcases hr.row ho with h2 | ⟨h2, _⟩ | ⟨b, base, tot, c, el, fr, h2, h3, h4, h5, h6, h7⟩
  · cases h1 with
    | sl h hc hl => rw [h2] at h; simp at h
    | slN h => rw [h2] at h; simp at h
    | slE h => rw [h2] at h; simp at h
    | slD h => rw [h2] at h; simp at h
  · cases h1 with
    | sl h hc hl => rw [h2] at h; simp at h
    | slN h => rw [h2] at h; simp at h
    | slE h => simp [execOp, resolve, ha, invoke, builtin, Builtin.len_, ht w, goInt]
    | slD h => rw [h2] at h; simp at h
  · cases h1 with
    | sl h hc hl => simp [execOp, resolve, ha, invoke, builtin, Builtin.len_, ht w, goInt]
    | slN h => simp [execOp, resolve, ha, invoke, builtin, Builtin.len_, ht w, goInt]
    | slE h => rw [h2] at h; simp at h
    | slD h => rw [h2] at h; simp at h

theorem step_lenN {t e : TypeId} {x : Operand} (ht : Und P t (.slice e)) (hx : opd env x = .nil) :
    Step P ⟨dst, .call ⟨.builtin .len, #[x], #[t]⟩, ty, pos, after, guard⟩ env hp (is (.sc (.int .i64 0)) hp) := by
  refine Step.val fun F μ w a hr he => ?_
  have h1 := he.opd x
  rw [hx] at h1
  generalize ha : a.eval x = v at h1
  refine ⟨.int .i64 0, ?_, .sc rfl⟩
  cases h1
  simp [execOp, resolve, ha, invoke, builtin, Builtin.len_, ht w, goInt]

theorem step_lenI {t e : TypeId} {x : Operand} {esz k : Nat} {cells : List AV} (ht : Und P t (.slice e)) (hx : opd env x = .im esz cells) (hk : k * esz = cells.length) (he : 0 < esz) :
    Step P ⟨dst, .call ⟨.builtin .len, #[x], #[t]⟩, ty, pos, after, guard⟩ env hp (is (.sc (.int .i64 k)) hp) := by
  refine Step.val fun F μ w a hr hen => ?_
  have h1 := hen.opd x
  rw [hx] at h1
  generalize ha : a.eval x = v at h1
  refine ⟨.int .i64 k, ?_, .sc rfl⟩
  cases h1 with
  | im0 =>
    have : k = 0 := by
      have h0 : k * esz = 0 := hk
      rcases Nat.mul_eq_zero.mp h0 with h1 | h1 <;> omega
    subst this
    simp [execOp, resolve, ha, invoke, builtin, Builtin.len_, ht w, goInt]
  | im h hb hF hn hn2 hx =>
    have : k = _ := Nat.eq_of_mul_eq_mul_right he (hk.trans hn.symm)
    subst this
    simp [execOp, resolve, ha, invoke, builtin, Builtin.len_, ht w, goInt]

end Go.SL

set_option linter.unusedSimpArgs false
set_option linter.unnecessarySimpa false
set_option linter.unusedVariables false
set_option linter.unusedSectionVars false
namespace Go.SL
open Go
variable [Tabs]

variable {F : Nat → Prop} {μ μ' μ'' : List Nm} {w w' w'' : World} {P : Program} {n : Nat} {env : Nat → AV} {hp : List AObj}
variable {dst : Option Nat} {ty : TypeId} {pos : String} {after : Array Edge} {guard : Option (Nat × Bool)}

theorem addr_add (b off k : Nat) : (⟨b, off, none⟩ : Addr).add k = ⟨b, off + k, none⟩ := by unfold Addr.add; split <;> simp_all

/-- A slice of a live row: what it is in memory. -/
theorem EnvR.sl {a : Act} (h : EnvR F env μ w a.tmps) (hr : HR F hp μ w) {x : Operand} {o off len esz : Nat} {cells : List AV} (hx : SL.opd env x = .sl o off len)
    (ho : hp[o]? = some (AObj.row esz cells)) : (∃ b base tot c el fr k, a.eval x = .slice (some ⟨b, base + off, none⟩) len k ∧ base + off + k * esz ≤ tot ∧ len ≤ k ∧ μ[o]? = some (Nm.at b base esz tot) ∧
      w.heap[b]? = some (Obj.cells c el fr) ∧ c.size = tot ∧ base + cells.length ≤ tot ∧ VRL F μ w cells ((c.toList.drop base).take cells.length) ∧ NF fr tot) ∨
      (len = 0 ∧ ∃ addr, a.eval x = .slice addr 0 0 ∧ ((∃ b base tot, μ[o]? = some (Nm.at b base esz tot)) ∨ μ[o]? = some Nm.em)) := by
  have h1 := h.opd x
  rw [hx] at h1
  generalize a.eval x = v at h1
  rcases hr.row ho with h2 | ⟨h2, _⟩ | ⟨b, base, tot, c, el, fr, h2, h3, h4, h5, h6, h7⟩
  · cases h1 with
    | sl h hc hl => rw [h2] at h; simp at h
    | slN h => rw [h2] at h; simp at h
    | slE h => rw [h2] at h; simp at h
    | slD h => rw [h2] at h; simp at h
  · cases h1 with
    | sl h hc hl => rw [h2] at h; simp at h
    | slN h => rw [h2] at h; simp at h
    | slE h => exact .inr ⟨rfl, _, rfl, .inr h2⟩
    | slD h => rw [h2] at h; simp at h
  · cases h1 with
    | sl h hc hl =>
      rw [h2] at h
      injection h with h; injection h with e1 e2 e3 e4
      subst e1; subst e2; subst e3; subst e4
      exact .inl ⟨_, _, _, c, el, fr, _, rfl, hc, hl, h2, h3, h4, h5, h6, h7⟩
    | slN h => exact .inr ⟨rfl, _, rfl, .inl ⟨_, _, _, h2⟩⟩
    | slE h => rw [h2] at h; simp at h
    | slD h => rw [h2] at h; simp at h

theorem step_idx {t e : TypeId} {x ix : Operand} {o off len esz : Nat} {cells : List AV} {k : IntKind} {i : Int} (ht : Und P t (.slice e)) (hs : SizeOf P e esz) (hx : opd env x = .sl o off len)
    (ho : hp[o]? = some (AObj.row esz cells)) (hi : opd env ix = .sc (.int k i)) (h0 : 0 ≤ i) (h1 : i < len) :
    Step P ⟨dst, .indexAddr t x ix, ty, pos, after, guard⟩ env hp (is (.ptr o (off + i.toNat * esz)) hp) := by
  refine Step.val fun F μ w a hr he => ?_
  rcases he.sl hr hx ho with ⟨b, base, tot, c, el, fr, kc, g1, g2, g3, g4, g5, g6, g7, g8, g9⟩ | ⟨g1, _⟩
  · refine ⟨.pointer (some ⟨b, base + (off + i.toNat * esz), none⟩), ?_, .ptr g4⟩
    have hii : (0 ≤ i ∧ i < (len : Int)) := ⟨h0, h1⟩
    simp [execOp, g1, he.sc hi, Instr.indexAt, asIntOf, ht w, hs w, hii, addr_add, Nat.add_assoc]
  · omega

theorem step_idxI {t e : TypeId} {x ix : Operand} {esz m : Nat} {cells : List AV} {k : IntKind} {i : Int} (ht : Und P t (.slice e)) (hs : SizeOf P e esz) (hx : opd env x = .im esz cells)
    (hm : m * esz = cells.length) (hz : 0 < esz) (hi : opd env ix = .sc (.int k i)) (h0 : 0 ≤ i) (h1 : i < m) :
    Step P ⟨dst, .indexAddr t x ix, ty, pos, after, guard⟩ env hp (is (.ip cells (i.toNat * esz)) hp) := by
  refine Step.val fun F μ w a hr he => ?_
  have h2 := he.opd x
  rw [hx] at h2
  generalize ha : a.eval x = v at h2
  cases h2 with
  | im0 =>
    have h0' : m * esz = 0 := hm
    rcases Nat.mul_eq_zero.mp h0' with h3 | h3 <;> omega
  | im h hb hF hn hn2 hv =>
    rename_i b off nn cap c el fr
    have : m = nn := Nat.eq_of_mul_eq_mul_right hz (hm.trans hn.symm)
    subst this
    refine ⟨.pointer (some ⟨b, off + i.toNat * esz, none⟩), ?_, .ip h hb hF hv⟩
    have hii : (0 ≤ i ∧ i < (m : Int)) := ⟨h0, h1⟩
    simp [execOp, ha, he.sc hi, Instr.indexAt, asIntOf, ht w, hs w, hii, addr_add]

/-- A bound of a slice expression. -/
def Bd (env : Nat → AV) : Option Operand → Nat → Nat → Prop
  | none, d, v => v = d
  | some x, _, v => ∃ k i, opd env x = .sc (.int k i) ∧ i = (v : Int)

theorem Bd.some {x : Operand} {d v : Nat} {k : IntKind} {i : Int} (hx : opd env x = .sc (.int k i)) (hi : i = (v : Int)) : Bd env (some x) d v := ⟨k, i, hx, hi⟩

theorem run_bounds {isS : Bool} {len cap l h : Nat} {lo hi : Option Operand} {a : Act} (he : EnvR F env μ w a.tmps) (hl : Bd env lo 0 l) (hh : Bd env hi len h) (h1 : l ≤ h) (h2 : h ≤ cap) (h3 : hi = .none → h ≤ cap) :
    (Instr.sliceBounds isS len cap (lo.map a.eval) (hi.map a.eval) .none).run P w = .ok (l, h, cap) w := by
  cases hi with
  | none =>
    cases lo with
    | none => simp only [Bd] at hl hh; subst hl; subst hh; simp [Instr.sliceBounds]
    | some x =>
      obtain ⟨k, i, hx, rfl⟩ := hl
      simp only [Bd] at hh; subst hh
      have e : (0 ≤ (l : Int) ∧ (l : Int) ≤ (h : Int)) := by omega
      simp [Instr.sliceBounds, Instr.sliceBound, he.sc hx, asIntOf, h1]
  | some y =>
    obtain ⟨k', i', hy, rfl⟩ := hh
    cases lo with
    | none => simp only [Bd] at hl; subst hl; simp [Instr.sliceBounds, Instr.sliceBound, he.sc hy, asIntOf, h2]
    | some x =>
      obtain ⟨k, i, hx, rfl⟩ := hl
      simp [Instr.sliceBounds, Instr.sliceBound, he.sc hy, he.sc hx, asIntOf, h1, h2]

theorem step_slice {t e : TypeId} {x : Operand} {lo hi : Option Operand} {o off len esz l h : Nat} {cells : List AV} (ht : Und P t (.slice e)) (hs : SizeOf P e esz) (hx : opd env x = .sl o off len)
    (ho : hp[o]? = some (AObj.row esz cells)) (hl : Bd env lo 0 l) (hh : Bd env hi len h) (h1 : l ≤ h) (h2 : h ≤ len) :
    Step P ⟨dst, .slice t x lo hi none, ty, pos, after, guard⟩ env hp (is (.sl o (off + l * esz) (h - l)) hp) := by
  refine Step.val fun F μ w a hr he => ?_
  rcases he.sl hr hx ho with ⟨b, base, tot, c, el, fr, kc, g1, g2, g3, g4, g5, g6, g7, g8, g9⟩ | ⟨g1, addr, g2, g3⟩
  · have hb := run_bounds (P := P) (isS := true) (len := len) (cap := kc) he hl hh h1 (by omega) (fun _ => by omega)
    by_cases hk : kc = l
    · subst hk
      refine ⟨.slice (some ⟨b, base + off, none⟩) (h - kc) (kc - kc), ?_, ?_⟩
      · simp [execOp, g1, Instr.sliceAt, Instr.slice, ht w, hs w, hb]
      · have e1 : h - kc = 0 := by omega
        have e2 : kc - kc = 0 := by omega
        rw [e1, e2]; exact .slN g4
    · refine ⟨.slice (some ⟨b, base + (off + l * esz), none⟩) (h - l) (kc - l), ?_, ?_⟩
      · simp [execOp, g1, Instr.sliceAt, Instr.slice, ht w, hs w, hb, hk, addr_add, Nat.add_assoc]
      · refine .sl g4 ?_ (by omega)
        have : kc * esz = l * esz + (kc - l) * esz := by rw [← Nat.add_mul]; congr 1; omega
        omega
  · subst g1
    have e1 : h = 0 := by omega
    have e2 : l = 0 := by omega
    subst e1; subst e2
    have hb := run_bounds (P := P) (isS := true) (len := 0) (cap := 0) he hl hh h1 (by omega) (fun _ => by omega)
    refine ⟨.slice addr 0 0, ?_, ?_⟩
    · simp [execOp, g2, Instr.sliceAt, Instr.slice, ht w, hs w, hb]
    · rcases g3 with ⟨b, base, tot, g3⟩ | g3
      · exact .slN g3
      · exact .slE g3

theorem step_sliceI {t e : TypeId} {x : Operand} {lo hi : Option Operand} {m esz l h : Nat} {cells : List AV} (ht : Und P t (.slice e)) (hs : SizeOf P e esz) (hx : opd env x = .im esz cells)
    (hm : m * esz = cells.length) (hz : 0 < esz) (hl : Bd env lo 0 l) (hh : Bd env hi m h) (h1 : l ≤ h) (h2 : h ≤ m) :
    Step P ⟨dst, .slice t x lo hi none, ty, pos, after, guard⟩ env hp (is (.im esz ((cells.drop (l * esz)).take ((h - l) * esz))) hp) := by
  refine Step.val fun F μ w a hr he => ?_
  have h3 := he.opd x
  rw [hx] at h3
  generalize ha : a.eval x = v at h3
  cases h3 with
  | im0 =>
    rename_i addr cap
    have h0' : m * esz = 0 := hm
    have hm0 : m = 0 := by rcases Nat.mul_eq_zero.mp h0' with h3 | h3 <;> omega
    have e1 : h = 0 := by omega
    have e2 : l = 0 := by omega
    subst hm0; subst e1; subst e2
    have hb := run_bounds (P := P) (isS := true) (len := 0) (cap := cap) he hl hh h1 (by omega) (fun _ => by omega)
    by_cases hk : cap = 0
    · refine ⟨.slice addr 0 0, ?_, by simpa using VR.im0⟩
      subst hk
      simp [execOp, ha, Instr.sliceAt, Instr.slice, ht w, hs w, hb]
    · refine ⟨.slice (addr.map (·.add (0 * esz))) 0 cap, ?_, by simpa using VR.im0⟩
      simp [execOp, ha, Instr.sliceAt, Instr.slice, ht w, hs w, hb, hk]
  | im hc hb hF hn hn2 hv =>
    rename_i b off nn cap c el fr
    have : m = nn := Nat.eq_of_mul_eq_mul_right hz (hm.trans hn.symm)
    subst this
    have hbd := run_bounds (P := P) (isS := true) (len := m) (cap := cap) he hl hh h1 (by omega) (fun _ => by omega)
    have hlen : ((cells.drop (l * esz)).take ((h - l) * esz)).length = (h - l) * esz := by
      have : m * esz = l * esz + ((h - l) * esz + (m - h) * esz) := by rw [← Nat.add_mul, ← Nat.add_mul]; congr 1; omega
      simp; omega
    by_cases hk : cap = l
    · subst hk
      have e1 : h - cap = 0 := by omega
      refine ⟨.slice (some ⟨b, off, none⟩) (h - cap) (cap - cap), ?_, ?_⟩
      · simp [execOp, ha, Instr.sliceAt, Instr.slice, ht w, hs w, hbd]
      · rw [e1]; simpa using VR.im0
    · refine ⟨.slice (some ⟨b, off + l * esz, none⟩) (h - l) (cap - l), ?_, ?_⟩
      · simp [execOp, ha, Instr.sliceAt, Instr.slice, ht w, hs w, hbd, hk, addr_add]
      · refine .im hc hb ⟨hF.1, noOwnL_sub hF.2 _ _⟩ (by rw [hlen]) (by omega) ?_
        rw [hlen]
        refine window_sub hv ?_
        have : m * esz = l * esz + ((h - l) * esz + (m - h) * esz) := by rw [← Nat.add_mul, ← Nat.add_mul]; congr 1; omega
        omega

theorem step_sliceS {t : TypeId} {x : Operand} {lo hi : Option Operand} {s : ByteArray} {l h : Nat} (ht : Und P t .string) (hx : opd env x = .sc (.string s))
    (hl : Bd env lo 0 l) (hh : Bd env hi s.size h) (h1 : l ≤ h) (h2 : h ≤ s.size) :
    Step P ⟨dst, .slice t x lo hi none, ty, pos, after, guard⟩ env hp (is (.sc (.string (s.extract l h))) hp) := by
  refine Step.val fun F μ w a hr he => ⟨.string (s.extract l h), ?_, .sc rfl⟩
  have hb := run_bounds (P := P) (isS := false) (len := s.size) (cap := s.size) he hl hh h1 (by omega) (fun _ => by omega)
  simp [execOp, he.sc hx, Instr.sliceAt, Instr.slice, ht w, hb]

theorem step_index {t : TypeId} {x ix : Operand} {s : ByteArray} {k : IntKind} {i : Int} (ht : Und P t .string) (hx : opd env x = .sc (.string s)) (hi : opd env ix = .sc (.int k i)) (h0 : 0 ≤ i)
    {c : UInt8} (hc : s.data.toList[i.toNat]? = some c) : Step P ⟨dst, .index t x ix, ty, pos, after, guard⟩ env hp (is (.sc (.int .u8 c.toNat)) hp) := by
  refine Step.val fun F μ w a hr he => ⟨.int .u8 c.toNat, ?_, .sc rfl⟩
  have hc' : s[i.toNat]? = some c := by
    have hlt : i.toNat < s.size := by
      rcases Nat.lt_or_ge i.toNat s.data.toList.length with h | h
      · simpa using h
      · simp [List.getElem?_eq_none h] at hc
    have h2 : s.data.toList[i.toNat]? = some (s.data[i.toNat]'hlt) := by simp [List.getElem?_eq_getElem, show i.toNat < s.data.size from hlt]
    rw [h2] at hc
    have h3 : s[i.toNat]? = some (s[i.toNat]'hlt) := by simp [getElem?_pos, hlt]
    rw [h3]; exact hc
  simp [execOp, he.sc hx, he.sc hi, Instr.index, asIntOf, ht w, h0, hc']

theorem step_nilp {x : Operand} {o off esz : Nat} {cells : List AV} (hx : opd env x = .ptr o off) (ho : hp[o]? = some (AObj.row esz cells)) :
    Step P ⟨dst, .nilCheck x, ty, pos, after, guard⟩ env hp (is (.ptr o off) hp) := by
  refine Step.val fun F μ w a hr he => ?_
  obtain ⟨b, base, tot, c, el, fr, h1, h2, _⟩ := he.ptr hr hx ho
  exact ⟨.pointer (some ⟨b, base + off, none⟩), by simp [execOp, h1], .ptr h2⟩

theorem mapVRL {a : Act} (he : EnvR F env μ w a.tmps) : ∀ l : List Operand, VRL F μ w (l.map (opd env)) (l.map a.eval)
  | [] => .nil
  | x :: l => .cons (he.opd x) (mapVRL he l)

theorem step_fn {f : Nat} {first caps : Array Operand} : Step P ⟨dst, .makeFunc (.func f) first caps, ty, pos, after, guard⟩ env hp (is (.fn f (first.toList.map (opd env)) (caps.toList.map (opd env))) hp) :=
  Step.val fun F μ w a hr he => ⟨.func (.func f) (first.map a.eval) (caps.map a.eval), by simp [execOp, Instr.makeFunc],
    .fn (by simpa using mapVRL he first.toList) (by simpa using mapVRL he caps.toList)⟩

theorem step_min2 {t t' : TypeId} {x y : Operand} {k k' : IntKind} {p q : Int} (hx : opd env x = .sc (.int k p)) (hy : opd env y = .sc (.int k' q)) :
    Step P ⟨dst, .call ⟨.builtin .min, #[x, y], #[t, t']⟩, ty, pos, after, guard⟩ env hp (is (.sc (.int k (if q < p then q else p))) hp) :=
  Step.val fun F μ w a hr he => ⟨_, by simp [execOp, resolve, he.sc hx, he.sc hy, invoke, builtin, Builtin.min_, Builtin.min2], .sc rfl⟩

@[reducible] def isAny : AV → Bool
  | .any => true
  | _ => false

/-- Parts laid over zero cells. -/
def fillAV (place : Nat → Option (Nat × Nat)) (cells : List AV) : List (Nat × AV) → Option (List AV)
  | [] => some cells
  | (i, x) :: rest =>
    match place i with
    | none => none
    | some (off, size) => bif Nat.beq (cellsOf x).length size && Nat.ble (off + (cellsOf x).length) cells.length && !isAny x then fillAV place (splice cells off (cellsOf x)) rest else none

theorem VR.cells' {x : AV} {v : Value} (h : VR F μ w x v) (hx : isAny x = false) : VRL F μ w (cellsOf x) v.cells.toList := by
  cases h with
  | agg h => exact h
  | any => simp at hx
  | tup h => exact .cons (.tup h) .nil
  | sc h =>
    have : v.cells.toList = [v] := by cases v <;> first | rfl | (simp [plainV] at h)
    rw [this]
    exact .cons (.sc h) .nil
  | ptr h => exact .cons (.ptr h) .nil
  | ptrD h => exact .cons (.ptrD h) .nil
  | sl h hc hl => exact .cons (.sl h hc hl) .nil
  | slN h => exact .cons (.slN h) .nil
  | slD h => exact .cons (.slD h) .nil
  | slE h => exact .cons (.slE h) .nil
  | nil => exact .cons .nil .nil
  | im0 => exact .cons .im0 .nil
  | im h hb hF hn hn2 hy => exact .cons (.im h hb hF hn hn2 hy) .nil
  | ip h hb hF hy => exact .cons (.ip h hb hF hy) .nil
  | fn h1 h2 => exact .cons (.fn h1 h2) .nil
  | ifc h => exact .cons (.ifc h) .nil
  | mp h => exact .cons (.mp h) .nil
  | mpD h => exact .cons (.mpD h) .nil

theorem foldl_set : ∀ (vs : List Value) (off j0 : Nat) (cs : Array Value), off + j0 + vs.length ≤ cs.size →
    ((vs.zipIdx j0).foldl (fun cs (c, j) => cs.setIfInBounds (off + j) c) cs).toList = splice cs.toList (off + j0) vs
  | [], off, j0, cs, _ => by simp [splice_nil]
  | v :: vs, off, j0, cs, h => by
    simp only [List.length_cons] at h
    simp only [List.zipIdx_cons, List.foldl_cons]
    rw [foldl_set vs off (j0 + 1) _ (by simp; omega), splice_cons _ _ _ _ (by simp; omega)]
    simp [Nat.add_assoc]

theorem fill_rel {place : Nat → Option (Nat × Nat)} : ∀ {parts : List (Nat × AV)} {parts' : List (Nat × Value)} {cells out : List AV} {cs : Array Value},
    parts.map (·.1) = parts'.map (·.1) → VRL F μ w (parts.map (·.2)) (parts'.map (·.2)) → VRL F μ w cells cs.toList → fillAV place cells parts = some out →
    ∃ cs', Instr.fill place cs parts' = some cs' ∧ VRL F μ w out cs'.toList
  | [], parts', cells, out, cs, h1, h2, h3, h4 => by
    cases parts' with
    | nil => simp [fillAV] at h4; subst h4; exact ⟨cs, rfl, h3⟩
    | cons p ps => simp at h1
  | (i, x) :: rest, parts', cells, out, cs, h1, h2, h3, h4 => by
    cases parts' with
    | nil => simp at h1
    | cons p ps =>
      obtain ⟨i', v⟩ := p
      simp only [List.map_cons, List.cons.injEq] at h1
      obtain ⟨rfl, h1⟩ := h1
      cases h2 with
      | cons hv ht =>
        simp only [fillAV] at h4
        cases hp : place i with
        | none => rw [hp] at h4; simp at h4
        | some os =>
          obtain ⟨off, size⟩ := os
          rw [hp] at h4
          simp only at h4
          cases hc : (Nat.beq (cellsOf x).length size && Nat.ble (off + (cellsOf x).length) cells.length && !isAny x) with
          | false => rw [hc] at h4; simp at h4
          | true =>
            rw [hc] at h4
            simp only [cond_true] at h4
            simp only [Bool.and_eq_true, Bool.not_eq_true'] at hc
            obtain ⟨⟨hc1, hc2⟩, hc3⟩ := hc
            have hc1 := Nat.eq_of_beq_eq_true hc1
            have hc2 := Nat.le_of_ble_eq_true hc2
            have hvc := hv.cells' hc3
            have hl1 := hvc.length
            have hl2 := h3.length
            simp only [Array.length_toList] at hl1 hl2
            simp only [Instr.fill, hp]
            have g : ¬ (v.cells.size ≠ size || off + v.cells.size > cs.size) = true := by simp; omega
            rw [if_neg g]
            refine fill_rel h1 ht ?_ h4
            have := foldl_set v.cells.toList off 0 cs (by simp; omega)
            rw [← Array.foldl_toList]
            have e : (v.cells.zipIdx).toList = v.cells.toList.zipIdx := by simp
            rw [e, this]
            exact h3.splice hvc

def PlacesOf (P : Program) (t : TypeId) (pl : List (Nat × Nat)) : Prop :=
  ∃ fields, P.underlying t = some (.struct fields) ∧ fields.toList.map (fun f => (f.offset, P.cellsOf f.type)) = pl ∧ fields.all (fun f => (P.info? f.type).isSome) = true

def placesB (P : Program) (t : TypeId) : Option (List (Nat × Nat)) :=
  match P.underlying t with
  | some (.struct fields) => if fields.all (fun f => (P.info? f.type).isSome) then some (fields.toList.map fun f => (f.offset, P.cellsOf f.type)) else none
  | _ => none

theorem PlacesOf.mk {t : TypeId} {pl : List (Nat × Nat)} (h : placesB P t = some pl) : PlacesOf P t pl := by
  unfold placesB at h
  split at h
  · rename_i fields h1
    split at h
    · rename_i h2; exact ⟨fields, h1, Option.some.inj h, h2⟩
    · simp at h
  · simp at h

theorem run_sizes : ∀ (fs : List Field), (∀ f ∈ fs, (P.info? f.type).isSome = true) →
    (fs.mapM (fun f => do pure (f.offset, ← sizeOf f.type) : Field → Sem (Nat × Nat))).run P w = .ok (fs.map fun f => (f.offset, P.cellsOf f.type)) w
  | [], _ => by simp
  | f :: fs, h => by
    have h1 := h f (by simp)
    obtain ⟨i, hi⟩ := Option.isSome_iff_exists.1 h1
    have ih := run_sizes fs fun g hg => h g (by simp [hg])
    have hs : (sizeOf f.type).run P w = .ok (P.cellsOf f.type) w := by simp [sizeOf, typeInfo, hi, Program.cellsOf]
    simp only [List.mapM_cons, Sem.run_bind, hs, Result.andThen_ok, Sem.run_pure, ih, List.map_cons]

theorem step_build {t : TypeId} {z : Value} {pl : List (Nat × Nat)} {parts : Array (Nat × Operand)} {out : List AV} (hz : ZeroV P t z) (hp' : PlacesOf P t pl)
    (hf : fillAV (fun i => pl[i]?) (z.cells.toList.map litC) (parts.toList.map fun p => (p.1, opd env p.2)) = some out) :
    Step P ⟨dst, .build t parts, ty, pos, after, guard⟩ env hp (is (.agg out) hp) := by
  refine Step.val fun F μ w a hr he => ?_
  obtain ⟨fields, h1, h2, h3⟩ := hp'
  have hsz := run_sizes (P := P) (w := w) fields.toList (fun f hf' => by
    obtain ⟨i, hi, rfl⟩ := List.getElem_of_mem hf'
    have := Array.all_eq_true.1 h3 i (by simpa using hi)
    simpa using this)
  have hmap : (fields.mapM (fun f => do pure (f.offset, ← sizeOf f.type) : Field → Sem (Nat × Nat))).run P w = .ok (fields.toList.map fun f => (f.offset, P.cellsOf f.type)).toArray w := by
    rw [Array.mapM_eq_mapM_toList]
    simp only [Sem.run_map, hsz, Result.andThen_ok]
  obtain ⟨cs', hc1, hc2⟩ := fill_rel (F := F) (μ := μ) (w := w) (place := fun i => pl[i]?) (parts := parts.toList.map fun p => (p.1, opd env p.2)) (parts' := (parts.map fun (i, x) => (i, a.eval x)).toList) (cs := z.cells)
    (by simp [Function.comp_def]) (by
      have : ∀ l : List (Nat × Operand), VRL F μ w ((l.map fun p => (p.1, opd env p.2)).map (·.2)) ((l.map fun p => (p.1, a.eval p.2)).map (·.2)) := by
        intro l
        induction l with
        | nil => exact .nil
        | cons p l ih => exact .cons (he.opd p.2) ih
      simpa using this parts.toList) (litL_rel _) hf
  refine ⟨.agg cs', ?_, .agg hc2⟩
  have hpl : (fun i : Nat => (fields.toList.map fun f => (f.offset, P.cellsOf f.type)).toArray[i]?) = fun i => pl[i]? := by funext i; rw [← h2]; simp
  simp only [execOp, Instr.build, Sem.run_bind, hz w, Result.andThen_ok, run_und h1, hmap]
  rw [hpl, hc1]
  simp

end Go.SL

set_option linter.unusedSimpArgs false
set_option linter.unnecessarySimpa false
set_option linter.unusedVariables false
set_option linter.unusedSectionVars false
namespace Go.SL
open Go
variable [Tabs]

variable {F : Nat → Prop} {μ μ' μ'' : List Nm} {w w' w'' : World} {P : Program} {n : Nat} {env : Nat → AV} {hp : List AObj}
variable {dst : Option Nat} {ty : TypeId} {pos : String} {after : Array Edge} {guard : Option (Nat × Bool)}

/-- A type's zero value, its cells, its bytes. -/
def EI (P : Program) (e : TypeId) (z : Value) (esz bs : Nat) : Prop := (P.info? e).map (fun i => (i.zero, i.size, i.bytes)) = some (some z, esz, bs)

theorem EI.size {e : TypeId} {z : Value} {esz bs : Nat} (h : EI P e z esz bs) : SizeOf P e esz := by
  intro w
  unfold EI at h
  cases hi : P.info? e with
  | none => rw [hi] at h; simp at h
  | some i => rw [hi] at h; simp at h; simp [sizeOf, typeInfo, hi, h.2.1]

theorem EI.zero {e : TypeId} {z : Value} {esz bs : Nat} (h : EI P e z esz bs) : ZeroV P e z := by
  intro w
  unfold EI at h
  cases hi : P.info? e with
  | none => rw [hi] at h; simp at h
  | some i => rw [hi] at h; simp at h; simp [zeroValue, typeInfo, hi, h.1]

theorem EI.info {e : TypeId} {z : Value} {esz bs : Nat} (h : EI P e z esz bs) : ∃ i, (∀ w, (typeInfo e).run P w = .ok i w) ∧ i.bytes = bs := by
  unfold EI at h
  cases hi : P.info? e with
  | none => rw [hi] at h; simp at h
  | some i => rw [hi] at h; simp at h; exact ⟨i, fun w => by simp [typeInfo, hi], h.2.2⟩

/-- What an operand brings to append and copy: m elements, their cells. -/
structure Src (P : Program) (env : Nat → AV) (hp : List AObj) (esz : Nat) (x : Operand) (m : Nat) (X : List AV) : Prop where
  go : ∀ (F : Nat → Prop) (μ : List Nm) (w : World) (a : Act), HR F hp μ w → EnvR F env μ w a.tmps → ∃ vs : List Value, VRL F μ w X vs ∧ (∀ w', w'.heap = w.heap → (Builtin.lenOf (a.eval x)).run P w' = .ok m w' ∧
    ∀ k, k ≤ m → (Builtin.firstCells esz k (a.eval x)).run P w' = .ok (vs.take (k * esz)).toArray w')
  len : X.length = m * esz
  one : X.all cellAV = true

theorem Src.im {x : Operand} {esz m : Nat} {X : List AV} (hx : opd env x = .im esz X) (hm : m * esz = X.length) (hz : 0 < esz) (h1 : X.all cellAV = true) : Src P env hp esz x m X := by
  refine ⟨fun F μ w a hr he => ?_, hm.symm, h1⟩
  have h := he.opd x
  rw [hx] at h
  generalize a.eval x = v at h
  cases h with
  | im0 =>
    have h0' : m * esz = 0 := hm
    have hm0 : m = 0 := by rcases Nat.mul_eq_zero.mp h0' with h3 | h3 <;> omega
    subst hm0
    refine ⟨[], .nil, fun w' hw => ⟨rfl, fun k hk => ?_⟩⟩
    have : k = 0 := by omega
    subst this
    rename_i ad cap
    cases ad with
    | none => simp [Builtin.firstCells]
    | some ad => simp [Builtin.firstCells, loadCells, loadCellsFrom]
  | im h hb hF hn hn2 hv =>
    rename_i b off nn cap c el fr
    have : m = nn := Nat.eq_of_mul_eq_mul_right hz (hm.trans hn.symm)
    subst this
    refine ⟨_, hv, fun w' hw => ⟨rfl, fun k hk => ?_⟩⟩
    have hl := hv.length
    simp only [List.length_take, List.length_drop, Array.length_toList] at hl
    have hkm : k * esz ≤ m * esz := Nat.mul_le_mul_right _ hk
    rcases Nat.eq_zero_or_pos (k * esz) with h0 | h0
    · simp [Builtin.firstCells, h0, loadCells, loadCellsFrom]
    · have := run_loadL P (w := w') (off := off) (k * esz) (hw ▸ h) (by omega)
      simp only [Builtin.firstCells, this]
      rw [List.take_take, Nat.min_eq_left (by omega)]

theorem Src.own {x : Operand} {esz m o off : Nat} {cells : List AV} (hx : opd env x = .sl o off m) (ho : hp[o]? = some (AObj.row esz cells)) (hl : off + m * esz ≤ cells.length)
    (h1 : ((cells.drop off).take (m * esz)).all cellAV = true) : Src P env hp esz x m ((cells.drop off).take (m * esz)) := by
  refine ⟨fun F μ w a hr he => ?_, by simp; omega, h1⟩
  rcases he.sl hr hx ho with ⟨b, base, tot, c, el, fr, kc, g1, g2, g3, g4, g5, g6, g7, g8, g9⟩ | ⟨g1, ad, g2, g3⟩
  · refine ⟨_, window_sub g8 hl, fun w' hw => ⟨by rw [g1]; rfl, fun k hk => ?_⟩⟩
    have hkm : k * esz ≤ m * esz := Nat.mul_le_mul_right _ hk
    have := run_loadL P (w := w') (off := base + off) (k * esz) (hw ▸ g5) (by omega)
    rw [g1]
    simp only [Builtin.firstCells, this]
    rw [List.take_take, Nat.min_eq_left (by omega)]
  · subst g1
    refine ⟨[], by simpa using VRL.nil, fun w' hw => ⟨by rw [g2]; rfl, fun k hk => ?_⟩⟩
    have : k = 0 := by omega
    subst this
    rw [g2]
    cases ad with
    | none => simp [Builtin.firstCells]
    | some ad => simp [Builtin.firstCells, loadCells, loadCellsFrom]

@[reducible] def byteAV (b : UInt8) : AV := .sc (.int .u8 b.toNat)

theorem bytes_rel (l : List UInt8) : VRL F μ w (l.map byteAV) (l.map fun b => .int .u8 b.toNat) := by
  induction l with
  | nil => exact .nil
  | cons b l ih => exact .cons (.sc rfl) ih

theorem bytes_one (l : List UInt8) : (l.map byteAV).all cellAV = true := by
  simp [List.all_map, Function.comp_def, cellAV, Value.oneCell']

theorem Src.str {x : Operand} {s : ByteArray} (hx : opd env x = .sc (.string s)) : Src P env hp 1 x s.size (s.data.toList.map byteAV) := by
  refine ⟨fun F μ w a hr he => ⟨_, bytes_rel _, fun w' hw => ⟨by rw [he.sc hx]; rfl, fun k hk => ?_⟩⟩, by simp only [List.length_map, Nat.mul_one]; rfl, bytes_one _⟩
  rw [he.sc hx]
  simp only [Builtin.firstCells, Sem.run_pure]
  congr 1
  apply Array.ext'
  simp [ByteArray.data_extract, List.map_take, List.extract_eq_take_drop]

theorem Src.nil {x : Operand} {esz : Nat} (hx : opd env x = .nil) : Src P env hp esz x 0 [] := by
  refine ⟨fun F μ w a hr he => ?_, by simp, rfl⟩
  have h := he.opd x
  rw [hx] at h
  generalize a.eval x = v at h
  cases h
  refine ⟨[], .nil, fun w' hw => ⟨rfl, fun k hk => ?_⟩⟩
  have : k = 0 := by omega
  subst this
  rename_i ad
  cases ad with
  | none => simp [Builtin.firstCells]
  | some ad => simp [Builtin.firstCells, loadCells, loadCellsFrom]

theorem HR.kill {o : Nat} (h : HR F hp μ w) (hne : μ[o]? ≠ some Nm.un) : HR F (hp.set o .dead) (μ.set o .dead) w ∧ Fr μ w (μ.set o .dead) w := by
  have key : ∀ o' b base esz tot, (μ.set o Nm.dead)[o']? = some (Nm.at b base esz tot) → o ≠ o' ∧ μ[o']? = some (Nm.at b base esz tot) := by
    intro o' b base esz tot h'
    by_cases hoo : o = o'
    · subst hoo
      rw [List.getElem?_set_self'] at h'
      cases hm : μ[o]? <;> simp [hm] at h'
    · rw [List.getElem?_set_ne hoo] at h'; exact ⟨hoo, h'⟩
  have hF : Fr μ w (μ.set o .dead) w := by
    refine ⟨Nat.le_refl _, fun _ _ _ => rfl, fun b hb => ?_, fun o' nm hn => ?_, by simp, rfl, rfl⟩
    · obtain ⟨o', base, esz, tot, h'⟩ := hb
      exact .inl ⟨o', base, esz, tot, (key _ _ _ _ _ h').2⟩
    · by_cases hoo : o = o'
      · subst hoo
        right
        refine ⟨by rintro rfl; exact hne hn, ?_⟩
        rw [List.getElem?_set_self']
        simp [hn]
      · rw [List.getElem?_set_ne hoo]; exact .inl hn
  refine ⟨⟨by simp [h.len], fun o' b base esz tot ho' => ?_, fun o' ho' => ?_, fun o' x' ho' hx' => ?_, fun o1 o2 b base esz tot base' esz' tot' h1 h2 => ?_, h.foF hF, h.fbF hF, h.tbF hF⟩, hF⟩
  · obtain ⟨hoo, h'⟩ := key _ _ _ _ _ ho'
    obtain ⟨x', y', g1, g2, g3⟩ := h.obj _ _ _ _ _ h'
    exact ⟨x', y', by rw [List.getElem?_set_ne hoo]; exact g1, g2, g3.mono hF⟩
  · by_cases hoo : o = o'
    · subst hoo
      rw [List.getElem?_set_self'] at ho'
      cases hm : μ[o]? <;> simp [hm] at ho'
    · rw [List.getElem?_set_ne hoo] at ho' ⊢; exact h.em o' ho'
  · by_cases hoo : o = o'
    · subst hoo
      rw [List.getElem?_set_self'] at ho'
      cases hm : hp[o]? <;> simp [hm] at ho'
      exact absurd ho'.symm hx'
    · rw [List.getElem?_set_ne hoo] at ho' ⊢; exact h.live o' x' ho' hx'
  · exact h.inj _ _ _ _ _ _ _ _ _ (key _ _ _ _ _ h1).2 (key _ _ _ _ _ h2).2

/-- A new row without a block: it is empty. -/
theorem HR.pushE {esz : Nat} (h : HR F hp μ w) : HR F (hp ++ [.row esz []]) (μ ++ [.em]) w ∧ Fr μ w (μ ++ [.em]) w := by
  have key : ∀ o' b base esz tot, (μ ++ [Nm.em])[o']? = some (Nm.at b base esz tot) → o' < μ.length ∧ μ[o']? = some (Nm.at b base esz tot) := by
    intro o' b base esz tot h'
    rcases Nat.lt_or_ge o' μ.length with h1 | h1
    · rw [List.getElem?_append_left h1] at h'; exact ⟨h1, h'⟩
    · rw [List.getElem?_append_right h1] at h'
      cases hk : o' - μ.length <;> simp [hk] at h'
  have hF : Fr μ w (μ ++ [.em]) w := by
    refine ⟨Nat.le_refl _, fun _ _ _ => rfl, fun b hb => ?_, fun o' nm hn => ?_, by simp, rfl, rfl⟩
    · obtain ⟨o', base, esz, tot, h'⟩ := hb
      exact .inl ⟨o', base, esz, tot, (key _ _ _ _ _ h').2⟩
    · have : o' < μ.length := by
        rcases Nat.lt_or_ge o' μ.length with h1 | h1
        · exact h1
        · simp [List.getElem?_eq_none h1] at hn
      rw [List.getElem?_append_left this]; exact .inl hn
  refine ⟨⟨by simp [h.len], fun o' b base esz tot ho' => ?_, fun o' ho' => ?_, fun o' x' ho' hx' => ?_, fun o1 o2 b base esz tot base' esz' tot' h1 h2 => ?_, h.foF hF, h.fbF hF, h.tbF hF⟩, hF⟩
  · obtain ⟨hlt, h'⟩ := key _ _ _ _ _ ho'
    obtain ⟨x', y', g1, g2, g3⟩ := h.obj _ _ _ _ _ h'
    exact ⟨x', y', by rw [List.getElem?_append_left (by rw [← h.len]; exact hlt)]; exact g1, g2, g3.mono hF⟩
  · rcases Nat.lt_or_ge o' μ.length with h1 | h1
    · rw [List.getElem?_append_left h1] at ho'
      rw [List.getElem?_append_left (by rw [← h.len]; exact h1)]
      exact h.em o' ho'
    · rw [List.getElem?_append_right h1] at ho'
      cases hk : o' - μ.length with
      | succ k => simp [hk] at ho'
      | zero => rw [List.getElem?_append_right (by rw [← h.len]; exact h1), ← h.len, hk]; exact ⟨esz, rfl⟩
  · intro hd
    rcases Nat.lt_or_ge o' μ.length with h1 | h1
    · rw [List.getElem?_append_left h1] at hd
      rw [List.getElem?_append_left (by rw [← h.len]; exact h1)] at ho'
      exact h.live o' x' ho' hx' hd
    · rw [List.getElem?_append_right h1] at hd
      cases hk : o' - μ.length <;> simp [hk] at hd
  · exact h.inj _ _ _ _ _ _ _ _ _ (key _ _ _ _ _ h1).2 (key _ _ _ _ _ h2).2

theorem idx_new {l : List Nm} {k : Nat} (h : k = l.length) (x : Nm) : (l ++ [x])[k]? = some x := by subst h; simp

def notInt (d : TypeDesc) : Prop := (∃ e, d = .slice e) ∨ d = .string

/-- append where there is room. -/
theorem run_append_in {sT xT e : TypeId} {z : Value} {esz bs len k m : Nat} {base : Option Addr} {x : Value} {d : TypeDesc} {vs : List Value} {w w1 : World}
    (ht : Und P sT (.slice e)) (hi : EI P e z esz bs) (hxt : Und P xT d) (hd : notInt d) (hl : (Builtin.lenOf x).run P w = .ok m w)
    (hf : (Builtin.firstCells esz m x).run P w = .ok vs.toArray w) (hk : len + m ≤ k)
    (hst : (match base with | some a => storeCells (a.add (len * esz)) vs | none => pure ()).run P w = .ok () w1) :
    (Builtin.append_ #[sT, xT] ty #[.slice base len k, x]).run P w = .ok (.slice base (len + m) k) w1 := by
  unfold Builtin.append_
  cases base with
  | none =>
    simp at hst; subst hst
    rcases hd with ⟨e', rfl⟩ | rfl <;> simp [ht w, hi.size w, hxt w, hl, hf, hk]
  | some a =>
    simp only at hst
    rcases hd with ⟨e', rfl⟩ | rfl <;> simp [ht w, hi.size w, hxt w, hl, hf, hk, hst]

theorem zeroCells_len (z : Array Value) (k : Nat) : (Builtin.zeroCells z k).size = k * z.size := by simp [Builtin.zeroCells]

/-- append where there is none: a new row. -/
theorem run_append_out {sT xT e : TypeId} {z : Value} {esz bs len k m : Nat} {base : Option Addr} {x : Value} {d : TypeDesc} {vs old : List Value} {w : World}
    (ht : Und P sT (.slice e)) (hi : EI P e z esz bs) (hxt : Und P xT d) (hd : notInt d) (hl : (Builtin.lenOf x).run P w = .ok m w)
    (hf : ∀ w', w'.heap = w.heap → (Builtin.firstCells esz m x).run P w' = .ok vs.toArray w') (hk : k < len + m) (hb : (len + m) * bs ≤ 140737488355328 ∨ (bs = 1 ∧ len + m ≤ 200000000000000))
    (hold : ∀ w', w'.heap = w.heap → (Builtin.firstCells esz len (.slice base len k)).run P w' = .ok old.toArray w') (hbz : bs ≠ 0) :
    ∃ w' rest newCap, (Builtin.append_ #[sT, xT] ty #[.slice base len k, x]).run P w = .ok (.slice (some ⟨w.heap.size, 0, none⟩) (len + m) newCap) w' ∧
      w'.heap = w.heap.push (.cells (old.toArray ++ vs.toArray ++ rest) e) ∧ len + m ≤ newCap ∧ rest.size = (newCap - (len + m)) * z.cells.size ∧ w'.os = w.os ∧ w'.output = w.output := by
  obtain ⟨i, hinf, hib⟩ := hi.info
  have hgf : Builtin.nextslicecap (len + m) k * bs ≤ 281474976710656 := by
    rcases hb with hb | ⟨rfl, hb⟩
    · exact growslice_fits hk hb
    · exact growslice_fits_wide hk (by omega)
  have hgf' : ¬ (Builtin.nextslicecap (len + m) k * i.bytes > 2 ^ 48) := by rw [hib]; omega
  have e0 : ¬ (len + m ≤ k) := by omega
  have hq : (Question.appendCap (len + m) k e).forced = false := rfl
  generalize hc : (Question.appendCap (len + m) k e).cut (w.tape w.drawn (.appendCap (len + m) k e)) = newCap
  have hcap : len + m ≤ newCap := by rw [← hc]; simp [Question.cut]
  refine ⟨w.drew.alloc (.cells (old.toArray ++ vs.toArray ++ Builtin.zeroCells z.cells (newCap - (len + m))) e), Builtin.zeroCells z.cells (newCap - (len + m)), newCap, ?_, rfl, hcap, zeroCells_len _ _, rfl, rfl⟩
  have hf2 := hf w.drew rfl
  have ho2 := hold w.drew rfl
  have hbz' : i.bytes ≠ 0 := by rw [hib]; exact hbz
  unfold Builtin.append_
  rcases hd with ⟨e', rfl⟩ | rfl <;> simp [ht w, hi.size w, hxt w, hl, e0, hinf w, hinf _, hgf', hbz', hq, hc, hf2, ho2, hi.zero _, newRow]
  all_goals (congr 2; apply Array.ext'; simp)

theorem take_all {xs : List AV} {vs : List Value} {k : Nat} (h : VRL F μ w xs vs) (hk : xs.length = k) : vs.take k = vs := by
  rw [← hk, h.length]; exact List.take_of_length_le (Nat.le_refl _)

theorem step_append {sT xT e : TypeId} {z : Value} {esz bs len m o off : Nat} {s x : Operand} {d : TypeDesc} {cells X : List AV} (ht : Und P sT (.slice e)) (hi : EI P e z esz bs) (hxt : Und P xT d) (hd : notInt d)
    (hx : opd env s = .sl o off len) (ho : hp[o]? = some (AObj.row esz cells)) (hend : off + len * esz = cells.length) (hs : Src P env hp esz x m X) (hb : (len + m) * bs ≤ 140737488355328 ∨ (bs = 1 ∧ len + m ≤ 200000000000000)) (hz : 0 < esz) (hbz : bs ≠ 0) (hzs : z.cells.size = esz) :
    Step P ⟨dst, .call ⟨.builtin .append, #[s, x], #[sT, xT]⟩, ty, pos, after, guard⟩ env hp (is (.sl hp.length 0 (len + m)) (hp.set o .dead ++ [.row esz (cells.drop off ++ X)])) := by
  refine Step.of fun F μ w a hr he => ?_
  obtain ⟨vs, hv, hgo⟩ := hs.go F μ w a hr he
  obtain ⟨hl, hf⟩ := hgo w rfl
  have hvl : vs.length = m * esz := by rw [← hv.length]; exact hs.len
  have hf' : ∀ w', w'.heap = w.heap → (Builtin.firstCells esz m (a.eval x)).run P w' = .ok vs.toArray w' := by
    intro w' hw
    have := (hgo w' hw).2 m (Nat.le_refl _)
    rwa [take_all hv hs.len] at this
  have h1v := hv.oneCell hs.one
  have hne : μ[o]? ≠ some Nm.un := by
    rcases he.sl hr hx ho with ⟨b, base, tot, c, el, fr, kc, g1, g2, g3, g4, _⟩ | ⟨_, ad, _, ⟨b, base, tot, g3⟩ | g3⟩
    · rw [g4]; simp
    · rw [g3]; simp
    · rw [g3]; simp
  obtain ⟨hk, hkF⟩ := hr.kill (o := o) hne
  have hlen : (hp.set o AObj.dead).length = hp.length := by simp
  have hlenμ : (μ.set o Nm.dead).length = hp.length := by simp [hr.len]
  have hexec : ∀ base k w1 v, (Builtin.append_ #[sT, xT] ty #[.slice base len k, a.eval x]).run P w = .ok v w1 → a.eval s = .slice base len k →
      (execOp a.eval ⟨dst, .call ⟨.builtin .append, #[s, x], #[sT, xT]⟩, ty, pos, after, guard⟩).run P w = .ok (.value v) w1 := by
    intro base k w1 v h1 h2
    simp [execOp, resolve, invoke, builtin, h2, h1]
  -- a new row
  have hout : ∀ base k, a.eval s = .slice base len k → k < len + m → (∃ old : List Value, VRL F μ w (cells.drop off) old ∧ ∀ w', w'.heap = w.heap → (Builtin.firstCells esz len (.slice base len k)).run P w' = .ok old.toArray w') →
      ∃ v w' μ', (execOp a.eval ⟨dst, .call ⟨.builtin .append, #[s, x], #[sT, xT]⟩, ty, pos, after, guard⟩).run P w = .ok (.value v) w' ∧
        HR F (hp.set o .dead ++ [.row esz (cells.drop off ++ X)]) μ' w' ∧ VR F μ' w' (.sl hp.length 0 (len + m)) v ∧ Fr μ w μ' w' := by
    intro base k hbase hkm ⟨old, hov, hold⟩
    obtain ⟨w', rest, nc, r1, r2, r3, r4, r5⟩ := run_append_out (ty := ty) ht hi hxt hd hl hf' hkm hb hold hbz
    have hol : old.length = len * esz := by rw [← hov.length]; simp; omega
    have hX : VRL F (μ.set o Nm.dead) w (cells.drop off ++ X) ((old.toArray ++ vs.toArray ++ rest).toList.take (cells.drop off ++ X).length) := by
      have e1 : (cells.drop off ++ X).length = (old ++ vs).length := by rw [List.length_append, List.length_append, hol, hvl, hs.len, List.length_drop]; omega
      rw [e1]
      have e2 : (old.toArray ++ vs.toArray ++ rest).toList.take (old ++ vs).length = old ++ vs := by rw [show (old.toArray ++ vs.toArray ++ rest).toList = (old ++ vs) ++ rest.toList by simp, List.take_left]
      rw [e2]
      exact (hov.mono hkF).append (hv.mono hkF)
    have hsz : (old.toArray ++ vs.toArray ++ rest).size = nc * esz := by
      simp only [Array.size_append, List.size_toArray, hol, hvl, r4, hzs]
      rw [← Nat.add_mul, ← Nat.add_mul]; congr 1; omega
    obtain ⟨g1, g2⟩ := hk.push (esz := esz) hX (by rw [hsz]; simp [hs.len]; have : (len + m) * esz ≤ nc * esz := Nat.mul_le_mul_right _ r3; rw [Nat.add_mul] at this; omega) (NF_zero _) r2 r5
    refine ⟨_, w', _, hexec _ _ _ _ r1 hbase, g1, ?_, hkF.trans g2⟩
    refine VR.sl (base := 0) (off := 0) (esz := esz) (idx_new (by rw [hlenμ]) _) ?_ r3
    rw [hsz]; omega
  rcases he.sl hr hx ho with ⟨b, base, tot, c, el, fr, kc, g1, g2, g3, g4, g5, g6, g7, g8, g9⟩ | ⟨g1, ad, g2, g3⟩
  · by_cases hin : len + m ≤ kc
    · -- in place
      have hkk : (len + m) * esz ≤ kc * esz := Nat.mul_le_mul_right _ hin
      rw [Nat.add_mul] at hkk
      obtain ⟨w1, c', r1, r2, r3, r4, r5⟩ := run_storeL P (o := base + off + len * esz) vs 0 w c g5 (by omega) (g6 ▸ g9) h1v
      have r1' : (storeCells ((⟨b, base + off, none⟩ : Addr).add (len * esz)) vs).run P w = .ok () w1 := by rw [addr_add]; exact r1
      have hap := run_append_in (ty := ty) (base := some ⟨b, base + off, none⟩) ht hi hxt hd hl (hf' w rfl) hin r1'
      have hbl : blocks μ b := ⟨o, base, esz, tot, g4⟩
      have hF : Fr μ w ((μ.set o .dead) ++ [.at b (base + off) esz tot]) w1 := by
        refine ⟨by rw [r2]; simp, fun b' hb' hn => ?_, fun b' hb' => ?_, fun o' nm hn => ?_, by simp, r5⟩
        · rw [r2]
          have : b ≠ b' := by rintro rfl; exact hn hbl
          rw [Array.getElem?_setIfInBounds_ne this]
        · obtain ⟨o', base', esz', tot', ho'⟩ := hb'
          rcases Nat.lt_or_ge o' (μ.set o Nm.dead).length with h1 | h1
          · rw [List.getElem?_append_left h1] at ho'
            rcases hkF.new b' ⟨o', base', esz', tot', ho'⟩ with h2 | h2
            · exact .inl h2
            · exact .inl (by have := hk.lt ⟨o', base', esz', tot', ho'⟩; omega)
          · rw [List.getElem?_append_right h1] at ho'
            cases hkk : o' - (μ.set o Nm.dead).length with
            | succ q => rw [hkk] at ho'; simp at ho'
            | zero => rw [hkk] at ho'; simp at ho'; rw [← ho'.1]; exact .inl hbl
        · have hlt : o' < μ.length := by
            rcases Nat.lt_or_ge o' μ.length with h1 | h1
            · exact h1
            · simp [List.getElem?_eq_none h1] at hn
          rw [List.getElem?_append_left (by simpa using hlt)]
          exact hkF.ext o' nm hn
      refine ⟨_, w1, _, hexec _ _ _ _ hap g1, ?_, ?_, hF⟩
      · have key : ∀ o' b' base' esz' tot', ((μ.set o Nm.dead) ++ [Nm.at b (base + off) esz tot])[o']? = some (Nm.at b' base' esz' tot') →
            (o ≠ o' ∧ o' < μ.length ∧ μ[o']? = some (Nm.at b' base' esz' tot')) ∨ (o' = μ.length ∧ b' = b ∧ base' = base + off ∧ esz' = esz ∧ tot' = tot) := by
          intro o' b' base' esz' tot' ho'
          rcases Nat.lt_or_ge o' (μ.set o Nm.dead).length with h1 | h1
          · left
            rw [List.getElem?_append_left h1] at ho'
            by_cases hoo : o = o'
            · subst hoo
              rw [List.getElem?_set_self'] at ho'
              cases hm : μ[o]? <;> simp [hm] at ho'
            · rw [List.getElem?_set_ne hoo] at ho'; exact ⟨hoo, by simpa using h1, ho'⟩
          · right
            rw [List.getElem?_append_right h1] at ho'
            cases hkk : o' - (μ.set o Nm.dead).length with
            | succ q => rw [hkk] at ho'; simp at ho'
            | zero =>
              rw [hkk] at ho'; simp at ho' hkk h1
              exact ⟨by omega, ho'.1.symm, ho'.2.1.symm, ho'.2.2.1.symm, ho'.2.2.2.symm⟩
        refine ⟨by simp [hr.len], fun o' b' base' esz' tot' ho' => ?_, fun o' ho' => ?_, fun o' x' ho' hx' => ?_, fun o1 o2 b' base1 esz1 tot1 base2 esz2 tot2 h1 h2 => ?_, hr.foF hF, hr.fbF hF, hr.tbF hF⟩
        · rcases key _ _ _ _ _ ho' with ⟨hoo, hlt, hm⟩ | ⟨e1, e2, e3, e4, e5⟩
          · obtain ⟨x', y', k1, k2, k3⟩ := hr.obj _ _ _ _ _ hm
            refine ⟨x', y', ?_, ?_, k3.mono hF⟩
            · rw [List.getElem?_append_left (by rw [hlen, ← hr.len]; exact hlt), List.getElem?_set_ne hoo]; exact k1
            · have : b ≠ b' := by rintro rfl; exact hoo (hr.inj _ _ _ _ _ _ _ _ _ g4 hm)
              rw [r2, Array.getElem?_setIfInBounds_ne this]; exact k2
          · have e4' := e4.symm
            have e5' := e5.symm
            have e2' := e2.symm
            have e3' := e3.symm
            subst e1; subst e2'; subst e3'; subst e4'; subst e5'
            refine ⟨.row _ (cells.drop off ++ X), .cells c' el fr, ?_, ?_, .row (by rw [r3, g6]) ?_ ?_ g9⟩
            · rw [hr.len, ← hlen]; simp
            · rw [r2, Array.getElem?_setIfInBounds_self_of_lt (heap_lt g5)]
            · simp [hs.len]; omega
            · have e : (c'.toList.drop (base + off)).take (cells.drop off ++ X).length = (c.toList.drop (base + off)).take (len * esz) ++ vs := by
                have hcl : c.toList.length = tot := by simpa using g6
                rw [r4]
                apply List.ext_getElem?
                intro j
                simp only [splice, List.getElem?_take, List.getElem?_drop, List.getElem?_append, List.length_append, List.length_take, List.length_drop, hs.len, hvl]
                grind
              rw [e]
              have h3 := window_sub (off := off) (k := len * esz) g8 (by omega)
              rw [List.take_of_length_le (by simp; omega)] at h3
              exact (h3.mono hF).append (hv.mono hF)
        · rcases Nat.lt_or_ge o' (μ.set o Nm.dead).length with h1 | h1
          · rw [List.getElem?_append_left h1] at ho'
            rw [List.getElem?_append_left (by rw [hlen, ← hlenμ]; exact h1)]
            exact hk.em o' ho'
          · rw [List.getElem?_append_right h1] at ho'
            cases hkk : o' - (μ.set o Nm.dead).length <;> (rw [hkk] at ho'; simp at ho')
        · intro hdd
          rcases Nat.lt_or_ge o' (μ.set o Nm.dead).length with h1 | h1
          · rw [List.getElem?_append_left h1] at hdd
            rw [List.getElem?_append_left (by rw [hlen, ← hlenμ]; exact h1)] at ho'
            exact hk.live o' x' ho' hx' hdd
          · rw [List.getElem?_append_right h1] at hdd
            cases hkk : o' - (μ.set o Nm.dead).length <;> (rw [hkk] at hdd; simp at hdd)
        · rcases key _ _ _ _ _ h1 with ⟨hoo, hlt, hm⟩ | ⟨e1, e2, _⟩ <;> rcases key _ _ _ _ _ h2 with ⟨hoo', hlt', hm'⟩ | ⟨e1', e2', _⟩
          · exact hr.inj _ _ _ _ _ _ _ _ _ hm hm'
          · subst e2'; exact absurd (hr.inj _ _ _ _ _ _ _ _ _ g4 hm) hoo
          · subst e2; exact absurd (hr.inj _ _ _ _ _ _ _ _ _ g4 hm') hoo'
          · omega
      · have := VR.sl (F := F) (μ := (μ.set o .dead) ++ [.at b (base + off) esz tot]) (w := w1) (o := hp.length) (off := 0) (len := len + m) (c := kc) (idx_new (by rw [hlenμ]) _) (by omega) hin
        simpa using this
    · refine hout _ _ g1 (by omega) ⟨(c.toList.drop (base + off)).take (len * esz), ?_, fun w' hw => ?_⟩
      · have h3 := window_sub (off := off) (k := len * esz) g8 (by omega)
        rwa [List.take_of_length_le (by simp; omega)] at h3
      · exact run_loadL P (w := w') (off := base + off) (len * esz) (hw ▸ g5) (by omega)
  · subst g1
    have hce : cells.drop off = [] := by
      apply List.eq_nil_of_length_eq_zero
      simp; omega
    rcases Nat.eq_zero_or_pos m with hm | hm
    · subst hm
      have hX : X = [] := by apply List.eq_nil_of_length_eq_zero; rw [hs.len]; simp
      have hvs : vs = [] := by apply List.eq_nil_of_length_eq_zero; rw [hvl]; simp
      subst hX; subst hvs
      have hap := run_append_in (ty := ty) (base := ad) (k := 0) (len := 0) (w1 := w) ht hi hxt hd hl (hf' w rfl) (by omega) (by cases ad <;> rfl)
      obtain ⟨p1, p2⟩ := hk.pushE (esz := esz)
      rw [hce]
      exact ⟨_, w, _, hexec _ _ _ _ hap g2, p1, .slE (idx_new (by rw [hlenμ]) _), hkF.trans p2⟩
    · refine hout _ _ g2 (by omega) ⟨[], by rw [hce]; exact .nil, fun w' hw => ?_⟩
      cases ad with
      | none => simp [Builtin.firstCells]
      | some ad => simp [Builtin.firstCells, loadCells, loadCellsFrom]

/-- append onto nothing. -/
theorem step_append0 {sT xT e : TypeId} {z : Value} {esz bs m : Nat} {s x : Operand} {d : TypeDesc} {X : List AV} (ht : Und P sT (.slice e)) (hi : EI P e z esz bs) (hxt : Und P xT d) (hd : notInt d)
    (hx : opd env s = .nil) (hs : Src P env hp esz x m X) (hb : m * bs ≤ 140737488355328) (hz : 0 < esz) (hbz : bs ≠ 0) (hzs : z.cells.size = esz) :
    Step P ⟨dst, .call ⟨.builtin .append, #[s, x], #[sT, xT]⟩, ty, pos, after, guard⟩ env hp (is (.sl hp.length 0 m) (hp ++ [.row esz X])) := by
  refine Step.of fun F μ w a hr he => ?_
  obtain ⟨vs, hv, hgo⟩ := hs.go F μ w a hr he
  obtain ⟨hl, hf⟩ := hgo w rfl
  have hvl : vs.length = m * esz := by rw [← hv.length]; exact hs.len
  have hf' : ∀ w', w'.heap = w.heap → (Builtin.firstCells esz m (a.eval x)).run P w' = .ok vs.toArray w' := by
    intro w' hw
    have := (hgo w' hw).2 m (Nat.le_refl _)
    rwa [take_all hv hs.len] at this
  have h1 := he.opd s
  rw [hx] at h1
  generalize hev : a.eval s = v at h1
  cases h1 with
  | nil =>
    rename_i ad
    have hexec : ∀ w1 v, (Builtin.append_ #[sT, xT] ty #[.slice ad 0 0, a.eval x]).run P w = .ok v w1 →
        (execOp a.eval ⟨dst, .call ⟨.builtin .append, #[s, x], #[sT, xT]⟩, ty, pos, after, guard⟩).run P w = .ok (.value v) w1 := by
      intro w1 v h1
      simp [execOp, resolve, invoke, builtin, hev, h1]
    rcases Nat.eq_zero_or_pos m with hm | hm
    · subst hm
      have hX : X = [] := by apply List.eq_nil_of_length_eq_zero; rw [hs.len]; simp
      have hvs : vs = [] := by apply List.eq_nil_of_length_eq_zero; rw [hvl]; simp
      subst hX; subst hvs
      have hap := run_append_in (ty := ty) (base := ad) (k := 0) (len := 0) (w1 := w) ht hi hxt hd hl (hf' w rfl) (by omega) (by cases ad <;> rfl)
      obtain ⟨p1, p2⟩ := hr.pushE (esz := esz)
      exact ⟨_, w, _, hexec _ _ hap, p1, .slE (idx_new hr.len.symm _), p2⟩
    · obtain ⟨w', rest, nc, r1, r2, r3, r4, r5⟩ := run_append_out (ty := ty) (base := ad) (len := 0) (k := 0) (old := []) ht hi hxt hd hl hf' (by omega) (.inl (by simpa using hb)) (fun w' hw => by
        cases ad with
        | none => simp [Builtin.firstCells]
        | some ad => simp [Builtin.firstCells, loadCells, loadCellsFrom]) hbz
      have hX : VRL F μ w X (([].toArray ++ vs.toArray ++ rest).toList.take X.length) := by
        have e2 : ([].toArray ++ vs.toArray ++ rest).toList.take X.length = vs := by rw [hv.length]; simp
        rw [e2]; exact hv
      have hsz : ([].toArray ++ vs.toArray ++ rest : Array Value).size = nc * esz := by
        simp only [Array.size_append, List.size_toArray, List.length_nil, hvl, r4, hzs, Nat.zero_add]
        rw [← Nat.add_mul]; congr 1; omega
      obtain ⟨g1, g2⟩ := hr.push (esz := esz) hX (by rw [hsz, hs.len]; exact Nat.mul_le_mul_right _ (by omega)) (NF_zero _) r2 r5
      refine ⟨_, w', _, hexec _ _ r1, g1, ?_, g2⟩
      have := VR.sl (F := F) (μ := μ ++ [.at w.heap.size 0 esz ([].toArray ++ vs.toArray ++ rest : Array Value).size]) (w := w') (o := hp.length) (off := 0) (len := 0 + m) (c := nc) (idx_new hr.len.symm _) (by rw [hsz]; omega) r3
      simpa using this

end Go.SL

set_option linter.unusedSimpArgs false
set_option linter.unnecessarySimpa false
set_option linter.unusedVariables false
set_option linter.unusedSectionVars false
namespace Go.SL
open Go
variable [Tabs]

variable {F : Nat → Prop} {μ μ' μ'' : List Nm} {w w' w'' : World} {P : Program} {n : Nat} {env : Nat → AV} {hp : List AObj}
variable {dst : Option Nat} {ty : TypeId} {pos : String} {after : Array Edge} {guard : Option (Nat × Bool)}

theorem VRL.all_one {xs : List AV} {vs : List Value} (h : VRL F μ w xs vs) (hx : xs.all cellAV = true) (k : Nat) : ∀ v ∈ vs.take k, v.oneCell' = true :=
  fun v hv => h.oneCell hx v (List.mem_of_mem_take hv)

theorem step_copy {dT sT e : TypeId} {z : Value} {esz bs len m o off : Nat} {d s : Operand} {cells X : List AV} (ht : Und P dT (.slice e)) (hi : EI P e z esz bs)
    (hx : opd env d = .sl o off len) (ho : hp[o]? = some (AObj.row esz cells)) (hend : off + len * esz ≤ cells.length) (hs : Src P env hp esz s m X) :
    Step P ⟨dst, .call ⟨.builtin .copy, #[d, s], #[dT, sT]⟩, ty, pos, after, guard⟩ env hp (is (.sc (.int .i64 ((min m len : Nat) : Int))) (hp.set o (.row esz (splice cells off (X.take (min m len * esz)))))) := by
  refine Step.of fun F μ w a hr he => ?_
  obtain ⟨vs, hv, hgo⟩ := hs.go F μ w a hr he
  obtain ⟨hl, hf⟩ := hgo w rfl
  have hf := hf (min m len) (Nat.min_le_left _ _)
  have hvl : vs.length = m * esz := by rw [← hv.length]; exact hs.len
  have hmn : Nat.min m len = min m len := rfl
  rcases he.sl hr hx ho with ⟨b, base, tot, c, el, fr, kc, g1, g2, g3, g4, g5, g6, g7, g8, g9⟩ | ⟨g1, ad, g2, g3⟩
  · have hle : min m len * esz ≤ len * esz := Nat.mul_le_mul_right _ (Nat.min_le_right _ _)
    have hle2 : min m len * esz ≤ m * esz := Nat.mul_le_mul_right _ (Nat.min_le_left _ _)
    obtain ⟨w1, c', r1, r2, r3, r4, r5⟩ := run_storeL P (o := base + off) (vs.take (min m len * esz)) 0 w c g5 (by simp; omega) (g6 ▸ g9) (hv.all_one hs.one _)
    have hvt := hv.take (min m len * esz)
    obtain ⟨p1, p2⟩ := hr.write (off := off) ho g4 g5 hvt (by simp [hs.len]; omega) r2 r3 (by simpa using r4) r5
    refine ⟨.int .i64 (min m len : Nat), w1, μ, ?_, p1, .sc rfl, p2⟩
    have r1' : (storeCells ⟨b, base + off, none⟩ (vs.take (min m len * esz))).run P w = .ok () w1 := r1
    simp [execOp, resolve, invoke, builtin, Builtin.copy_, g1, ht w, hi.size w, hl, hmn, hf, r1', goInt]
  · subst g1
    have e0 : min m 0 = 0 := Nat.min_zero _
    rw [e0] at hf ⊢
    have hset : hp.set o (.row esz (splice cells off (X.take (0 * esz)))) = hp := by
      simp only [Nat.zero_mul, List.take_zero, splice_nil]
      apply List.ext_getElem?
      intro j
      by_cases hj : o = j
      · subst hj; rw [List.getElem?_set_self']; simp [ho]
      · rw [List.getElem?_set_ne hj]
    rw [hset]
    refine ⟨.int .i64 (0 : Nat), w, μ, ?_, hr, .sc rfl, Fr.refl _ _⟩
    have hmn0 : Nat.min m 0 = 0 := Nat.min_zero _
    cases ad with
    | none => simp [execOp, resolve, invoke, builtin, Builtin.copy_, g2, ht w, hi.size w, hl, hmn0, hf, goInt]
    | some ad => simp [execOp, resolve, invoke, builtin, Builtin.copy_, g2, ht w, hi.size w, hl, hmn0, hf, goInt, storeCells]

/-- So many elements of zero cells. -/
def zerosAV (z : Value) (len : Nat) : List AV := (List.range (len * z.cells.size)).map fun i => litC (z.cells.toList.getD (i % z.cells.size) undef)

theorem zerosAV_length (z : Value) (len : Nat) : (zerosAV z len).length = len * z.cells.size := by simp [zerosAV]

theorem zerosAV_rel (z : Value) (len k : Nat) (hk : len ≤ k) :
    VRL F μ w (zerosAV z len) (((Array.range (k * z.cells.size)).map fun i => z.cells[i % z.cells.size]!).toList.take (len * z.cells.size)) := by
  have hle : len * z.cells.size ≤ k * z.cells.size := Nat.mul_le_mul_right _ hk
  refine VRL.of_get (by rw [zerosAV_length]; simp only [List.length_take, Array.length_toList, Array.size_map, Array.size_range]; omega) fun i x v hx hv => ?_
  have hi : i < len * z.cells.size := by
    rcases Nat.lt_or_ge i (zerosAV z len).length with h | h
    · simpa [zerosAV] using h
    · simp [List.getElem?_eq_none h] at hx
  have hz : 0 < z.cells.size := by
    rcases Nat.eq_zero_or_pos z.cells.size with h | h
    · rw [h] at hi; omega
    · exact h
  have hm : i % z.cells.size < z.cells.size := Nat.mod_lt _ hz
  have e1 : x = litC (z.cells.toList.getD (i % z.cells.size) undef) := by
    simp [zerosAV, hi] at hx
    rw [← hx]
    simp
  have e2 : v = z.cells[i % z.cells.size]! := by
    rw [List.getElem?_take] at hv
    simp only [hi, if_true] at hv
    have : i < k * z.cells.size := by omega
    simp [this] at hv
    exact hv.symm
  have e3 : z.cells.toList.getD (i % z.cells.size) undef = v := by
    rw [e2]; simp [List.getD, hm, getElem!_pos]
  rw [e1, e3]
  exact litC_rel v

theorem mapPartsVRL {a : Act} (he : EnvR F env μ w a.tmps) : ∀ l : List (Nat × Operand), VRL F μ w ((l.map fun p => (p.1, opd env p.2)).map (·.2)) ((l.map fun p => (p.1, a.eval p.2)).map (·.2))
  | [] => .nil
  | p :: l => .cons (he.opd p.2) (mapPartsVRL he l)

theorem step_makeSlice {t e : TypeId} {z : Value} {esz bs len cap : Nat} {x y : Operand} {k k' : IntKind} {p q : Int} (ht : Und P t (.slice e)) (hi : EI P e z esz bs) (hzs : z.cells.size = esz) (hx : opd env x = .sc (.int k p)) (hy : opd env y = .sc (.int k' q))
    (hp' : p = (len : Int)) (hq : q = (cap : Int)) (h1 : len ≤ cap) (h2 : cap ≤ 9223372036854775807) (h3 : cap * bs ≤ 281474976710656) (hz : 0 < esz) :
    Step P ⟨dst, .makeSlice t x y, ty, pos, after, guard⟩ env hp (is (.sl hp.length 0 len) (hp ++ [.row esz (zerosAV z len)])) := by
  subst hzs
  refine Step.of fun F μ w a hr he => ?_
  obtain ⟨i, hinf, hib⟩ := hi.info
  subst hp'; subst hq
  have hzr := zerosAV_rel (F := F) (μ := μ) (w := w) z len cap h1
  have hlz := zerosAV_length z len
  have hle : len * z.cells.size ≤ cap * z.cells.size := Nat.mul_le_mul_right _ h1
  obtain ⟨g1, g2⟩ := hr.push (esz := z.cells.size) (c := (Array.range (cap * z.cells.size)).map fun i => z.cells[i % z.cells.size]!) (el := e) (xs := zerosAV z len) (by rw [hlz]; exact hzr) (by rw [hlz]; simp; exact hle) (NF_zero _)
    (w' := { w with heap := w.heap.push (.cells ((Array.range (cap * z.cells.size)).map fun i => z.cells[i % z.cells.size]!) e) }) rfl
  refine ⟨.slice (some ⟨w.heap.size, 0, none⟩) len cap, _, _, ?_, g1, ?_, g2⟩
  · have w1 : IntKind.i64.wrap (len : Int) = len := by exact IntWalk.i64_in _ (by omega)
    have w2 : IntKind.i64.wrap (cap : Int) = cap := by exact IntWalk.i64_in _ (by omega)
    have e1 : ¬ ((i.bytes : Int) * (cap : Int) > 2 ^ 48) := by
      have h4 : bs * cap ≤ 281474976710656 := by rw [Nat.mul_comm]; exact h3
      have h5 : ((bs : Int) * (cap : Int)) = ((bs * cap : Nat) : Int) := (Int.natCast_mul bs cap).symm
      rw [hib, h5]
      generalize bs * cap = q at h4
      omega
    have e2 : ¬ ((cap : Int) < 0) := by omega
    have e3 : ¬ ((len : Int) < 0) := by omega
    have e4 : ¬ ((len : Int) > cap) := by omega
    have : (Instr.makeSlice t (.int k len) (.int k' cap)).run P w = .ok (.slice (some ⟨w.heap.size, 0, none⟩) len cap) { w with heap := w.heap.push (.cells ((Array.range (cap * z.cells.size)).map fun i => z.cells[i % z.cells.size]!) e) } := by
      unfold Instr.makeSlice
      simp only [Sem.run_bind, ht w, asInt, asIntOf, Sem.run_pure, Result.andThen_ok, hinf w, w1, w2]
      have ec : (decide ((cap : Int) < 0) || decide ((i.bytes : Int) * (cap : Int) > 2 ^ 48)) = false := by rw [decide_eq_false e1, decide_eq_false e2]; rfl
      have eg : ¬ ((decide ((cap : Int) < 0) || decide ((i.bytes : Int) * (cap : Int) > 2 ^ 48) || decide ((len : Int) < 0) || decide ((len : Int) > cap)) = true) := by
        rw [ec, decide_eq_false e3, decide_eq_false e4]; simp
      rw [if_neg eg]
      simp only [Sem.run_bind, run_askRoom, Result.andThen_ok, hi.size w, Int.toNat_natCast, Sem.run_pure]
      rcases Nat.eq_zero_or_pos (cap * z.cells.size) with h0 | h0
      · rw [if_pos h0]
        simp only [Sem.run_bind, Sem.run_pure, Result.andThen_ok]
        rw [h0]
        have e1 : (Array.map (fun x => (#[] : Array Value)[x % (#[] : Array Value).size]!) (Array.range 0)) = #[] := by simp
        have e2 : (Array.map (fun i => z.cells[i % z.cells.size]!) (Array.range 0)) = #[] := by simp
        rw [e2, e1]
        rfl
      · rw [if_neg (by omega)]
        simp only [Sem.run_bind, hi.zero w, Sem.run_pure, Result.andThen_ok]
        rfl
    simp [execOp, he.sc hx, he.sc hy, this]
  · exact .sl (base := 0) (off := 0) (idx_new hr.len.symm _) (by simp) h1

end Go.SL

set_option linter.unusedSimpArgs false
set_option linter.unnecessarySimpa false
set_option linter.unusedVariables false
set_option linter.unusedSectionVars false
namespace Go.SL
open Go
variable [Tabs]

variable {F F' : Nat → Prop} {μ μ' μ'' : List Nm} {w w' w'' : World} {P : Program} {n : Nat} {env : Nat → AV} {hp : List AObj}
variable {dst : Option Nat} {ty : TypeId} {pos : String} {after : Array Edge} {guard : Option (Nat × Bool)}

mutual
def ren (f : Nat → Nat) : AV → AV
  | .any => .any
  | .nil => .nil
  | .sc v => .sc v
  | .ptr o off => .ptr (f o) off
  | .sl o off len => .sl (f o) off len
  | .im e cs => .im e cs
  | .ip cs i => .ip cs i
  | .fn k xs ys => .fn k (renL f xs) (renL f ys)
  | .agg cs => .agg (renL f cs)
  | .tup vs => .tup (renL f vs)
  | .ifc t v => .ifc t (ren f v)
  | .mp o => .mp (f o)
def renL (f : Nat → Nat) : List AV → List AV
  | [] => []
  | x :: xs => ren f x :: renL f xs
end

mutual
theorem ren_noOwn (f : Nat → Nat) : ∀ x, noOwn x = true → ren f x = x
  | .any, _ => rfl
  | .nil, _ => rfl
  | .sc _, _ => rfl
  | .ptr _ _, h => by simp [noOwn] at h
  | .sl _ _ _, h => by simp [noOwn] at h
  | .im e cs, h => rfl
  | .ip cs i, h => rfl
  | .fn k xs ys, h => by simp only [noOwn, Bool.and_eq_true] at h; simp only [ren, renL_noOwn f xs h.1, renL_noOwn f ys h.2]
  | .agg cs, h => by simp only [noOwn] at h; simp only [ren, renL_noOwn f cs h]
  | .tup vs, h => by simp only [noOwn] at h; simp only [ren, renL_noOwn f vs h]
  | .ifc t v, h => by simp only [noOwn] at h; simp only [ren, ren_noOwn f v h]
  | .mp _, h => by simp [noOwn] at h
theorem renL_noOwn (f : Nat → Nat) : ∀ xs, noOwnL xs = true → renL f xs = xs
  | [], _ => rfl
  | x :: xs, h => by simp only [noOwnL, Bool.and_eq_true] at h; simp only [renL, ren_noOwn f x h.1, renL_noOwn f xs h.2]
end

/-- A block that holds something and is neither ours nor foreign. -/
def Free (μ : List Nm) (F : Nat → Prop) (b : Nat) : Prop := ¬ blocks μ b ∧ ¬ F b

mutual
/-- What holds of a value without own rows holds over other names too. -/
theorem VR.moveN (hb : ∀ b, b < w.heap.size → Free μ F b → Free μ' F' b) : ∀ {x : AV} {v : Value}, VR F μ w x v → noOwn x = true → VR F' μ' w x v
  | _, _, .any, _ => .any
  | _, _, .nil, _ => .nil
  | _, _, .sc h, _ => .sc h
  | _, _, .ptr _, hx => by simp [noOwn] at hx
  | _, _, .ptrD _, hx => by simp [noOwn] at hx
  | _, _, .sl _ _ _, hx => by simp [noOwn] at hx
  | _, _, .slN _, hx => by simp [noOwn] at hx
  | _, _, .slE _, hx => by simp [noOwn] at hx
  | _, _, .slD _, hx => by simp [noOwn] at hx
  | _, _, .im0, _ => .im0
  | _, _, .im h hb' hF hk hk2 hx, _ => by
    obtain ⟨g1, g2⟩ := hb _ (heap_lt h) ⟨hb', hF.1⟩
    exact .im h g1 ⟨g2, hF.2⟩ hk hk2 (VRL.moveN hb hx hF.2)
  | _, _, .ip h hb' hF hx, _ => by
    obtain ⟨g1, g2⟩ := hb _ (heap_lt h) ⟨hb', hF.1⟩
    exact .ip h g1 ⟨g2, hF.2⟩ (VRL.moveN hb hx hF.2)
  | _, _, .fn h1 h2, hx => by
    simp only [noOwn, Bool.and_eq_true] at hx
    exact .fn (VRL.moveN hb h1 hx.1) (VRL.moveN hb h2 hx.2)
  | _, _, .agg h, hx => .agg (VRL.moveN hb h (by simpa [noOwn] using hx))
  | _, _, .tup h, hx => .tup (VRL.moveN hb h (by simpa [noOwn] using hx))
  | _, _, .ifc h, hx => .ifc (VR.moveN hb h (by simpa [noOwn] using hx))
  | _, _, .mp _, hx => by simp [noOwn] at hx
  | _, _, .mpD _, hx => by simp [noOwn] at hx
theorem VRL.moveN (hb : ∀ b, b < w.heap.size → Free μ F b → Free μ' F' b) : ∀ {xs : List AV} {vs : List Value}, VRL F μ w xs vs → noOwnL xs = true → VRL F' μ' w xs vs
  | _, _, .nil, _ => .nil
  | _, _, .cons h t, hx => by
    simp only [noOwnL, Bool.and_eq_true] at hx
    exact .cons (VR.moveN hb h hx.1) (VRL.moveN hb t hx.2)
end

mutual
/-- Read back through a renaming. -/
theorem VR.pull {f : Nat → Nat} (hn : ∀ j nm, μ[f j]? = some nm → μ'[j]? = some nm) (hb : ∀ b, b < w.heap.size → Free μ F b → Free μ' F' b) :
    ∀ {x : AV} {v : Value}, VR F μ w (ren f x) v → VR F' μ' w x v
  | .any, _, _ => .any
  | .nil, _, h => by simp only [ren] at h; cases h; exact .nil
  | .sc _, _, h => by simp only [ren] at h; cases h with | sc h => exact .sc h
  | .ptr _ _, _, h => by
    simp only [ren] at h
    cases h with
    | ptr h => exact .ptr (hn _ _ h)
    | ptrD h => exact .ptrD (hn _ _ h)
  | .sl _ _ _, _, h => by
    simp only [ren] at h
    cases h with
    | sl h hc hl => exact .sl (hn _ _ h) hc hl
    | slN h => exact .slN (hn _ _ h)
    | slE h => exact .slE (hn _ _ h)
    | slD h => exact .slD (hn _ _ h)
  | .im e cs, _, h => VR.moveN hb h rfl
  | .ip cs i, _, h => VR.moveN hb h rfl
  | .fn k xs ys, _, h => by
    simp only [ren] at h
    cases h with
    | fn h1 h2 => exact .fn (VRL.pull hn hb h1) (VRL.pull hn hb h2)
  | .agg cs, _, h => by
    simp only [ren] at h
    cases h with
    | agg h => exact .agg (VRL.pull hn hb h)
  | .tup vs, _, h => by
    simp only [ren] at h
    cases h with
    | tup h => exact .tup (VRL.pull hn hb h)
  | .ifc t v, _, h => by
    simp only [ren] at h
    cases h with
    | ifc h => exact .ifc (VR.pull hn hb h)
  | .mp _, _, h => by
    simp only [SL.ren] at h
    cases h with
    | mp h => exact .mp (hn _ _ h)
    | mpD h => exact .mpD (hn _ _ h)
theorem VRL.pull {f : Nat → Nat} (hn : ∀ j nm, μ[f j]? = some nm → μ'[j]? = some nm) (hb : ∀ b, b < w.heap.size → Free μ F b → Free μ' F' b) :
    ∀ {xs : List AV} {vs : List Value}, VRL F μ w (renL f xs) vs → VRL F' μ' w xs vs
  | [], _, h => by simp only [renL] at h; cases h; exact .nil
  | x :: xs, _, h => by
    simp only [renL] at h
    cases h with
    | cons h t => exact .cons (VR.pull hn hb h) (VRL.pull hn hb t)
end

mutual
/-- Told through a renaming. -/
theorem VR.push {f : Nat → Nat} (hn : ∀ j nm, μ[j]? = some nm → nm ≠ .un → μ'[f j]? = some nm) (hb : ∀ b, b < w.heap.size → Free μ F b → Free μ' F' b) :
    ∀ {x : AV} {v : Value}, VR F μ w x v → VR F' μ' w (ren f x) v
  | _, _, .any => .any
  | _, _, .nil => .nil
  | _, _, .sc h => .sc h
  | _, _, .ptr h => .ptr (hn _ _ h (by simp))
  | _, _, .ptrD h => .ptrD (hn _ _ h (by simp))
  | _, _, .sl h hc hl => .sl (hn _ _ h (by simp)) hc hl
  | _, _, .slN h => .slN (hn _ _ h (by simp))
  | _, _, .slE h => .slE (hn _ _ h (by simp))
  | _, _, .slD h => .slD (hn _ _ h (by simp))
  | _, _, .im0 => .im0
  | _, _, .im h hb' hF hk hk2 hx => VR.moveN hb (.im h hb' hF hk hk2 hx) rfl
  | _, _, .ip h hb' hF hx => VR.moveN hb (.ip h hb' hF hx) rfl
  | _, _, .fn h1 h2 => .fn (VRL.push hn hb h1) (VRL.push hn hb h2)
  | _, _, .agg h => .agg (VRL.push hn hb h)
  | _, _, .tup h => .tup (VRL.push hn hb h)
  | _, _, .ifc h => .ifc (VR.push hn hb h)
  | _, _, .mp h => .mp (hn _ _ h (by simp))
  | _, _, .mpD h => .mpD (hn _ _ h (by simp))
theorem VRL.push {f : Nat → Nat} (hn : ∀ j nm, μ[j]? = some nm → nm ≠ .un → μ'[f j]? = some nm) (hb : ∀ b, b < w.heap.size → Free μ F b → Free μ' F' b) :
    ∀ {xs : List AV} {vs : List Value}, VRL F μ w xs vs → VRL F' μ' w (renL f xs) vs
  | _, _, .nil => .nil
  | _, _, .cons h t => .cons (VR.push hn hb h) (VRL.push hn hb t)
end

/-- What holds of a value without own rows holds over other names too. -/
theorem VR.move {x : AV} {v : Value} (h : VR F μ w x v) (hx : noOwn x = true) (hb : ∀ b, b < w.heap.size → Free μ F b → Free μ' F' b) : VR F' μ' w x v := by
  exact VR.pull (f := fun _ => μ.length) (fun j nm hj => by simp at hj) hb (by rw [ren_noOwn (fun _ => μ.length) x hx]; exact h)

theorem VRL.move {xs : List AV} {vs : List Value} (h : VRL F μ w xs vs) (hx : noOwnL xs = true) (hb : ∀ b, b < w.heap.size → Free μ F b → Free μ' F' b) : VRL F' μ' w xs vs :=
  VRL.pull (f := fun _ => μ.length) (fun j nm hj => by simp at hj) hb (by rw [renL_noOwn (fun _ => μ.length) xs hx]; exact h)

/-- A contract: called with these arguments over these rows the function returns; R tells its value and the rows behind it. -/
def Spec (P : Program) (k : Nat) (args : List AV) (hp : List AObj) (R : AV → List AObj → Prop) : Prop :=
  ∀ (F : Nat → Prop) (μ : List Nm) (w : World) (args' : Array Value), HR F hp μ w → VRL F μ w args args'.toList →
    Calls P k args' w (fun e w' => ∃ x v hp' μ', e = .returned v ∧ R x hp' ∧ HR F hp' μ' w' ∧ VR F μ' w' x v ∧ Fr μ w μ' w')

/-- That a function has a body in Go. -/
def HasBody (P : Program) (k : Nat) : Prop := ∀ (args : Array Value) (w : World), (callFunc k args).run P w = .ok (.enter k args) w

theorem upon_calls {o : Oper} {a : Act} {next : Act → World → Prop} {Q : Exit → Act → World → Prop} {k : Nat} {args : Array Value}
    (h : (execOp a.eval o).run P w = .ok (.enter k args) w) (hc : Calls P k args w fun e w' => ∃ v, e = .returned v ∧ next (a.put o.dst v) w') : o.wp P a w next Q := by
  unfold Oper.wp
  rw [h]
  exact hc.mono fun e w' ⟨v, he, hn⟩ => by subst he; exact hn

def argEnv (args : List AV) : Nat → AV := fun i => args.getD i (.sc undef)

theorem argEnv_rel {args : List AV} {args' : Array Value} {k : Nat} (h : VRL F μ w args args'.toList) : EnvR F (argEnv args) μ w (args' ++ Array.replicate k undef) := by
  intro i
  have hl := h.length
  simp only [Array.length_toList] at hl
  rcases Nat.lt_or_ge i args'.size with hi | hi
  · have hi' : i < args.length := by omega
    obtain ⟨v, h1, h2⟩ := h.get (List.getElem?_eq_getElem hi')
    have e1 : argEnv args i = args[i] := by simp [argEnv, List.getD, hi']
    have e2 : (args' ++ Array.replicate k undef).getD i undef = v := by
      have h1' : args'[i]? = some v := by simpa using h1
      rw [Array.getElem?_eq_getElem hi] at h1'
      have : i < (args' ++ Array.replicate k undef).size := by simp; omega
      simp only [Array.getD, this, dif_pos]
      rw [← Option.some.inj h1']
      show (args' ++ Array.replicate k undef)[i] = args'[i]
      rw [Array.getElem_append_left hi]
    rw [e1, e2]; exact h2
  · have e1 : argEnv args i = .sc undef := by simp [argEnv, List.getD, show args.length ≤ i by omega]
    have e2 : (args' ++ Array.replicate k undef).getD i undef = undef := by
      simp only [Array.getD]
      split
      · rename_i hlt
        show (args' ++ Array.replicate k undef)[i] = undef
        rw [Array.getElem_append_right hi]
        simp
      · rfl
    rw [e1, e2]; exact .sc plain_undef

def resOne (t : Array Value) : ResultVar → Sem Value
  | .tmp i => pure (t.getD i undef)
  | .cell i ty => do loadVar ty (← asAddr (t.getD i undef))

/-- What a body's results are. -/
def Res (P : Program) (rs : List ResultVar) (σ : SS) (xs : List AV) : Prop :=
  ∀ (F : Nat → Prop) (μ : List Nm) (w : World) (t : Array Value), HR F σ.hp μ w → EnvR F σ.env μ w t → ∃ vs : List Value,
    (rs.mapM (resOne t)).run P w = .ok vs w ∧ VRL F μ w xs vs

theorem Res.nil {σ : SS} : Res P [] σ [] := fun F μ w t _ _ => ⟨[], by simp, .nil⟩
theorem Res.tmp {σ : SS} {i : Nat} {rs : List ResultVar} {x : AV} {xs : List AV} (hx : σ.env i = x) (h : Res P rs σ xs) : Res P (.tmp i :: rs) σ (x :: xs) := by
  intro F μ w t hr he
  obtain ⟨vs, h1, h2⟩ := h F μ w t hr he
  exact ⟨t.getD i undef :: vs, by
    have e : (resOne t (.tmp i)).run P w = .ok (t.getD i undef) w := rfl
    simp only [List.mapM_cons, Sem.run_bind, e, Sem.run_pure, Result.andThen_ok, h1], .cons (by rw [← hx]; exact he i) h2⟩

theorem Res.cell {σ : SS} {i o off esz : Nat} {ty : TypeId} {rs : List ResultVar} {cells : List AV} {x : AV} {xs : List AV} (ha : IsAgg P ty false) (hx : σ.env i = .ptr o off) (ho : σ.hp[o]? = some (AObj.row esz cells))
    (hy : cells[off]? = some x) (h : Res P rs σ xs) : Res P (.cell i ty :: rs) σ (x :: xs) := by
  intro F μ w t hr he
  obtain ⟨vs, h1, h2⟩ := h F μ w t hr he
  obtain ⟨b, base, tot, c, el, fr, g1, g2, g3, g4, g5, g6, g7⟩ := EnvR.ptr (a := ⟨t, []⟩) (x := .tmp i) he hr hx ho
  obtain ⟨v, k1, k2⟩ := window_get g6 hy
  have : w.cell? ⟨b, base + off, none⟩ = some v := by simp [World.cell?, g3]; simpa using k1
  have g1' : t.getD i undef = .pointer (some ⟨b, base + off, none⟩) := g1
  refine ⟨v :: vs, ?_, .cons k2 h2⟩
  have e : (resOne t (.cell i ty)).run P w = .ok v w := by simp [resOne, g1', asAddr, loadVar, ha w, this]
  simp only [List.mapM_cons, Sem.run_bind, e, Sem.run_pure, Result.andThen_ok, h1]

theorem Res.cellA {σ : SS} {i o off esz k : Nat} {ty : TypeId} {rs : List ResultVar} {cells : List AV} {xs : List AV} (ha : IsAgg P ty true) (hs : SizeOf P ty k) (hx : σ.env i = .ptr o off) (ho : σ.hp[o]? = some (AObj.row esz cells))
    (hk : off + k ≤ cells.length) (h : Res P rs σ xs) : Res P (.cell i ty :: rs) σ (.agg ((cells.drop off).take k) :: xs) := by
  intro F μ w t hr he
  obtain ⟨vs, h1, h2⟩ := h F μ w t hr he
  obtain ⟨b, base, tot, c, el, fr, g1, g2, g3, g4, g5, g6, g7⟩ := EnvR.ptr (a := ⟨t, []⟩) (x := .tmp i) he hr hx ho
  have hl := run_loadL P (off := base + off) k g3 (by omega)
  have g1' : t.getD i undef = .pointer (some ⟨b, base + off, none⟩) := g1
  refine ⟨.agg ((c.toList.drop (base + off)).take k).toArray :: vs, ?_, .cons (.agg (by simpa using window_sub g6 hk)) h2⟩
  have e : (resOne t (.cell i ty)).run P w = .ok (.agg ((c.toList.drop (base + off)).take k).toArray) w := by simp [resOne, g1', asAddr, loadVar, ha w, hs w, hl]
  simp only [List.mapM_cons, Sem.run_bind, e, Sem.run_pure, Result.andThen_ok, h1]

/-- One result, or a tuple. -/
def oneAV : List AV → AV
  | [x] => x
  | xs => .tup xs

/-- Rows are let go, values turned: what is told of them still holds. p: how many rows stay as they are numbered. -/
def Cv (p : Nat) (hp : List AObj) (x : AV) (hp' : List AObj) (x' : AV) : Prop :=
  ∀ (F : Nat → Prop) (μ : List Nm) (w : World) (v : Value), HR F hp μ w → VR F μ w x v → ∃ μ', HR F hp' μ' w ∧ VR F μ' w x' v ∧ (∀ b, blocks μ' b → blocks μ b) ∧
    (∀ (o : Nat) nm, o < p → μ[o]? = some nm → μ'[o]? = some nm ∨ (nm ≠ .un ∧ μ'[o]? = some .dead)) ∧ p ≤ μ'.length

def retK (P : Program) (p : Nat) (rs : List ResultVar) (R : AV → List AObj → Prop) : Exit → SS → Prop := fun e σ =>
  (e = .ret ∨ e = .normal) ∧ ∃ xs x hp', Res P rs σ xs ∧ Cv p σ.hp (oneAV xs) hp' x ∧ R x hp'

theorem Spec.body {k : Nat} {fn : Func} {c : Code} {args : List AV} {R : AV → List AObj → Prop} (hf : P.funcs[k]? = some fn) (hb : fn.body = some c) (hn : args.length ≤ fn.ntmps)
    (h : W P fn.ntmps c (retK P hp.length fn.results.toList R) ⟨argEnv args, hp⟩) : Spec P k args hp R := by
  intro F μ w args' hr ha
  have hl := ha.length
  simp only [Array.length_toList] at hl
  refine calls_of_wp hf hb ?_
  have hs : SR F fn.ntmps ⟨argEnv args, hp⟩ μ { tmps := args' ++ Array.replicate (fn.ntmps - args'.size) undef, defers := [] } w :=
    ⟨hr, argEnv_rel ha, by simp; omega, rfl⟩
  refine wp_mono (h F μ _ w hs) ?_
  rintro e a' w' ⟨σ', μ', ⟨hex, xs, x, hp', hres, hcv, hR⟩, hs', hf'⟩
  obtain ⟨vs, h1, h2⟩ := hres F μ' w' a'.tmps hs'.hr hs'.env
  have hrun : (results fn a'.tmps).run P w' = .ok (if h : vs.toArray.size = 1 then vs.toArray[0] else .tuple vs.toArray) w' := by
    unfold results
    rw [Array.mapM_eq_mapM_toList]
    change Sem.run P (do let vs ← List.toArray <$> List.mapM (resOne a'.tmps) fn.results.toList; pure (if h : vs.size = 1 then vs[0] else .tuple vs)) w' = _
    simp only [Sem.run_bind, Sem.run_map, h1, Result.andThen_ok, Sem.run_pure]
  have hv : VR F μ' w' (oneAV xs) (if h : vs.toArray.size = 1 then vs.toArray[0] else .tuple vs.toArray) := by
    match xs, vs, h2 with
    | [], [], _ => simpa [oneAV] using VR.tup (F := F) (μ := μ') (w := w') (xs := []) (ys := #[]) .nil
    | [x], [v], .cons h _ => simpa [oneAV] using h
    | x :: y :: xs, v :: u :: vs, h2 =>
      have : ¬ ((v :: u :: vs).toArray.size = 1) := by simp
      rw [dif_neg this]
      exact .tup (by simpa using h2)
  obtain ⟨μ'', k1, k2, k3, k4, k5⟩ := hcv F μ' w' _ hs'.hr hv
  have hF : Fr μ w μ'' w' := by
    refine ⟨hf'.size, hf'.keep, fun b hb => hf'.new b (k3 b hb), fun o nm ho => ?_, by rw [hr.len]; exact k5, hf'.oo⟩
    have hop : o < hp.length := by
      rw [← hr.len]
      rcases Nat.lt_or_ge o μ.length with h1 | h1
      · exact h1
      · simp [List.getElem?_eq_none h1] at ho
    rcases hf'.ext o nm ho with g | ⟨g0, g⟩
    · exact k4 o nm hop g
    · rcases k4 o _ hop g with g' | ⟨_, g'⟩
      · exact .inr ⟨g0, g'⟩
      · exact .inr ⟨g0, g'⟩
  have hfin : a'.defers = [] ∧ ∃ v, (results fn a'.tmps).run P w' = .ok v w' ∧ (fun e w' => ∃ x v hp' μ', e = Ending.returned v ∧ R x hp' ∧ HR F hp' μ' w' ∧ VR F μ' w' x v ∧ Fr μ w μ' w') (.returned v) w' :=
    ⟨hs'.defers, _, hrun, x, _, hp', μ'', rfl, hR, k1, k2, hF⟩
  rcases hex with rfl | rfl
  · exact hfin
  · exact hfin

end Go.SL

set_option linter.unusedSimpArgs false
set_option linter.unnecessarySimpa false
set_option linter.unusedVariables false
set_option linter.unusedSectionVars false
namespace Go.SL
open Go
variable [Tabs]

variable {F F' : Nat → Prop} {μ μ' μ'' : List Nm} {w w' w'' : World} {P : Program} {n : Nat} {env : Nat → AV} {hp : List AObj}
variable {dst : Option Nat} {ty : TypeId} {pos : String} {after : Array Edge} {guard : Option (Nat × Bool)}

theorem Cv.refl {p : Nat} {x : AV} (hp' : p ≤ hp.length) : Cv p hp x hp x :=
  fun F μ w v hr hv => ⟨μ, hr, hv, fun _ h => h, fun _ _ _ h => .inl h, by rw [hr.len]; exact hp'⟩

mutual
inductive Fz (p : Nat) (hp : List AObj) : AV → AV → Prop
  | keep {x} (h : noOwn x = true) : Fz p hp x x
  | sl {o off len esz cells} (ho : hp[o]? = some (AObj.row esz cells)) (hpo : p ≤ o) (hl : off + len * esz ≤ cells.length) (hn : noOwnL ((cells.drop off).take (len * esz)) = true) :
      Fz p hp (.sl o off len) (.im esz ((cells.drop off).take (len * esz)))
  | tup {xs ys} (h : FzL p hp xs ys) : Fz p hp (.tup xs) (.tup ys)
  | agg {xs ys} (h : FzL p hp xs ys) : Fz p hp (.agg xs) (.agg ys)
  | ptr {o off esz cells} (ho : hp[o]? = some (AObj.row esz cells)) (hpo : p ≤ o) (hn : noOwnL cells = true) : Fz p hp (.ptr o off) (.ip cells off)
  | fn {f xs ys xs' ys'} (h1 : FzL p hp xs xs') (h2 : FzL p hp ys ys') : Fz p hp (.fn f xs ys) (.fn f xs' ys')
  | slD {o off len esz cells ys} (ho : hp[o]? = some (AObj.row esz cells)) (hpo : p ≤ o) (hl : off + len * esz ≤ cells.length) (hz : FzL p hp ((cells.drop off).take (len * esz)) ys) (hn : noOwnL ys = true) : Fz p hp (.sl o off len) (.im esz ys)
inductive FzL (p : Nat) (hp : List AObj) : List AV → List AV → Prop
  | nil : FzL p hp [] []
  | cons {x y xs ys} (h : Fz p hp x y) (t : FzL p hp xs ys) : FzL p hp (x :: xs) (y :: ys)
end

theorem blocks_take {p b : Nat} (h : blocks (μ.take p) b) : ∃ (o : Nat) (base esz tot : Nat), o < p ∧ μ[o]? = some (Nm.at b base esz tot) := by
  obtain ⟨o, base, esz, tot, h⟩ := h
  rw [List.getElem?_take] at h
  split at h
  · rename_i hlt; exact ⟨o, base, esz, tot, hlt, h⟩
  · simp at h

theorem FzL.len {p : Nat} : ∀ {xs ys : List AV}, FzL p hp xs ys → xs.length = ys.length
  | _, _, .nil => rfl
  | _, _, .cons _ t => by simp [FzL.len t]
mutual
theorem Fz.rel {p : Nat} (hr : HR F hp μ w) : ∀ {x y : AV} {v : Value}, Fz p hp x y → VR F μ w x v → VR F (μ.take p) w y v
  | _, _, _, .keep h, hv => hv.move h fun b _ hb => ⟨fun h' => by obtain ⟨o, base, esz, tot, _, h2⟩ := blocks_take h'; exact hb.1 ⟨o, base, esz, tot, h2⟩, hb.2⟩
  | _, _, _, .sl (o := o) (off := off) (len := len) (esz := esz) (cells := cells) ho hpo hl hn, hv => by
    rcases hr.row ho with h2 | ⟨h2, h3⟩ | ⟨b, base, tot, c, el, fr, h2, h3, h4, h5, h6, h7⟩
    · cases hv with
      | sl h hc hll => rw [h2] at h; simp at h
      | slN h => rw [h2] at h; simp at h
      | slE h => rw [h2] at h; simp at h
      | slD h => rw [h2] at h; simp at h
    · cases hv with
      | sl h hc hll => rw [h2] at h; simp at h
      | slN h => rw [h2] at h; simp at h
      | slE h => simpa using VR.im0
      | slD h => rw [h2] at h; simp at h
    · cases hv with
      | sl h hc hll =>
        rw [h2] at h
        injection h with h; injection h with e1 e2 e3 e4
        subst e1; subst e2; subst e3; subst e4
        have hlen : ((cells.drop off).take (len * esz)).length = len * esz := by simp; omega
        refine .im h3 (fun h' => ?_) ⟨hr.fo b ⟨o, base, esz, tot, h2⟩, hn⟩ hlen.symm hll ?_
        · obtain ⟨o', base', esz', tot', hlt, h''⟩ := blocks_take h'
          have := hr.inj _ _ _ _ _ _ _ _ _ h2 h''
          omega
        · rw [hlen]
          exact (window_sub h6 hl).move hn fun b' _ hb => ⟨fun h' => by obtain ⟨o', base', esz', tot', _, h2'⟩ := blocks_take h'; exact hb.1 ⟨o', base', esz', tot', h2'⟩, hb.2⟩
      | slN h => simpa using VR.im0
      | slE h => rw [h2] at h; simp at h
      | slD h => rw [h2] at h; simp at h
  | _, _, _, .tup h, hv => by cases hv with | tup h' => exact .tup (FzL.rel hr h h')
  | _, _, _, .agg h, hv => by cases hv with | agg h' => exact .agg (FzL.rel hr h h')
  | _, _, _, .fn g1 g2, hv => by cases hv with | fn h1 h2 => exact .fn (FzL.rel hr g1 h1) (FzL.rel hr g2 h2)
  | _, _, _, .ptr (o := o) (off := off) (esz := esz) (cells := cells) ho hpo hn, hv => by
    rcases hr.row ho with h2 | ⟨h2, h3⟩ | ⟨b, base, tot, c, el, fr, h2, h3, h4, h5, h6, h7⟩
    · cases hv with
      | ptr h => rw [h2] at h; simp at h
      | ptrD h => rw [h2] at h; simp at h
    · cases hv with
      | ptr h => rw [h2] at h; simp at h
      | ptrD h => rw [h2] at h; simp at h
    · cases hv with
      | ptr h =>
        rw [h2] at h
        injection h with h; injection h with e1 e2 e3 e4
        subst e1; subst e2; subst e3; subst e4
        refine .ip h3 (fun h' => ?_) ⟨hr.fo b ⟨o, base, esz, tot, h2⟩, hn⟩ ?_
        · obtain ⟨o', base', esz', tot', hlt, h''⟩ := blocks_take h'
          have := hr.inj _ _ _ _ _ _ _ _ _ h2 h''
          omega
        · exact h6.move hn fun b' _ hb => ⟨fun h' => by obtain ⟨o', base', esz', tot', _, h2'⟩ := blocks_take h'; exact hb.1 ⟨o', base', esz', tot', h2'⟩, hb.2⟩
      | ptrD h => rw [h2] at h; simp at h
  | _, _, _, .slD (o := o) (off := off) (len := len) (esz := esz) (cells := cells) (ys := ys) ho hpo hl hz hn, hv => by
    rcases hr.row ho with h2 | ⟨h2, h3⟩ | ⟨b, base, tot, c, el, fr, h2, h3, h4, h5, h6, h7⟩
    · cases hv with
      | sl h hc hll => rw [h2] at h; simp at h
      | slN h => rw [h2] at h; simp at h
      | slE h => rw [h2] at h; simp at h
      | slD h => rw [h2] at h; simp at h
    · cases hv with
      | sl h hc hll => rw [h2] at h; simp at h
      | slN h => rw [h2] at h; simp at h
      | slE h =>
        have e : ys = [] := by
          have := FzL.len hz
          simp at this
          exact List.eq_nil_of_length_eq_zero this.symm
        subst e; exact VR.im0
      | slD h => rw [h2] at h; simp at h
    · cases hv with
      | sl h hc hll =>
        rw [h2] at h
        injection h with h; injection h with e1 e2 e3 e4
        subst e1; subst e2; subst e3; subst e4
        have hlen0 := FzL.len hz
        have hlen : ys.length = len * esz := by simp at hlen0; omega
        refine .im h3 (fun h' => ?_) ⟨hr.fo b ⟨o, base, esz, tot, h2⟩, hn⟩ hlen.symm hll ?_
        · obtain ⟨o', base', esz', tot', hlt, h''⟩ := blocks_take h'
          have := hr.inj _ _ _ _ _ _ _ _ _ h2 h''
          omega
        · rw [hlen]
          exact FzL.rel hr hz (window_sub h6 hl)
      | slN h =>
        have e : ys = [] := by
          have := FzL.len hz
          simp at this
          exact List.eq_nil_of_length_eq_zero this.symm
        subst e; exact VR.im0
      | slE h => rw [h2] at h; simp at h
      | slD h => rw [h2] at h; simp at h
theorem FzL.rel {p : Nat} (hr : HR F hp μ w) : ∀ {xs ys : List AV} {vs : List Value}, FzL p hp xs ys → VRL F μ w xs vs → VRL F (μ.take p) w ys vs
  | _, _, _, .nil, hv => by cases hv; exact .nil
  | _, _, _, .cons h t, hv => by cases hv with | cons h' t' => exact .cons (Fz.rel hr h h') (FzL.rel hr t t')
end

/-- Only the first p rows stay; slices of the others become what they hold. -/
theorem Cv.frz {p : Nat} {x y : AV} (hp' : p ≤ hp.length) (hno : ∀ (o : Nat) (x : AObj), o < p → hp[o]? = some x → noOwnL x.cs = true) (hf : Fz p hp x y) :
    Cv p hp x (hp.take p) y := by
  intro F μ w v hr hv
  have hfree : ∀ b, b < w.heap.size → Free μ F b → Free (μ.take p) F b := fun b _ hb => ⟨fun h' => by
    obtain ⟨o, base, esz, tot, _, h2⟩ := blocks_take h'; exact hb.1 ⟨o, base, esz, tot, h2⟩, hb.2⟩
  have key : ∀ (o : Nat) nm, (μ.take p)[o]? = some nm → o < p ∧ μ[o]? = some nm := by
    intro o nm h
    rw [List.getElem?_take] at h
    split at h
    · rename_i hlt; exact ⟨hlt, h⟩
    · simp at h
  refine ⟨μ.take p, ⟨by simp [hr.len], fun o b base esz tot ho => ?_, fun o ho => ?_, fun o x' ho hx' => ?_, fun o o' b base esz tot base' esz' tot' h1 h2 => ?_, fun b hb => ?_, hr.fb, hr.tb.sub fun b h => by obtain ⟨o, base, esz, tot, _, h2⟩ := blocks_take h; exact ⟨o, base, esz, tot, h2⟩⟩, hf.rel hr hv, fun b hb => ?_, fun o nm ho hn => ?_, by simp [hr.len]; omega⟩
  · obtain ⟨hlt, h⟩ := key _ _ ho
    obtain ⟨x', y', g1, g2, g3⟩ := hr.obj o b base esz tot h
    exact ⟨x', y', by rw [List.getElem?_take, if_pos hlt]; exact g1, g2, g3.conv fun vs hv => hv.move (hno o x' hlt g1) hfree⟩
  · obtain ⟨hlt, h⟩ := key _ _ ho
    rw [List.getElem?_take, if_pos hlt]; exact hr.em o h
  · intro hd
    obtain ⟨hlt, h⟩ := key _ _ hd
    rw [List.getElem?_take, if_pos hlt] at ho
    exact hr.live o x' ho hx' h
  · exact hr.inj _ _ _ _ _ _ _ _ _ (key _ _ h1).2 (key _ _ h2).2
  · obtain ⟨o, base, esz, tot, _, h2⟩ := blocks_take hb
    exact hr.fo b ⟨o, base, esz, tot, h2⟩
  · obtain ⟨o, base, esz, tot, _, h2⟩ := blocks_take hb
    exact ⟨o, base, esz, tot, h2⟩
  · rw [List.getElem?_take, if_pos ho]; exact .inl hn

theorem Cv.frz0 {x y : AV} (hf : Fz 0 hp x y) : Cv 0 hp x [] y := by
  have := Cv.frz (hp := hp) (Nat.zero_le _) (fun o x h => absurd h (by omega)) hf
  simpa using this

/-- A pure function's contract: its value, no row. -/
def Spec0 (P : Program) (k : Nat) (args : List AV) (x : AV) : Prop := Spec P k args [] (fun r hp' => r = x ∧ hp' = [])

mutual
def flat : AV → Bool
  | .any | .nil | .sc _ => true
  | .agg cs => flatL cs
  | .tup vs => flatL vs
  | _ => false
def flatL : List AV → Bool
  | [] => true
  | x :: xs => flat x && flatL xs
end

mutual
theorem VR.flat : ∀ {x : AV} {v : Value}, VR F μ w x v → SL.flat x = true → VR F' μ' w' x v
  | _, _, .any, _ => .any
  | _, _, .nil, _ => .nil
  | _, _, .sc h, _ => .sc h
  | _, _, .agg h, hx => .agg (VRL.flat h (by simpa [SL.flat] using hx))
  | _, _, .tup h, hx => .tup (VRL.flat h (by simpa [SL.flat] using hx))
  | _, _, .ptr _, hx => by simp [SL.flat] at hx
  | _, _, .ptrD _, hx => by simp [SL.flat] at hx
  | _, _, .sl _ _ _, hx => by simp [SL.flat] at hx
  | _, _, .slN _, hx => by simp [SL.flat] at hx
  | _, _, .slE _, hx => by simp [SL.flat] at hx
  | _, _, .slD _, hx => by simp [SL.flat] at hx
  | _, _, .im0, hx => by simp [SL.flat] at hx
  | _, _, .im _ _ _ _ _ _, hx => by simp [SL.flat] at hx
  | _, _, .ip _ _ _ _, hx => by simp [SL.flat] at hx
  | _, _, .fn _ _, hx => by simp [SL.flat] at hx
  | _, _, .ifc _, hx => by simp [SL.flat] at hx
theorem VRL.flat : ∀ {xs : List AV} {vs : List Value}, VRL F μ w xs vs → flatL xs = true → VRL F' μ' w' xs vs
  | _, _, .nil, _ => .nil
  | _, _, .cons h t, hx => by
    simp only [flatL, Bool.and_eq_true] at hx
    exact .cons (VR.flat h hx.1) (VRL.flat t hx.2)
end

/-- Arguments lent: slices of own rows are read as what they hold. -/
inductive Bw (hp : List AObj) : List AV → List AV → Prop
  | nil : Bw hp [] []
  | keep {x xs ys} (h : noOwn x = true) (t : Bw hp xs ys) : Bw hp (x :: xs) (x :: ys)
  | none {e xs ys} (t : Bw hp xs ys) : Bw hp (.nil :: xs) (.im e [] :: ys)
  | sl {o off len esz cells xs ys} (ho : hp[o]? = some (AObj.row esz cells)) (hl : off + len * esz ≤ cells.length) (hn : noOwnL ((cells.drop off).take (len * esz)) = true) (t : Bw hp xs ys) :
      Bw hp (.sl o off len :: xs) (.im esz ((cells.drop off).take (len * esz)) :: ys)
  | fz {x y xs ys} (h : Fz 0 hp x y) (t : Bw hp xs ys) : Bw hp (x :: xs) (y :: ys)

theorem Bw.rel (hr : HR F hp μ w) : ∀ {xs ys : List AV} {vs : List Value}, Bw hp xs ys → VRL F μ w xs vs → VRL F ([] : List Nm) w ys vs
  | _, _, _, .nil, h => by cases h; exact .nil
  | _, _, _, .keep hx t, h => by
    cases h with
    | cons h1 h2 => exact .cons (h1.move hx fun b _ hb => ⟨fun ⟨_, _, _, _, h⟩ => by simp at h, hb.2⟩) (Bw.rel hr t h2)
  | _, _, _, .none t, h => by
    cases h with
    | cons h1 h2 => cases h1; exact .cons .im0 (Bw.rel hr t h2)
  | _, _, _, .sl (o := o) (off := off) (len := len) (esz := esz) (cells := cells) ho hl hn t, h => by
    cases h with
    | cons h1 h2 =>
      have := Fz.rel (p := 0) hr (.sl ho (Nat.zero_le _) hl hn) h1
      exact .cons (by simpa using this) (Bw.rel hr t h2)
  | _, _, _, .fz hz t, h => by
    cases h with
    | cons h1 h2 =>
      have := Fz.rel (p := 0) hr hz h1
      exact .cons (by simpa using this) (Bw.rel hr t h2)

end Go.SL

set_option linter.unusedSimpArgs false
set_option linter.unnecessarySimpa false
set_option linter.unusedVariables false
set_option linter.unusedSectionVars false
namespace Go.SL
open Go
variable [Tabs]

variable {F F' : Nat → Prop} {μ μ' μ'' : List Nm} {w w' w'' : World} {P : Program} {n : Nat} {env : Nat → AV} {hp : List AObj}
variable {dst : Option Nat} {ty : TypeId} {pos : String} {after : Array Edge} {guard : Option (Nat × Bool)}

/-- An operation that makes one row and reads none. -/
def StepAl (P : Program) (o : Oper) (env : Nat → AV) (esz : Nat) (cells : List AV) (mk : Nat → AV) : Prop :=
  ∀ (F : Nat → Prop) (μ : List Nm) (w : World) (a : Act), EnvR F env μ w a.tmps → ∃ v w' c el fr, (execOp a.eval o).run P w = .ok (.value v) w' ∧ w'.heap = w.heap.push (.cells c el fr) ∧ (w'.os = w.os ∧ w'.output = w.output) ∧
    VRL F μ w cells (c.toList.take cells.length) ∧ cells.length ≤ c.size ∧ NF fr c.size ∧
    ∀ (F' : Nat → Prop) (μ' : List Nm) (k : Nat), μ'[k]? = some (Nm.at w.heap.size 0 esz c.size) → VR F' μ' w' (mk k) v

theorem StepAl.step {o : Oper} {esz : Nat} {cells : List AV} {mk : Nat → AV} (h : StepAl P o env esz cells mk) : Step P o env hp (is (mk hp.length) (hp ++ [.row esz cells])) := by
  refine Step.of fun F μ w a hr he => ?_
  obtain ⟨v, w', c, el, fr, h1, h2, hoo, h3, h4, h5, h6⟩ := h F μ w a he
  obtain ⟨g1, g2⟩ := hr.push (esz := esz) h3 h4 h5 h2 hoo
  exact ⟨v, w', _, h1, g1, h6 _ _ _ (idx_new hr.len.symm _), g2⟩

theorem al_alloc {t : TypeId} {z : Value} (hz : ZeroV P t z) : StepAl P ⟨dst, .alloc t, ty, pos, after, guard⟩ env 1 (z.cells.toList.map litC) (fun k => .ptr k 0) := by
  intro F μ w a he
  refine ⟨.pointer (some ⟨w.heap.size, 0, none⟩), { w with heap := w.heap.push (.cells z.cells t) }, z.cells, t, (0, 0), ?_, rfl, ⟨rfl, rfl⟩, litL_take _, by simp, NF_zero _, fun F' μ' k hk => .ptr (base := 0) (off := 0) hk⟩
  simp [execOp, Instr.alloc, hz w, newVar, newRow]

theorem al_box {t : TypeId} {x : Operand} {v : AV} (hx : opd env x = v) (hc : (cellsOf v).all cellAV = true) : StepAl P ⟨dst, .box t x, ty, pos, after, guard⟩ env 1 (cellsOf v) (fun k => .ptr k 0) := by
  intro F μ w a he
  have hv := he.opd x
  rw [hx] at hv
  have hvl := hv.cells hc
  have hlen := hvl.length
  refine ⟨.pointer (some ⟨w.heap.size, 0, none⟩), { w with heap := w.heap.push (.cells (a.eval x).cells t) }, (a.eval x).cells, t, (0, 0), ?_, rfl, ⟨rfl, rfl⟩, ?_, by simp at hlen; omega, NF_zero _, fun F' μ' k hk => .ptr (base := 0) (off := 0) hk⟩
  · simp [execOp, Instr.box, newVar, newRow]
  · rw [hlen, List.take_of_length_le (Nat.le_refl _)]; exact hvl

theorem al_buildSlice {t e : TypeId} {z : Value} {esz bs len : Nat} {parts : Array (Nat × Operand)} {out : List AV} (ht : Und P t (.slice e)) (hi : EI P e z esz bs) (hzs : z.cells.size = esz) (hl : len * esz ≤ 16777216)
    (hf : fillAV (fun i => some (i * esz, esz)) (zerosAV z len) (parts.toList.map fun p => (p.1, opd env p.2)) = some out) (hout : out.length = len * esz) :
    StepAl P ⟨dst, .buildSlice t len parts, ty, pos, after, guard⟩ env esz out (fun k => .sl k 0 len) := by
  subst hzs
  intro F μ w a he
  have hzr := zerosAV_rel (F := F) (μ := μ) (w := w) z len len (Nat.le_refl _)
  rw [List.take_of_length_le (by simp)] at hzr
  obtain ⟨cs', hc1, hc2⟩ := fill_rel (F := F) (μ := μ) (w := w) (parts := parts.toList.map fun p => (p.1, opd env p.2)) (parts' := (parts.map fun (i, x) => (i, a.eval x)).toList)
    (cs := (Array.range (len * z.cells.size)).map fun i => z.cells[i % z.cells.size]!)
    (by simp [Function.comp_def]) (by simpa using mapPartsVRL he parts.toList) hzr hf
  have hcl : cs'.size = len * z.cells.size := by have := hc2.length; simp at this; omega
  refine ⟨.slice (some ⟨w.heap.size, 0, none⟩) len len, { w with heap := w.heap.push (.cells cs' e) }, cs', e, (0, 0), ?_, rfl, ⟨rfl, rfl⟩, by rw [List.take_of_length_le (by simp [hout, hcl])]; exact hc2, by omega, NF_zero _,
    fun F' μ' k hk => .sl (base := 0) (off := 0) hk (by omega) (Nat.le_refl _)⟩
  have hl' : ¬ (len * z.cells.size > 2 ^ 24) := by omega
  have : (Instr.buildSlice t len (parts.map fun (i, x) => (i, a.eval x))).run P w = .ok (.slice (some ⟨w.heap.size, 0, none⟩) len len) { w with heap := w.heap.push (.cells cs' e) } := by
    unfold Instr.buildSlice
    simp only [Sem.run_bind, ht w, hi.size w, Result.andThen_ok]
    rw [if_neg hl']
    rcases Nat.eq_zero_or_pos (len * z.cells.size) with h0 | h0
    · rw [if_pos h0]
      simp only [Sem.run_bind, Sem.run_pure, Result.andThen_ok]
      rw [h0]
      rw [h0] at hc1
      have e1 : (Array.map (fun x => (#[] : Array Value)[x % (#[] : Array Value).size]!) (Array.range 0)) = #[] := by simp
      have e2 : (Array.map (fun i => z.cells[i % z.cells.size]!) (Array.range 0)) = #[] := by simp
      rw [e2] at hc1
      rw [e1, hc1]
      rfl
    · rw [if_neg (by omega)]
      simp only [Sem.run_bind, Sem.run_pure, Result.andThen_ok, hi.zero w]
      rw [hc1]
      rfl
  simp [execOp, this]

/-- What an operation of a region does: nothing, as its guard is off; a value, where some rows read so; a new row; more. -/
inductive Kd where
  | sk
  | q (r : AV) (O : List (Nat × AObj))
  | al (esz : Nat) (cells : List AV) (mk : Nat → AV)
  | ef (r : AV) (hp' : List AObj)

def Kd.val (hp : List AObj) : Kd → AV
  | .sk => .sc undef
  | .q r _ => r
  | .al _ _ mk => mk hp.length
  | .ef r _ => r
def Kd.heap (hp : List AObj) : Kd → List AObj
  | .sk => hp
  | .q _ _ => hp
  | .al e c _ => hp ++ [.row e c]
  | .ef _ hp' => hp'
def Kd.isEf : Kd → Bool
  | .ef _ _ => true
  | _ => false

abbrev TR := List (Oper × Kd)

def hpAt : TR → List AObj → Nat → List AObj
  | _, hp, 0 => hp
  | [], hp, _ + 1 => hp
  | (_, k) :: T, hp, i + 1 => hpAt T (k.heap hp) i
def envAt : TR → List AObj → (Nat → AV) → Nat → (Nat → AV)
  | _, _, e, 0 => e
  | [], _, e, _ + 1 => e
  | (o, k) :: T, hp, e, i + 1 => envAt T (k.heap hp) (put e o.dst (k.val hp)) i
def hsOf : TR → List AObj → List (List AObj)
  | [], hp => [hp]
  | (_, k) :: T, hp => bif k.isEf then hp :: hsOf T (k.heap hp) else hsOf T (k.heap hp)
def biOf : TR → List AObj → List AObj → List AObj
  | [], _, bi => bi
  | (_, k) :: T, hp, bi => biOf T (k.heap hp) (bi ++ (k.heap hp).drop hp.length)
/-- The rows when m of the effects have been carried out, each row that is made later as it is when it is made. -/
def CL (T : TR) (hp : List AObj) (m : Nat) : List AObj := (hsOf T hp).getD m [] ++ (biOf T hp hp).drop ((hsOf T hp).getD m []).length
/-- How many effects stand ahead of place i. -/
def efs : TR → Nat → Nat
  | _, 0 => 0
  | [], _ + 1 => 0
  | (_, k) :: T, i + 1 => (bif k.isEf then 1 else 0) + efs T i

theorem hpAt_succ : ∀ (T : TR) (hp : List AObj) (i : Nat) (o : Oper) (k : Kd), T[i]? = some (o, k) → hpAt T hp (i + 1) = k.heap (hpAt T hp i)
  | [], _, _, _, _, h => by simp at h
  | (o', k') :: T, hp, 0, o, k, h => by
    simp at h
    obtain ⟨_, rfl⟩ := h
    cases T <;> rfl
  | (o', k') :: T, hp, i + 1, o, k, h => by
    have := hpAt_succ T (k'.heap hp) i o k (by simpa using h)
    exact this

theorem envAt_succ : ∀ (T : TR) (hp : List AObj) (e : Nat → AV) (i : Nat) (o : Oper) (k : Kd), T[i]? = some (o, k) → envAt T hp e (i + 1) = put (envAt T hp e i) o.dst (k.val (hpAt T hp i))
  | [], _, _, _, _, _, h => by simp at h
  | (o', k') :: T, hp, e, 0, o, k, h => by
    simp at h
    obtain ⟨rfl, rfl⟩ := h
    cases T <;> rfl
  | (o', k') :: T, hp, e, i + 1, o, k, h => by
    have := envAt_succ T (k'.heap hp) (put e o'.dst (k'.val hp)) i o k (by simpa using h)
    exact this

theorem efs_succ : ∀ (T : TR) (i : Nat) (o : Oper) (k : Kd), T[i]? = some (o, k) → efs T (i + 1) = efs T i + (bif k.isEf then 1 else 0)
  | [], _, _, _, h => by simp at h
  | (o', k') :: T, 0, o, k, h => by
    simp at h
    obtain ⟨_, rfl⟩ := h
    cases T <;> simp [efs]
  | (o', k') :: T, i + 1, o, k, h => by
    have := efs_succ T i o k (by simpa using h)
    simp only [efs] at this ⊢
    omega

/-- Rows are never fewer. -/
def Grows (T : TR) (hp : List AObj) : Prop := ∀ i o k, T[i]? = some (o, k) → (hpAt T hp i).length ≤ (hpAt T hp (i + 1)).length

theorem Grows.tail {o : Oper} {k : Kd} {T : TR} (h : Grows ((o, k) :: T) hp) : Grows T (k.heap hp) := fun i o' k' hi => h (i + 1) o' k' (by simpa using hi)
theorem Grows.head {o : Oper} {k : Kd} {T : TR} (h : Grows ((o, k) :: T) hp) : hp.length ≤ (k.heap hp).length := by
  have := h 0 o k rfl
  cases T <;> simpa [hpAt] using this

theorem Grows.mono {T : TR} (h : Grows T hp) : ∀ (i j : Nat), i ≤ j → j ≤ T.length → (hpAt T hp i).length ≤ (hpAt T hp j).length := by
  intro i j hij
  induction j with
  | zero => intro _; have : i = 0 := by omega
            subst this; exact Nat.le_refl _
  | succ j ih =>
    intro hj
    rcases Nat.lt_or_ge i (j + 1) with h1 | h1
    · obtain ⟨p, hp'⟩ : ∃ p, T[j]? = some p := ⟨_, List.getElem?_eq_getElem (by omega)⟩
      obtain ⟨o, k⟩ := p
      exact Nat.le_trans (ih (by omega) (by omega)) (h j o k hp')
    · have : i = j + 1 := by omega
      subst this; exact Nat.le_refl _

/-- The births: as many as there are rows at the end. -/
theorem biOf_length : ∀ (T : TR) (hp bi : List AObj), Grows T hp → bi.length = hp.length → (biOf T hp bi).length = (hpAt T hp T.length).length
  | [], hp, bi, _, hb => by simpa [biOf, hpAt] using hb
  | (o, k) :: T, hp, bi, hg, hb => by
    simp only [biOf, List.length_cons, hpAt]
    refine biOf_length T (k.heap hp) _ hg.tail ?_
    have := hg.head
    simp; omega

/-- A birth is never turned. -/
theorem biOf_keep : ∀ (T : TR) (hp bi : List AObj) (o : Nat), o < bi.length → (biOf T hp bi)[o]? = bi[o]?
  | [], _, _, _, _ => rfl
  | (_, k) :: T, hp, bi, o, h => by
    simp only [biOf]
    rw [biOf_keep T _ _ o (by simp; omega), List.getElem?_append_left h]

/-- A row that is made at place i: as it is then. -/
theorem biOf_born : ∀ (T : TR) (hp bi : List AObj) (i o : Nat), Grows T hp → bi.length = hp.length → i < T.length → (hpAt T hp i).length ≤ o → o < (hpAt T hp (i + 1)).length →
    (biOf T hp bi)[o]? = (hpAt T hp (i + 1))[o]?
  | [], _, _, _, _, _, _, h, _, _ => by simp at h
  | (x, k) :: T, hp, bi, 0, o, hg, hb, _, h1, h2 => by
    have e : hpAt ((x, k) :: T) hp 1 = k.heap hp := by cases T <;> rfl
    rw [e] at h2 ⊢
    have h1' : hp.length ≤ o := h1
    simp only [biOf]
    have hh := hg.head
    rw [biOf_keep T _ _ o (by simp; omega), List.getElem?_append_right (by omega), List.getElem?_drop]
    congr 1; omega
  | (x, k) :: T, hp, bi, i + 1, o, hg, hb, hi, h1, h2 => by
    simp only [biOf, hpAt] at h1 h2 ⊢
    refine biOf_born T (k.heap hp) _ i o hg.tail ?_ (by simpa using hi) h1 h2
    have := hg.head
    simp; omega

/-- Between two effects only new rows come: the rows at place i are those ahead of the next effect, as far as they are there. -/
theorem hsOf_at : ∀ (T : TR) (hp : List AObj) (i : Nat), Grows T hp → i ≤ T.length → ∀ o, o < (hpAt T hp i).length → ((hsOf T hp).getD (efs T i) [])[o]? = (hpAt T hp i)[o]? ∧ (hpAt T hp i).length ≤ ((hsOf T hp).getD (efs T i) []).length
  | [], hp, i, _, hi, o, ho => by
    have : i = 0 := by simpa using hi
    subst this
    simp [hsOf, efs, hpAt]
  | (x, k) :: T, hp, 0, hg, _, o, ho => by
    simp only [efs, hpAt] at ho ⊢
    simp only [hsOf]
    cases hk : k.isEf
    · have ih := hsOf_at T (k.heap hp) 0 hg.tail (Nat.zero_le _) o
      have hh : k.heap hp = hp ∨ ∃ e c, k.heap hp = hp ++ [.row e c] := by
        cases k with
        | sk => exact .inl rfl
        | q r O => exact .inl rfl
        | al e c mk => exact .inr ⟨e, c, rfl⟩
        | ef r h => simp [Kd.isEf] at hk
      simp only [hpAt, efs] at ih
      simp only [cond_false]
      rcases hh with hh | ⟨e, c, hh⟩
      · rw [hh] at ih; rw [hh]; exact ih ho
      · rw [hh] at ih; rw [hh]
        obtain ⟨i1, i2⟩ := ih (by simp; omega)
        rw [List.getElem?_append_left ho] at i1
        rw [List.length_append] at i2
        exact ⟨i1, by omega⟩
    · simp
  | (x, k) :: T, hp, i + 1, hg, hi, o, ho => by
    simp only [hpAt] at ho ⊢
    have ih := hsOf_at T (k.heap hp) i hg.tail (by simpa using hi) o ho
    simp only [hsOf, efs]
    cases k.isEf
    · simpa using ih
    · simp only [cond_true, Nat.add_comm 1]
      simpa using ih

/-- At an effect: the rows ahead of it. -/
theorem hsOf_ef : ∀ (T : TR) (hp : List AObj) (i : Nat) (o : Oper) (k : Kd), T[i]? = some (o, k) → k.isEf = true → (hsOf T hp).getD (efs T i) [] = hpAt T hp i
  | [], _, _, _, _, h, _ => by simp at h
  | (x, k') :: T, hp, 0, o, k, h, hk => by
    simp at h
    obtain ⟨_, rfl⟩ := h
    simp [hsOf, hk, efs, hpAt]
  | (x, k') :: T, hp, i + 1, o, k, h, hk => by
    have ih := hsOf_ef T (k'.heap hp) i o k (by simpa using h) hk
    simp only [hsOf, efs, hpAt]
    cases k'.isEf
    · simpa using ih
    · simp only [cond_true, Nat.add_comm 1]
      simpa using ih

theorem hsOf_end (T : TR) (hp : List AObj) : (hsOf T hp).getD (efs T T.length) [] = hpAt T hp T.length := by
  induction T generalizing hp with
  | nil => rfl
  | cons p T ih =>
    obtain ⟨o, k⟩ := p
    simp only [hsOf, List.length_cons, efs, hpAt]
    cases k.isEf
    · simpa using ih (k.heap hp)
    · simp only [cond_true, Nat.add_comm 1]
      simpa using ih (k.heap hp)

end Go.SL

set_option linter.unusedSimpArgs false
set_option linter.unnecessarySimpa false
set_option linter.unusedVariables false
set_option linter.unusedSectionVars false
namespace Go.SL
open Go
variable [Tabs]

variable {F F' : Nat → Prop} {μ μ' μ'' : List Nm} {w w' w'' : World} {P : Program} {n : Nat} {env : Nat → AV} {hp : List AObj}

mutual
/-- The own rows that a value names lie below k. -/
def idsLt (k : Nat) : AV → Bool
  | .any | .nil | .sc _ => true
  | .ptr o _ => Nat.blt o k
  | .sl o _ _ => Nat.blt o k
  | .im _ _ => true
  | .ip _ _ => true
  | .fn _ xs ys => idsLtL k xs && idsLtL k ys
  | .agg cs => idsLtL k cs
  | .tup vs => idsLtL k vs
  | .ifc _ v => idsLt k v
  | .mp o => Nat.blt o k
def idsLtL (k : Nat) : List AV → Bool
  | [] => true
  | x :: xs => idsLt k x && idsLtL k xs
end

mutual
theorem VR.idsLt {k : Nat} (hn : ∀ (j : Nat) nm, j < k → μ[j]? = some nm → μ'[j]? = some nm) (hb : ∀ b, b < w.heap.size → Free μ F b → Free μ' F' b) :
    ∀ {x : AV} {v : Value}, VR F μ w x v → SL.idsLt k x = true → VR F' μ' w x v
  | _, _, .any, _ => .any
  | _, _, .nil, _ => .nil
  | _, _, .sc h, _ => .sc h
  | _, _, .ptr h, hx => .ptr (hn _ _ (Nat.le_of_ble_eq_true hx) h)
  | _, _, .ptrD h, hx => .ptrD (hn _ _ (Nat.le_of_ble_eq_true hx) h)
  | _, _, .sl h hc hl, hx => .sl (hn _ _ (Nat.le_of_ble_eq_true hx) h) hc hl
  | _, _, .slN h, hx => .slN (hn _ _ (Nat.le_of_ble_eq_true hx) h)
  | _, _, .slE h, hx => .slE (hn _ _ (Nat.le_of_ble_eq_true hx) h)
  | _, _, .slD h, hx => .slD (hn _ _ (Nat.le_of_ble_eq_true hx) h)
  | _, _, .im0, _ => .im0
  | _, _, .im h hb' hF hk hk2 hx, hi => VR.moveN hb (.im h hb' hF hk hk2 hx) rfl
  | _, _, .ip h hb' hF hx, hi => VR.moveN hb (.ip h hb' hF hx) rfl
  | _, _, .fn h1 h2, hi => by
    simp only [SL.idsLt, Bool.and_eq_true] at hi
    exact .fn (VRL.idsLt hn hb h1 hi.1) (VRL.idsLt hn hb h2 hi.2)
  | _, _, .agg h, hi => .agg (VRL.idsLt hn hb h (by simpa [SL.idsLt] using hi))
  | _, _, .tup h, hi => .tup (VRL.idsLt hn hb h (by simpa [SL.idsLt] using hi))
  | _, _, .ifc h, hi => .ifc (VR.idsLt hn hb h (by simpa [SL.idsLt] using hi))
  | _, _, .mp h, hx => .mp (hn _ _ (Nat.le_of_ble_eq_true hx) h)
  | _, _, .mpD h, hx => .mpD (hn _ _ (Nat.le_of_ble_eq_true hx) h)
theorem VRL.idsLt {k : Nat} (hn : ∀ (j : Nat) nm, j < k → μ[j]? = some nm → μ'[j]? = some nm) (hb : ∀ b, b < w.heap.size → Free μ F b → Free μ' F' b) :
    ∀ {xs : List AV} {vs : List Value}, VRL F μ w xs vs → SL.idsLtL k xs = true → VRL F' μ' w xs vs
  | _, _, .nil, _ => .nil
  | _, _, .cons h t, hi => by
    simp only [SL.idsLtL, Bool.and_eq_true] at hi
    exact .cons (VR.idsLt hn hb h hi.1) (VRL.idsLt hn hb t hi.2)
end

def rowLt (k : Nat) : AObj → Bool
  | .dead => true
  | .row _ cs => noOwnL cs || idsLtL k cs
  | .ob _ cs => noOwnL cs || idsLtL k cs
theorem rowLt_cs {k : Nat} (x : AObj) : rowLt k x = (noOwnL x.cs || idsLtL k x.cs) := by cases x <;> rfl

def memN (l : List Nat) (t : Nat) : Bool := l.any fun x => Nat.beq x t

theorem memN_iff {l : List Nat} {t : Nat} : memN l t = true ↔ t ∈ l := by
  unfold memN
  rw [List.any_eq_true]
  constructor
  · rintro ⟨x, hx, he⟩
    rw [← Nat.eq_of_beq_eq_true he]; exact hx
  · intro h; exact ⟨t, h, Nat.beq_refl t⟩

/-- The slots that an operation looks at. -/
def rs (ops : Array Oper) (env : Nat → AV) (o : Oper) : Nat → AV := fun t => bif memN (o.looksAt ops) t then env t else .any

def StepQ (P : Program) (o : Oper) (env : Nat → AV) (r : AV) (O : List (Nat × AObj)) : Prop := ∀ hp : List AObj, (∀ p ∈ O, hp[p.1]? = some p.2) → Step P o env hp (is r hp)

def OpOK (P : Program) (n : Nat) (ops : Array Oper) (o : Oper) (k : Kd) (hp : List AObj) (env : Nat → AV) : Prop :=
  dstOk n o.dst ∧ hp.length ≤ (k.heap hp).length ∧
  match k with
  | .sk => wants ops (rs ops env o) o = some false
  | .q r O => wants ops (rs ops env o) o = some true ∧ StepQ P o (rs ops env o) r O
  | .al esz cells mk => wants ops (rs ops env o) o = some true ∧ StepAl P o (rs ops env o) esz cells mk
  | .ef r hp' => wants ops (rs ops env o) o = some true ∧ Step P o (rs ops env o) hp (is r hp') ∧ (∀ t ∈ o.looksAt ops, idsLt hp.length (env t) = true) ∧ (∀ x ∈ hp, rowLt hp.length x = true)

def RunOK (P : Program) (n : Nat) (ops : Array Oper) : TR → List AObj → (Nat → AV) → Prop
  | [], _, _ => True
  | (o, k) :: T, hp, env => OpOK P n ops o k hp env ∧ RunOK P n ops T (k.heap hp) (put env o.dst (k.val hp))

theorem RunOK.at {ops : Array Oper} : ∀ {T : TR} {hp : List AObj} {env : Nat → AV}, RunOK P n ops T hp env → ∀ i o k, T[i]? = some (o, k) → OpOK P n ops o k (hpAt T hp i) (envAt T hp env i)
  | [], _, _, _, _, _, _, h => by simp at h
  | (o', k') :: T, hp, env, h, 0, o, k, hi => by
    simp at hi
    obtain ⟨rfl, rfl⟩ := hi
    exact h.1
  | (o', k') :: T, hp, env, h, i + 1, o, k, hi => RunOK.at h.2 i o k (by simpa using hi)

theorem RunOK.grows {ops : Array Oper} {T : TR} (h : RunOK P n ops T hp env) : Grows T hp := fun i o k hi => by
  rw [hpAt_succ T hp i o k hi]; exact (h.at i o k hi).2.1

def predsOf (o : Oper) : List Nat := (o.after.toList.filter (Region.binds .any)).map (·.on)
def bitN (M : List Nat) (i j : Nat) : Bool := (M.getD i 0).testBit j

/-- What of a region alone must hold: M tells which operations are ahead of which. -/
def stat (ops : Array Oper) (ef : List Bool) (M : List Nat) : Bool :=
  (List.range ops.size).all fun i => match ops[i]? with
  | none => false
  | some o =>
    (predsOf o).all (fun j => Nat.blt j i) &&
    (List.range ops.size).all (fun j => !bitN M i j || (predsOf o).any fun k => Nat.beq k j || bitN M k j) &&
    (List.range ops.size).all fun j => match ops[j]? with
    | none => false
    | some o' =>
      (Nat.beq i j || (match o.dst, o'.dst with | some d, some d' => !Nat.beq d d' | _, _ => true)) &&
      (match o'.dst with | some d' => !memN (o.looksAt ops) d' || Nat.beq i j || bitN M i j || bitN M j i | none => true) &&
      (!(ef.getD i false) || !(ef.getD j false) || !Nat.blt j i || bitN M i j)

structure Sta (ops : Array Oper) (ef : List Bool) (M : List Nat) : Prop where
  back : ∀ (i : Nat) (o : Oper), ops[i]? = some o → ∀ j ∈ predsOf o, j < i
  cert : ∀ (i : Nat) (o : Oper), ops[i]? = some o → ∀ j, j < ops.size → bitN M i j = true → ∃ k ∈ predsOf o, k = j ∨ bitN M k j = true
  dsts : ∀ (i j : Nat) (o o' : Oper) (d : Nat), ops[i]? = some o → ops[j]? = some o' → o.dst = some d → o'.dst = some d → i = j
  looks : ∀ (i j : Nat) (o o' : Oper) (d : Nat), ops[i]? = some o → ops[j]? = some o' → o'.dst = some d → d ∈ o.looksAt ops → i = j ∨ bitN M i j = true ∨ bitN M j i = true
  chain : ∀ i j, i < ops.size → j < i → ef.getD i false = true → ef.getD j false = true → bitN M i j = true

theorem Sta.mk' {ops : Array Oper} {ef : List Bool} {M : List Nat} (h : stat ops ef M = true) : Sta ops ef M := by
  unfold stat at h
  rw [List.all_eq_true] at h
  have lt : ∀ {i : Nat} {o : Oper}, ops[i]? = some o → i < ops.size := fun {i o} hi => (Array.getElem?_eq_some_iff.1 hi).1
  have h1 : ∀ (i : Nat) (o : Oper), ops[i]? = some o → _ := fun i o hi => by
    have := h i (by simpa using lt hi)
    rw [hi] at this
    simp only [Bool.and_eq_true, List.all_eq_true] at this
    exact this
  have h2 : ∀ (i j : Nat) (o o' : Oper), ops[i]? = some o → ops[j]? = some o' → _ := fun i j o o' hi hj => by
    have := (h1 i o hi).2 j (by simpa using lt hj)
    rw [hj] at this
    simp only [Bool.and_eq_true] at this
    exact this
  refine ⟨fun i o hi j hj => ?_, fun i o hi j hj hb => ?_, fun i j o o' d hi hj hd hd' => ?_, fun i j o o' d hi hj hd hm => ?_, fun i j hi hji he he' => ?_⟩
  · exact Nat.le_of_ble_eq_true ((h1 i o hi).1.1 j hj)
  · have := (h1 i o hi).1.2 j (by simpa using hj)
    simp only [hb, Bool.not_true, Bool.false_or, List.any_eq_true, Bool.or_eq_true] at this
    obtain ⟨k, hk, h3⟩ := this
    refine ⟨k, hk, ?_⟩
    rcases h3 with h3 | h3
    · exact .inl (Nat.eq_of_beq_eq_true h3)
    · exact .inr h3
  · have := (h2 i j o o' hi hj).1.1
    rw [hd, hd'] at this
    simp only [Bool.or_eq_true, Bool.not_eq_true', Nat.beq_refl] at this
    rcases this with h3 | h3
    · exact Nat.eq_of_beq_eq_true h3
    · simp at h3
  · have := (h2 i j o o' hi hj).1.2
    rw [hd] at this
    simp only [memN_iff.2 hm, Bool.not_true, Bool.false_or, Bool.or_eq_true] at this
    rcases this with (h3 | h3) | h3
    · exact .inl (Nat.eq_of_beq_eq_true h3)
    · exact .inr (.inl h3)
    · exact .inr (.inr h3)
  · have hij : j < ops.size := by omega
    have := (h2 i j _ _ (Array.getElem?_eq_getElem hi) (Array.getElem?_eq_getElem hij)).2
    simp only [he, he', Bool.not_true, Bool.false_or, Bool.or_eq_true, Bool.not_eq_true'] at this
    rcases this with h3 | h3
    · have : Nat.blt j i = true := Nat.ble_eq_true_of_le hji
      rw [this] at h3; simp at h3
    · exact h3

section
variable {ops : Array Oper} {ef : List Bool} {M : List Nat}

theorem Sta.bit_lt (hs : Sta ops ef M) : ∀ (i j : Nat), i < ops.size → j < ops.size → bitN M i j = true → j < i := by
  intro i
  induction i using Nat.strongRecOn with
  | _ i ih =>
    intro j hi hj hb
    obtain ⟨k, hk, h⟩ := hs.cert i _ (Array.getElem?_eq_getElem hi) j hj hb
    have hki := hs.back i _ (Array.getElem?_eq_getElem hi) k hk
    rcases h with rfl | h
    · exact hki
    · have := ih k hki j (by omega) hj h
      omega

/-- What is ahead of an operation whose nearest are done is done. -/
theorem Sta.pre (hs : Sta ops ef M) (S : Nat → Prop) (hd : ∀ (i : Nat) (o : Oper), ops[i]? = some o → S i → ∀ j ∈ predsOf o, S j) :
    ∀ (i : Nat) (o : Oper), ops[i]? = some o → (∀ j ∈ predsOf o, S j) → ∀ j, j < ops.size → bitN M i j = true → S j := by
  intro i
  induction i using Nat.strongRecOn with
  | _ i ih =>
    intro o hi hp j hj hb
    obtain ⟨k, hk, h⟩ := hs.cert i o hi j hj hb
    rcases h with rfl | h
    · exact hp k hk
    · have hki := hs.back i o hi k hk
      have hlt : i < ops.size := (Array.getElem?_eq_some_iff.1 hi).1
      have hks : ops[k]? = some (ops[k]'(by omega)) := Array.getElem?_eq_getElem (by omega)
      exact ih k hki _ hks (hd k _ hks (hp k hk)) j hj h
end

def obsAt (T : TR) (hp : List AObj) (i : Nat) : List (Nat × AObj) :=
  match T[i]? with
  | some (_, .q _ O) => O
  | some (_, .al e c _) => [((hpAt T hp i).length, .row e c)]
  | _ => []

/-- May place i's turn come when m effects have been carried out? -/
def winB (T : TR) (M : List Nat) (i m : Nat) : Bool :=
  (List.range T.length).all fun e => match T[e]? with
  | some (_, k) => !k.isEf || ((!bitN M i e || Nat.blt (efs T e) m) && (!bitN M e i || Nat.ble m (efs T e)))
  | none => true

def allP : List Prop → Prop
  | [] => True
  | p :: l => p ∧ allP l

theorem allP_mem : ∀ {l : List Prop}, allP l → ∀ p ∈ l, p
  | [], _, p, hp => by simp at hp
  | q :: l, h, p, hp => by
    simp only [List.mem_cons] at hp
    rcases hp with rfl | hp
    · exact h.1
    · exact allP_mem h.2 p hp

def oblP (T : TR) (hp : List AObj) (M : List Nat) : Prop :=
  allP ((List.range T.length).flatMap fun i => (obsAt T hp i).flatMap fun p => ((List.range (efs T T.length + 1)).filter (winB T M i)).map fun m => (CL T hp m)[p.1]? = some p.2)

theorem oblP.get {T : TR} {M : List Nat} (h : oblP T hp M) {i m : Nat} (hi : i < T.length) (hm : m ≤ efs T T.length) (hw : winB T M i m = true) : ∀ p ∈ obsAt T hp i, (CL T hp m)[p.1]? = some p.2 := by
  intro p hp'
  refine allP_mem h _ ?_
  rw [List.mem_flatMap]
  refine ⟨i, by simpa using hi, ?_⟩
  rw [List.mem_flatMap]
  refine ⟨p, hp', ?_⟩
  rw [List.mem_map]
  exact ⟨m, by rw [List.mem_filter]; exact ⟨by simp; omega, hw⟩, rfl⟩

theorem efs_mono (T : TR) : ∀ i j, i ≤ j → j ≤ T.length → efs T i ≤ efs T j := by
  intro i j hij
  induction j with
  | zero => intro _; have : i = 0 := by omega
            subst this; exact Nat.le_refl _
  | succ j ih =>
    intro hj
    rcases Nat.lt_or_ge i (j + 1) with h | h
    · obtain ⟨⟨o, k⟩, hp'⟩ : ∃ p, T[j]? = some p := ⟨_, List.getElem?_eq_getElem (by omega)⟩
      have := efs_succ T j o k hp'
      have := ih (by omega) (by omega)
      omega
    · have : i = j + 1 := by omega
      subst this; exact Nat.le_refl _

/-- The m-th effect, or the end. -/
theorem efs_find (T : TR) (m : Nat) (hm : m ≤ efs T T.length) : ∃ e, e ≤ T.length ∧ efs T e = m ∧ ((m = efs T T.length ∧ e = T.length) ∨ ∃ o k, T[e]? = some (o, k) ∧ k.isEf = true) := by
  rcases Nat.lt_or_ge m (efs T T.length) with h | h
  · have key : ∀ j, j ≤ T.length → m < efs T j → ∃ e o k, e < j ∧ efs T e = m ∧ T[e]? = some (o, k) ∧ k.isEf = true := by
      intro j
      induction j with
      | zero => intro _ h; simp [efs] at h
      | succ j ih =>
        intro hj hlt
        obtain ⟨⟨o, k⟩, hp'⟩ : ∃ p, T[j]? = some p := ⟨_, List.getElem?_eq_getElem (by omega)⟩
        have h1 := efs_succ T j o k hp'
        rcases Nat.lt_or_ge m (efs T j) with h2 | h2
        · obtain ⟨e, o', k', g1, g2, g3⟩ := ih (by omega) h2
          exact ⟨e, o', k', by omega, g2, g3⟩
        · cases hk : k.isEf
          · rw [hk] at h1; simp at h1; omega
          · rw [hk] at h1; simp at h1
            exact ⟨j, o, k, by omega, by omega, hp', hk⟩
    obtain ⟨e, o, k, g1, g2, g3, g4⟩ := key _ (Nat.le_refl _) h
    exact ⟨e, by omega, g2, .inr ⟨o, k, g3, g4⟩⟩
  · exact ⟨T.length, Nat.le_refl _, by omega, .inl ⟨by omega, rfl⟩⟩

theorem hsOf_is (T : TR) (hp : List AObj) (m : Nat) (hm : m ≤ efs T T.length) : ∃ e, e ≤ T.length ∧ efs T e = m ∧ (hsOf T hp).getD m [] = hpAt T hp e := by
  obtain ⟨e, h1, h2, h3⟩ := efs_find T m hm
  refine ⟨e, h1, h2, ?_⟩
  rcases h3 with ⟨h3, rfl⟩ | ⟨o, k, h3, h4⟩
  · rw [h3]; exact hsOf_end T hp
  · rw [← h2]; exact hsOf_ef T hp e o k h3 h4

theorem CL_length {T : TR} (hg : Grows T hp) {m : Nat} (hm : m ≤ efs T T.length) : (CL T hp m).length = (hpAt T hp T.length).length := by
  obtain ⟨e, h1, h2, h3⟩ := hsOf_is T hp m hm
  have hb := biOf_length T hp hp hg rfl
  have := hg.mono e T.length h1 (Nat.le_refl _)
  unfold CL
  rw [h3]
  simp; omega

theorem CL_at {T : TR} (hg : Grows T hp) {i : Nat} (hi : i ≤ T.length) {x : Nat} (hx : x < (hpAt T hp i).length) : (CL T hp (efs T i))[x]? = (hpAt T hp i)[x]? := by
  obtain ⟨h1, h2⟩ := hsOf_at T hp i hg hi x hx
  unfold CL
  rw [List.getElem?_append_left (by omega), h1]

/-- Who makes row x. -/
theorem maker {T : TR} (hg : Grows T hp) {x : Nat} : ∀ j, j ≤ T.length → hp.length ≤ x → x < (hpAt T hp j).length → ∃ i o k, i < j ∧ T[i]? = some (o, k) ∧ (hpAt T hp i).length ≤ x ∧ x < (hpAt T hp (i + 1)).length := by
  intro j
  induction j with
  | zero => intro _ h1 h2; have : hpAt T hp 0 = hp := by cases T <;> rfl
            rw [this] at h2; omega
  | succ j ih =>
    intro hj h1 h2
    obtain ⟨⟨o, k⟩, hp'⟩ : ∃ p, T[j]? = some p := ⟨_, List.getElem?_eq_getElem (by omega)⟩
    rcases Nat.lt_or_ge x (hpAt T hp j).length with h | h
    · obtain ⟨i, o, k, g1, g2⟩ := ih (by omega) h1 h
      exact ⟨i, o, k, by omega, g2⟩
    · exact ⟨j, o, k, by omega, hp', h, h2⟩

/-- A row that is made behind place i0 reads, when as many effects are done as stand ahead of i0, as when it is made. -/
theorem CL_born {T : TR} (hg : Grows T hp) {i0 x : Nat} (hi : i0 ≤ T.length) (hx : (hpAt T hp i0).length ≤ x) (hx2 : x < (hpAt T hp T.length).length) : (CL T hp (efs T i0))[x]? = (biOf T hp hp)[x]? := by
  obtain ⟨e, h1, h2, h3⟩ := hsOf_is T hp (efs T i0) (efs_mono T _ _ hi (Nat.le_refl _))
  unfold CL
  rw [h3]
  have h0 : hp.length ≤ x := by
    have := hg.mono 0 i0 (Nat.zero_le _) hi
    have e0 : hpAt T hp 0 = hp := by cases T <;> rfl
    rw [e0] at this; omega
  rcases Nat.lt_or_ge x (hpAt T hp e).length with h | h
  · rw [List.getElem?_append_left h]
    obtain ⟨j, o, k, g1, g2, g3, g4⟩ := maker hg T.length (Nat.le_refl _) h0 hx2
    have hj1 : j + 1 ≤ e := by
      rcases Nat.lt_or_ge j e with h' | h'
      · omega
      · have := hg.mono e j h' (by omega); omega
    have hj0 : i0 ≤ j := by
      rcases Nat.lt_or_ge j i0 with h' | h'
      · have := hg.mono (j + 1) i0 (by omega) hi; omega
      · exact h'
    have e1 := efs_mono T i0 (j + 1) (by omega) (by omega)
    have e2 := efs_mono T (j + 1) e hj1 h1
    have e3 : efs T (j + 1) = efs T e := by omega
    obtain ⟨k1, k2⟩ := hsOf_at T hp (j + 1) hg (by omega) x g4
    rw [e3, h2, h3] at k1
    rw [k1, biOf_born T hp hp j x hg rfl g1 g3 g4]
  · rw [List.getElem?_append_right h, List.getElem?_drop]
    congr 1; omega

end Go.SL

set_option linter.unusedSimpArgs false
set_option linter.unnecessarySimpa false
set_option linter.unusedVariables false
set_option linter.unusedSectionVars false
namespace Go.SL
open Go
variable [Tabs]

variable {F F' : Nat → Prop} {μ μ' μ'' : List Nm} {w w' w'' : World} {P : Program} {n : Nat} {env : Nat → AV} {hp : List AObj} {ops : Array Oper} {T : TR} {M : List Nat}

structure DI (n : Nat) (ops : Array Oper) (T : TR) (hp : List AObj) (env : Nat → AV) (F : Nat → Prop) (μ0 : List Nm) (w0 : World) (listed : Array Bool) (m : Nat) (μ : List Nm) (a : Act) (w : World) : Prop where
  len : listed.size = ops.size
  down : ∀ (i : Nat) (o : Oper), ops[i]? = some o → listed.getD i false = true → ∀ j ∈ predsOf o, listed.getD j false = true
  cnt : ∀ (i : Nat) (o : Oper) (k : Kd), T[i]? = some (o, k) → k.isEf = true → (listed.getD i false = true ↔ efs T i < m)
  mle : m ≤ efs T T.length
  hr : HR F (CL T hp m) μ w
  un : ∀ (i : Nat) (o : Oper) (k : Kd) (x : Nat), T[i]? = some (o, k) → listed.getD i false = false → (hpAt T hp i).length ≤ x → x < (hpAt T hp (i + 1)).length → μ[x]? = some Nm.un
  t1 : ∀ (t j : Nat) (o : Oper) (k : Kd), T[j]? = some (o, k) → listed.getD j false = true → o.dst = some t → VR F μ w (k.val (hpAt T hp j)) (a.tmps.getD t undef)
  t2 : ∀ t : Nat, (∀ (j : Nat) (o : Oper) (k : Kd), T[j]? = some (o, k) → listed.getD j false = true → o.dst ≠ some t) → VR F μ w (env t) (a.tmps.getD t undef)
  fr : Fr μ0 w0 μ w
  size : a.tmps.size = n
  defers : a.defers = []

theorem envAt_zero : envAt T hp env 0 = env := by cases T <;> rfl
theorem hpAt_zero : hpAt T hp 0 = hp := by cases T <;> rfl

theorem T_ops (hT : T.map (·.1) = ops.toList) {i : Nat} {o : Oper} {k : Kd} (h : T[i]? = some (o, k)) : ops[i]? = some o := by
  have : (T.map (·.1))[i]? = some o := by simp [h]
  rw [hT] at this
  simpa using this

theorem ops_T (hT : T.map (·.1) = ops.toList) {i : Nat} {o : Oper} (h : ops[i]? = some o) : ∃ k, T[i]? = some (o, k) := by
  have : (T.map (·.1))[i]? = some o := by rw [hT]; simpa using h
  simp only [List.getElem?_map, Option.map_eq_some_iff] at this
  obtain ⟨⟨o', k⟩, h1, h2⟩ := this
  simp at h2; subst h2
  exact ⟨k, h1⟩

theorem T_len (hT : T.map (·.1) = ops.toList) : T.length = ops.size := by
  have := congrArg List.length hT
  simpa using this

theorem envAt_none : ∀ (i : Nat) (t : Nat), i ≤ T.length → (∀ j o k, j < i → T[j]? = some (o, k) → o.dst ≠ some t) → envAt T hp env i t = env t
  | 0, t, _, _ => by rw [envAt_zero]
  | i + 1, t, hi, h => by
    obtain ⟨⟨o, k⟩, hp'⟩ : ∃ p, T[i]? = some p := ⟨_, List.getElem?_eq_getElem (by omega)⟩
    rw [envAt_succ T hp env i o k hp']
    have ih := envAt_none i t (by omega) fun j o k hj => h j o k (by omega)
    have hd := h i o k (by omega) hp'
    cases ho : o.dst with
    | none => simp only [put]; exact ih
    | some d =>
      have : t ≠ d := by rintro rfl; exact hd ho
      simp only [put, upd, nbeq this, cond_false]
      exact ih

theorem envAt_val (hdst : ∀ (i j : Nat) (o o' : Oper) (k k' : Kd) (d : Nat), T[i]? = some (o, k) → T[j]? = some (o', k') → o.dst = some d → o'.dst = some d → i = j) {j : Nat} {o : Oper} {k : Kd} {t : Nat} (hj : T[j]? = some (o, k)) (hd : o.dst = some t) :
    ∀ i, i ≤ T.length → j < i → envAt T hp env i t = k.val (hpAt T hp j)
  | 0, _, h => by omega
  | i + 1, hi, h => by
    obtain ⟨⟨o', k'⟩, hp'⟩ : ∃ p, T[i]? = some p := ⟨_, List.getElem?_eq_getElem (by omega)⟩
    rw [envAt_succ T hp env i o' k' hp']
    rcases Nat.lt_or_ge j i with h1 | h1
    · have ih := envAt_val hdst hj hd i (by omega) h1
      cases ho : o'.dst with
      | none => simp only [put]; exact ih
      | some d =>
        have : t ≠ d := by
          rintro rfl
          have := hdst _ _ _ _ _ _ _ hj hp' hd ho
          omega
        simp only [put, upd, nbeq this, cond_false]
        exact ih
    · have : i = j := by omega
      subst this
      rw [hj] at hp'
      simp at hp'
      obtain ⟨rfl, rfl⟩ := hp'
      simp only [hd, put, upd, Nat.beq_refl, cond_true]

theorem cnt_set (i : Nat) (f : Nat → Bool) (hf : f i = false) : ∀ l : List Nat, l.Nodup → l.countP (fun j => f j || Nat.beq j i) = l.countP f + (if i ∈ l then 1 else 0)
  | [], _ => rfl
  | j :: l, hn => by
    have hn' := List.nodup_cons.1 hn
    have ih := cnt_set i f hf l hn'.2
    by_cases hji : j = i
    · subst hji
      simp only [List.countP_cons, ih, hf, Nat.beq_refl, Bool.or_true, if_true, List.mem_cons, true_or, hn'.1, if_false, Bool.false_eq_true]
    · have h2 : Nat.beq j i = false := nbeq hji
      have h3 : (i ∈ j :: l) ↔ i ∈ l := by simp [Ne.symm hji]
      simp only [List.countP_cons, ih, h2, Bool.or_false, h3]
      omega

theorem getD_set {listed : Array Bool} {i : Nat} (hi : i < listed.size) (j : Nat) : (listed.setIfInBounds i true).getD j false = (listed.getD j false || Nat.beq j i) := by
  by_cases h : j = i
  · subst h
    rw [Nat.beq_refl, Bool.or_true]
    simp [hi]
  · rw [nbeq h, Bool.or_false]
    simp [Array.getElem?_setIfInBounds_ne (Ne.symm h)]

theorem getD_tf {listed : Array Bool} {i : Nat} (hi : i < listed.size) : listed.getD i true = listed.getD i false := by simp [hi]

section
variable (hT : T.map (·.1) = ops.toList) (hrun : RunOK P n ops T hp env) (hst : Sta ops (T.map (·.2.isEf)) M) (hob : oblP T hp M)
include hT hst

theorem draw_dst (i j : Nat) (o o' : Oper) (k k' : Kd) (d : Nat) (hi : T[i]? = some (o, k)) (hj : T[j]? = some (o', k')) (hd : o.dst = some d) (hd' : o'.dst = some d) : i = j :=
  hst.dsts i j o o' d (T_ops hT hi) (T_ops hT hj) hd hd'

/-- The slots that an operation looks at are, when its turn comes, what they are in the text's order. -/
theorem draw_env {μ0 : List Nm} {w0 : World} {listed : Array Bool} {m : Nat} {a : Act} (h : DI n ops T hp env F μ0 w0 listed m μ a w) {i : Nat} {o : Oper} {k : Kd} (hi : T[i]? = some (o, k))
    (hni : listed.getD i false = false) (hpre : ∀ j ∈ predsOf o, listed.getD j false = true) : EnvR F (rs ops (envAt T hp env i) o) μ w a.tmps := by
  intro t
  simp only [rs]
  cases hm : memN (o.looksAt ops) t with
  | false => exact .any
  | true =>
    simp only [cond_true]
    have hmem := memN_iff.1 hm
    have hio := T_ops hT hi
    have hlen := T_len hT
    have hil : i < ops.size := (Array.getElem?_eq_some_iff.1 hio).1
    by_cases hex : ∃ (j : Nat) (o' : Oper) (k' : Kd), T[j]? = some (o', k') ∧ o'.dst = some t
    · obtain ⟨j, o', k', hj, hd⟩ := hex
      have hjo := T_ops hT hj
      have hjl : j < ops.size := (Array.getElem?_eq_some_iff.1 hjo).1
      rcases hst.looks i j o o' t hio hjo hd hmem with h1 | h1 | h1
      · -- the operation's own slot
        subst h1
        rw [envAt_none i t (by omega) fun j' o'' k'' hj' hT' hd' => by have := draw_dst hT hst _ _ _ _ _ _ _ hT' hj hd' hd; omega]
        refine h.t2 t fun j' o'' k'' hT' hl hd' => ?_
        have := draw_dst hT hst _ _ _ _ _ _ _ hT' hj hd' hd
        subst this
        rw [hni] at hl; simp at hl
      · have hjS := hst.pre (fun x => listed.getD x false = true) (fun x ox hx hS => h.down x ox hx hS) i o hio hpre j hjl h1
        have hji := hst.bit_lt i j hil hjl h1
        rw [envAt_val (draw_dst hT hst) hj hd i (by omega) hji]
        exact h.t1 t j o' k' hj hjS hd
      · have hij := hst.bit_lt j i hjl hil h1
        have hjn : listed.getD j false = false := by
          cases hb : listed.getD j false with
          | false => rfl
          | true =>
            have := hst.pre (fun x => listed.getD x false = true) (fun x ox hx hS => h.down x ox hx hS) j o' hjo (h.down j o' hjo hb) i hil h1
            rw [hni] at this; simp at this
        rw [envAt_none i t (by omega) fun j' o'' k'' hj' hT' hd' => by have := draw_dst hT hst _ _ _ _ _ _ _ hT' hj hd' hd; omega]
        refine h.t2 t fun j' o'' k'' hT' hl hd' => ?_
        have := draw_dst hT hst _ _ _ _ _ _ _ hT' hj hd' hd
        subst this
        rw [hjn] at hl; simp at hl
    · have hno : ∀ (j : Nat) (o' : Oper) (k' : Kd), T[j]? = some (o', k') → o'.dst ≠ some t := fun j o' k' hj hd => hex ⟨j, o', k', hj, hd⟩
      rw [envAt_none i t (by omega) fun j o' k' _ hj => hno j o' k' hj]
      exact h.t2 t fun j o' k' hj _ => hno j o' k' hj

/-- How many effects may have been carried out when a turn comes. -/
theorem draw_win {μ0 : List Nm} {w0 : World} {listed : Array Bool} {m : Nat} {a : Act} (h : DI n ops T hp env F μ0 w0 listed m μ a w) {i : Nat} {o : Oper} {k : Kd} (hi : T[i]? = some (o, k))
    (hni : listed.getD i false = false) (hpre : ∀ j ∈ predsOf o, listed.getD j false = true) : winB T M i m = true := by
  unfold winB
  rw [List.all_eq_true]
  intro e he
  have hlen := T_len hT
  have hio := T_ops hT hi
  have hil : i < ops.size := (Array.getElem?_eq_some_iff.1 hio).1
  simp at he
  obtain ⟨⟨o', k'⟩, he'⟩ : ∃ p, T[e]? = some p := ⟨_, List.getElem?_eq_getElem he⟩
  simp only [he']
  rcases hk : k'.isEf with _ | _
  · rfl
  · simp only [Bool.not_true, Bool.false_or, Bool.and_eq_true]
    have heo := T_ops hT he'
    have hel : e < ops.size := by omega
    constructor
    · cases hb : bitN M i e with
      | false => rfl
      | true =>
        have hS := hst.pre (fun x => listed.getD x false = true) (fun x ox hx hS => h.down x ox hx hS) i o hio hpre e hel hb
        simp only [Bool.not_true, Bool.false_or]
        exact Nat.ble_eq_true_of_le ((h.cnt e o' k' he' hk).1 hS)
    · cases hb : bitN M e i with
      | false => rfl
      | true =>
        simp only [Bool.not_true, Bool.false_or]
        apply Nat.ble_eq_true_of_le
        rcases Nat.lt_or_ge (efs T e) m with h1 | h1
        · have hS := (h.cnt e o' k' he' hk).2 h1
          have := hst.pre (fun x => listed.getD x false = true) (fun x ox hx hS => h.down x ox hx hS) e o' heo (h.down e o' heo hS) i hil hb
          rw [hni] at this; simp at this
        · exact h1

/-- An effect's turn comes when all ahead of it are done, and no other. -/
theorem draw_turn {μ0 : List Nm} {w0 : World} {listed : Array Bool} {m : Nat} {a : Act} (h : DI n ops T hp env F μ0 w0 listed m μ a w) {i : Nat} {o : Oper} {k : Kd} (hi : T[i]? = some (o, k)) (hk : k.isEf = true)
    (hni : listed.getD i false = false) (hpre : ∀ j ∈ predsOf o, listed.getD j false = true) : efs T i = m := by
  have hlen := T_len hT
  have hio := T_ops hT hi
  have hil : i < ops.size := (Array.getElem?_eq_some_iff.1 hio).1
  have h1 : m ≤ efs T i := by
    rcases Nat.lt_or_ge (efs T i) m with h1 | h1
    · have := (h.cnt i o k hi hk).2 h1
      rw [hni] at this; simp at this
    · exact h1
  rcases Nat.lt_or_ge m (efs T i) with h2 | h2
  · obtain ⟨e, g1, g2, g3⟩ := efs_find T m h.mle
    have hei : e < i := by
      rcases Nat.lt_or_ge e i with h3 | h3
      · exact h3
      · have := efs_mono T i e h3 g1; omega
    rcases g3 with ⟨_, g3⟩ | ⟨o', k', g3, g4⟩
    · omega
    · have hb := hst.chain i e hil hei (by simp [hi, hk]) (by simp [g3, g4])
      have hS := hst.pre (fun x => listed.getD x false = true) (fun x ox hx hS => h.down x ox hx hS) i o hio hpre e (by omega) hb
      have := (h.cnt e o' k' g3 g4).1 hS
      omega
  · omega

end

end Go.SL
