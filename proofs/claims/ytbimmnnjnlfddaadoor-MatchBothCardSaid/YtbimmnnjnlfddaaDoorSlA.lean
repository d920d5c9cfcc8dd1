/-
  A logic of symbolic states over the model's runs: abstract values and rows, how they read in memory, and what a call may change.
-/
import Derived.Orders
import Derived.ScopeJumps
import Derived.Lib.Hide
set_option linter.unusedVariables false
set_option linter.unusedSectionVars false
namespace Go.SL
open Go

/-- Abstract values. sc: the value itself. ptr, sl: a place in a row that this run owns (by its number), a slice of it. im: a slice of memory that stays as it is, by what it holds. ip: a place in such memory. -/
inductive AV where
  | any
  | nil
  | sc (v : Value)
  | ptr (o off : Nat)
  | sl (o off len : Nat)
  | im (esz : Nat) (cells : List AV)
  | ip (cells : List AV) (i : Nat)
  | fn (f : Nat) (first caps : List AV)
  | agg (cells : List AV)
  | tup (vs : List AV)
  | ifc (t : Nat) (v : AV)

mutual
/-- A value that names no own row. -/
def noOwn : AV → Bool
  | .any | .nil | .sc _ => true
  | .ptr _ _ | .sl _ _ _ => false
  | .im _ _ => true
  | .ip _ _ => true
  | .fn _ xs ys => noOwnL xs && noOwnL ys
  | .agg cs => noOwnL cs
  | .tup vs => noOwnL vs
  | .ifc _ v => noOwn v
def noOwnL : List AV → Bool
  | [] => true
  | x :: xs => noOwn x && noOwnL xs
end

inductive AObj where
  | dead
  | row (esz : Nat) (cells : List AV)

/-- Where a row lies: nowhere yet; gone; at a block from a cell on, its elements' size, the block's cells. -/
inductive Nm where
  | un
  | dead
  | em
  | at (b base esz tot : Nat)

def blocks (μ : List Nm) (b : Nat) : Prop := ∃ o base esz tot : Nat, μ[o]? = some (Nm.at b base esz tot)

def plainV : Value → Bool
  | .agg _ => false
  | .slice .. => false
  | _ => true

mutual
inductive VR (F : Nat → Prop) (μ : List Nm) (w : World) : AV → Value → Prop
  | any {v} : VR F μ w .any v
  | sc {v} (h : plainV v = true) : VR F μ w (.sc v) v
  | ptr {o off b base esz tot} (h : μ[o]? = some (Nm.at b base esz tot)) : VR F μ w (.ptr o off) (.pointer (some ⟨b, base + off, none⟩))
  | ptrD {o off a} (h : μ[o]? = some Nm.dead) : VR F μ w (.ptr o off) (.pointer a)
  | sl {o off len b base esz tot c} (h : μ[o]? = some (Nm.at b base esz tot)) (hc : base + off + c * esz ≤ tot) (hl : len ≤ c) :
      VR F μ w (.sl o off len) (.slice (some ⟨b, base + off, none⟩) len c)
  | slN {o off a b base esz tot} (h : μ[o]? = some (Nm.at b base esz tot)) : VR F μ w (.sl o off 0) (.slice a 0 0)
  | slE {o off a} (h : μ[o]? = some Nm.em) : VR F μ w (.sl o off 0) (.slice a 0 0)
  | nil {a} : VR F μ w .nil (.slice a 0 0)
  | slD {o off len a n c} (h : μ[o]? = some Nm.dead) : VR F μ w (.sl o off len) (.slice a n c)
  | im0 {esz a c} : VR F μ w (.im esz []) (.slice a 0 c)
  | im {esz xs b off n cap c el fr} (h : w.heap[b]? = some (Obj.cells c el fr)) (hb : ¬ blocks μ b) (hF : ¬ F b ∧ noOwnL xs = true) (hn : n * esz = xs.length) (hn2 : n ≤ cap)
      (hx : VRL F μ w xs ((c.toList.drop off).take xs.length)) : VR F μ w (.im esz xs) (.slice (some ⟨b, off, none⟩) n cap)
  | ip {xs i b off c el fr} (h : w.heap[b]? = some (Obj.cells c el fr)) (hb : ¬ blocks μ b) (hF : ¬ F b ∧ noOwnL xs = true)
      (hx : VRL F μ w xs ((c.toList.drop off).take xs.length)) : VR F μ w (.ip xs i) (.pointer (some ⟨b, off + i, none⟩))
  | fn {f xs ys xs' ys'} (h1 : VRL F μ w xs xs'.toList) (h2 : VRL F μ w ys ys'.toList) : VR F μ w (.fn f xs ys) (.func (.func f) xs' ys')
  | agg {xs ys} (h : VRL F μ w xs ys.toList) : VR F μ w (.agg xs) (.agg ys)
  | tup {xs ys} (h : VRL F μ w xs ys.toList) : VR F μ w (.tup xs) (.tuple ys)
  | ifc {t x y} (h : VR F μ w x y) : VR F μ w (.ifc t x) (.iface t y)
inductive VRL (F : Nat → Prop) (μ : List Nm) (w : World) : List AV → List Value → Prop
  | nil : VRL F μ w [] []
  | cons {x y xs ys} (h : VR F μ w x y) (t : VRL F μ w xs ys) : VRL F μ w (x :: xs) (y :: ys)
end

/-- None of the first n cells is frozen. -/
def NF (fr : Nat × Nat) (n : Nat) : Prop := ∀ i, i < n → ¬ (fr.1 ≤ i ∧ i < fr.2)

/-- The program's tables that none writes: a variable's number, what it holds. -/
class Tabs where
  tab : Nat → Option (List Value)
variable [Tabs]
/-- The tables are there, and no own row is one. -/
def TB (μ : List Nm) (w : World) : Prop := ∀ g xs, Tabs.tab g = some xs → (∃ c el fr, w.heap[g]? = some (Obj.cells c el fr) ∧ c.toList = xs) ∧ ¬ blocks μ g
theorem TB.sub {μ μ' : List Nm} {w : World} (h : TB μ w) (hb : ∀ b, blocks μ' b → blocks μ b) : TB μ' w := fun g xs hg => ⟨(h g xs hg).1, fun h' => (h g xs hg).2 (hb g h')⟩
theorem TB.nil {μ : List Nm} {w : World} (h : TB μ w) : TB [] w := h.sub fun b ⟨_, _, _, _, h⟩ => by simp at h
theorem TB.next {μ μ' : List Nm} {w w' : World} (h : TB μ w) (hk : ∀ b, b < w.heap.size → ¬ blocks μ b → w'.heap[b]? = w.heap[b]?) (hn : ∀ b, blocks μ' b → blocks μ b ∨ w.heap.size ≤ b) : TB μ' w' := by
  intro g xs hg
  obtain ⟨⟨c, el, fr, h1, h2⟩, h3⟩ := h g xs hg
  have hlt : g < w.heap.size := by
    rcases Nat.lt_or_ge g w.heap.size with h | h
    · exact h
    · simp [Array.getElem?_eq_none h] at h1
  refine ⟨⟨c, el, fr, by rw [hk g hlt h3, h1], h2⟩, fun h' => ?_⟩
  rcases hn g h' with h4 | h4
  · exact h3 h4
  · omega

structure HR (F : Nat → Prop) (hp : List AObj) (μ : List Nm) (w : World) : Prop where
  len : μ.length = hp.length
  obj : ∀ o b base esz tot : Nat, μ[o]? = some (Nm.at b base esz tot) → ∃ cells c el fr, hp[o]? = some (AObj.row esz cells) ∧ w.heap[b]? = some (Obj.cells c el fr) ∧
    c.size = tot ∧ base + cells.length ≤ tot ∧ VRL F μ w cells ((c.toList.drop base).take cells.length) ∧ NF fr tot
  em : ∀ o : Nat, μ[o]? = some Nm.em → ∃ esz, hp[o]? = some (AObj.row esz [])
  live : ∀ (o esz : Nat) (cells : List AV), hp[o]? = some (AObj.row esz cells) → μ[o]? ≠ some Nm.dead
  inj : ∀ o o' b base esz tot base' esz' tot' : Nat, μ[o]? = some (Nm.at b base esz tot) → μ[o']? = some (Nm.at b base' esz' tot') → o = o'
  fo : ∀ b, blocks μ b → ¬ F b
  fb : ∀ b, F b → b < w.heap.size
  tb : TB μ w

structure Fr (μ : List Nm) (w : World) (μ' : List Nm) (w' : World) : Prop where
  size : w.heap.size ≤ w'.heap.size
  keep : ∀ b, b < w.heap.size → ¬ blocks μ b → w'.heap[b]? = w.heap[b]?
  new : ∀ b, blocks μ' b → blocks μ b ∨ w.heap.size ≤ b
  ext : ∀ (o : Nat) (n : Nm), μ[o]? = some n → μ'[o]? = some n ∨ (n ≠ Nm.un ∧ μ'[o]? = some Nm.dead)
  len : μ.length ≤ μ'.length
  oo : w'.os = w.os ∧ w'.output = w.output

theorem heap_lt {w : World} {b : Nat} {x : Obj} (h : w.heap[b]? = some x) : b < w.heap.size := by
  rcases Nat.lt_or_ge b w.heap.size with h1 | h1
  · exact h1
  · simp [Array.getElem?_eq_none h1] at h

variable {F : Nat → Prop} {μ μ' μ'' : List Nm} {w w' w'' : World}

theorem Fr.refl (μ : List Nm) (w : World) : Fr μ w μ w := ⟨Nat.le_refl _, fun _ _ _ => rfl, fun _ h => .inl h, fun _ _ h => .inl h, Nat.le_refl _, rfl, rfl⟩

theorem Fr.trans (h : Fr μ w μ' w') (h' : Fr μ' w' μ'' w'') : Fr μ w μ'' w'' := by
  refine ⟨Nat.le_trans h.size h'.size, fun b hb hn => ?_, fun b hb => ?_, fun o n hn => ?_, Nat.le_trans h.len h'.len, h'.oo.1.trans h.oo.1, h'.oo.2.trans h.oo.2⟩
  · rw [h'.keep b (Nat.lt_of_lt_of_le hb h.size), h.keep b hb hn]
    intro hb'
    rcases h.new b hb' with h1 | h1
    · exact hn h1
    · omega
  · rcases h'.new b hb with h1 | h1
    · exact h.new b h1
    · exact .inr (Nat.le_trans h.size h1)
  · rcases h.ext o n hn with h1 | ⟨h0, h1⟩
    · exact h'.ext o n h1
    · rcases h'.ext o _ h1 with h2 | ⟨_, h2⟩
      · exact .inr ⟨h0, h2⟩
      · exact .inr ⟨h0, h2⟩

theorem Fr.out {b : Nat} (h : Fr μ w μ' w') (hb : b < w.heap.size) (hn : ¬ blocks μ b) : ¬ blocks μ' b := fun h' => by
  rcases h.new b h' with h1 | h1
  · exact hn h1
  · omega

variable {F : Nat → Prop}

theorem HR.foF {hp : List AObj} (h : HR F hp μ w) (f : Fr μ w μ' w') : ∀ b, blocks μ' b → ¬ F b := fun b hb hF => by
  rcases f.new b hb with h1 | h1
  · exact h.fo b h1 hF
  · have := h.fb b hF; omega

theorem HR.fbF {hp : List AObj} (h : HR F hp μ w) (f : Fr μ w μ' w') : ∀ b, F b → b < w'.heap.size := fun b hF => Nat.lt_of_lt_of_le (h.fb b hF) f.size

theorem HR.tbF {hp : List AObj} (h : HR F hp μ w) (f : Fr μ w μ' w') : TB μ' w' := h.tb.next f.keep f.new

mutual
theorem VR.mono (f : Fr μ w μ' w') : ∀ {x : AV} {v : Value}, VR F μ w x v → VR F μ' w' x v
  | _, _, .any => .any
  | _, _, .sc h => .sc h
  | _, _, .ptr h => by
    rcases f.ext _ _ h with h1 | ⟨_, h1⟩
    · exact .ptr h1
    · exact .ptrD h1
  | _, _, .ptrD h => by
    rcases f.ext _ _ h with h1 | ⟨_, h1⟩
    · exact .ptrD h1
    · exact .ptrD h1
  | _, _, .sl h hc hl => by
    rcases f.ext _ _ h with h1 | ⟨_, h1⟩
    · exact .sl h1 hc hl
    · exact .slD h1
  | _, _, .slN h => by
    rcases f.ext _ _ h with h1 | ⟨_, h1⟩
    · exact .slN h1
    · exact .slD h1
  | _, _, .slD h => by
    rcases f.ext _ _ h with h1 | ⟨_, h1⟩
    · exact .slD h1
    · exact .slD h1
  | _, _, .slE h => by
    rcases f.ext _ _ h with h1 | ⟨_, h1⟩
    · exact .slE h1
    · exact .slD h1
  | _, _, .nil => .nil
  | _, _, .im0 => .im0
  | _, _, .im h hb hF hn hn2 hx => .im ((f.keep _ (heap_lt h) hb).trans h) (f.out (heap_lt h) hb) hF hn hn2 (VRL.mono f hx)
  | _, _, .ip h hb hF hx => .ip ((f.keep _ (heap_lt h) hb).trans h) (f.out (heap_lt h) hb) hF (VRL.mono f hx)
  | _, _, .fn h1 h2 => .fn (VRL.mono f h1) (VRL.mono f h2)
  | _, _, .agg h => .agg (VRL.mono f h)
  | _, _, .tup h => .tup (VRL.mono f h)
  | _, _, .ifc h => .ifc (VR.mono f h)
theorem VRL.mono (f : Fr μ w μ' w') : ∀ {xs : List AV} {vs : List Value}, VRL F μ w xs vs → VRL F μ' w' xs vs
  | _, _, .nil => .nil
  | _, _, .cons h t => .cons (VR.mono f h) (VRL.mono f t)
end

theorem VRL.length {xs : List AV} {vs : List Value} (h : VRL F μ w xs vs) : xs.length = vs.length := by
  induction xs generalizing vs with
  | nil => cases h; rfl
  | cons x xs ih => cases h with | cons h t => simp [ih t]

theorem VRL.get {xs : List AV} {vs : List Value} (h : VRL F μ w xs vs) {i : Nat} {x : AV} (hx : xs[i]? = some x) : ∃ v, vs[i]? = some v ∧ VR F μ w x v := by
  induction xs generalizing vs i with
  | nil => simp at hx
  | cons y ys ih =>
    cases h with
    | cons h t =>
      cases i with
      | zero => simp at hx; subst hx; exact ⟨_, rfl, h⟩
      | succ i => simpa using ih t (by simpa using hx)

theorem VRL.append {xs ys : List AV} {vs us : List Value} (h : VRL F μ w xs vs) (h' : VRL F μ w ys us) : VRL F μ w (xs ++ ys) (vs ++ us) := by
  induction xs generalizing vs with
  | nil => cases h; exact h'
  | cons x xs ih => cases h with | cons h t => exact .cons h (ih t)

theorem VRL.take {xs : List AV} {vs : List Value} (n : Nat) (h : VRL F μ w xs vs) : VRL F μ w (xs.take n) (vs.take n) := by
  induction xs generalizing vs n with
  | nil => cases h; simp; exact .nil
  | cons x xs ih =>
    cases h with
    | cons h t =>
      cases n with
      | zero => simp; exact .nil
      | succ n => exact .cons h (ih n t)

theorem VRL.drop {xs : List AV} {vs : List Value} (n : Nat) (h : VRL F μ w xs vs) : VRL F μ w (xs.drop n) (vs.drop n) := by
  induction xs generalizing vs n with
  | nil => cases h; simp; exact .nil
  | cons x xs ih =>
    cases h with
    | cons h t =>
      cases n with
      | zero => exact .cons h t
      | succ n => exact ih n t

theorem VRL.no_nil : ∀ {xs : List AV} {vs : List Value}, VRL F [] w xs vs → noOwnL xs = true := by
  intro xs
  suffices h : ∀ (n : Nat), (∀ (x : AV) (v : Value), SizeOf.sizeOf x < n → VR F [] w x v → noOwn x = true) ∧ (∀ (xs : List AV) (vs : List Value), SizeOf.sizeOf xs < n → VRL F [] w xs vs → noOwnL xs = true) from fun {vs} hv => (h (SizeOf.sizeOf xs + 1)).2 xs vs (by omega) hv
  intro n
  induction n with
  | zero => exact ⟨fun x v h => by omega, fun xs vs h => by omega⟩
  | succ n ih =>
    refine ⟨fun x v hs hv => ?_, fun xs vs hs hv => ?_⟩
    · cases hv with
      | ptr h => simp at h
      | ptrD h => simp at h
      | sl h _ _ => simp at h
      | slN h => simp at h
      | slE h => simp at h
      | slD h => simp at h
      | fn h1 h2 =>
        simp only [AV.fn.sizeOf_spec] at hs
        simp only [noOwn, Bool.and_eq_true]
        exact ⟨ih.2 _ _ (by omega) h1, ih.2 _ _ (by omega) h2⟩
      | agg h => simp only [AV.agg.sizeOf_spec] at hs; simp only [noOwn]; exact ih.2 _ _ (by omega) h
      | tup h => simp only [AV.tup.sizeOf_spec] at hs; simp only [noOwn]; exact ih.2 _ _ (by omega) h
      | ifc h => simp only [AV.ifc.sizeOf_spec] at hs; simp only [noOwn]; exact ih.1 _ _ (by omega) h
      | _ => rfl
    · cases hv with
      | nil => rfl
      | cons h t =>
        simp only [List.cons.sizeOf_spec] at hs
        simp only [noOwnL, Bool.and_eq_true]
        exact ⟨ih.1 _ _ (by omega) h, ih.2 _ _ (by omega) t⟩

theorem noOwnL_append (xs ys : List AV) : noOwnL (xs ++ ys) = (noOwnL xs && noOwnL ys) := by
  induction xs with
  | nil => simp [noOwnL]
  | cons x xs ih => simp [noOwnL, ih, Bool.and_assoc]
theorem noOwnL_sub {xs : List AV} (h : noOwnL xs = true) (a b : Nat) : noOwnL ((xs.drop a).take b) = true := by
  have h1 : noOwnL (xs.drop a) = true := by
    have := noOwnL_append (xs.take a) (xs.drop a)
    rw [List.take_append_drop, h] at this
    exact ((Bool.and_eq_true _ _).mp this.symm).2
  have := noOwnL_append ((xs.drop a).take b) ((xs.drop a).drop b)
  rw [List.take_append_drop, h1] at this
  exact ((Bool.and_eq_true _ _).mp this.symm).1

theorem VRL.of_get {xs : List AV} {vs : List Value} (hl : xs.length = vs.length) (h : ∀ (i : Nat) (x : AV) (v : Value), xs[i]? = some x → vs[i]? = some v → VR F μ w x v) : VRL F μ w xs vs := by
  induction xs generalizing vs with
  | nil => cases vs <;> simp_all; exact .nil
  | cons x xs ih =>
    cases vs with
    | nil => simp at hl
    | cons v vs => exact .cons (h 0 _ _ rfl rfl) (ih (by simpa using hl) fun i y u hy hu => h (i + 1) y u (by simpa using hy) (by simpa using hu))

theorem VRL.set {xs : List AV} {vs : List Value} (h : VRL F μ w xs vs) (i : Nat) {x : AV} {v : Value} (hv : VR F μ w x v) : VRL F μ w (xs.set i x) (vs.set i v) := by
  induction xs generalizing vs i with
  | nil => cases h; simp; exact .nil
  | cons y ys ih =>
    cases h with
    | cons h t =>
      cases i with
      | zero => exact .cons hv t
      | succ i => exact .cons h (ih t i)

end Go.SL
