/-
  Operations: indexes, slices, literals, new rows, append, copy, texts.
-/
import Derived.Test.YtbimmnnjnlfddaaDoorSlD
set_option linter.unusedSimpArgs false
set_option linter.unnecessarySimpa false
set_option linter.unusedVariables false
set_option linter.unusedSectionVars false
namespace Go.SL
open Go
variable [Tabs]

variable {F : Nat → Prop} {μ μ' μ'' : List Nm} {w w' w'' : World} {P : Program} {n : Nat} {env : Nat → AV} {hp : List AObj}
variable {dst : Option Nat} {ty : TypeId} {pos : String} {after : Array Edge} {guard : Option (Nat × Bool)}

theorem addr_add (b off k : Nat) : (⟨b, off, none⟩ : Addr).add k = ⟨b, off + k, none⟩ := by unfold Addr.add; split <;> simp_all

/-- A slice of a live row: what it is in memory. -/
theorem EnvR.sl {a : Act} (h : EnvR F env μ w a.tmps) (hr : HR F hp μ w) {x : Operand} {o off len esz : Nat} {cells : List AV} (hx : SL.opd env x = .sl o off len)
    (ho : hp[o]? = some (AObj.row esz cells)) : (∃ b base tot c el fr k, a.eval x = .slice (some ⟨b, base + off, none⟩) len k ∧ base + off + k * esz ≤ tot ∧ len ≤ k ∧ μ[o]? = some (Nm.at b base esz tot) ∧
      w.heap[b]? = some (Obj.cells c el fr) ∧ c.size = tot ∧ base + cells.length ≤ tot ∧ VRL F μ w cells ((c.toList.drop base).take cells.length) ∧ NF fr tot) ∨
      (len = 0 ∧ ∃ addr, a.eval x = .slice addr 0 0 ∧ ((∃ b base tot, μ[o]? = some (Nm.at b base esz tot)) ∨ μ[o]? = some Nm.em)) := by
  have h1 := h.opd x
  rw [hx] at h1
  generalize a.eval x = v at h1
  rcases hr.row ho with h2 | ⟨h2, _⟩ | ⟨b, base, tot, c, el, fr, h2, h3, h4, h5, h6, h7⟩
  · cases h1 with
    | sl h hc hl => rw [h2] at h; simp at h
    | slN h => rw [h2] at h; simp at h
    | slE h => rw [h2] at h; simp at h
    | slD h => rw [h2] at h; simp at h
  · cases h1 with
    | sl h hc hl => rw [h2] at h; simp at h
    | slN h => rw [h2] at h; simp at h
    | slE h => exact .inr ⟨rfl, _, rfl, .inr h2⟩
    | slD h => rw [h2] at h; simp at h
  · cases h1 with
    | sl h hc hl =>
      rw [h2] at h
      injection h with h; injection h with e1 e2 e3 e4
      subst e1; subst e2; subst e3; subst e4
      exact .inl ⟨_, _, _, c, el, fr, _, rfl, hc, hl, h2, h3, h4, h5, h6, h7⟩
    | slN h => exact .inr ⟨rfl, _, rfl, .inl ⟨_, _, _, h2⟩⟩
    | slE h => rw [h2] at h; simp at h
    | slD h => rw [h2] at h; simp at h

theorem step_idx {t e : TypeId} {x ix : Operand} {o off len esz : Nat} {cells : List AV} {k : IntKind} {i : Int} (ht : Und P t (.slice e)) (hs : SizeOf P e esz) (hx : opd env x = .sl o off len)
    (ho : hp[o]? = some (AObj.row esz cells)) (hi : opd env ix = .sc (.int k i)) (h0 : 0 ≤ i) (h1 : i < len) :
    Step P ⟨dst, .indexAddr t x ix, ty, pos, after, guard⟩ env hp (is (.ptr o (off + i.toNat * esz)) hp) := by
  refine Step.val fun F μ w a hr he => ?_
  rcases he.sl hr hx ho with ⟨b, base, tot, c, el, fr, kc, g1, g2, g3, g4, g5, g6, g7, g8, g9⟩ | ⟨g1, _⟩
  · refine ⟨.pointer (some ⟨b, base + (off + i.toNat * esz), none⟩), ?_, .ptr g4⟩
    have hii : (0 ≤ i ∧ i < (len : Int)) := ⟨h0, h1⟩
    simp [execOp, g1, he.sc hi, Instr.indexAt, asIntOf, ht w, hs w, hii, addr_add, Nat.add_assoc]
  · omega

theorem step_idxI {t e : TypeId} {x ix : Operand} {esz m : Nat} {cells : List AV} {k : IntKind} {i : Int} (ht : Und P t (.slice e)) (hs : SizeOf P e esz) (hx : opd env x = .im esz cells)
    (hm : m * esz = cells.length) (hz : 0 < esz) (hi : opd env ix = .sc (.int k i)) (h0 : 0 ≤ i) (h1 : i < m) :
    Step P ⟨dst, .indexAddr t x ix, ty, pos, after, guard⟩ env hp (is (.ip cells (i.toNat * esz)) hp) := by
  refine Step.val fun F μ w a hr he => ?_
  have h2 := he.opd x
  rw [hx] at h2
  generalize ha : a.eval x = v at h2
  cases h2 with
  | im0 =>
    have h0' : m * esz = 0 := hm
    rcases Nat.mul_eq_zero.mp h0' with h3 | h3 <;> omega
  | im h hb hF hn hn2 hv =>
    rename_i b off nn cap c el fr
    have : m = nn := Nat.eq_of_mul_eq_mul_right hz (hm.trans hn.symm)
    subst this
    refine ⟨.pointer (some ⟨b, off + i.toNat * esz, none⟩), ?_, .ip h hb hF hv⟩
    have hii : (0 ≤ i ∧ i < (m : Int)) := ⟨h0, h1⟩
    simp [execOp, ha, he.sc hi, Instr.indexAt, asIntOf, ht w, hs w, hii, addr_add]

/-- A bound of a slice expression. -/
def Bd (env : Nat → AV) : Option Operand → Nat → Nat → Prop
  | none, d, v => v = d
  | some x, _, v => ∃ k i, opd env x = .sc (.int k i) ∧ i = (v : Int)

theorem Bd.none {d : Nat} : Bd env none d d := rfl
theorem Bd.some {x : Operand} {d v : Nat} {k : IntKind} {i : Int} (hx : opd env x = .sc (.int k i)) (hi : i = (v : Int)) : Bd env (some x) d v := ⟨k, i, hx, hi⟩

theorem run_bounds {isS : Bool} {len cap l h : Nat} {lo hi : Option Operand} {a : Act} (he : EnvR F env μ w a.tmps) (hl : Bd env lo 0 l) (hh : Bd env hi len h) (h1 : l ≤ h) (h2 : h ≤ cap) (h3 : hi = .none → h ≤ cap) :
    (Instr.sliceBounds isS len cap (lo.map a.eval) (hi.map a.eval) .none).run P w = .ok (l, h, cap) w := by
  cases hi with
  | none =>
    cases lo with
    | none => simp only [Bd] at hl hh; subst hl; subst hh; simp [Instr.sliceBounds]
    | some x =>
      obtain ⟨k, i, hx, rfl⟩ := hl
      simp only [Bd] at hh; subst hh
      have e : (0 ≤ (l : Int) ∧ (l : Int) ≤ (h : Int)) := by omega
      simp [Instr.sliceBounds, Instr.sliceBound, he.sc hx, asIntOf, h1]
  | some y =>
    obtain ⟨k', i', hy, rfl⟩ := hh
    cases lo with
    | none => simp only [Bd] at hl; subst hl; simp [Instr.sliceBounds, Instr.sliceBound, he.sc hy, asIntOf, h2]
    | some x =>
      obtain ⟨k, i, hx, rfl⟩ := hl
      simp [Instr.sliceBounds, Instr.sliceBound, he.sc hy, he.sc hx, asIntOf, h1, h2]

theorem step_slice {t e : TypeId} {x : Operand} {lo hi : Option Operand} {o off len esz l h : Nat} {cells : List AV} (ht : Und P t (.slice e)) (hs : SizeOf P e esz) (hx : opd env x = .sl o off len)
    (ho : hp[o]? = some (AObj.row esz cells)) (hl : Bd env lo 0 l) (hh : Bd env hi len h) (h1 : l ≤ h) (h2 : h ≤ len) :
    Step P ⟨dst, .slice t x lo hi none, ty, pos, after, guard⟩ env hp (is (.sl o (off + l * esz) (h - l)) hp) := by
  refine Step.val fun F μ w a hr he => ?_
  rcases he.sl hr hx ho with ⟨b, base, tot, c, el, fr, kc, g1, g2, g3, g4, g5, g6, g7, g8, g9⟩ | ⟨g1, addr, g2, g3⟩
  · have hb := run_bounds (P := P) (isS := true) (len := len) (cap := kc) he hl hh h1 (by omega) (fun _ => by omega)
    by_cases hk : kc = l
    · subst hk
      refine ⟨.slice (some ⟨b, base + off, none⟩) (h - kc) (kc - kc), ?_, ?_⟩
      · simp [execOp, g1, Instr.sliceAt, Instr.slice, ht w, hs w, hb]
      · have e1 : h - kc = 0 := by omega
        have e2 : kc - kc = 0 := by omega
        rw [e1, e2]; exact .slN g4
    · refine ⟨.slice (some ⟨b, base + (off + l * esz), none⟩) (h - l) (kc - l), ?_, ?_⟩
      · simp [execOp, g1, Instr.sliceAt, Instr.slice, ht w, hs w, hb, hk, addr_add, Nat.add_assoc]
      · refine .sl g4 ?_ (by omega)
        have : kc * esz = l * esz + (kc - l) * esz := by rw [← Nat.add_mul]; congr 1; omega
        omega
  · subst g1
    have e1 : h = 0 := by omega
    have e2 : l = 0 := by omega
    subst e1; subst e2
    have hb := run_bounds (P := P) (isS := true) (len := 0) (cap := 0) he hl hh h1 (by omega) (fun _ => by omega)
    refine ⟨.slice addr 0 0, ?_, ?_⟩
    · simp [execOp, g2, Instr.sliceAt, Instr.slice, ht w, hs w, hb]
    · rcases g3 with ⟨b, base, tot, g3⟩ | g3
      · exact .slN g3
      · exact .slE g3

theorem step_sliceI {t e : TypeId} {x : Operand} {lo hi : Option Operand} {m esz l h : Nat} {cells : List AV} (ht : Und P t (.slice e)) (hs : SizeOf P e esz) (hx : opd env x = .im esz cells)
    (hm : m * esz = cells.length) (hz : 0 < esz) (hl : Bd env lo 0 l) (hh : Bd env hi m h) (h1 : l ≤ h) (h2 : h ≤ m) :
    Step P ⟨dst, .slice t x lo hi none, ty, pos, after, guard⟩ env hp (is (.im esz ((cells.drop (l * esz)).take ((h - l) * esz))) hp) := by
  refine Step.val fun F μ w a hr he => ?_
  have h3 := he.opd x
  rw [hx] at h3
  generalize ha : a.eval x = v at h3
  cases h3 with
  | im0 =>
    rename_i addr cap
    have h0' : m * esz = 0 := hm
    have hm0 : m = 0 := by rcases Nat.mul_eq_zero.mp h0' with h3 | h3 <;> omega
    have e1 : h = 0 := by omega
    have e2 : l = 0 := by omega
    subst hm0; subst e1; subst e2
    have hb := run_bounds (P := P) (isS := true) (len := 0) (cap := cap) he hl hh h1 (by omega) (fun _ => by omega)
    by_cases hk : cap = 0
    · refine ⟨.slice addr 0 0, ?_, by simpa using VR.im0⟩
      subst hk
      simp [execOp, ha, Instr.sliceAt, Instr.slice, ht w, hs w, hb]
    · refine ⟨.slice (addr.map (·.add (0 * esz))) 0 cap, ?_, by simpa using VR.im0⟩
      simp [execOp, ha, Instr.sliceAt, Instr.slice, ht w, hs w, hb, hk]
  | im hc hb hF hn hn2 hv =>
    rename_i b off nn cap c el fr
    have : m = nn := Nat.eq_of_mul_eq_mul_right hz (hm.trans hn.symm)
    subst this
    have hbd := run_bounds (P := P) (isS := true) (len := m) (cap := cap) he hl hh h1 (by omega) (fun _ => by omega)
    have hlen : ((cells.drop (l * esz)).take ((h - l) * esz)).length = (h - l) * esz := by
      have : m * esz = l * esz + ((h - l) * esz + (m - h) * esz) := by rw [← Nat.add_mul, ← Nat.add_mul]; congr 1; omega
      simp; omega
    by_cases hk : cap = l
    · subst hk
      have e1 : h - cap = 0 := by omega
      refine ⟨.slice (some ⟨b, off, none⟩) (h - cap) (cap - cap), ?_, ?_⟩
      · simp [execOp, ha, Instr.sliceAt, Instr.slice, ht w, hs w, hbd]
      · rw [e1]; simpa using VR.im0
    · refine ⟨.slice (some ⟨b, off + l * esz, none⟩) (h - l) (cap - l), ?_, ?_⟩
      · simp [execOp, ha, Instr.sliceAt, Instr.slice, ht w, hs w, hbd, hk, addr_add]
      · refine .im hc hb ⟨hF.1, noOwnL_sub hF.2 _ _⟩ (by rw [hlen]) (by omega) ?_
        rw [hlen]
        refine window_sub hv ?_
        have : m * esz = l * esz + ((h - l) * esz + (m - h) * esz) := by rw [← Nat.add_mul, ← Nat.add_mul]; congr 1; omega
        omega

theorem step_sliceS {t : TypeId} {x : Operand} {lo hi : Option Operand} {s : ByteArray} {l h : Nat} (ht : Und P t .string) (hx : opd env x = .sc (.string s))
    (hl : Bd env lo 0 l) (hh : Bd env hi s.size h) (h1 : l ≤ h) (h2 : h ≤ s.size) :
    Step P ⟨dst, .slice t x lo hi none, ty, pos, after, guard⟩ env hp (is (.sc (.string (s.extract l h))) hp) := by
  refine Step.val fun F μ w a hr he => ⟨.string (s.extract l h), ?_, .sc rfl⟩
  have hb := run_bounds (P := P) (isS := false) (len := s.size) (cap := s.size) he hl hh h1 (by omega) (fun _ => by omega)
  simp [execOp, he.sc hx, Instr.sliceAt, Instr.slice, ht w, hb]

theorem step_index {t : TypeId} {x ix : Operand} {s : ByteArray} {k : IntKind} {i : Int} (ht : Und P t .string) (hx : opd env x = .sc (.string s)) (hi : opd env ix = .sc (.int k i)) (h0 : 0 ≤ i)
    {c : UInt8} (hc : s.data.toList[i.toNat]? = some c) : Step P ⟨dst, .index t x ix, ty, pos, after, guard⟩ env hp (is (.sc (.int .u8 c.toNat)) hp) := by
  refine Step.val fun F μ w a hr he => ⟨.int .u8 c.toNat, ?_, .sc rfl⟩
  have hc' : s[i.toNat]? = some c := by
    have hlt : i.toNat < s.size := by
      rcases Nat.lt_or_ge i.toNat s.data.toList.length with h | h
      · simpa using h
      · simp [List.getElem?_eq_none h] at hc
    have h2 : s.data.toList[i.toNat]? = some (s.data[i.toNat]'hlt) := by simp [List.getElem?_eq_getElem, show i.toNat < s.data.size from hlt]
    rw [h2] at hc
    have h3 : s[i.toNat]? = some (s[i.toNat]'hlt) := by simp [getElem?_pos, hlt]
    rw [h3]; exact hc
  simp [execOp, he.sc hx, he.sc hi, Instr.index, asIntOf, ht w, h0, hc']

theorem step_nilp {x : Operand} {o off esz : Nat} {cells : List AV} (hx : opd env x = .ptr o off) (ho : hp[o]? = some (AObj.row esz cells)) :
    Step P ⟨dst, .nilCheck x, ty, pos, after, guard⟩ env hp (is (.ptr o off) hp) := by
  refine Step.val fun F μ w a hr he => ?_
  obtain ⟨b, base, tot, c, el, fr, h1, h2, _⟩ := he.ptr hr hx ho
  exact ⟨.pointer (some ⟨b, base + off, none⟩), by simp [execOp, h1], .ptr h2⟩

theorem mapVRL {a : Act} (he : EnvR F env μ w a.tmps) : ∀ l : List Operand, VRL F μ w (l.map (opd env)) (l.map a.eval)
  | [] => .nil
  | x :: l => .cons (he.opd x) (mapVRL he l)

theorem step_fn {f : Nat} {first caps : Array Operand} : Step P ⟨dst, .makeFunc (.func f) first caps, ty, pos, after, guard⟩ env hp (is (.fn f (first.toList.map (opd env)) (caps.toList.map (opd env))) hp) :=
  Step.val fun F μ w a hr he => ⟨.func (.func f) (first.map a.eval) (caps.map a.eval), by simp [execOp, Instr.makeFunc],
    .fn (by simpa using mapVRL he first.toList) (by simpa using mapVRL he caps.toList)⟩

theorem step_min2 {t t' : TypeId} {x y : Operand} {k k' : IntKind} {p q : Int} (hx : opd env x = .sc (.int k p)) (hy : opd env y = .sc (.int k' q)) :
    Step P ⟨dst, .call ⟨.builtin .min, #[x, y], #[t, t']⟩, ty, pos, after, guard⟩ env hp (is (.sc (.int k (if q < p then q else p))) hp) :=
  Step.val fun F μ w a hr he => ⟨_, by simp [execOp, resolve, he.sc hx, he.sc hy, invoke, builtin, Builtin.min_, Builtin.min2], .sc rfl⟩

@[reducible] def isAny : AV → Bool
  | .any => true
  | _ => false

/-- Parts laid over zero cells. -/
def fillAV (place : Nat → Option (Nat × Nat)) (cells : List AV) : List (Nat × AV) → Option (List AV)
  | [] => some cells
  | (i, x) :: rest =>
    match place i with
    | none => none
    | some (off, size) => bif Nat.beq (cellsOf x).length size && Nat.ble (off + (cellsOf x).length) cells.length && !isAny x then fillAV place (splice cells off (cellsOf x)) rest else none

theorem VR.cells' {x : AV} {v : Value} (h : VR F μ w x v) (hx : isAny x = false) : VRL F μ w (cellsOf x) v.cells.toList := by
  cases h with
  | agg h => exact h
  | any => simp at hx
  | tup h => exact .cons (.tup h) .nil
  | sc h =>
    have : v.cells.toList = [v] := by cases v <;> first | rfl | (simp [plainV] at h)
    rw [this]
    exact .cons (.sc h) .nil
  | ptr h => exact .cons (.ptr h) .nil
  | ptrD h => exact .cons (.ptrD h) .nil
  | sl h hc hl => exact .cons (.sl h hc hl) .nil
  | slN h => exact .cons (.slN h) .nil
  | slD h => exact .cons (.slD h) .nil
  | slE h => exact .cons (.slE h) .nil
  | nil => exact .cons .nil .nil
  | im0 => exact .cons .im0 .nil
  | im h hb hF hn hn2 hy => exact .cons (.im h hb hF hn hn2 hy) .nil
  | ip h hb hF hy => exact .cons (.ip h hb hF hy) .nil
  | fn h1 h2 => exact .cons (.fn h1 h2) .nil
  | ifc h => exact .cons (.ifc h) .nil

theorem foldl_set : ∀ (vs : List Value) (off j0 : Nat) (cs : Array Value), off + j0 + vs.length ≤ cs.size →
    ((vs.zipIdx j0).foldl (fun cs (c, j) => cs.setIfInBounds (off + j) c) cs).toList = splice cs.toList (off + j0) vs
  | [], off, j0, cs, _ => by simp [splice_nil]
  | v :: vs, off, j0, cs, h => by
    simp only [List.length_cons] at h
    simp only [List.zipIdx_cons, List.foldl_cons]
    rw [foldl_set vs off (j0 + 1) _ (by simp; omega), splice_cons _ _ _ _ (by simp; omega)]
    simp [Nat.add_assoc]

theorem fill_rel {place : Nat → Option (Nat × Nat)} : ∀ {parts : List (Nat × AV)} {parts' : List (Nat × Value)} {cells out : List AV} {cs : Array Value},
    parts.map (·.1) = parts'.map (·.1) → VRL F μ w (parts.map (·.2)) (parts'.map (·.2)) → VRL F μ w cells cs.toList → fillAV place cells parts = some out →
    ∃ cs', Instr.fill place cs parts' = some cs' ∧ VRL F μ w out cs'.toList
  | [], parts', cells, out, cs, h1, h2, h3, h4 => by
    cases parts' with
    | nil => simp [fillAV] at h4; subst h4; exact ⟨cs, rfl, h3⟩
    | cons p ps => simp at h1
  | (i, x) :: rest, parts', cells, out, cs, h1, h2, h3, h4 => by
    cases parts' with
    | nil => simp at h1
    | cons p ps =>
      obtain ⟨i', v⟩ := p
      simp only [List.map_cons, List.cons.injEq] at h1
      obtain ⟨rfl, h1⟩ := h1
      cases h2 with
      | cons hv ht =>
        simp only [fillAV] at h4
        cases hp : place i with
        | none => rw [hp] at h4; simp at h4
        | some os =>
          obtain ⟨off, size⟩ := os
          rw [hp] at h4
          simp only at h4
          cases hc : (Nat.beq (cellsOf x).length size && Nat.ble (off + (cellsOf x).length) cells.length && !isAny x) with
          | false => rw [hc] at h4; simp at h4
          | true =>
            rw [hc] at h4
            simp only [cond_true] at h4
            simp only [Bool.and_eq_true, Bool.not_eq_true'] at hc
            obtain ⟨⟨hc1, hc2⟩, hc3⟩ := hc
            have hc1 := Nat.eq_of_beq_eq_true hc1
            have hc2 := Nat.le_of_ble_eq_true hc2
            have hvc := hv.cells' hc3
            have hl1 := hvc.length
            have hl2 := h3.length
            simp only [Array.length_toList] at hl1 hl2
            simp only [Instr.fill, hp]
            have g : ¬ (v.cells.size ≠ size || off + v.cells.size > cs.size) = true := by simp; omega
            rw [if_neg g]
            refine fill_rel h1 ht ?_ h4
            have := foldl_set v.cells.toList off 0 cs (by simp; omega)
            rw [← Array.foldl_toList]
            have e : (v.cells.zipIdx).toList = v.cells.toList.zipIdx := by simp
            rw [e, this]
            exact h3.splice hvc

def PlacesOf (P : Program) (t : TypeId) (pl : List (Nat × Nat)) : Prop :=
  ∃ fields, P.underlying t = some (.struct fields) ∧ fields.toList.map (fun f => (f.offset, P.cellsOf f.type)) = pl ∧ fields.all (fun f => (P.info? f.type).isSome) = true

def placesB (P : Program) (t : TypeId) : Option (List (Nat × Nat)) :=
  match P.underlying t with
  | some (.struct fields) => if fields.all (fun f => (P.info? f.type).isSome) then some (fields.toList.map fun f => (f.offset, P.cellsOf f.type)) else none
  | _ => none

theorem PlacesOf.mk {t : TypeId} {pl : List (Nat × Nat)} (h : placesB P t = some pl) : PlacesOf P t pl := by
  unfold placesB at h
  split at h
  · rename_i fields h1
    split at h
    · rename_i h2; exact ⟨fields, h1, Option.some.inj h, h2⟩
    · simp at h
  · simp at h

theorem run_sizes : ∀ (fs : List Field), (∀ f ∈ fs, (P.info? f.type).isSome = true) →
    (fs.mapM (fun f => do pure (f.offset, ← sizeOf f.type) : Field → Sem (Nat × Nat))).run P w = .ok (fs.map fun f => (f.offset, P.cellsOf f.type)) w
  | [], _ => by simp
  | f :: fs, h => by
    have h1 := h f (by simp)
    obtain ⟨i, hi⟩ := Option.isSome_iff_exists.1 h1
    have ih := run_sizes fs fun g hg => h g (by simp [hg])
    have hs : (sizeOf f.type).run P w = .ok (P.cellsOf f.type) w := by simp [sizeOf, typeInfo, hi, Program.cellsOf]
    simp only [List.mapM_cons, Sem.run_bind, hs, Result.andThen_ok, Sem.run_pure, ih, List.map_cons]

theorem step_build {t : TypeId} {z : Value} {pl : List (Nat × Nat)} {parts : Array (Nat × Operand)} {out : List AV} (hz : ZeroV P t z) (hp' : PlacesOf P t pl)
    (hf : fillAV (fun i => pl[i]?) (z.cells.toList.map litC) (parts.toList.map fun p => (p.1, opd env p.2)) = some out) :
    Step P ⟨dst, .build t parts, ty, pos, after, guard⟩ env hp (is (.agg out) hp) := by
  refine Step.val fun F μ w a hr he => ?_
  obtain ⟨fields, h1, h2, h3⟩ := hp'
  have hsz := run_sizes (P := P) (w := w) fields.toList (fun f hf' => by
    obtain ⟨i, hi, rfl⟩ := List.getElem_of_mem hf'
    have := Array.all_eq_true.1 h3 i (by simpa using hi)
    simpa using this)
  have hmap : (fields.mapM (fun f => do pure (f.offset, ← sizeOf f.type) : Field → Sem (Nat × Nat))).run P w = .ok (fields.toList.map fun f => (f.offset, P.cellsOf f.type)).toArray w := by
    rw [Array.mapM_eq_mapM_toList]
    simp only [Sem.run_map, hsz, Result.andThen_ok]
  obtain ⟨cs', hc1, hc2⟩ := fill_rel (F := F) (μ := μ) (w := w) (place := fun i => pl[i]?) (parts := parts.toList.map fun p => (p.1, opd env p.2)) (parts' := (parts.map fun (i, x) => (i, a.eval x)).toList) (cs := z.cells)
    (by simp [Function.comp_def]) (by
      have : ∀ l : List (Nat × Operand), VRL F μ w ((l.map fun p => (p.1, opd env p.2)).map (·.2)) ((l.map fun p => (p.1, a.eval p.2)).map (·.2)) := by
        intro l
        induction l with
        | nil => exact .nil
        | cons p l ih => exact .cons (he.opd p.2) ih
      simpa using this parts.toList) (litL_rel _) hf
  refine ⟨.agg cs', ?_, .agg hc2⟩
  have hpl : (fun i : Nat => (fields.toList.map fun f => (f.offset, P.cellsOf f.type)).toArray[i]?) = fun i => pl[i]? := by funext i; rw [← h2]; simp
  simp only [execOp, Instr.build, Sem.run_bind, hz w, Result.andThen_ok, run_und h1, hmap]
  rw [hpl, hc1]
  simp

end Go.SL
