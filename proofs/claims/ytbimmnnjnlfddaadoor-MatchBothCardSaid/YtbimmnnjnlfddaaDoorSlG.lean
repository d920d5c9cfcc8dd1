/-
  Operations: copy, literals of slices, make, texts from bytes and back.
-/
import Derived.Test.YtbimmnnjnlfddaaDoorSlF
import Derived.Laws.BytesString
import Derived.IntWalk
set_option linter.unusedSimpArgs false
set_option linter.unnecessarySimpa false
set_option linter.unusedVariables false
set_option linter.unusedSectionVars false
namespace Go.SL
open Go
variable [Tabs]

variable {F : Nat → Prop} {μ μ' μ'' : List Nm} {w w' w'' : World} {P : Program} {n : Nat} {env : Nat → AV} {hp : List AObj}
variable {dst : Option Nat} {ty : TypeId} {pos : String} {after : Array Edge} {guard : Option (Nat × Bool)}

theorem VRL.all_one {xs : List AV} {vs : List Value} (h : VRL F μ w xs vs) (hx : xs.all cellAV = true) (k : Nat) : ∀ v ∈ vs.take k, v.oneCell' = true :=
  fun v hv => h.oneCell hx v (List.mem_of_mem_take hv)

theorem step_copy {dT sT e : TypeId} {z : Value} {esz bs len m o off : Nat} {d s : Operand} {cells X : List AV} (ht : Und P dT (.slice e)) (hi : EI P e z esz bs)
    (hx : opd env d = .sl o off len) (ho : hp[o]? = some (AObj.row esz cells)) (hend : off + len * esz ≤ cells.length) (hs : Src P env hp esz s m X) :
    Step P ⟨dst, .call ⟨.builtin .copy, #[d, s], #[dT, sT]⟩, ty, pos, after, guard⟩ env hp (is (.sc (.int .i64 ((min m len : Nat) : Int))) (hp.set o (.row esz (splice cells off (X.take (min m len * esz)))))) := by
  refine Step.of fun F μ w a hr he => ?_
  obtain ⟨vs, hv, hgo⟩ := hs.go F μ w a hr he
  obtain ⟨hl, hf⟩ := hgo w rfl
  have hf := hf (min m len) (Nat.min_le_left _ _)
  have hvl : vs.length = m * esz := by rw [← hv.length]; exact hs.len
  have hmn : Nat.min m len = min m len := rfl
  rcases he.sl hr hx ho with ⟨b, base, tot, c, el, fr, kc, g1, g2, g3, g4, g5, g6, g7, g8, g9⟩ | ⟨g1, ad, g2, g3⟩
  · have hle : min m len * esz ≤ len * esz := Nat.mul_le_mul_right _ (Nat.min_le_right _ _)
    have hle2 : min m len * esz ≤ m * esz := Nat.mul_le_mul_right _ (Nat.min_le_left _ _)
    obtain ⟨w1, c', r1, r2, r3, r4, r5⟩ := run_storeL P (o := base + off) (vs.take (min m len * esz)) 0 w c g5 (by simp; omega) (g6 ▸ g9) (hv.all_one hs.one _)
    have hvt := hv.take (min m len * esz)
    obtain ⟨p1, p2⟩ := hr.write (off := off) ho g4 g5 hvt (by simp [hs.len]; omega) r2 r3 (by simpa using r4) r5
    refine ⟨.int .i64 (min m len : Nat), w1, μ, ?_, p1, .sc rfl, p2⟩
    have r1' : (storeCells ⟨b, base + off, none⟩ (vs.take (min m len * esz))).run P w = .ok () w1 := r1
    simp [execOp, resolve, invoke, builtin, Builtin.copy_, g1, ht w, hi.size w, hl, hmn, hf, r1', goInt]
  · subst g1
    have e0 : min m 0 = 0 := Nat.min_zero _
    rw [e0] at hf ⊢
    have hset : hp.set o (.row esz (splice cells off (X.take (0 * esz)))) = hp := by
      simp only [Nat.zero_mul, List.take_zero, splice_nil]
      apply List.ext_getElem?
      intro j
      by_cases hj : o = j
      · subst hj; rw [List.getElem?_set_self']; simp [ho]
      · rw [List.getElem?_set_ne hj]
    rw [hset]
    refine ⟨.int .i64 (0 : Nat), w, μ, ?_, hr, .sc rfl, Fr.refl _ _⟩
    have hmn0 : Nat.min m 0 = 0 := Nat.min_zero _
    cases ad with
    | none => simp [execOp, resolve, invoke, builtin, Builtin.copy_, g2, ht w, hi.size w, hl, hmn0, hf, goInt]
    | some ad => simp [execOp, resolve, invoke, builtin, Builtin.copy_, g2, ht w, hi.size w, hl, hmn0, hf, goInt, storeCells]

/-- So many elements of zero cells. -/
def zerosAV (z : Value) (len : Nat) : List AV := (List.range (len * z.cells.size)).map fun i => litC (z.cells.toList.getD (i % z.cells.size) undef)

theorem zerosAV_length (z : Value) (len : Nat) : (zerosAV z len).length = len * z.cells.size := by simp [zerosAV]

theorem zerosAV_rel (z : Value) (len k : Nat) (hk : len ≤ k) :
    VRL F μ w (zerosAV z len) (((Array.range (k * z.cells.size)).map fun i => z.cells[i % z.cells.size]!).toList.take (len * z.cells.size)) := by
  have hle : len * z.cells.size ≤ k * z.cells.size := Nat.mul_le_mul_right _ hk
  refine VRL.of_get (by rw [zerosAV_length]; simp only [List.length_take, Array.length_toList, Array.size_map, Array.size_range]; omega) fun i x v hx hv => ?_
  have hi : i < len * z.cells.size := by
    rcases Nat.lt_or_ge i (zerosAV z len).length with h | h
    · simpa [zerosAV] using h
    · simp [List.getElem?_eq_none h] at hx
  have hz : 0 < z.cells.size := by
    rcases Nat.eq_zero_or_pos z.cells.size with h | h
    · rw [h] at hi; omega
    · exact h
  have hm : i % z.cells.size < z.cells.size := Nat.mod_lt _ hz
  have e1 : x = litC (z.cells.toList.getD (i % z.cells.size) undef) := by
    simp [zerosAV, hi] at hx
    rw [← hx]
    simp
  have e2 : v = z.cells[i % z.cells.size]! := by
    rw [List.getElem?_take] at hv
    simp only [hi, if_true] at hv
    have : i < k * z.cells.size := by omega
    simp [this] at hv
    exact hv.symm
  have e3 : z.cells.toList.getD (i % z.cells.size) undef = v := by
    rw [e2]; simp [List.getD, hm, getElem!_pos]
  rw [e1, e3]
  exact litC_rel v

theorem zerosAV_one {z : Value} {len : Nat} (hz : z.cells.size = 1) : zerosAV z len = List.replicate len (litC (z.cells.toList.getD 0 undef)) := by
  apply List.ext_getElem (by simp [zerosAV, hz])
  intro i h1 h2
  simp [zerosAV, hz, Nat.mod_one]

theorem mapPartsVRL {a : Act} (he : EnvR F env μ w a.tmps) : ∀ l : List (Nat × Operand), VRL F μ w ((l.map fun p => (p.1, opd env p.2)).map (·.2)) ((l.map fun p => (p.1, a.eval p.2)).map (·.2))
  | [] => .nil
  | p :: l => .cons (he.opd p.2) (mapPartsVRL he l)

theorem step_buildSlice {t e : TypeId} {z : Value} {esz bs len : Nat} {parts : Array (Nat × Operand)} {out : List AV} (ht : Und P t (.slice e)) (hi : EI P e z esz bs) (hzs : z.cells.size = esz) (hl : len * esz ≤ 16777216)
    (hf : fillAV (fun i => some (i * esz, esz)) (zerosAV z len) (parts.toList.map fun p => (p.1, opd env p.2)) = some out) (hout : out.length = len * esz) :
    Step P ⟨dst, .buildSlice t len parts, ty, pos, after, guard⟩ env hp (is (.sl hp.length 0 len) (hp ++ [.row esz out])) := by
  subst hzs
  refine Step.of fun F μ w a hr he => ?_
  have hzr := zerosAV_rel (F := F) (μ := μ) (w := w) z len len (Nat.le_refl _)
  rw [List.take_of_length_le (by simp)] at hzr
  obtain ⟨cs', hc1, hc2⟩ := fill_rel (F := F) (μ := μ) (w := w) (parts := parts.toList.map fun p => (p.1, opd env p.2)) (parts' := (parts.map fun (i, x) => (i, a.eval x)).toList)
    (cs := (Array.range (len * z.cells.size)).map fun i => z.cells[i % z.cells.size]!)
    (by simp [Function.comp_def]) (by simpa using mapPartsVRL he parts.toList) hzr hf
  have hcl : cs'.size = len * z.cells.size := by have := hc2.length; simp at this; omega
  obtain ⟨g1, g2⟩ := hr.push (esz := z.cells.size) (c := cs') (el := e) (xs := out) (by rw [List.take_of_length_le (by simp [hout, hcl])]; exact hc2) (by omega) (NF_zero _) (w' := { w with heap := w.heap.push (.cells cs' e) }) rfl
  refine ⟨.slice (some ⟨w.heap.size, 0, none⟩) len len, _, _, ?_, g1, ?_, g2⟩
  · have hl' : ¬ (len * z.cells.size > 2 ^ 24) := by omega
    have : (Instr.buildSlice t len (parts.map fun (i, x) => (i, a.eval x))).run P w = .ok (.slice (some ⟨w.heap.size, 0, none⟩) len len) { w with heap := w.heap.push (.cells cs' e) } := by
      unfold Instr.buildSlice
      simp only [Sem.run_bind, ht w, hi.size w, Result.andThen_ok]
      rw [if_neg hl']
      rcases Nat.eq_zero_or_pos (len * z.cells.size) with h0 | h0
      · rw [if_pos h0]
        simp only [Sem.run_bind, Sem.run_pure, Result.andThen_ok]
        rw [h0]
        rw [h0] at hc1
        have e1 : (Array.map (fun x => (#[] : Array Value)[x % (#[] : Array Value).size]!) (Array.range 0)) = #[] := by simp
        have e2 : (Array.map (fun i => z.cells[i % z.cells.size]!) (Array.range 0)) = #[] := by simp
        rw [e2] at hc1
        rw [e1, hc1]
        rfl
      · rw [if_neg (by omega)]
        simp only [Sem.run_bind, Sem.run_pure, Result.andThen_ok, hi.zero w]
        rw [hc1]
        rfl
    simp [execOp, this]
  · exact .sl (base := 0) (off := 0) (idx_new hr.len.symm _) (by omega) (Nat.le_refl _)

theorem step_makeSlice {t e : TypeId} {z : Value} {esz bs len cap : Nat} {x y : Operand} {k k' : IntKind} {p q : Int} (ht : Und P t (.slice e)) (hi : EI P e z esz bs) (hzs : z.cells.size = esz) (hx : opd env x = .sc (.int k p)) (hy : opd env y = .sc (.int k' q))
    (hp' : p = (len : Int)) (hq : q = (cap : Int)) (h1 : len ≤ cap) (h2 : cap ≤ 9223372036854775807) (h3 : cap * bs ≤ 281474976710656) (hz : 0 < esz) :
    Step P ⟨dst, .makeSlice t x y, ty, pos, after, guard⟩ env hp (is (.sl hp.length 0 len) (hp ++ [.row esz (zerosAV z len)])) := by
  subst hzs
  refine Step.of fun F μ w a hr he => ?_
  obtain ⟨i, hinf, hib⟩ := hi.info
  subst hp'; subst hq
  have hzr := zerosAV_rel (F := F) (μ := μ) (w := w) z len cap h1
  have hlz := zerosAV_length z len
  have hle : len * z.cells.size ≤ cap * z.cells.size := Nat.mul_le_mul_right _ h1
  obtain ⟨g1, g2⟩ := hr.push (esz := z.cells.size) (c := (Array.range (cap * z.cells.size)).map fun i => z.cells[i % z.cells.size]!) (el := e) (xs := zerosAV z len) (by rw [hlz]; exact hzr) (by rw [hlz]; simp; exact hle) (NF_zero _)
    (w' := { w with heap := w.heap.push (.cells ((Array.range (cap * z.cells.size)).map fun i => z.cells[i % z.cells.size]!) e) }) rfl
  refine ⟨.slice (some ⟨w.heap.size, 0, none⟩) len cap, _, _, ?_, g1, ?_, g2⟩
  · have w1 : IntKind.i64.wrap (len : Int) = len := by exact IntWalk.i64_in _ (by omega)
    have w2 : IntKind.i64.wrap (cap : Int) = cap := by exact IntWalk.i64_in _ (by omega)
    have e1 : ¬ ((i.bytes : Int) * (cap : Int) > 2 ^ 48) := by
      have h4 : bs * cap ≤ 281474976710656 := by rw [Nat.mul_comm]; exact h3
      have h5 : ((bs : Int) * (cap : Int)) = ((bs * cap : Nat) : Int) := (Int.natCast_mul bs cap).symm
      rw [hib, h5]
      generalize bs * cap = q at h4
      omega
    have e2 : ¬ ((cap : Int) < 0) := by omega
    have e3 : ¬ ((len : Int) < 0) := by omega
    have e4 : ¬ ((len : Int) > cap) := by omega
    have : (Instr.makeSlice t (.int k len) (.int k' cap)).run P w = .ok (.slice (some ⟨w.heap.size, 0, none⟩) len cap) { w with heap := w.heap.push (.cells ((Array.range (cap * z.cells.size)).map fun i => z.cells[i % z.cells.size]!) e) } := by
      unfold Instr.makeSlice
      simp only [Sem.run_bind, ht w, asInt, asIntOf, Sem.run_pure, Result.andThen_ok, hinf w, w1, w2]
      have ec : (decide ((cap : Int) < 0) || decide ((i.bytes : Int) * (cap : Int) > 2 ^ 48)) = false := by rw [decide_eq_false e1, decide_eq_false e2]; rfl
      have eg : ¬ ((decide ((cap : Int) < 0) || decide ((i.bytes : Int) * (cap : Int) > 2 ^ 48) || decide ((len : Int) < 0) || decide ((len : Int) > cap)) = true) := by
        rw [ec, decide_eq_false e3, decide_eq_false e4]; simp
      rw [if_neg eg]
      simp only [Sem.run_bind, run_askRoom, Result.andThen_ok, hi.size w, Int.toNat_natCast, Sem.run_pure]
      rcases Nat.eq_zero_or_pos (cap * z.cells.size) with h0 | h0
      · rw [if_pos h0]
        simp only [Sem.run_bind, Sem.run_pure, Result.andThen_ok]
        rw [h0]
        have e1 : (Array.map (fun x => (#[] : Array Value)[x % (#[] : Array Value).size]!) (Array.range 0)) = #[] := by simp
        have e2 : (Array.map (fun i => z.cells[i % z.cells.size]!) (Array.range 0)) = #[] := by simp
        rw [e2, e1]
        rfl
      · rw [if_neg (by omega)]
        simp only [Sem.run_bind, hi.zero w, Sem.run_pure, Result.andThen_ok]
        rfl
    simp [execOp, he.sc hx, he.sc hy, this]
  · exact .sl (base := 0) (off := 0) (idx_new hr.len.symm _) (by simp) h1

end Go.SL
