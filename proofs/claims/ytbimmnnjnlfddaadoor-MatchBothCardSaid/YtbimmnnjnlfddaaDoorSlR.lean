/-
  Numbers that are casts of naturals, and states that know less.
-/
import Derived.Test.YtbimmnnjnlfddaaDoorSlQ
set_option linter.unusedSimpArgs false
set_option linter.unnecessarySimpa false
set_option linter.unusedVariables false
set_option linter.unusedSectionVars false
namespace Go.SL
open Go
variable [Tabs]

variable {F F' : Nat → Prop} {μ μ' μ'' : List Nm} {w w' w'' : World} {P : Program} {n : Nat} {env : Nat → AV} {hp hp0 : List AObj}
variable {dst : Option Nat} {ty : TypeId} {pos : String} {after : Array Edge} {guard : Option (Nat × Bool)}

/-- How many naturals a kind holds. -/
@[reducible] def cap : IntKind → Nat
  | .i8 => 128 | .i16 => 32768 | .i32 => 2147483648 | .i64 => 9223372036854775808
  | .u8 => 256 | .u16 => 65536 | .u32 => 4294967296 | .u64 => 18446744073709551616

theorem wrap_nat {k : IntKind} {x : Nat} (h : x < cap k) : k.wrap (x : Int) = x := by
  cases k <;> simp only [cap] at h <;> simp [IntKind.wrap, IntKind.bits, IntKind.signed] <;> omega

theorem int2_addN {k : IntKind} {x y : Nat} (h : x + y < cap k) : int2 .add k x y = some (.int k ((x + y : Nat) : Int)) := by
  rw [← wrap_nat h]; simp [int2]
theorem int2_subN {k : IntKind} {x y : Nat} (hy : y ≤ x) (h : x < cap k) : int2 .sub k x y = some (.int k ((x - y : Nat) : Int)) := by
  rw [← wrap_nat (k := k) (x := x - y) (by omega)]
  have : ((x - y : Nat) : Int) = (x : Int) - y := by omega
  rw [this]; simp only [int2]
theorem int2_mulN {k : IntKind} {x y : Nat} (h : x * y < cap k) : int2 .mul k x y = some (.int k ((x * y : Nat) : Int)) := by
  rw [← wrap_nat h]; simp [int2]

theorem cap_bits (k : IntKind) : cap k ≤ 2 ^ k.bits := by cases k <;> decide

theorem ofInt_nat {b x : Nat} (h : x < 2 ^ b) : (BitVec.ofInt b (x : Int)).toNat = x := by
  rw [BitVec.toNat_ofInt]
  have h1 : ((x : Int) % ((2 ^ b : Nat) : Int)) = (x : Int) := by
    rw [Int.emod_eq_of_lt]
    · exact Int.natCast_nonneg x
    · exact_mod_cast h
  rw [h1]; rfl

theorem int2_andN {k : IntKind} {x y : Nat} (hx : x < cap k) (hy : y < cap k) : int2 .and k x y = some (.int k ((x &&& y : Nat) : Int)) := by
  have h1 := Nat.lt_of_lt_of_le hx (cap_bits k)
  have h2 := Nat.lt_of_lt_of_le hy (cap_bits k)
  have h3 : x &&& y < cap k := Nat.lt_of_le_of_lt Nat.and_le_left hx
  simp only [int2, BitVec.toNat_and, ofInt_nat h1, ofInt_nat h2, wrap_nat h3]

theorem pow_cap (k : IntKind) : ∃ m, cap k = 2 ^ m := by cases k <;> first | exact ⟨7, rfl⟩ | exact ⟨15, rfl⟩ | exact ⟨31, rfl⟩ | exact ⟨63, rfl⟩ | exact ⟨8, rfl⟩ | exact ⟨16, rfl⟩ | exact ⟨32, rfl⟩ | exact ⟨64, rfl⟩

theorem int2_orN {k : IntKind} {x y : Nat} (hx : x < cap k) (hy : y < cap k) : int2 .or k x y = some (.int k ((x ||| y : Nat) : Int)) := by
  have h1 := Nat.lt_of_lt_of_le hx (cap_bits k)
  have h2 := Nat.lt_of_lt_of_le hy (cap_bits k)
  have h3 : x ||| y < cap k := by obtain ⟨m, hm⟩ := pow_cap k; rw [hm] at hx hy ⊢; exact Nat.or_lt_two_pow hx hy
  simp only [int2, BitVec.toNat_or, ofInt_nat h1, ofInt_nat h2, wrap_nat h3]

theorem int2_xorN {k : IntKind} {x y : Nat} (hx : x < cap k) (hy : y < cap k) : int2 .xor k x y = some (.int k ((x ^^^ y : Nat) : Int)) := by
  have h1 := Nat.lt_of_lt_of_le hx (cap_bits k)
  have h2 := Nat.lt_of_lt_of_le hy (cap_bits k)
  have h3 : x ^^^ y < cap k := by obtain ⟨m, hm⟩ := pow_cap k; rw [hm] at hx hy ⊢; exact Nat.xor_lt_two_pow hx hy
  simp only [int2, BitVec.toNat_xor, ofInt_nat h1, ofInt_nat h2, wrap_nat h3]

theorem step_quoN {t t' : TypeId} {x y : Operand} {k : IntKind} {p q : Nat} (hx : opd env x = .sc (.int k p)) (hy : opd env y = .sc (.int k q)) (hq : 0 < q) (hp' : p < cap k) :
    Step P ⟨dst, .binOp .quo t x y t', ty, pos, after, guard⟩ env hp (is (.sc (.int k ((p / q : Nat) : Int))) hp) := by
  have h1 : ((p : Int).tdiv (q : Int)) = ((p / q : Nat) : Int) := rfl
  have h2 : p / q < cap k := Nat.lt_of_le_of_lt (Nat.div_le_self p q) hp'
  have := step_quo (P := P) (hp := hp) (dst := dst) (ty := ty) (pos := pos) (after := after) (guard := guard) (t := t) (t' := t') hx hy (by omega)
  rwa [h1, wrap_nat h2] at this

theorem step_remN {t t' : TypeId} {x y : Operand} {k : IntKind} {p q : Nat} (hx : opd env x = .sc (.int k p)) (hy : opd env y = .sc (.int k q)) (hq : 0 < q) :
    Step P ⟨dst, .binOp .rem t x y t', ty, pos, after, guard⟩ env hp (is (.sc (.int k ((p % q : Nat) : Int))) hp) :=
  step_rem (t := t) (t' := t') hx hy (by omega)

theorem step_shlN {t t' : TypeId} {x y : Operand} {k k' : IntKind} {p s : Nat} (hx : opd env x = .sc (.int k p)) (hy : opd env y = .sc (.int k' s)) (hs : s ≤ k.bits) (hp' : p * 2 ^ s < cap k) :
    Step P ⟨dst, .binOp .shl t x y t', ty, pos, after, guard⟩ env hp (is (.sc (.int k ((p * 2 ^ s : Nat) : Int))) hp) := by
  have := step_shl (P := P) (hp := hp) (dst := dst) (ty := ty) (pos := pos) (after := after) (guard := guard) (t := t) (t' := t') hx hy (by omega)
  have h1 : (p : Int) * 2 ^ min ((s : Int)).toNat k.bits = ((p * 2 ^ s : Nat) : Int) := by
    rw [Int.toNat_natCast, Nat.min_eq_left hs]; simp
  rwa [h1, wrap_nat hp'] at this

theorem step_shlM {t t' : TypeId} {x y : Operand} {k k' : IntKind} {p s : Nat} {z : Int} (hx : opd env x = .sc (.int k p)) (hy : opd env y = .sc (.int k' s)) (hs : s ≤ k.bits) (hz : k.wrap ((p * 2 ^ s : Nat) : Int) = z) :
    Step P ⟨dst, .binOp .shl t x y t', ty, pos, after, guard⟩ env hp (is (.sc (.int k z)) hp) := by
  subst hz
  have := step_shl (P := P) (hp := hp) (dst := dst) (ty := ty) (pos := pos) (after := after) (guard := guard) (t := t) (t' := t') hx hy (by omega)
  have h1 : (p : Int) * 2 ^ min ((s : Int)).toNat k.bits = ((p * 2 ^ s : Nat) : Int) := by
    rw [Int.toNat_natCast, Nat.min_eq_left hs]; simp
  rwa [h1] at this
theorem int2_addM {k : IntKind} {x y : Nat} {z : Int} (h : k.wrap ((x + y : Nat) : Int) = z) : int2 .add k x y = some (.int k z) := by subst h; simp [int2]
theorem int2_mulM {k : IntKind} {x y : Nat} {z : Int} (h : k.wrap ((x * y : Nat) : Int) = z) : int2 .mul k x y = some (.int k z) := by subst h; simp [int2]

@[reducible] def uns : IntKind → Bool
  | .u8 | .u16 | .u32 | .u64 => true
  | _ => false

theorem xor_ones {m x : Nat} (h : x < 2 ^ m) : (2 ^ m - 1) ^^^ x = 2 ^ m - 1 - x := by
  apply Nat.eq_of_testBit_eq
  intro i
  have e : 2 ^ m - 1 - x = 2 ^ m - (x + 1) := by omega
  rw [e, Nat.testBit_xor, Nat.testBit_two_pow_sub_succ h, Nat.testBit_two_pow_sub_one]
  by_cases hi : i < m
  · simp [hi]
  · have : x.testBit i = false := Nat.testBit_lt_two_pow (Nat.lt_of_lt_of_le h (Nat.pow_le_pow_right (by decide) (by omega)))
    simp [hi, this]

theorem step_notN {t : TypeId} {x : Operand} {k : IntKind} {m : Nat} (hx : opd env x = .sc (.int k m)) (hm : m < cap k) (hu : uns k = true) :
    Step P ⟨dst, .unOp .xor t x, ty, pos, after, guard⟩ env hp (is (.sc (.int k ((cap k - 1 - m : Nat) : Int))) hp) := by
  have := step_xor1 (P := P) (hp := hp) (dst := dst) (ty := ty) (pos := pos) (after := after) (guard := guard) (t := t) hx
  have h1 := Nat.lt_of_lt_of_le hm (cap_bits k)
  have h2 : k.wrap (BitVec.ofInt k.bits (if k.signed then -1 else k.max) ^^^ BitVec.ofInt k.bits m).toNat = ((cap k - 1 - m : Nat) : Int) := by
    have h3 : cap k = 2 ^ k.bits := by cases k <;> first | rfl | simp [uns] at hu
    have h4 : (if k.signed then -1 else k.max) = ((2 ^ k.bits - 1 : Nat) : Int) := by cases k <;> first | rfl | simp [uns] at hu
    rw [BitVec.toNat_xor, h4, ofInt_nat h1, ofInt_nat (by have := Nat.two_pow_pos k.bits; omega), xor_ones h1, ← h3]
    exact wrap_nat (by omega)
  rwa [h2] at this

theorem step_not8 {t : TypeId} {x : Operand} {m : Nat} (hx : opd env x = .sc (.int .u8 m)) (hm : m ≤ 255) :
    Step P ⟨dst, .unOp .xor t x, ty, pos, after, guard⟩ env hp (is (.sc (.int .u8 ((255 - m : Nat) : Int))) hp) := step_notN (k := .u8) hx (by simp only [cap]; omega) rfl
theorem step_not16 {t : TypeId} {x : Operand} {m : Nat} (hx : opd env x = .sc (.int .u16 m)) (hm : m ≤ 65535) :
    Step P ⟨dst, .unOp .xor t x, ty, pos, after, guard⟩ env hp (is (.sc (.int .u16 ((65535 - m : Nat) : Int))) hp) := step_notN (k := .u16) hx (by simp only [cap]; omega) rfl
theorem step_not32 {t : TypeId} {x : Operand} {m : Nat} (hx : opd env x = .sc (.int .u32 m)) (hm : m ≤ 4294967295) :
    Step P ⟨dst, .unOp .xor t x, ty, pos, after, guard⟩ env hp (is (.sc (.int .u32 ((4294967295 - m : Nat) : Int))) hp) := step_notN (k := .u32) hx (by simp only [cap]; omega) rfl
theorem step_not64 {t : TypeId} {x : Operand} {m : Nat} (hx : opd env x = .sc (.int .u64 m)) (hm : m ≤ 18446744073709551615) :
    Step P ⟨dst, .unOp .xor t x, ty, pos, after, guard⟩ env hp (is (.sc (.int .u64 ((18446744073709551615 - m : Nat) : Int))) hp) := step_notN (k := .u64) hx (by simp only [cap]; omega) rfl

theorem step_shrN {t t' : TypeId} {x y : Operand} {k k' : IntKind} {p s : Nat} (hx : opd env x = .sc (.int k p)) (hy : opd env y = .sc (.int k' s)) (hp' : p < cap k) :
    Step P ⟨dst, .binOp .shr t x y t', ty, pos, after, guard⟩ env hp (is (.sc (.int k ((p / 2 ^ s : Nat) : Int))) hp) := by
  have := step_shr (P := P) (hp := hp) (dst := dst) (ty := ty) (pos := pos) (after := after) (guard := guard) (t := t) (t' := t') hx hy (by omega)
  have h1 : (p : Int).fdiv (2 ^ min ((s : Int)).toNat k.bits) = ((p / 2 ^ s : Nat) : Int) := by
    rw [Int.toNat_natCast]
    have h2 : ((2 : Int) ^ min s k.bits) = ((2 ^ min s k.bits : Nat) : Int) := by simp
    rw [h2]
    have h3 : ∀ a b : Nat, (a : Int).fdiv (b : Int) = ((a / b : Nat) : Int) := fun a b => by rw [Int.fdiv_eq_ediv_of_nonneg _ (by omega)]; rfl
    rw [h3]
    rcases Nat.le_total s k.bits with h | h
    · rw [Nat.min_eq_left h]
    · rw [Nat.min_eq_right h]
      have h4 := Nat.lt_of_lt_of_le hp' (cap_bits k)
      rw [Nat.div_eq_of_lt h4, Nat.div_eq_of_lt (Nat.lt_of_lt_of_le h4 (Nat.pow_le_pow_right (by decide) h))]
  rwa [h1] at this

theorem convN {k : IntKind} {x : Nat} (h : x < cap k) : k.wrap (x : Int) = x := wrap_nat h

theorem modN8 (x : Nat) : IntKind.u8.wrap (x : Int) = ((x % 256 : Nat) : Int) := by simp [IntKind.wrap, IntKind.bits, IntKind.signed]
theorem modN16 (x : Nat) : IntKind.u16.wrap (x : Int) = ((x % 65536 : Nat) : Int) := by simp [IntKind.wrap, IntKind.bits, IntKind.signed]
theorem modN32 (x : Nat) : IntKind.u32.wrap (x : Int) = ((x % 4294967296 : Nat) : Int) := by simp [IntKind.wrap, IntKind.bits, IntKind.signed]
theorem modN64 (x : Nat) : IntKind.u64.wrap (x : Int) = ((x % 18446744073709551616 : Nat) : Int) := by simp [IntKind.wrap, IntKind.bits, IntKind.signed]

theorem u8_nat {x : Nat} (h : x < 256) : (x : Int) = ((UInt8.ofNat x).toNat : Int) := by
  rw [UInt8.toNat_ofNat']
  omega
theorem u8_mod (x : Nat) : ((x % 256 : Nat) : Int) = ((UInt8.ofNat x).toNat : Int) := by
  rw [UInt8.toNat_ofNat']

theorem step_fieldR {s f k m : Nat} {x : Operand} {o off esz : Nat} {cells : List AV} (hf : FieldOff P s f k) (hx : opd env x = .ptr o off) (ho : hp[o]? = some (AObj.row esz cells)) (hm : off + k = m) :
    Step P ⟨dst, .fieldAddr s x f, ty, pos, after, guard⟩ env hp (is (.ptr o m) hp) := by subst hm; exact step_field hf hx ho
theorem step_fieldRI {s f k m : Nat} {x : Operand} {i : Nat} {cells : List AV} (hf : FieldOff P s f k) (hx : opd env x = .ip cells i) (hm : i + k = m) :
    Step P ⟨dst, .fieldAddr s x f, ty, pos, after, guard⟩ env hp (is (.ip cells m) hp) := by subst hm; exact step_fieldI hf hx

section
variable {t t' : TypeId} {x y : Operand} {k : IntKind} {p q : Nat}
theorem step_addN (hx : opd env x = .sc (.int k p)) (hy : opd env y = .sc (.int k q)) (h : p + q < cap k) :
    Step P ⟨dst, .binOp .add t x y t', ty, pos, after, guard⟩ env hp (is (.sc (.int k ((p + q : Nat) : Int))) hp) := step_int2 hx hy (int2_addN h)
theorem step_subN (hx : opd env x = .sc (.int k p)) (hy : opd env y = .sc (.int k q)) (h1 : q ≤ p) (h : p < cap k) :
    Step P ⟨dst, .binOp .sub t x y t', ty, pos, after, guard⟩ env hp (is (.sc (.int k ((p - q : Nat) : Int))) hp) := step_int2 hx hy (int2_subN h1 h)
theorem step_mulN (hx : opd env x = .sc (.int k p)) (hy : opd env y = .sc (.int k q)) (h : p * q < cap k) :
    Step P ⟨dst, .binOp .mul t x y t', ty, pos, after, guard⟩ env hp (is (.sc (.int k ((p * q : Nat) : Int))) hp) := step_int2 hx hy (int2_mulN h)
theorem step_andN (hx : opd env x = .sc (.int k p)) (hy : opd env y = .sc (.int k q)) (h1 : p < cap k) (h2 : q < cap k) :
    Step P ⟨dst, .binOp .and t x y t', ty, pos, after, guard⟩ env hp (is (.sc (.int k ((p &&& q : Nat) : Int))) hp) := step_int2 hx hy (int2_andN h1 h2)
theorem step_orN (hx : opd env x = .sc (.int k p)) (hy : opd env y = .sc (.int k q)) (h1 : p < cap k) (h2 : q < cap k) :
    Step P ⟨dst, .binOp .or t x y t', ty, pos, after, guard⟩ env hp (is (.sc (.int k ((p ||| q : Nat) : Int))) hp) := step_int2 hx hy (int2_orN h1 h2)
theorem step_xorN (hx : opd env x = .sc (.int k p)) (hy : opd env y = .sc (.int k q)) (h1 : p < cap k) (h2 : q < cap k) :
    Step P ⟨dst, .binOp .xor t x y t', ty, pos, after, guard⟩ env hp (is (.sc (.int k ((p ^^^ q : Nat) : Int))) hp) := step_int2 hx hy (int2_xorN h1 h2)
theorem step_addM {z : Int} (hx : opd env x = .sc (.int k p)) (hy : opd env y = .sc (.int k q)) (h : k.wrap ((p + q : Nat) : Int) = z) :
    Step P ⟨dst, .binOp .add t x y t', ty, pos, after, guard⟩ env hp (is (.sc (.int k z)) hp) := step_int2 hx hy (int2_addM h)
theorem step_mulM {z : Int} (hx : opd env x = .sc (.int k p)) (hy : opd env y = .sc (.int k q)) (h : k.wrap ((p * q : Nat) : Int) = z) :
    Step P ⟨dst, .binOp .mul t x y t', ty, pos, after, guard⟩ env hp (is (.sc (.int k z)) hp) := step_int2 hx hy (int2_mulM h)
end

theorem EI.mk {e : TypeId} {z : Value} {esz bs : Nat} (h : (P.info? e).map (fun i => (i.zero, i.size, i.bytes)) = some (some z, esz, bs)) : EI P e z esz bs := h

/-- Bytes made anew. -/
theorem step_makeB {t e : TypeId} {len : Nat} {x y : Operand} {k k' : IntKind} {p q : Int} (ht : Und P t (.slice e)) (hi : EI P e (.int .u8 0) 1 1) (hx : opd env x = .sc (.int k p)) (hy : opd env y = .sc (.int k' q))
    (hp' : p = (len : Int)) (hq : q = (len : Int)) (h3 : len ≤ 281474976710656) :
    Step P ⟨dst, .makeSlice t x y, ty, pos, after, guard⟩ env hp (is (.sl hp.length 0 len) (hp ++ [.row 1 ((List.replicate len (0 : UInt8)).map byteAV)])) := by
  have := step_makeSlice (P := P) (hp := hp) (dst := dst) (ty := ty) (pos := pos) (after := after) (guard := guard) (len := len) (cap := len) ht hi rfl hx hy hp' hq (Nat.le_refl _) (by omega) (by omega) (by decide)
  have e : zerosAV (.int .u8 0) len = (List.replicate len (0 : UInt8)).map byteAV := by
    have h1 : ∀ l : List Nat, (l.map fun i => litC ((Value.int IntKind.u8 0).cells.toList.getD (i % (Value.int IntKind.u8 0).cells.size) undef)) = (List.replicate l.length (0 : UInt8)).map byteAV := by
      intro l
      induction l with
      | nil => rfl
      | cons i l ih =>
        rw [List.map_cons, ih, List.length_cons, List.replicate_succ, List.map_cons]
        have : (Value.int IntKind.u8 0).cells.size = 1 := rfl
        rw [this, Nat.mod_one]
        rfl
    have h2 : (Value.int IntKind.u8 0).cells.size = 1 := rfl
    unfold zerosAV
    rw [h1, h2, Nat.mul_one, List.length_range]
  rwa [e] at this

/-- What reads as x reads as y. -/
def Wk (x y : AV) : Prop := ∀ (F : Nat → Prop) (μ : List Nm) (w : World) (v : Value), VR F μ w x v → VR F μ w y v

theorem Wk.none {e : Nat} : Wk .nil (.im e []) := fun F μ w v h => by cases h; exact .im0
theorem Wk.noneB : Wk .nil (.im 1 (([] : List UInt8).map byteAV)) := Wk.none
theorem Wk.any {x : AV} : Wk x .any := fun F μ w v h => .any

theorem SR.weak {σ : SS} {a : Act} {d : Nat} {y : AV} (hw : Wk (σ.env d) y) (hs : SR F n σ μ a w) : SR F n ⟨upd σ.env d y, σ.hp⟩ μ a w := by
  refine ⟨hs.hr, fun i => ?_, hs.size, hs.defers⟩
  by_cases hi : i = d
  · subst hi
    simp only [upd, Nat.beq_refl, cond_true]
    exact hw _ _ _ _ (hs.env i)
  · simp only [upd, nbeq hi, cond_false]
    exact hs.env i

theorem W.weak {c : Code} {K : Exit → SS → Prop} {σ : SS} (d : Nat) (y : AV) (hw : Wk (σ.env d) y) (h : W P n c K ⟨upd σ.env d y, σ.hp⟩) : W P n c K σ :=
  fun F μ a w hs => h F μ a w (hs.weak hw)
theorem WO.weak {ops : Array Oper} {l : List Nat} {K : Exit → SS → Prop} {σ : SS} (d : Nat) (y : AV) (hw : Wk (σ.env d) y) (h : WO P n ops l K ⟨upd σ.env d y, σ.hp⟩) : WO P n ops l K σ :=
  fun F μ a w hs => h F μ a w (hs.weak hw)

end Go.SL
