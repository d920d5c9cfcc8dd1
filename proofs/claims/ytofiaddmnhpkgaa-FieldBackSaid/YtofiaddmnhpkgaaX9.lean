/-
  What is read of a field that was set: the value under the mask, and what was there elsewhere.
-/
import Derived.Test.YtofiaddmnhpkgaaX4
set_option linter.unusedVariables false
set_option maxRecDepth 100000
set_option maxHeartbeats 2000000
namespace Go.Proofs.Ytofiaddmnhpkgaa
open Go Go.SL Go.Proofs

/-- A word as a whole number. -/
def bv (b : BitVec 64) : Int := (b.toNat : Int)
theorem bv_lt (b : BitVec 64) : 0 ≤ bv b ∧ bv b < 18446744073709551616 := by unfold bv; have := b.isLt; omega
theorem wrap_bv (b : BitVec 64) : IntKind.u64.wrap (bv b) = bv b := IntWalk.u64_in _ (by have := bv_lt b; omega)
theorem of_bv (b : BitVec 64) : BitVec.ofInt 64 (bv b) = b := by unfold bv; rw [BitVec.ofInt_natCast]; simp
theorem uand_bv (x y : Int) : uand x y = bv (BitVec.ofInt 64 x &&& BitVec.ofInt 64 y) := wrap_bv _
theorem uor_bv (x y : Int) : uor x y = bv (BitVec.ofInt 64 x ||| BitVec.ofInt 64 y) := wrap_bv _
theorem uandn_bv (x y : Int) : uandn x y = bv (BitVec.ofInt 64 x &&& ~~~ BitVec.ofInt 64 y) := wrap_bv _
theorem nw_bv (r a v m : Int) : nw r a v m = bv (((BitVec.ofInt 64 r &&& BitVec.ofInt 64 a) &&& ~~~ BitVec.ofInt 64 m) ||| (BitVec.ofInt 64 v &&& BitVec.ofInt 64 m)) := by
  unfold nw; rw [uor_bv, uandn_bv, uand_bv, uand_bv, of_bv, of_bv, of_bv]
theorem and_keep (R A V M : BitVec 64) (h : V &&& A = V) : (((R &&& A) &&& ~~~ M) ||| (V &&& M)) &&& A = ((R &&& A) &&& ~~~ M) ||| (V &&& M) := by
  rw [← h]
  ext i hi
  simp only [BitVec.getElem_and, BitVec.getElem_or, BitVec.getElem_not]
  cases R[i] <;> cases A[i] <;> cases V[i] <;> cases M[i] <;> rfl
theorem ofInt_and {v a : Int} {n : Nat} (ha : a = 2 ^ n - 1) (hn : n ≤ 64) (h0 : 0 ≤ v) (h : v ≤ a) : BitVec.ofInt 64 v &&& BitVec.ofInt 64 a = BitVec.ofInt 64 v := by
  obtain ⟨x, rfl⟩ := Int.eq_ofNat_of_zero_le h0
  have hp : (2 : Int) ^ n = ((2 ^ n : Nat) : Int) := by simp
  have hpos : 0 < 2 ^ n := Nat.two_pow_pos n
  have hle : 2 ^ n ≤ 2 ^ 64 := Nat.pow_le_pow_right (by omega) hn
  have ea : a = ((2 ^ n - 1 : Nat) : Int) := by rw [ha, hp]; omega
  have hx : x ≤ 2 ^ n - 1 := by omega
  rw [ea, BitVec.ofInt_natCast, BitVec.ofInt_natCast]
  apply BitVec.eq_of_toNat_eq
  rw [BitVec.toNat_and, BitVec.toNat_ofNat, BitVec.toNat_ofNat, Nat.mod_eq_of_lt (by omega), Nat.mod_eq_of_lt (by omega), Nat.and_two_pow_sub_one_eq_mod, Nat.mod_eq_of_lt (by omega)]
theorem allI_pow : ∀ k : Nat, k ≤ 28 → allI k = 2 ^ (bN k) - 1 ∧ bN k ≤ 48 := by decide
/-- The new number has no more bits than the field. -/
theorem nw_keep {k : Nat} (hk : k ≤ 28) {r v m : Int} (h0 : 0 ≤ v) (h : v ≤ allI k) : uand (nw r (allI k) v m) (allI k) = nw r (allI k) v m := by
  rw [uand_bv, nw_bv, of_bv, and_keep]
  exact ofInt_and (allI_pow k hk).1 (by have := (allI_pow k hk).2; omega) h0 h
theorem uand_mod {k : Nat} (hk : k ≤ 28) (x : Int) : uand x (allI k) = x % 2 ^ (bN k) := by
  obtain ⟨h1, h2⟩ := allI_pow k hk
  have hp : (2 : Int) ^ bN k = ((2 ^ bN k : Nat) : Int) := by simp
  have hpos : 0 < 2 ^ bN k := Nat.two_pow_pos _
  have hle : 2 ^ bN k ≤ 2 ^ 64 := Nat.pow_le_pow_right (by omega) (by omega)
  have ea : allI k = ((2 ^ bN k - 1 : Nat) : Int) := by rw [h1, hp]; omega
  rw [uand_bv, ea, BitVec.ofInt_natCast]
  unfold bv
  rw [BitVec.toNat_and, BitVec.toNat_ofNat, Nat.mod_eq_of_lt (b := 2 ^ 64) (by omega), Nat.and_two_pow_sub_one_eq_mod, BitVec.toNat_ofInt, Int.natCast_emod, Int.toNat_of_nonneg (Int.emod_nonneg _ (by decide)), ← hp]
  have hd : (2 : Int) ^ bN k ∣ ((2 ^ 64 : Nat) : Int) := by
    have : (((2 ^ 64 : Nat)) : Int) = 2 ^ bN k * 2 ^ (64 - bN k) := by rw [← Int.pow_add, show bN k + (64 - bN k) = 64 by omega]; rfl
    rw [this]; exact Int.dvd_mul_right _ _
  exact Int.emod_emod_of_dvd _ hd
theorem wrap_mod (q : IntKind) {x : Int} {n : Nat} (hn : n ≤ q.bits) : q.wrap x % 2 ^ n = x % 2 ^ n := by
  have hd : (2 : Int) ^ n ∣ 2 ^ q.bits := by
    have : (2 : Int) ^ q.bits = 2 ^ n * 2 ^ (q.bits - n) := by rw [← Int.pow_add, show n + (q.bits - n) = q.bits by omega]
    rw [this]; exact Int.dvd_mul_right _ _
  unfold IntKind.wrap
  simp only
  split
  · rw [Int.sub_emod, Int.emod_emod_of_dvd _ hd, Int.emod_eq_zero_of_dvd hd, Int.sub_zero, Int.emod_emod_of_dvd _ (Int.dvd_refl _)]
  · exact Int.emod_emod_of_dvd _ hd
theorem raw_self (s : Stt) (x : Int) : ∀ k : Nat, k ≤ 28 → k ≠ 4 → fixd k = false → raw (putF s x k) k % 2 ^ bN k = x % 2 ^ bN k := by
  intro k hk h4 hf
  unfold putF
  split <;> first
    | rfl
    | exact absurd rfl h4
    | exact absurd hf (by decide)
    | exact (wrap_mod .u64 (by decide)).trans (wrap_mod .i64 (by decide))
    | exact (wrap_mod .u64 (by decide)).trans (wrap_mod .u32 (by decide))
    | (exfalso; rename_i h; unfold fixd at hf; split at hf <;> simp_all)
/-- What is read of a field that was set, but the tag's. -/
theorem get_self {s : Stt} {k : Nat} {r v m : Int} (hk : k ≤ 28) (h4 : k ≠ 4) (hf : fixd k = false) (h0 : 0 ≤ v) (h : v ≤ allI k) :
    uand (raw (putF s (nw r (allI k) v m) k) k) (allI k) = nw r (allI k) v m := by
  rw [uand_mod hk, raw_self s _ k hk h4 hf, ← uand_mod hk, nw_keep hk h0 h]

theorem and_bit (x n : Nat) (h : x < 2 ^ (n + 1)) : x &&& 2 ^ n = if 2 ^ n ≤ x then 2 ^ n else 0 := by
  have h1 : 2 ^ (n + 1) = 2 ^ n * 2 := Nat.pow_succ 2 n
  have hp : 0 < 2 ^ n := Nat.two_pow_pos n
  apply Nat.eq_of_testBit_eq
  intro i
  rw [Nat.testBit_and, Nat.testBit_two_pow]
  by_cases hi : n = i
  · subst hi
    have hb : x.testBit n = decide (2 ^ n ≤ x) := by
      rw [Nat.testBit_eq_decide_div_mod_eq]
      by_cases hx : 2 ^ n ≤ x
      · have : x / 2 ^ n = 1 := by apply Nat.div_eq_of_lt_le <;> omega
        rw [this]; simp [hx]
      · rw [Nat.div_eq_of_lt (by omega)]; simp [hx]
    rw [hb]
    by_cases hx : 2 ^ n ≤ x
    · simp [hx, Nat.testBit_two_pow_self]
    · simp [hx]
  · simp only [hi, decide_false, Bool.and_false]
    split
    · rw [Nat.testBit_two_pow]; simp [hi]
    · simp
theorem tag_bits {x : Int} (h0 : 0 ≤ x) (h : x < 131072) : uand x 65536 = (if 65536 ≤ x then 65536 else 0) ∧ uand x 65535 = x % 65536 := by
  obtain ⟨n, rfl⟩ := Int.eq_ofNat_of_zero_le h0
  have e1 : BitVec.ofInt 64 ((n : Nat) : Int) = BitVec.ofNat 64 n := BitVec.ofInt_natCast ..
  have hn : n < 2 ^ 17 := by omega
  constructor
  · rw [uand_bv, show (65536 : Int) = ((65536 : Nat) : Int) from rfl, BitVec.ofInt_natCast, BitVec.ofInt_natCast]
    unfold bv
    rw [BitVec.toNat_and, BitVec.toNat_ofNat, BitVec.toNat_ofNat, Nat.mod_eq_of_lt (by omega), Nat.mod_eq_of_lt (by decide), show (65536 : Nat) = 2 ^ 16 from rfl, and_bit n 16 hn]
    split <;> split <;> omega
  · rw [uand_bv, show (65535 : Int) = ((2 ^ 16 - 1 : Nat) : Int) from rfl, BitVec.ofInt_natCast, BitVec.ofInt_natCast]
    unfold bv
    rw [BitVec.toNat_and, BitVec.toNat_ofNat, BitVec.toNat_ofNat, Nat.mod_eq_of_lt (by omega), Nat.mod_eq_of_lt (by decide), Nat.and_two_pow_sub_one_eq_mod]
    omega
theorem iand_tag {x : Int} (h0 : 0 ≤ x) (h : x < 65536) : iand x 65535 = x := by
  obtain ⟨n, rfl⟩ := Int.eq_ofNat_of_zero_le h0
  unfold iand
  rw [show (65535 : Int) = ((2 ^ 16 - 1 : Nat) : Int) from rfl, BitVec.ofInt_natCast, BitVec.ofInt_natCast, BitVec.toNat_and, BitVec.toNat_ofNat, BitVec.toNat_ofNat, Nat.mod_eq_of_lt (by omega), Nat.mod_eq_of_lt (by decide), Nat.and_two_pow_sub_one_eq_mod, Nat.mod_eq_of_lt (by omega)]
  exact IntWalk.i64_in _ (by omega)
theorem uor_tag {x : Int} (h0 : 0 ≤ x) (h : x < 65536) : uor 65536 x = 65536 + x := by
  obtain ⟨n, rfl⟩ := Int.eq_ofNat_of_zero_le h0
  rw [uor_bv, show (65536 : Int) = ((65536 : Nat) : Int) from rfl, BitVec.ofInt_natCast, BitVec.ofInt_natCast]
  unfold bv
  rw [BitVec.toNat_or, BitVec.toNat_ofNat, BitVec.toNat_ofNat, Nat.mod_eq_of_lt (by decide), Nat.mod_eq_of_lt (by omega)]
  have := Nat.two_pow_add_eq_or_of_lt (i := 16) (b := n) (by omega) 1
  rw [show (2 : Nat) ^ 16 * 1 = 65536 from rfl] at this
  rw [← this]; omega
theorem nw_range {k : Nat} (hk : k ≤ 28) {r v m : Int} (h0 : 0 ≤ v) (h : v ≤ allI k) : 0 ≤ nw r (allI k) v m ∧ nw r (allI k) v m < 2 ^ bN k := by
  have e := nw_keep (r := r) (m := m) hk h0 h
  rw [uand_mod hk] at e
  have hp : (0 : Int) < 2 ^ bN k := Int.pow_pos (by decide)
  rw [← e]
  exact ⟨Int.emod_nonneg _ (by omega), Int.emod_lt_of_pos _ hp⟩
/-- What is read of the tag's field that was set. -/
theorem get_tag {s : Stt} {r v m : Int} (h0 : 0 ≤ v) (h : v ≤ allI 4) :
    uand (raw (putF s (nw r (allI 4) v m) 4) 4) (allI 4) = if nw r (allI 4) v m < 65536 then 0 else nw r (allI 4) v m := by
  obtain ⟨a1, a2⟩ := nw_range (k := 4) (r := r) (m := m) (by decide) h0 h
  generalize nw r (allI 4) v m = x at a1 a2
  have a3 : x < 131072 := a2
  obtain ⟨b1, b2⟩ := tag_bits a1 a3
  rw [uand_mod (k := 4) (by decide)]
  show (cond (uand x 65536 != 0) (uor 65536 (IntKind.u64.wrap (iand (cond (uand x 65536 != 0) (IntKind.i64.wrap (uand x 65535)) 0) 65535))) 0) % 131072 = _
  rw [b1, b2]
  by_cases hx : 65536 ≤ x
  · rw [if_pos hx, if_neg (by omega)]
    show (uor 65536 (IntKind.u64.wrap (iand (IntKind.i64.wrap (x % 65536)) 65535))) % 131072 = x
    rw [IntWalk.i64_in _ (by omega), iand_tag (by omega) (by omega), IntWalk.u64_in _ (by omega), uor_tag (by omega) (by omega)]
    omega
  · rw [if_neg hx, if_pos (by omega)]; rfl
end Go.Proofs.Ytofiaddmnhpkgaa
