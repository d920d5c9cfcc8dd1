/-
  The plain law of NormRanges: blocks of numbers from one to another.
-/
import Derived.Test.YthppdlmildfnnaaGreatDoorTZN1
set_option linter.unusedVariables false
set_option linter.unusedSimpArgs false
set_option maxRecDepth 100000
namespace Go.Proofs.YthppdlmildfnnaaGreatDoor
open Go Go.SL Go.Proofs
/-- The greatest power that a block at a number may have. -/
def capZ (w a : Nat) : Nat := min (Lib.ctz 64 (a ||| 9223372036854775808)) (w - 1)
/-- The greatest power up to one whose block fits. -/
def lowF (d : Nat) : Nat → Nat
  | 0 => 0
  | l + 1 => if d < 2 ^ (l + 1) - 1 then lowF d l else l + 1
def lowG (w a d : Nat) : Nat := lowF d (capZ w a)
theorem lowF_le (d : Nat) : ∀ m, lowF d m ≤ m
  | 0 => Nat.le_refl _
  | m + 1 => by
    unfold lowF
    split
    · have := lowF_le d m; omega
    · exact Nat.le_refl _
theorem lowF_fits (d : Nat) : ∀ m, 2 ^ lowF d m - 1 ≤ d
  | 0 => by simp [lowF]
  | m + 1 => by
    unfold lowF
    split
    · exact lowF_fits d m
    · omega
theorem two_le {a b : Nat} (h : a ≤ b) : 2 ^ a ≤ 2 ^ b := Nat.pow_le_pow_right (by decide) h
theorem two_pos (a : Nat) : 1 ≤ 2 ^ a := Nat.one_le_two_pow
theorem lowF_is {d j : Nat} : ∀ {m : Nat}, j ≤ m → 2 ^ j - 1 ≤ d → (j = m ∨ d < 2 ^ (j + 1) - 1) → lowF d m = j
  | 0, h, _, _ => by simp only [lowF]; omega
  | m + 1, h, h1, h2 => by
    unfold lowF
    by_cases e : j = m + 1
    · subst e
      rw [if_neg (by omega)]
    · have h3 : d < 2 ^ (j + 1) - 1 := h2.resolve_left e
      have h4 := two_le (show j + 1 ≤ m + 1 by omega)
      rw [if_pos (by omega)]
      exact lowF_is (by omega) h1 (.inr h3)
theorem lowF_max (d : Nat) : ∀ m, lowF d m = m ∨ d < 2 ^ (lowF d m + 1) - 1
  | 0 => .inl rfl
  | m + 1 => by
    unfold lowF
    split
    · rename_i h
      rcases lowF_max d m with e | e
      · exact .inr (by rw [e]; exact h)
      · exact .inr e
    · exact .inl rfl
theorem or_top {a : Nat} (h : a < 9223372036854775808) : a ||| 9223372036854775808 = a + 9223372036854775808 := by
  have := Nat.two_pow_add_eq_or_of_lt (i := 63) (b := a) (by simpa using h) 1
  rw [Nat.or_comm] at this
  simp only [Nat.mul_one] at this
  have e : (2 : Nat) ^ 63 = 9223372036854775808 := by decide
  rw [e] at this
  rw [← this]; omega
theorem capZ_le (w a : Nat) : capZ w a ≤ w - 1 := Nat.min_le_right _ _
theorem ctz_top {a : Nat} (h : a < 9223372036854775808) : ∃ m, a + 9223372036854775808 = 2 ^ Lib.ctz 64 (a ||| 9223372036854775808) * (2 * m + 1) ∧ Lib.ctz 64 (a ||| 9223372036854775808) < 64 := by
  have h0 : a ||| 9223372036854775808 ≠ 0 := by rw [or_top h]; omega
  have e : Lib.ctz 64 (a ||| 9223372036854775808) = Lib.ctzFrom 64 (a ||| 9223372036854775808) := by simp [Lib.ctz, h0]
  rw [e]
  obtain ⟨m, h1, h2⟩ := Lib.ctzFrom_spec 64 (a ||| 9223372036854775808) (by rw [or_top h]; omega) (by rw [or_top h]; omega)
  exact ⟨m, by rw [← or_top h]; exact h1, h2⟩
theorem capZ_dvd {w a : Nat} (h : a < 9223372036854775808) : 2 ^ capZ w a ∣ a := by
  obtain ⟨m, h1, h2⟩ := ctz_top h
  have d1 : 2 ^ capZ w a ∣ a + 9223372036854775808 := by
    rw [h1]
    exact Nat.dvd_trans (Nat.pow_dvd_pow 2 (Nat.min_le_left _ _)) (Nat.dvd_mul_right _ _)
  have d2 : 2 ^ capZ w a ∣ 9223372036854775808 := by
    have : 2 ^ capZ w a ∣ 2 ^ 63 := Nat.pow_dvd_pow 2 (by have : capZ w a ≤ Lib.ctz 64 (a ||| 9223372036854775808) := Nat.min_le_left _ _; omega)
    simpa using this
  exact (Nat.dvd_add_iff_left d2).2 d1
theorem capZ_max {w a : Nat} (h : a < 9223372036854775808) (hw : w ≤ 48) {j : Nat} (hj : j ≤ w - 1) (hd : 2 ^ j ∣ a) : j ≤ capZ w a := by
  unfold capZ
  refine Nat.le_min.2 ⟨?_, hj⟩
  obtain ⟨m, h1, h2⟩ := ctz_top h
  rcases Nat.lt_or_ge (Lib.ctz 64 (a ||| 9223372036854775808)) j with g | g
  · exfalso
    have d2 : 2 ^ j ∣ 9223372036854775808 := by
      have : 2 ^ j ∣ 2 ^ 63 := Nat.pow_dvd_pow 2 (by omega)
      simpa using this
    have d1 : 2 ^ j ∣ a + 9223372036854775808 := Nat.dvd_add hd d2
    rw [h1] at d1
    generalize Lib.ctz 64 (a ||| 9223372036854775808) = t at g d1
    obtain ⟨k, rfl⟩ : ∃ k, j = t + (k + 1) := ⟨j - t - 1, by omega⟩
    rw [Nat.pow_add] at d1
    have d3 : 2 ^ (k + 1) ∣ 2 * m + 1 := Nat.dvd_of_mul_dvd_mul_left (two_pos t) d1
    have d4 : 2 ∣ 2 * m + 1 := Nat.dvd_trans (by rw [Nat.pow_succ]; exact Nat.dvd_mul_left _ _) d3
    omega
  · exact g
theorem lowG_dvd {w a d : Nat} (h : a < 9223372036854775808) : 2 ^ lowG w a d ∣ a := Nat.dvd_trans (Nat.pow_dvd_pow 2 (lowF_le d _)) (capZ_dvd h)
theorem lowG_fits (w a d : Nat) : 2 ^ lowG w a d - 1 ≤ d := lowF_fits d _
theorem lowG_le (w a d : Nat) : lowG w a d ≤ w - 1 := Nat.le_trans (lowF_le d _) (capZ_le w a)
/-- What a search upwards stops at. -/
theorem lowG_is {w a d j : Nat} (h : a < 9223372036854775808) (hw : w ≤ 48) (h1 : j ≤ w - 1) (h2 : 2 ^ j ∣ a) (h3 : 2 ^ j - 1 ≤ d) (h4 : w - 1 ≤ j ∨ ¬ 2 ^ (j + 1) ∣ a ∨ d < 2 ^ (j + 1) - 1) : lowG w a d = j := by
  have hm := capZ_max h hw h1 h2
  refine lowF_is hm h3 ?_
  rcases h4 with g | g | g
  · exact .inl (by have := capZ_le w a; omega)
  · left
    rcases Nat.lt_or_ge j (capZ w a) with k | k
    · exact absurd (Nat.dvd_trans (Nat.pow_dvd_pow 2 (show j + 1 ≤ capZ w a by omega)) (capZ_dvd h)) g
    · omega
  · exact .inr g
/-- The blocks from one number to another. -/
def blkF (w t : Nat) : Nat → Nat → List (Nat × Nat)
  | 0, _ => []
  | n + 1, a => (a, lowG w a (t - a)) :: if t - a = 2 ^ lowG w a (t - a) - 1 then [] else blkF w t n (a + 2 ^ lowG w a (t - a))
def blks (w t a : Nat) : List (Nat × Nat) := blkF w t (t - a + 1) a
theorem blkF_fuel (w t : Nat) : ∀ (n n' a : Nat), a ≤ t → t - a < n → t - a < n' → blkF w t n a = blkF w t n' a
  | 0, _, _, _, h, _ => by omega
  | _, 0, _, _, _, h => by omega
  | n + 1, n' + 1, a, ha, h1, h2 => by
    simp only [blkF]
    congr 1
    split
    · rfl
    · rename_i hne
      have hf := lowG_fits w a (t - a)
      have hp := two_pos (lowG w a (t - a))
      exact blkF_fuel w t n n' _ (by omega) (by omega) (by omega)
theorem blks_step {w t a : Nat} (ha : a ≤ t) : blks w t a = (a, lowG w a (t - a)) :: if t - a = 2 ^ lowG w a (t - a) - 1 then [] else blks w t (a + 2 ^ lowG w a (t - a)) := by
  unfold blks
  rw [show t - a + 1 = (t - a) + 1 from rfl, blkF]
  congr 1
  split
  · rfl
  · rename_i hne
    have hf := lowG_fits w a (t - a)
    have hp := two_pos (lowG w a (t - a))
    exact blkF_fuel w t _ _ _ (by omega) (by omega) (by omega)
theorem next_le {w t a : Nat} (ha : a ≤ t) (hne : t - a ≠ 2 ^ lowG w a (t - a) - 1) : a + 2 ^ lowG w a (t - a) ≤ t := by
  have hf := lowG_fits w a (t - a)
  have hp := two_pos (lowG w a (t - a))
  omega
/-- Few blocks are behind one that was cut short. -/
theorem blks_short {w t : Nat} (ht : t < 9223372036854775808) (hw : w ≤ 48) : ∀ (j a : Nat), a ≤ t → j ≤ w - 1 → 2 ^ j ∣ a → t - a < 2 ^ j - 1 → (blks w t a).length ≤ j := by
  intro j
  induction j using Nat.strongRecOn with
  | _ j ih =>
    intro a ha hj hd hlt
    have hl : lowG w a (t - a) < j := by
      rcases Nat.lt_or_ge (lowG w a (t - a)) j with g | g
      · exact g
      · have := two_le g; have := lowG_fits w a (t - a); omega
    have hmx : t - a < 2 ^ (lowG w a (t - a) + 1) - 1 := by
      rcases lowF_max (t - a) (capZ w a) with e | e
      · exfalso
        have := capZ_max (w := w) (a := a) (by omega) hw hj hd
        change lowG w a (t - a) = capZ w a at e
        omega
      · exact e
    rw [blks_step ha]
    split
    · simp; omega
    · rename_i hne
      have hn := next_le ha hne
      have hdv : 2 ^ lowG w a (t - a) ∣ a + 2 ^ lowG w a (t - a) := Nat.dvd_add (lowG_dvd (by omega)) (Nat.dvd_refl _)
      have hp := two_pos (lowG w a (t - a))
      have h2 : 2 ^ (lowG w a (t - a) + 1) = 2 * 2 ^ lowG w a (t - a) := by rw [Nat.pow_succ]; omega
      have := ih _ hl (a + 2 ^ lowG w a (t - a)) hn (by omega) hdv (by omega)
      simp only [List.length_cons]; omega
theorem blks_len {w t : Nat} (hw0 : 1 ≤ w) (hw : w ≤ 48) (ht : t < 2 ^ w) : ∀ (k a : Nat), a ≤ t → w - 1 - capZ w a ≤ k → (blks w t a).length ≤ k + w + 2 := by
  have ht' : t < 9223372036854775808 := Nat.lt_of_lt_of_le ht (by have := two_le (show w ≤ 63 by omega); simpa using this)
  have short : ∀ a, a ≤ t → lowG w a (t - a) < capZ w a → (blks w t a).length ≤ w := by
    intro a ha hl
    have hmx : t - a < 2 ^ (lowG w a (t - a) + 1) - 1 := by
      rcases lowF_max (t - a) (capZ w a) with e | e
      · change lowG w a (t - a) = capZ w a at e; omega
      · exact e
    have h2 := two_le (show lowG w a (t - a) + 1 ≤ capZ w a by omega)
    have := blks_short ht' hw (capZ w a) a ha (capZ_le w a) (capZ_dvd (by omega)) (by omega)
    have := capZ_le w a
    omega
  -- a block of the greatest size
  have big : ∀ a, a ≤ t → capZ w a = w - 1 → (blks w t a).length ≤ w + 2 := by
    have one : ∀ a, a ≤ t → capZ w a = w - 1 → 2 ^ (w - 1) ≤ a → (blks w t a).length ≤ w + 1 := by
      intro a ha hc h1
      rcases Nat.lt_or_ge (lowG w a (t - a)) (capZ w a) with g | g
      · have := short a ha g; omega
      · have hl : lowG w a (t - a) = w - 1 := by have := lowG_le w a (t - a); omega
        rw [blks_step ha, hl]
        have e : 2 ^ w = 2 * 2 ^ (w - 1) := by rw [show w = (w - 1) + 1 by omega, Nat.pow_succ]; simp; omega
        have hf := lowG_fits w a (t - a)
        rw [hl] at hf
        rw [if_pos (by omega)]
        simp
    intro a ha hc
    rcases Nat.lt_or_ge (lowG w a (t - a)) (capZ w a) with g | g
    · have := short a ha g; omega
    · have hl : lowG w a (t - a) = w - 1 := by have := lowG_le w a (t - a); omega
      rw [blks_step ha, hl]
      split
      · simp
      · rename_i hne
        have hn := next_le (w := w) ha (by rw [hl]; exact hne)
        rw [hl] at hn
        have hdv : 2 ^ (w - 1) ∣ a + 2 ^ (w - 1) := Nat.dvd_add (by have := lowG_dvd (w := w) (a := a) (d := t - a) (by omega); rwa [hl] at this) (Nat.dvd_refl _)
        have hc' : capZ w (a + 2 ^ (w - 1)) = w - 1 := by
          have := capZ_max (w := w) (a := a + 2 ^ (w - 1)) (by omega) hw (Nat.le_refl _) hdv
          have := capZ_le w (a + 2 ^ (w - 1))
          omega
        have := one _ hn hc' (by omega)
        simp only [List.length_cons]; omega
  intro k
  induction k with
  | zero =>
    intro a ha hk
    have := big a ha (by have := capZ_le w a; omega)
    omega
  | succ k ih =>
    intro a ha hk
    by_cases hc : capZ w a = w - 1
    · have := big a ha hc; omega
    · rcases Nat.lt_or_ge (lowG w a (t - a)) (capZ w a) with g | g
      · have := short a ha g; omega
      · have hl : lowG w a (t - a) = capZ w a := by have : lowG w a (t - a) ≤ capZ w a := lowF_le _ _; omega
        rw [blks_step ha, hl]
        split
        · simp
        · rename_i hne
          have hn := next_le (w := w) ha (by rw [hl]; exact hne)
          rw [hl] at hn
          have hcl := capZ_le w a
          -- the next number is even at one power more
          obtain ⟨q, hq⟩ := capZ_dvd (w := w) (a := a) (by omega)
          have hodd : q % 2 = 1 := by
            rcases Nat.mod_two_eq_zero_or_one q with e | e
            · exfalso
              have : 2 ^ (capZ w a + 1) ∣ a := by
                refine ⟨q / 2, ?_⟩
                rw [Nat.pow_succ, Nat.mul_assoc, show 2 * (q / 2) = q by omega]
                exact hq
              have := capZ_max (w := w) (a := a) (by omega) hw (show capZ w a + 1 ≤ w - 1 by omega) this
              omega
            · exact e
          have hdv : 2 ^ (capZ w a + 1) ∣ a + 2 ^ capZ w a := by
            refine ⟨(q + 1) / 2, ?_⟩
            rw [Nat.pow_succ, Nat.mul_assoc, show 2 * ((q + 1) / 2) = q + 1 by omega, Nat.mul_add, Nat.mul_one, ← hq]
          have hc' := capZ_max (w := w) (a := a + 2 ^ capZ w a) (by omega) hw (show capZ w a + 1 ≤ w - 1 by omega) hdv
          have := ih (a + 2 ^ capZ w a) hn (by omega)
          simp only [List.length_cons]; omega
theorem blks_few {w t a : Nat} (hw0 : 1 ≤ w) (hw : w ≤ 48) (ht : t < 2 ^ w) (ha : a ≤ t) : (blks w t a).length ≤ 98 := by
  have := blks_len hw0 hw ht (w - 1) a ha (by omega)
  omega
-- which numbers satisfy a block
theorem mask_and {w l x : Nat} (hl : l ≤ w) (hx : x < 2 ^ w) : x &&& (2 ^ w - 2 ^ l) = x / 2 ^ l * 2 ^ l := by
  apply Nat.eq_of_testBit_eq
  intro i
  have e1 : 2 ^ w - 2 ^ l = (2 ^ (w - l) - 1) * 2 ^ l := by
    rw [Nat.sub_mul, Nat.one_mul, ← Nat.pow_add, show w - l + l = w by omega]
  rw [Nat.testBit_and, e1, Nat.testBit_mul_two_pow, Nat.testBit_mul_two_pow]
  by_cases hi : l ≤ i
  · simp only [hi, decide_true, Bool.true_and]
    rw [Nat.testBit_two_pow_sub_one, Nat.testBit_div_two_pow, show i - l + l = i by omega]
    by_cases h2 : i - l < w - l
    · simp [h2]
    · have : x.testBit i = false := Nat.testBit_lt_two_pow (Nat.lt_of_lt_of_le hx (two_le (by omega)))
      simp [this]
  · simp [hi]
theorem in_block {w l a x : Nat} (hl : l ≤ w) (hx : x < 2 ^ w) (hd : 2 ^ l ∣ a) : (x &&& (2 ^ w - 2 ^ l) = a) ↔ (a ≤ x ∧ x < a + 2 ^ l) := by
  rw [mask_and hl hx]
  obtain ⟨q, rfl⟩ := hd
  have hp := two_pos l
  rw [Nat.mul_comm (2 ^ l) q]
  constructor
  · intro h
    have h1 := Nat.div_add_mod x (2 ^ l)
    have h2 := Nat.mod_lt x (show 0 < 2 ^ l by omega)
    rw [Nat.mul_comm] at h1
    omega
  · rintro ⟨h1, h2⟩
    have : x / 2 ^ l = q := by
      apply Nat.div_eq_of_lt_le
      · exact h1
      · rw [Nat.add_mul, Nat.one_mul]; exact h2
    rw [this]
/-- How many blocks hold a number. -/
def cntB (w x : Nat) (l : List (Nat × Nat)) : Nat := (l.filter fun b => x &&& (2 ^ w - 2 ^ b.2) == b.1).length
theorem cnt_blks {w t x : Nat} (hw : w ≤ 48) (ht : t < 2 ^ w) (hx : x < 2 ^ w) : ∀ (n a : Nat), a ≤ t → t - a < n → cntB w x (blkF w t n a) = if a ≤ x ∧ x ≤ t then 1 else 0
  | 0, a, _, h => by omega
  | n + 1, a, ha, h => by
    have ht' : t < 9223372036854775808 := Nat.lt_of_lt_of_le ht (by have := two_le (show w ≤ 63 by omega); simpa using this)
    have hf := lowG_fits w a (t - a)
    have hp := two_pos (lowG w a (t - a))
    have hll := lowG_le w a (t - a)
    have hib := in_block (w := w) (l := lowG w a (t - a)) (a := a) (x := x) (by omega) hx (lowG_dvd (by omega))
    have step : ∀ r : List (Nat × Nat), cntB w x ((a, lowG w a (t - a)) :: r) = (if a ≤ x ∧ x < a + 2 ^ lowG w a (t - a) then 1 else 0) + cntB w x r := by
      intro r
      unfold cntB
      rw [List.filter_cons]
      by_cases c : x &&& (2 ^ w - 2 ^ lowG w a (t - a)) = a
      · rw [if_pos (by simpa using c), if_pos (hib.1 c)]; simp; omega
      · rw [if_neg (by simpa using c), if_neg (fun g => c (hib.2 g))]; simp
    simp only [blkF]
    rw [step]
    by_cases he : t - a = 2 ^ lowG w a (t - a) - 1
    · rw [if_pos he]
      have : cntB w x [] = 0 := rfl
      rw [this]
      by_cases c : a ≤ x ∧ x ≤ t
      · rw [if_pos c, if_pos (by omega)]
      · rw [if_neg c, if_neg (by omega)]
    · rw [if_neg he]
      have hn := next_le ha he
      rw [cnt_blks hw ht hx n _ hn (by omega)]
      by_cases c : a ≤ x ∧ x ≤ t
      · rw [if_pos c]
        by_cases c2 : x < a + 2 ^ lowG w a (t - a)
        · rw [if_pos ⟨c.1, c2⟩, if_neg (by omega)]
        · rw [if_neg (by omega), if_pos (by omega)]
      · rw [if_neg c, if_neg (by omega), if_neg (by omega)]
end Go.Proofs.YthppdlmildfnnaaGreatDoor
