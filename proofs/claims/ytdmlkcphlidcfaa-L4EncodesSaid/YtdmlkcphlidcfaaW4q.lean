/-
  Contracts of functions of chapter 04: each theorem says what a call of one function answers, for all arguments that its hypotheses let in.
-/
import Derived.Test.YtdmlkcphlidcfaaW4l
import Derived.Test.YtdmlkcphlidcfaaW4i
import Derived.Test.YtdmlkcphlidcfaaW4e
set_option linter.unusedVariables false
set_option linter.unusedSimpArgs false
set_option maxRecDepth 100000
set_option maxHeartbeats 1000000
namespace Go.Proofs.Ytdmlkcphlidcfaa
open Go Go.SL Go.Proofs
/-- A place's weight in the sum. -/
def wt (i : Nat) : Nat := if i % 2 = 0 then 256 else 1
theorem ws_succ (l : List UInt8) (i : Nat) : ws l (i + 1) = ws l i + (l.getD i 0).toNat * wt i := by
  simp only [ws, wt]; split <;> simp
theorem ws_set {l : List UInt8} {i : Nat} {v : UInt8} : ∀ n, i < n → i < l.length → ws (l.set i v) n + (l.getD i 0).toNat * wt i = ws l n + v.toNat * wt i := by
  have hlow : ∀ n, n ≤ i → ws (l.set i v) n = ws l n := by
    intro n
    induction n with
    | zero => intro _; rfl
    | succ n ih =>
      intro h
      rw [ws_succ, ws_succ, ih (by omega)]
      have : (l.set i v).getD n 0 = l.getD n 0 := by simp [List.getD, List.getElem?_set_ne (show i ≠ n by omega)]
      rw [this]
  intro n
  induction n with
  | zero => intro h; omega
  | succ n ih =>
    intro h hl
    rw [ws_succ, ws_succ]
    by_cases hn : i = n
    · subst hn
      rw [hlow i (Nat.le_refl _)]
      have : (l.set i v).getD i 0 = v := by simp [List.getD, hl]
      rw [this]; omega
    · have h1 := ih (by omega) hl
      have : (l.set i v).getD n 0 = l.getD n 0 := by simp [List.getD, List.getElem?_set_ne hn]
      rw [this]; omega
theorem exc {n : Nat} {l : List UInt8} (h : n + 1 ≤ l.length) : ∃ x t, l = x :: t ∧ n ≤ t.length := by
  cases l with
  | nil => simp at h
  | cons x t => exact ⟨x, t, rfl, by simpa using h⟩
theorem be_two (x y : UInt8) : be [x, y] = x.toNat * 256 + y.toNat := by simp [be]
theorem be_four (x y z u : UInt8) : be [x, y, z, u] = ((x.toNat * 256 + y.toNat) * 256 + z.toNat) * 256 + u.toNat := by simp [be]
theorem u8_eq {x : UInt8} {n : Nat} (h : n % 256 = x.toNat) : UInt8.ofNat n = x := by
  apply UInt8.toNat_inj.1
  rw [UInt8.toNat_ofNat']
  exact h
theorem u8_lt (x : UInt8) : x.toNat < 256 := x.toNat_lt
theorem fo_pos {x : Nat} (h : 0 < x) : 1 ≤ fo x ∧ fo x ≤ 65535 ∧ (fo x) % 65535 = x % 65535 := by
  unfold fo; rw [if_neg (by omega)]; omega
theorem fo_top {x : Nat} : fo x = 65535 ↔ 0 < x ∧ x % 65535 = 0 := by
  unfold fo; split <;> omega
theorem getD_ne {l : List UInt8} {i j : Nat} {v : UInt8} (h : i ≠ j) : (l.set i v).getD j 0 = l.getD j 0 := by
  rw [List.getD_eq_getElem?_getD, List.getD_eq_getElem?_getD, List.getElem?_set_ne h]
theorem getD_eq {l : List UInt8} {i : Nat} {v : UInt8} (h : i < l.length) : (l.set i v).getD i 0 = v := by
  rw [List.getD_eq_getElem?_getD, List.getElem?_set_self h]; rfl
theorem ws_ge (l : List UInt8) : ∀ n, 1 ≤ n → (l.getD 0 0).toNat * 256 ≤ ws l n := by
  intro n
  induction n with
  | zero => intro h; omega
  | succ n ih =>
    intro _
    rw [ws_succ]
    rcases Nat.eq_zero_or_pos n with h | h
    · subst h; simp [ws, wt]
    · have := ih h; omega


theorem two_hi (x y : UInt8) : byteOf (x.toNat * 256 + y.toNat) 8 = x := by
  have h1 := u8_lt x; have h2 := u8_lt y
  unfold byteOf; exact u8_eq (by simp; omega)
theorem two_lo (x y : UInt8) : byteOf (x.toNat * 256 + y.toNat) 0 = y := by
  have h1 := u8_lt x; have h2 := u8_lt y
  unfold byteOf; exact u8_eq (by simp)
theorem four_top (x y z u : UInt8) : (((x.toNat * 256 + y.toNat) * 256 + z.toNat) * 256 + u.toNat) / 65536 = x.toNat * 256 + y.toNat := by
  have h1 := u8_lt x; have h2 := u8_lt y; have h3 := u8_lt z; have h4 := u8_lt u
  omega
theorem four_low (x y z u : UInt8) : (((x.toNat * 256 + y.toNat) * 256 + z.toNat) * 256 + u.toNat) % 65536 = z.toNat * 256 + u.toNat := by
  have h1 := u8_lt x; have h2 := u8_lt y; have h3 := u8_lt z; have h4 := u8_lt u
  omega
theorem of_nat (x : UInt8) : UInt8.ofNat x.toNat = x := u8_eq (Nat.mod_eq_of_lt (u8_lt x))
theorem icmp_back {l : List UInt8} (q : 8 ≤ l.length) : icmp0 (l.getD 0 0).toNat (l.getD 1 0).toNat (be (sub l 4 4)) (l.drop 8) = (l.set 2 0).set 3 0 := by
  obtain ⟨x0, l0, e0, r0⟩ := exc (n := 7) q
  subst e0
  obtain ⟨x1, l1, e1, r1⟩ := exc r0
  subst e1
  obtain ⟨x2, l2, e2, r2⟩ := exc r1
  subst e2
  obtain ⟨x3, l3, e3, r3⟩ := exc r2
  subst e3
  obtain ⟨x4, l4, e4, r4⟩ := exc r3
  subst e4
  obtain ⟨x5, l5, e5, r5⟩ := exc r4
  subst e5
  obtain ⟨x6, l6, e6, r6⟩ := exc r5
  subst e6
  obtain ⟨x7, l7, e7, r7⟩ := exc r6
  subst e7
  show put4L (((List.replicate 8 0 ++ l7).set 0 (UInt8.ofNat x0.toNat)).set 1 (UInt8.ofNat x1.toNat)) 4 (be [x4, x5, x6, x7]) = _
  rw [be_four, of_nat, of_nat]
  unfold put4L put2
  rw [four_top, four_low, two_hi, two_lo, two_hi, two_lo]
  rfl
theorem udp_back {l : List UInt8} (q : 8 ≤ l.length) (hl : be (sub l 4 2) = l.length) : udp0 (be (sub l 0 2)) (be (sub l 2 2)) (l.drop 8) = (l.set 6 0).set 7 0 := by
  have hd : 8 + (l.drop 8).length = be (sub l 4 2) := by rw [List.length_drop]; omega
  unfold udp0
  rw [hd]
  clear hd hl
  obtain ⟨x0, l0, e0, r0⟩ := exc (n := 7) q
  subst e0
  obtain ⟨x1, l1, e1, r1⟩ := exc r0
  subst e1
  obtain ⟨x2, l2, e2, r2⟩ := exc r1
  subst e2
  obtain ⟨x3, l3, e3, r3⟩ := exc r2
  subst e3
  obtain ⟨x4, l4, e4, r4⟩ := exc r3
  subst e4
  obtain ⟨x5, l5, e5, r5⟩ := exc r4
  subst e5
  obtain ⟨x6, l6, e6, r6⟩ := exc r5
  subst e6
  obtain ⟨x7, l7, e7, r7⟩ := exc r6
  subst e7
  show put2 (put2 (put2 (List.replicate 8 0 ++ l7) 0 (be [x0, x1])) 2 (be [x2, x3])) 4 (be [x4, x5]) = _
  rw [be_two, be_two, be_two]
  unfold put2
  rw [two_hi, two_lo, two_hi, two_lo, two_hi, two_lo]
  rfl
/-- The sum that stood there comes again, or all ones stood there. -/
theorem chk_back {E : List UInt8} {k C : Nat} (hk : k % 2 = 0) (hk1 : k + 1 < E.length) (hs : fo (C + ws E E.length) = 65535) :
    ((E.getD k 0).toNat * 256 + (E.getD (k + 1) 0).toNat = 65535 ∧ (0 < C + ws ((E.set k 0).set (k + 1) 0) E.length → fo (C + ws ((E.set k 0).set (k + 1) 0) E.length) = 65535)) ∨
    ((E.getD k 0).toNat * 256 + (E.getD (k + 1) 0).toNat ≠ 65535 ∧ 65535 - fo (C + ws ((E.set k 0).set (k + 1) 0) E.length) = (E.getD k 0).toNat * 256 + (E.getD (k + 1) 0).toNat) := by
  have g1 := ws_set (l := E) (i := k) (v := 0) E.length (by omega) (by omega)
  have g2 := ws_set (l := E.set k 0) (i := k + 1) (v := 0) E.length (by omega) (by rw [List.length_set]; omega)
  rw [getD_ne (by omega)] at g2
  have z : (0 : UInt8).toNat = 0 := rfl
  have w10 : wt k = 256 := by unfold wt; rw [if_pos hk]
  have w11 : wt (k + 1) = 1 := by unfold wt; rw [if_neg (by omega)]
  rw [z, w10] at g1
  rw [z, w11] at g2
  have ht := fo_top.1 hs
  have k1 := u8_lt (E.getD k 0)
  have k2 := u8_lt (E.getD (k + 1) 0)
  generalize ws ((E.set k 0).set (k + 1) 0) E.length = A at *
  generalize ws (E.set k 0) E.length = B at *
  generalize ws E E.length = D at *
  generalize (E.getD k 0).toNat = p at *
  generalize (E.getD (k + 1) 0).toNat = r at *
  by_cases hh : p * 256 + r = 65535
  · left
    exact ⟨hh, fun h => fo_top.2 ⟨h, by omega⟩⟩
  · right
    refine ⟨hh, ?_⟩
    have hp := fo_pos (x := C + A) (by omega)
    omega
/-- The bytes with their sum put in again. -/
theorem put_back {E c : List UInt8} {k n : Nat} (hk1 : k + 1 < E.length) (hc : c = put2 ((E.set k 0).set (k + 1) 0) k n) (hn : n = (E.getD k 0).toNat * 256 + (E.getD (k + 1) 0).toNat) : c = E := by
  subst hc
  unfold put2
  rw [hn, two_hi, two_lo]
  apply List.ext_getElem?
  intro i
  by_cases h1 : i = k + 1
  · subst h1
    rw [List.getElem?_set_self (by simp only [List.length_set]; omega), List.getD_eq_getElem?_getD, List.getElem?_eq_getElem hk1]; rfl
  · by_cases h2 : i = k
    · subst h2
      rw [List.getElem?_set_ne (by omega), List.getElem?_set_self (by simp only [List.length_set]; omega), List.getD_eq_getElem?_getD, List.getElem?_eq_getElem (by omega)]; rfl
    · rw [List.getElem?_set_ne (by omega), List.getElem?_set_ne (by omega), List.getElem?_set_ne (by omega), List.getElem?_set_ne (by omega)]
theorem put_else {E : List UInt8} {k n i : Nat} (h1 : i ≠ k) (h2 : i ≠ k + 1) : (put2 ((E.set k 0).set (k + 1) 0) k n).getD i 0 = E.getD i 0 := by
  unfold put2
  rw [getD_ne (by omega), getD_ne (by omega), getD_ne (by omega), getD_ne (by omega)]

end Go.Proofs.Ytdmlkcphlidcfaa
