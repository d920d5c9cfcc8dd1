/-
  Contracts of functions of chapter 04: each theorem says what a call of one function answers, for all arguments that its hypotheses let in.
-/
import Derived.Test.YtdmlkcphlidcfaaW4q
set_option linter.unusedVariables false
set_option linter.unusedSimpArgs false
set_option maxRecDepth 100000
set_option maxHeartbeats 1000000
namespace Go.Proofs.Ytdmlkcphlidcfaa
open Go Go.SL Go.Proofs
theorem put2_app {l t : List UInt8} {i x : Nat} (h : i + 1 < l.length) : put2 (l ++ t) i x = put2 l i x ++ t := by
  unfold put2
  rw [List.set_append_left _ _ (by omega), List.set_append_left _ _ (by rw [List.length_set]; omega)]
theorem put4_app {l t : List UInt8} {i x : Nat} (h : i + 3 < l.length) : put4L (l ++ t) i x = put4L l i x ++ t := by
  unfold put4L
  rw [put2_app (by omega), put2_app (by rw [put2_len]; omega)]
theorem splice_mid {H Z p o : List UInt8} {k : Nat} (hH : H.length = k) (hz : Z.length = p.length) : splice (H ++ (Z ++ o)) k p = H ++ (p ++ o) := by
  subst hH
  unfold splice
  rw [List.take_left' rfl, ← hz, ← List.length_append, ← List.append_assoc, List.drop_left' rfl, List.append_assoc]
def tcpH (A B C D E F G : Nat) : List UInt8 := [byteOf A 8, byteOf A 0, byteOf B 8, byteOf B 0, byteOf (C / 65536) 8, byteOf (C / 65536) 0, byteOf (C % 65536) 8, byteOf (C % 65536) 0, byteOf (D / 65536) 8, byteOf (D / 65536) 0, byteOf (D % 65536) 8, byteOf (D % 65536) 0, byteOf E 8, byteOf E 0, byteOf F 8, byteOf F 0, 0, 0, byteOf G 8, byteOf G 0]
theorem tcp_head (A B C D E F G : Nat) : put2 (put2 (put2 (put4L (put4L (put2 (put2 (List.replicate 20 0) 0 A) 2 B) 4 C) 8 D) 12 E) 14 F) 18 G = tcpH A B C D E F G := by kernel_rfl
theorem tcp0_eq (sp dp se ac fl wi ur : Nat) (p o : List UInt8) : tcp0 sp dp se ac fl wi ur p o = tcpH sp dp se ac ((20 + p.length) / 4 * 4096 + fl) wi ur ++ (p ++ o) := by
  unfold tcp0
  have hr : (List.replicate 20 (0 : UInt8)).length = 20 := List.length_replicate
  rw [← List.replicate_append_replicate, List.append_assoc, put2_app (by rw [hr]; decide), put2_app (by rw [put2_len, hr]; decide), put4_app (by rw [put2_len, put2_len, hr]; decide),
    put4_app (by rw [put4L_len, put2_len, put2_len, hr]; decide), put2_app (by rw [put4L_len, put4L_len, put2_len, put2_len, hr]; decide), put2_app (by rw [put2_len, put4L_len, put4L_len, put2_len, put2_len, hr]; decide),
    put2_app (by rw [put2_len, put2_len, put4L_len, put4L_len, put2_len, put2_len, hr]; decide), tcp_head]
  exact splice_mid rfl List.length_replicate
theorem tcp_back {l : List UInt8} (q : 20 ≤ l.length) (h1 : 20 ≤ tcS l) (h2 : tcS l ≤ l.length) :
    tcp0 (be (sub l 0 2)) (be (sub l 2 2)) (be (sub l 4 4)) (be (sub l 8 4)) (be (sub l 12 2) % 4096) (be (sub l 14 2)) (be (sub l 18 2)) (sub l 20 (tcS l - 20)) (l.drop (tcS l)) = (l.set 16 0).set 17 0 := by
  have hp : (sub l 20 (tcS l - 20)).length = tcS l - 20 := by unfold sub; rw [List.length_take, List.length_drop]; omega
  have hS : tcS l = 4 * ((l.getD 12 0).toNat / 16) := rfl
  have hm : sub l 20 (tcS l - 20) ++ l.drop (tcS l) = l.drop 20 := by
    unfold sub
    have : l.drop (tcS l) = (l.drop 20).drop (tcS l - 20) := by rw [List.drop_drop]; congr 1; omega
    rw [this, List.take_append_drop]
  rw [tcp0_eq, hp, hm, show 20 + (tcS l - 20) = tcS l by omega]
  generalize tcS l = n at *
  clear hp hm
  obtain ⟨x0, l0, e0, r0⟩ := exc (n := 19) q
  subst e0
  obtain ⟨x1, l1, e1, r1⟩ := exc r0
  subst e1
  obtain ⟨x2, l2, e2, r2⟩ := exc r1
  subst e2
  obtain ⟨x3, l3, e3, r3⟩ := exc r2
  subst e3
  obtain ⟨x4, l4, e4, r4⟩ := exc r3
  subst e4
  obtain ⟨x5, l5, e5, r5⟩ := exc r4
  subst e5
  obtain ⟨x6, l6, e6, r6⟩ := exc r5
  subst e6
  obtain ⟨x7, l7, e7, r7⟩ := exc r6
  subst e7
  obtain ⟨x8, l8, e8, r8⟩ := exc r7
  subst e8
  obtain ⟨x9, l9, e9, r9⟩ := exc r8
  subst e9
  obtain ⟨x10, l10, e10, r10⟩ := exc r9
  subst e10
  obtain ⟨x11, l11, e11, r11⟩ := exc r10
  subst e11
  obtain ⟨x12, l12, e12, r12⟩ := exc r11
  subst e12
  obtain ⟨x13, l13, e13, r13⟩ := exc r12
  subst e13
  obtain ⟨x14, l14, e14, r14⟩ := exc r13
  subst e14
  obtain ⟨x15, l15, e15, r15⟩ := exc r14
  subst e15
  obtain ⟨x16, l16, e16, r16⟩ := exc r15
  subst e16
  obtain ⟨x17, l17, e17, r17⟩ := exc r16
  subst e17
  obtain ⟨x18, l18, e18, r18⟩ := exc r17
  subst e18
  obtain ⟨x19, l19, e19, r19⟩ := exc r18
  subst e19
  have hd : ∀ t : List UInt8, (x0 :: x1 :: x2 :: x3 :: x4 :: x5 :: x6 :: x7 :: x8 :: x9 :: x10 :: x11 :: x12 :: t).getD 12 0 = x12 := fun t => rfl
  rw [hd] at hS
  have hn : n / 4 * 4096 + (x12.toNat * 256 + x13.toNat) % 4096 = x12.toNat * 256 + x13.toNat := by
    have h3 := u8_lt x12; have h4 := u8_lt x13
    omega
  clear q h1 h2 hS hd
  show tcpH (be [x0, x1]) (be [x2, x3]) (be [x4, x5, x6, x7]) (be [x8, x9, x10, x11]) (n / 4 * 4096 + be [x12, x13] % 4096) (be [x14, x15]) (be [x18, x19]) ++ l19 = _
  unfold tcpH
  rw [be_two, be_two, be_two, be_two, be_two, be_four, be_four, hn]
  rw [four_top, four_low, four_top, four_low, two_hi, two_lo, two_hi, two_lo, two_hi, two_lo, two_hi, two_lo, two_hi, two_lo, two_hi, two_lo, two_hi, two_lo, two_hi, two_lo, two_hi, two_lo]
  rfl

end Go.Proofs.Ytdmlkcphlidcfaa
