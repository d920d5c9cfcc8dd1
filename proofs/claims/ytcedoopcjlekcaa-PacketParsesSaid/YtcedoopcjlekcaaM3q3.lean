/-
  The bytes of what was read are near to what was read: plain laws.
-/
import Derived.Test.YtcedoopcjlekcaaM2q3
set_option linter.unusedVariables false
set_option linter.unusedSimpArgs false
set_option maxRecDepth 100000
set_option maxHeartbeats 1000000
namespace Go.Proofs.Ytcedoopcjlekcaa
open Go Go.SL Go.Proofs
theorem exc {n : Nat} {l : List UInt8} (h : n + 1 ≤ l.length) : ∃ x t, l = x :: t ∧ n ≤ t.length := by
  cases l with
  | nil => simp at h
  | cons x t => exact ⟨x, t, rfl, by simpa using h⟩

theorem ub_nat1 (x : UInt8) : ub x.toNat = x := u8_eq (Nat.mod_eq_of_lt (u8_lt x))
theorem b2_of (x y : UInt8) : [ub1 (be [x, y]), ub (be [x, y])] = [x, y] := by
  have h1 := u8_lt x; have h2 := u8_lt y
  rw [be_c2]
  simp only [ub, ub1]
  rw [u8_eq (x := x) (by omega), u8_eq (x := y) (by omega)]
theorem b4_of (x y z u : UInt8) : [ub3 (be [x, y, z, u]), ub2 (be [x, y, z, u]), ub1 (be [x, y, z, u]), ub (be [x, y, z, u])] = [x, y, z, u] := by
  have h1 := u8_lt x; have h2 := u8_lt y; have h3 := u8_lt z; have h4 := u8_lt u
  rw [be_c4]
  simp only [ub, ub1, ub2, ub3]
  rw [u8_eq (x := x) (by omega), u8_eq (x := y) (by omega), u8_eq (x := z) (by omega), u8_eq (x := u) (by omega)]
theorem b6_of (x y z u v w : UInt8) : [ub5 (be [x, y, z, u, v, w]), ub4 (be [x, y, z, u, v, w]), ub3 (be [x, y, z, u, v, w]), ub2 (be [x, y, z, u, v, w]), ub1 (be [x, y, z, u, v, w]), ub (be [x, y, z, u, v, w])] = [x, y, z, u, v, w] := by
  have h1 := u8_lt x; have h2 := u8_lt y; have h3 := u8_lt z; have h4 := u8_lt u; have h5 := u8_lt v; have h6 := u8_lt w
  rw [be_c6]
  simp only [ub, ub1, ub2, ub3, ub4, ub5]
  rw [u8_eq (x := x) (by omega), u8_eq (x := y) (by omega), u8_eq (x := z) (by omega), u8_eq (x := u) (by omega), u8_eq (x := v) (by omega), u8_eq (x := w) (by omega)]
theorem b2_ (x y : UInt8) (t : List UInt8) : ub1 (be [x, y]) :: ub (be [x, y]) :: t = x :: y :: t := by
  have h := b2_of x y
  simp only [List.cons.injEq, and_true] at h
  rw [h.1, h.2]
theorem b4_ (x y z u : UInt8) (t : List UInt8) : ub3 (be [x, y, z, u]) :: ub2 (be [x, y, z, u]) :: ub1 (be [x, y, z, u]) :: ub (be [x, y, z, u]) :: t = x :: y :: z :: u :: t := by
  have h := b4_of x y z u
  simp only [List.cons.injEq, and_true] at h
  rw [h.1, h.2.1, h.2.2.1, h.2.2.2]
theorem b6_ (x y z u v w : UInt8) (t : List UInt8) : ub5 (be [x, y, z, u, v, w]) :: ub4 (be [x, y, z, u, v, w]) :: ub3 (be [x, y, z, u, v, w]) :: ub2 (be [x, y, z, u, v, w]) :: ub1 (be [x, y, z, u, v, w]) :: ub (be [x, y, z, u, v, w]) :: t = x :: y :: z :: u :: v :: w :: t := by
  have h := b6_of x y z u v w
  simp only [List.cons.injEq, and_true] at h
  rw [h.1, h.2.1, h.2.2.1, h.2.2.2.1, h.2.2.2.2.1, h.2.2.2.2.2]
theorem hd_dec0 {l : List UInt8} (h : 14 ≤ l.length) : [ub5 (be (l.take 6)), ub4 (be (l.take 6)), ub3 (be (l.take 6)), ub2 (be (l.take 6)), ub1 (be (l.take 6)), ub (be (l.take 6)), ub5 (be ((l.drop 6).take 6)), ub4 (be ((l.drop 6).take 6)), ub3 (be ((l.drop 6).take 6)), ub2 (be ((l.drop 6).take 6)), ub1 (be ((l.drop 6).take 6)), ub (be ((l.drop 6).take 6)), ub1 (be ((l.drop 12).take 2)), ub (be ((l.drop 12).take 2))] = l.take 14 := by
  obtain ⟨x0, l0, rfl, r0⟩ := exc (n := 13) h
  obtain ⟨x1, l1, rfl, r1⟩ := exc (n := 12) r0
  obtain ⟨x2, l2, rfl, r2⟩ := exc (n := 11) r1
  obtain ⟨x3, l3, rfl, r3⟩ := exc (n := 10) r2
  obtain ⟨x4, l4, rfl, r4⟩ := exc (n := 9) r3
  obtain ⟨x5, l5, rfl, r5⟩ := exc (n := 8) r4
  obtain ⟨x6, l6, rfl, r6⟩ := exc (n := 7) r5
  obtain ⟨x7, l7, rfl, r7⟩ := exc (n := 6) r6
  obtain ⟨x8, l8, rfl, r8⟩ := exc (n := 5) r7
  obtain ⟨x9, l9, rfl, r9⟩ := exc (n := 4) r8
  obtain ⟨x10, l10, rfl, r10⟩ := exc (n := 3) r9
  obtain ⟨x11, l11, rfl, r11⟩ := exc (n := 2) r10
  obtain ⟨x12, l12, rfl, r12⟩ := exc (n := 1) r11
  obtain ⟨x13, l13, rfl, r13⟩ := exc (n := 0) r12
  show ub5 (be [x0, x1, x2, x3, x4, x5]) :: ub4 (be [x0, x1, x2, x3, x4, x5]) :: ub3 (be [x0, x1, x2, x3, x4, x5]) :: ub2 (be [x0, x1, x2, x3, x4, x5]) :: ub1 (be [x0, x1, x2, x3, x4, x5]) :: ub (be [x0, x1, x2, x3, x4, x5]) :: ub5 (be [x6, x7, x8, x9, x10, x11]) :: ub4 (be [x6, x7, x8, x9, x10, x11]) :: ub3 (be [x6, x7, x8, x9, x10, x11]) :: ub2 (be [x6, x7, x8, x9, x10, x11]) :: ub1 (be [x6, x7, x8, x9, x10, x11]) :: ub (be [x6, x7, x8, x9, x10, x11]) :: ub1 (be [x12, x13]) :: ub (be [x12, x13]) :: [] = _
  rw [b6_, b6_, b2_]; rfl
theorem hd_dec1 {l : List UInt8} (h : 18 ≤ l.length) (h3 : be ((l.drop 12).take 2) = 33024) : [ub5 (be (l.take 6)), ub4 (be (l.take 6)), ub3 (be (l.take 6)), ub2 (be (l.take 6)), ub1 (be (l.take 6)), ub (be (l.take 6)), ub5 (be ((l.drop 6).take 6)), ub4 (be ((l.drop 6).take 6)), ub3 (be ((l.drop 6).take 6)), ub2 (be ((l.drop 6).take 6)), ub1 (be ((l.drop 6).take 6)), ub (be ((l.drop 6).take 6)), 129, 0, ub1 (be ((l.drop 14).take 2)), ub (be ((l.drop 14).take 2)), ub1 (be ((l.drop 16).take 2)), ub (be ((l.drop 16).take 2))] = l.take 18 := by
  obtain ⟨x0, l0, rfl, r0⟩ := exc (n := 17) h
  obtain ⟨x1, l1, rfl, r1⟩ := exc (n := 16) r0
  obtain ⟨x2, l2, rfl, r2⟩ := exc (n := 15) r1
  obtain ⟨x3, l3, rfl, r3⟩ := exc (n := 14) r2
  obtain ⟨x4, l4, rfl, r4⟩ := exc (n := 13) r3
  obtain ⟨x5, l5, rfl, r5⟩ := exc (n := 12) r4
  obtain ⟨x6, l6, rfl, r6⟩ := exc (n := 11) r5
  obtain ⟨x7, l7, rfl, r7⟩ := exc (n := 10) r6
  obtain ⟨x8, l8, rfl, r8⟩ := exc (n := 9) r7
  obtain ⟨x9, l9, rfl, r9⟩ := exc (n := 8) r8
  obtain ⟨x10, l10, rfl, r10⟩ := exc (n := 7) r9
  obtain ⟨x11, l11, rfl, r11⟩ := exc (n := 6) r10
  obtain ⟨x12, l12, rfl, r12⟩ := exc (n := 5) r11
  obtain ⟨x13, l13, rfl, r13⟩ := exc (n := 4) r12
  obtain ⟨x14, l14, rfl, r14⟩ := exc (n := 3) r13
  obtain ⟨x15, l15, rfl, r15⟩ := exc (n := 2) r14
  obtain ⟨x16, l16, rfl, r16⟩ := exc (n := 1) r15
  obtain ⟨x17, l17, rfl, r17⟩ := exc (n := 0) r16
  have h3' : be [x12, x13] = 33024 := h3
  have hb := b2_of x12 x13
  rw [h3'] at hb
  have e1 : x12 = 129 := by injection hb with hb _; rw [← hb]; rfl
  have e2 : x13 = 0 := by injection hb with _ hb; injection hb with hb _; rw [← hb]; rfl
  subst e1; subst e2
  show ub5 (be [x0, x1, x2, x3, x4, x5]) :: ub4 (be [x0, x1, x2, x3, x4, x5]) :: ub3 (be [x0, x1, x2, x3, x4, x5]) :: ub2 (be [x0, x1, x2, x3, x4, x5]) :: ub1 (be [x0, x1, x2, x3, x4, x5]) :: ub (be [x0, x1, x2, x3, x4, x5]) :: ub5 (be [x6, x7, x8, x9, x10, x11]) :: ub4 (be [x6, x7, x8, x9, x10, x11]) :: ub3 (be [x6, x7, x8, x9, x10, x11]) :: ub2 (be [x6, x7, x8, x9, x10, x11]) :: ub1 (be [x6, x7, x8, x9, x10, x11]) :: ub (be [x6, x7, x8, x9, x10, x11]) :: 129 :: 0 :: ub1 (be [x14, x15]) :: ub (be [x14, x15]) :: ub1 (be [x16, x17]) :: ub (be [x16, x17]) :: [] = _
  rw [b6_, b6_, b2_, b2_]; rfl
theorem arp_head {l : List UInt8} (h : 28 ≤ l.length) (h2 : be (l.take 6) = 4429186564) : l.take 6 = [0, 1, 8, 0, 6, 4] := by
  obtain ⟨x0, l0, rfl, r0⟩ := exc (n := 5) (show 5 + 1 ≤ l.length by omega)
  obtain ⟨x1, l1, rfl, r1⟩ := exc (n := 4) r0
  obtain ⟨x2, l2, rfl, r2⟩ := exc (n := 3) r1
  obtain ⟨x3, l3, rfl, r3⟩ := exc (n := 2) r2
  obtain ⟨x4, l4, rfl, r4⟩ := exc (n := 1) r3
  obtain ⟨x5, l5, rfl, r5⟩ := exc (n := 0) r4
  have h2' : be [x0, x1, x2, x3, x4, x5] = 4429186564 := h2
  have hb := b6_of x0 x1 x2 x3 x4 x5
  rw [h2'] at hb
  show [x0, x1, x2, x3, x4, x5] = _
  rw [← hb]; rfl
theorem arp_dec {l : List UInt8} (h : 28 ≤ l.length) (h2 : l.take 6 = [0, 1, 8, 0, 6, 4]) : [0, 1, 8, 0, 6, 4, ub1 (be ((l.drop 6).take 2)), ub (be ((l.drop 6).take 2)), ub5 (be ((l.drop 8).take 6)), ub4 (be ((l.drop 8).take 6)), ub3 (be ((l.drop 8).take 6)), ub2 (be ((l.drop 8).take 6)), ub1 (be ((l.drop 8).take 6)), ub (be ((l.drop 8).take 6)), ub3 (be ((l.drop 14).take 4)), ub2 (be ((l.drop 14).take 4)), ub1 (be ((l.drop 14).take 4)), ub (be ((l.drop 14).take 4)),
    ub5 (be ((l.drop 18).take 6)), ub4 (be ((l.drop 18).take 6)), ub3 (be ((l.drop 18).take 6)), ub2 (be ((l.drop 18).take 6)), ub1 (be ((l.drop 18).take 6)), ub (be ((l.drop 18).take 6)), ub3 (be ((l.drop 24).take 4)), ub2 (be ((l.drop 24).take 4)), ub1 (be ((l.drop 24).take 4)), ub (be ((l.drop 24).take 4))] = l.take 28 := by
  obtain ⟨x0, l0, rfl, r0⟩ := exc (n := 27) h
  obtain ⟨x1, l1, rfl, r1⟩ := exc (n := 26) r0
  obtain ⟨x2, l2, rfl, r2⟩ := exc (n := 25) r1
  obtain ⟨x3, l3, rfl, r3⟩ := exc (n := 24) r2
  obtain ⟨x4, l4, rfl, r4⟩ := exc (n := 23) r3
  obtain ⟨x5, l5, rfl, r5⟩ := exc (n := 22) r4
  obtain ⟨x6, l6, rfl, r6⟩ := exc (n := 21) r5
  obtain ⟨x7, l7, rfl, r7⟩ := exc (n := 20) r6
  obtain ⟨x8, l8, rfl, r8⟩ := exc (n := 19) r7
  obtain ⟨x9, l9, rfl, r9⟩ := exc (n := 18) r8
  obtain ⟨x10, l10, rfl, r10⟩ := exc (n := 17) r9
  obtain ⟨x11, l11, rfl, r11⟩ := exc (n := 16) r10
  obtain ⟨x12, l12, rfl, r12⟩ := exc (n := 15) r11
  obtain ⟨x13, l13, rfl, r13⟩ := exc (n := 14) r12
  obtain ⟨x14, l14, rfl, r14⟩ := exc (n := 13) r13
  obtain ⟨x15, l15, rfl, r15⟩ := exc (n := 12) r14
  obtain ⟨x16, l16, rfl, r16⟩ := exc (n := 11) r15
  obtain ⟨x17, l17, rfl, r17⟩ := exc (n := 10) r16
  obtain ⟨x18, l18, rfl, r18⟩ := exc (n := 9) r17
  obtain ⟨x19, l19, rfl, r19⟩ := exc (n := 8) r18
  obtain ⟨x20, l20, rfl, r20⟩ := exc (n := 7) r19
  obtain ⟨x21, l21, rfl, r21⟩ := exc (n := 6) r20
  obtain ⟨x22, l22, rfl, r22⟩ := exc (n := 5) r21
  obtain ⟨x23, l23, rfl, r23⟩ := exc (n := 4) r22
  obtain ⟨x24, l24, rfl, r24⟩ := exc (n := 3) r23
  obtain ⟨x25, l25, rfl, r25⟩ := exc (n := 2) r24
  obtain ⟨x26, l26, rfl, r26⟩ := exc (n := 1) r25
  obtain ⟨x27, l27, rfl, r27⟩ := exc (n := 0) r26
  have h2' : [x0, x1, x2, x3, x4, x5] = [0, 1, 8, 0, 6, 4] := h2
  simp only [List.cons.injEq, and_true] at h2'
  obtain ⟨rfl, rfl, rfl, rfl, rfl, rfl⟩ := h2'
  show 0 :: 1 :: 8 :: 0 :: 6 :: 4 :: ub1 (be [x6, x7]) :: ub (be [x6, x7]) :: ub5 (be [x8, x9, x10, x11, x12, x13]) :: ub4 (be [x8, x9, x10, x11, x12, x13]) :: ub3 (be [x8, x9, x10, x11, x12, x13]) :: ub2 (be [x8, x9, x10, x11, x12, x13]) :: ub1 (be [x8, x9, x10, x11, x12, x13]) :: ub (be [x8, x9, x10, x11, x12, x13]) :: ub3 (be [x14, x15, x16, x17]) :: ub2 (be [x14, x15, x16, x17]) :: ub1 (be [x14, x15, x16, x17]) :: ub (be [x14, x15, x16, x17]) ::
    ub5 (be [x18, x19, x20, x21, x22, x23]) :: ub4 (be [x18, x19, x20, x21, x22, x23]) :: ub3 (be [x18, x19, x20, x21, x22, x23]) :: ub2 (be [x18, x19, x20, x21, x22, x23]) :: ub1 (be [x18, x19, x20, x21, x22, x23]) :: ub (be [x18, x19, x20, x21, x22, x23]) :: ub3 (be [x24, x25, x26, x27]) :: ub2 (be [x24, x25, x26, x27]) :: ub1 (be [x24, x25, x26, x27]) :: ub (be [x24, x25, x26, x27]) :: [] = _
  rw [b2_, b6_, b4_, b6_, b4_]; rfl
/-- The same but for two places. -/
def Apart (a b : List UInt8) (r : Nat) : Prop := a.length = b.length ∧ ∀ i, i ≠ r → i ≠ r + 1 → a.getD i 0 = b.getD i 0
theorem Apart.refl (a : List UInt8) (r : Nat) : Apart a a r := ⟨rfl, fun _ _ _ => rfl⟩
theorem apart_set {l : List UInt8} {r : Nat} {x y : UInt8} : Apart ((l.set r x).set (r + 1) y) l r := ⟨by simp, fun i h1 h2 => by rw [getD_ne (by omega), getD_ne (by omega)]⟩
theorem getD_left {a b : List UInt8} {i : Nat} (h : i < a.length) : (a ++ b).getD i 0 = a.getD i 0 := by
  rw [List.getD_eq_getElem?_getD, List.getD_eq_getElem?_getD, List.getElem?_append_left h]
theorem getD_right {a b : List UInt8} {i : Nat} (h : a.length ≤ i) : (a ++ b).getD i 0 = b.getD (i - a.length) 0 := by
  rw [List.getD_eq_getElem?_getD, List.getD_eq_getElem?_getD, List.getElem?_append_right h]
/-- The same but for two pairs. -/
def Near (c l : List UInt8) : Prop := c.length = l.length ∧ ∃ p q : Nat, p % 2 = 0 ∧ q % 2 = 0 ∧ ∀ i, i ≠ p → i ≠ p + 1 → i ≠ q → i ≠ q + 1 → c.getD i 0 = l.getD i 0
theorem Near.refl (c : List UInt8) : Near c c := ⟨rfl, 0, 0, rfl, rfl, fun _ _ _ _ _ => rfl⟩
theorem near_app {H X X0 D D0 P : List UInt8} {r : Nat} (hH : H.length % 2 = 0) (hX : X.length % 2 = 0) (hr : r % 2 = 0) (h1 : Apart X X0 10) (h2 : Apart D D0 r) : Near (H ++ (X ++ (D ++ P))) (H ++ (X0 ++ (D0 ++ P))) := by
  obtain ⟨l1, a1⟩ := h1
  obtain ⟨l2, a2⟩ := h2
  refine ⟨by simp only [List.length_append, l1, l2], H.length + 10, H.length + (X.length + r), by omega, by omega, fun i i1 i2 i3 i4 => ?_⟩
  rcases Nat.lt_or_ge i H.length with h | h
  · rw [getD_left h, getD_left h]
  · rw [getD_right h, getD_right h]
    rcases Nat.lt_or_ge (i - H.length) X.length with g | g
    · rw [getD_left (a := X) g, getD_left (a := X0) (by omega)]
      exact a1 _ (by omega) (by omega)
    · rw [getD_right (a := X) g, getD_right (a := X0) (by omega), ← l1]
      rcases Nat.lt_or_ge (i - H.length - X.length) D.length with k | k
      · rw [getD_left (a := D) k, getD_left (a := D0) (by omega)]
        exact a2 _ (by omega) (by omega)
      · rw [getD_right (a := D) k, getD_right (a := D0) (by omega), ← l2]
theorem ip_near {m : List UInt8} {S T c : Nat} {O : List UInt8} (h1 : 20 ≤ m.length) (h2 : (m.getD 0 0).toNat / 16 = 4) (hS : 4 * ((m.getD 0 0).toNat % 16) = S) (h3 : 20 ≤ S) (h4 : S ≤ m.length) (hO : O = (m.drop 20).take (S - 20)) (hT : T = be ((m.drop 2).take 2)) :
    Apart (ipB (64 + S / 4) (m.getD 1 0).toNat T (be ((m.drop 4).take 2)) (be ((m.drop 6).take 2)) (m.getD 8 0).toNat (m.getD 9 0).toNat c (be ((m.drop 12).take 4)) (be ((m.drop 16).take 4)) O) (m.take S) 10 := by
  obtain ⟨k, rfl⟩ : ∃ k, S = k + 20 := ⟨S - 20, by omega⟩
  subst hO; subst hT
  obtain ⟨x0, m0, rfl, r0⟩ := exc (n := 19) h1
  obtain ⟨x1, m1, rfl, r1⟩ := exc (n := 18) r0
  obtain ⟨x2, m2, rfl, r2⟩ := exc (n := 17) r1
  obtain ⟨x3, m3, rfl, r3⟩ := exc (n := 16) r2
  obtain ⟨x4, m4, rfl, r4⟩ := exc (n := 15) r3
  obtain ⟨x5, m5, rfl, r5⟩ := exc (n := 14) r4
  obtain ⟨x6, m6, rfl, r6⟩ := exc (n := 13) r5
  obtain ⟨x7, m7, rfl, r7⟩ := exc (n := 12) r6
  obtain ⟨x8, m8, rfl, r8⟩ := exc (n := 11) r7
  obtain ⟨x9, m9, rfl, r9⟩ := exc (n := 10) r8
  obtain ⟨x10, m10, rfl, r10⟩ := exc (n := 9) r9
  obtain ⟨x11, m11, rfl, r11⟩ := exc (n := 8) r10
  obtain ⟨x12, m12, rfl, r12⟩ := exc (n := 7) r11
  obtain ⟨x13, m13, rfl, r13⟩ := exc (n := 6) r12
  obtain ⟨x14, m14, rfl, r14⟩ := exc (n := 5) r13
  obtain ⟨x15, m15, rfl, r15⟩ := exc (n := 4) r14
  obtain ⟨x16, m16, rfl, r16⟩ := exc (n := 3) r15
  obtain ⟨x17, m17, rfl, r17⟩ := exc (n := 2) r16
  obtain ⟨x18, m18, rfl, r18⟩ := exc (n := 1) r17
  obtain ⟨x19, m19, rfl, r19⟩ := exc (n := 0) r18
  have e0 : ub (64 + (k + 20) / 4) = x0 := u8_eq (by
    have hd : ∀ t : List UInt8, (x0 :: t).getD 0 0 = x0 := fun t => rfl
    rw [hd] at hS h2
    have := u8_lt x0
    omega)
  rw [show k + 20 - 20 = k by omega]
  show Apart (ub (64 + (k + 20) / 4) :: ub x1.toNat :: ub1 (be [x2, x3]) :: ub (be [x2, x3]) :: ub1 (be [x4, x5]) :: ub (be [x4, x5]) :: ub1 (be [x6, x7]) :: ub (be [x6, x7]) :: ub x8.toNat :: ub x9.toNat :: ub1 c :: ub c :: ub3 (be [x12, x13, x14, x15]) :: ub2 (be [x12, x13, x14, x15]) :: ub1 (be [x12, x13, x14, x15]) :: ub (be [x12, x13, x14, x15]) :: ub3 (be [x16, x17, x18, x19]) :: ub2 (be [x16, x17, x18, x19]) :: ub1 (be [x16, x17, x18, x19]) :: ub (be [x16, x17, x18, x19]) :: m19.take k) _ 10
  rw [e0, ub_nat1, ub_nat1, ub_nat1, b2_, b2_, b2_, b4_, b4_]
  exact apart_set (l := x0 :: x1 :: x2 :: x3 :: x4 :: x5 :: x6 :: x7 :: x8 :: x9 :: x10 :: x11 :: x12 :: x13 :: x14 :: x15 :: x16 :: x17 :: x18 :: x19 :: m19.take k) (r := 10)
theorem ic_near {m : List UInt8} {c : Nat} (h1 : 8 ≤ m.length) : Apart (icB (m.getD 0 0).toNat (m.getD 1 0).toNat (be ((m.drop 4).take 4)) c (m.drop 8)) m 2 := by
  obtain ⟨x0, m0, rfl, r0⟩ := exc (n := 7) h1
  obtain ⟨x1, m1, rfl, r1⟩ := exc (n := 6) r0
  obtain ⟨x2, m2, rfl, r2⟩ := exc (n := 5) r1
  obtain ⟨x3, m3, rfl, r3⟩ := exc (n := 4) r2
  obtain ⟨x4, m4, rfl, r4⟩ := exc (n := 3) r3
  obtain ⟨x5, m5, rfl, r5⟩ := exc (n := 2) r4
  obtain ⟨x6, m6, rfl, r6⟩ := exc (n := 1) r5
  obtain ⟨x7, m7, rfl, r7⟩ := exc (n := 0) r6
  show Apart (ub x0.toNat :: ub x1.toNat :: ub1 c :: ub c :: ub3 (be [x4, x5, x6, x7]) :: ub2 (be [x4, x5, x6, x7]) :: ub1 (be [x4, x5, x6, x7]) :: ub (be [x4, x5, x6, x7]) :: m7) _ 2
  rw [ub_nat1, ub_nat1, b4_]
  exact apart_set (l := x0 :: x1 :: x2 :: x3 :: x4 :: x5 :: x6 :: x7 :: m7) (r := 2)
theorem ud_near {m : List UInt8} {c n : Nat} (h1 : 8 ≤ m.length) (hn : n = be ((m.drop 4).take 2)) : Apart (udB (be (m.take 2)) (be ((m.drop 2).take 2)) n c (m.drop 8)) m 6 := by
  subst hn
  obtain ⟨x0, m0, rfl, r0⟩ := exc (n := 7) h1
  obtain ⟨x1, m1, rfl, r1⟩ := exc (n := 6) r0
  obtain ⟨x2, m2, rfl, r2⟩ := exc (n := 5) r1
  obtain ⟨x3, m3, rfl, r3⟩ := exc (n := 4) r2
  obtain ⟨x4, m4, rfl, r4⟩ := exc (n := 3) r3
  obtain ⟨x5, m5, rfl, r5⟩ := exc (n := 2) r4
  obtain ⟨x6, m6, rfl, r6⟩ := exc (n := 1) r5
  obtain ⟨x7, m7, rfl, r7⟩ := exc (n := 0) r6
  show Apart (ub1 (be [x0, x1]) :: ub (be [x0, x1]) :: ub1 (be [x2, x3]) :: ub (be [x2, x3]) :: ub1 (be [x4, x5]) :: ub (be [x4, x5]) :: ub1 c :: ub c :: m7) _ 6
  rw [b2_, b2_, b2_]
  exact apart_set (l := x0 :: x1 :: x2 :: x3 :: x4 :: x5 :: x6 :: x7 :: m7) (r := 6)
theorem tc_near {m : List UInt8} {c x : Nat} {O : List UInt8} (h1 : 20 ≤ m.length) (hx : x = be ((m.drop 12).take 2)) (hO : O = m.drop 20) : Apart (tcB (be (m.take 2)) (be ((m.drop 2).take 2)) (be ((m.drop 4).take 4)) (be ((m.drop 8).take 4)) x (be ((m.drop 14).take 2)) c (be ((m.drop 18).take 2)) O) m 16 := by
  subst hx; subst hO
  obtain ⟨x0, m0, rfl, r0⟩ := exc (n := 19) h1
  obtain ⟨x1, m1, rfl, r1⟩ := exc (n := 18) r0
  obtain ⟨x2, m2, rfl, r2⟩ := exc (n := 17) r1
  obtain ⟨x3, m3, rfl, r3⟩ := exc (n := 16) r2
  obtain ⟨x4, m4, rfl, r4⟩ := exc (n := 15) r3
  obtain ⟨x5, m5, rfl, r5⟩ := exc (n := 14) r4
  obtain ⟨x6, m6, rfl, r6⟩ := exc (n := 13) r5
  obtain ⟨x7, m7, rfl, r7⟩ := exc (n := 12) r6
  obtain ⟨x8, m8, rfl, r8⟩ := exc (n := 11) r7
  obtain ⟨x9, m9, rfl, r9⟩ := exc (n := 10) r8
  obtain ⟨x10, m10, rfl, r10⟩ := exc (n := 9) r9
  obtain ⟨x11, m11, rfl, r11⟩ := exc (n := 8) r10
  obtain ⟨x12, m12, rfl, r12⟩ := exc (n := 7) r11
  obtain ⟨x13, m13, rfl, r13⟩ := exc (n := 6) r12
  obtain ⟨x14, m14, rfl, r14⟩ := exc (n := 5) r13
  obtain ⟨x15, m15, rfl, r15⟩ := exc (n := 4) r14
  obtain ⟨x16, m16, rfl, r16⟩ := exc (n := 3) r15
  obtain ⟨x17, m17, rfl, r17⟩ := exc (n := 2) r16
  obtain ⟨x18, m18, rfl, r18⟩ := exc (n := 1) r17
  obtain ⟨x19, m19, rfl, r19⟩ := exc (n := 0) r18
  show Apart (ub1 (be [x0, x1]) :: ub (be [x0, x1]) :: ub1 (be [x2, x3]) :: ub (be [x2, x3]) :: ub3 (be [x4, x5, x6, x7]) :: ub2 (be [x4, x5, x6, x7]) :: ub1 (be [x4, x5, x6, x7]) :: ub (be [x4, x5, x6, x7]) :: ub3 (be [x8, x9, x10, x11]) :: ub2 (be [x8, x9, x10, x11]) :: ub1 (be [x8, x9, x10, x11]) :: ub (be [x8, x9, x10, x11]) :: ub1 (be [x12, x13]) :: ub (be [x12, x13]) :: ub1 (be [x14, x15]) :: ub (be [x14, x15]) :: ub1 c :: ub c :: ub1 (be [x18, x19]) :: ub (be [x18, x19]) :: m19) _ 16
  rw [b2_, b2_, b4_, b4_, b2_, b2_, b2_]
  exact apart_set (l := x0 :: x1 :: x2 :: x3 :: x4 :: x5 :: x6 :: x7 :: x8 :: x9 :: x10 :: x11 :: x12 :: x13 :: x14 :: x15 :: x16 :: x17 :: x18 :: x19 :: m19) (r := 16)
theorem tc_x {m : List UInt8} (h1 : 20 ≤ m.length) : (4 * ((m.getD 12 0).toNat / 16)) / 4 * 4096 + be ((m.drop 12).take 2) % 4096 = be ((m.drop 12).take 2) := by
  obtain ⟨x0, m0, rfl, r0⟩ := exc (n := 19) h1
  obtain ⟨x1, m1, rfl, r1⟩ := exc (n := 18) r0
  obtain ⟨x2, m2, rfl, r2⟩ := exc (n := 17) r1
  obtain ⟨x3, m3, rfl, r3⟩ := exc (n := 16) r2
  obtain ⟨x4, m4, rfl, r4⟩ := exc (n := 15) r3
  obtain ⟨x5, m5, rfl, r5⟩ := exc (n := 14) r4
  obtain ⟨x6, m6, rfl, r6⟩ := exc (n := 13) r5
  obtain ⟨x7, m7, rfl, r7⟩ := exc (n := 12) r6
  obtain ⟨x8, m8, rfl, r8⟩ := exc (n := 11) r7
  obtain ⟨x9, m9, rfl, r9⟩ := exc (n := 10) r8
  obtain ⟨x10, m10, rfl, r10⟩ := exc (n := 9) r9
  obtain ⟨x11, m11, rfl, r11⟩ := exc (n := 8) r10
  obtain ⟨x12, m12, rfl, r12⟩ := exc (n := 7) r11
  obtain ⟨x13, m13, rfl, r13⟩ := exc (n := 6) r12
  obtain ⟨x14, m14, rfl, r14⟩ := exc (n := 5) r13
  obtain ⟨x15, m15, rfl, r15⟩ := exc (n := 4) r14
  obtain ⟨x16, m16, rfl, r16⟩ := exc (n := 3) r15
  obtain ⟨x17, m17, rfl, r17⟩ := exc (n := 2) r16
  obtain ⟨x18, m18, rfl, r18⟩ := exc (n := 1) r17
  obtain ⟨x19, m19, rfl, r19⟩ := exc (n := 0) r18
  show (4 * (x12.toNat / 16)) / 4 * 4096 + be [x12, x13] % 4096 = be [x12, x13]
  rw [be_c2]
  have := u8_lt x12; have := u8_lt x13
  omega

end Go.Proofs.Ytcedoopcjlekcaa
