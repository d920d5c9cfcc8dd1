/-
  Contracts of functions of chapter 03: each theorem says what a call of one function answers, for all arguments that its hypotheses let in.
-/
import Derived.Test.YtejoccabclibeaaW3g
import Derived.Test.YtejoccabclibeaaW3b
set_option linter.unusedVariables false
set_option linter.unusedSimpArgs false
set_option maxRecDepth 100000
set_option maxHeartbeats 1000000
namespace Go.Proofs.Ytejoccabclibeaa
open Go Go.SL Go.Proofs
/-- A place's weight in the sum. -/
def wt (i : Nat) : Nat := if i % 2 = 0 then 256 else 1
theorem ws_succ (l : List UInt8) (i : Nat) : ws l (i + 1) = ws l i + (l.getD i 0).toNat * wt i := by
  simp only [ws, wt]; split <;> simp
theorem ws_set {l : List UInt8} {i : Nat} {v : UInt8} : ∀ n, i < n → i < l.length → ws (l.set i v) n + (l.getD i 0).toNat * wt i = ws l n + v.toNat * wt i := by
  have hlow : ∀ n, n ≤ i → ws (l.set i v) n = ws l n := by
    intro n
    induction n with
    | zero => intro _; rfl
    | succ n ih =>
      intro h
      rw [ws_succ, ws_succ, ih (by omega)]
      have : (l.set i v).getD n 0 = l.getD n 0 := by simp [List.getD, List.getElem?_set_ne (show i ≠ n by omega)]
      rw [this]
  intro n
  induction n with
  | zero => intro h; omega
  | succ n ih =>
    intro h hl
    rw [ws_succ, ws_succ]
    by_cases hn : i = n
    · subst hn
      rw [hlow i (Nat.le_refl _)]
      have : (l.set i v).getD i 0 = v := by simp [List.getD, hl]
      rw [this]; omega
    · have h1 := ih (by omega) hl
      have : (l.set i v).getD n 0 = l.getD n 0 := by simp [List.getD, List.getElem?_set_ne hn]
      rw [this]; omega
theorem exc {n : Nat} {l : List UInt8} (h : n + 1 ≤ l.length) : ∃ x t, l = x :: t ∧ n ≤ t.length := by
  cases l with
  | nil => simp at h
  | cons x t => exact ⟨x, t, rfl, by simpa using h⟩
theorem be_two (x y : UInt8) : be [x, y] = x.toNat * 256 + y.toNat := by simp [be]
theorem be_four (x y z u : UInt8) : be [x, y, z, u] = ((x.toNat * 256 + y.toNat) * 256 + z.toNat) * 256 + u.toNat := by simp [be]
theorem u8_eq {x : UInt8} {n : Nat} (h : n % 256 = x.toNat) : UInt8.ofNat n = x := by
  apply UInt8.toNat_inj.1
  rw [UInt8.toNat_ofNat']
  exact h
theorem u8_lt (x : UInt8) : x.toNat < 256 := x.toNat_lt
theorem b2_of (x y : UInt8) : b2 (x.toNat * 256 + y.toNat) = [x, y] := by
  have h1 := u8_lt x; have h2 := u8_lt y
  simp only [b2, byteOf]
  rw [u8_eq (x := x) (by simp; omega), u8_eq (x := y) (by simp)]
theorem b4_of (x y z u : UInt8) : b4 (((x.toNat * 256 + y.toNat) * 256 + z.toNat) * 256 + u.toNat) = [x, y, z, u] := by
  have h1 := u8_lt x; have h2 := u8_lt y; have h3 := u8_lt z; have h4 := u8_lt u
  simp only [b4, byteOf]
  rw [u8_eq (x := x) (by simp; omega), u8_eq (x := y) (by simp; omega), u8_eq (x := z) (by simp; omega), u8_eq (x := u) (by simp)]
theorem be_b2 {n : Nat} (h : n < 65536) : be (b2 n) = n := by
  rw [b2, be_two]; simp only [byteOf, UInt8.toNat_ofNat']; omega
theorem be_b4 {n : Nat} (h : n < 4294967296) : be (b4 n) = n := by
  rw [b4, be_four]; simp only [byteOf, UInt8.toNat_ofNat']; omega
theorem fo_pos {x : Nat} (h : 0 < x) : 1 ≤ fo x ∧ fo x ≤ 65535 ∧ (fo x) % 65535 = x % 65535 := by
  unfold fo; rw [if_neg (by omega)]; omega
theorem fo_top {x : Nat} : fo x = 65535 ↔ 0 < x ∧ x % 65535 = 0 := by
  unfold fo; split <;> omega
/-- What the options of a head are. -/
def optsOf (l : List UInt8) : List UInt8 := sub l 20 (hdS l - 20)
theorem enc_dec {l : List UInt8} (h0 : hdE l = 0) (hle : hdS l ≤ be (sub l 2 2)) :
    enc0 (l.getD 1 0).toNat (be (sub l 4 2)) (be (sub l 6 2)) (l.getD 8 0).toNat (l.getD 9 0).toNat (be (sub l 12 4)) (be (sub l 16 4)) (optsOf l) (be (sub l 2 2) - hdS l) = ((sub l 0 (hdS l)).set 10 0).set 11 0 := by
  obtain ⟨q1, q2, q3⟩ := hd_ok h0
  have hf := hd_form h0
  have hlen : (optsOf l).length = hdS l - 20 := by simp only [optsOf, sub, List.length_take, List.length_drop]; omega
  have hS : hdS l = 4 * ((l.getD 0 0).toNat % 16) := rfl
  unfold enc0
  rw [hlen, show 20 + (hdS l - 20) = hdS l by omega, show hdS l + (be (sub l 2 2) - hdS l) = be (sub l 2 2) by omega]
  generalize hn : hdS l = n at *
  obtain ⟨k, rfl⟩ : ∃ k, n = k + 20 := ⟨n - 20, by omega⟩
  have ho : optsOf l = (l.drop 20).take k := by unfold optsOf; rw [hn]; rfl
  rw [ho]
  clear ho hlen hn h0 q2 q3 hle
  obtain ⟨x0, l0, e0, r0⟩ := exc (n := 19) q1
  subst e0
  obtain ⟨x1, l1, e1, r1⟩ := exc r0
  subst e1
  obtain ⟨x2, l2, e2, r2⟩ := exc r1
  subst e2
  obtain ⟨x3, l3, e3, r3⟩ := exc r2
  subst e3
  obtain ⟨x4, l4, e4, r4⟩ := exc r3
  subst e4
  obtain ⟨x5, l5, e5, r5⟩ := exc r4
  subst e5
  obtain ⟨x6, l6, e6, r6⟩ := exc r5
  subst e6
  obtain ⟨x7, l7, e7, r7⟩ := exc r6
  subst e7
  obtain ⟨x8, l8, e8, r8⟩ := exc r7
  subst e8
  obtain ⟨x9, l9, e9, r9⟩ := exc r8
  subst e9
  obtain ⟨x10, l10, e10, r10⟩ := exc r9
  subst e10
  obtain ⟨x11, l11, e11, r11⟩ := exc r10
  subst e11
  obtain ⟨x12, l12, e12, r12⟩ := exc r11
  subst e12
  obtain ⟨x13, l13, e13, r13⟩ := exc r12
  subst e13
  obtain ⟨x14, l14, e14, r14⟩ := exc r13
  subst e14
  obtain ⟨x15, l15, e15, r15⟩ := exc r14
  subst e15
  obtain ⟨x16, l16, e16, r16⟩ := exc r15
  subst e16
  obtain ⟨x17, l17, e17, r17⟩ := exc r16
  subst e17
  obtain ⟨x18, l18, e18, r18⟩ := exc r17
  subst e18
  obtain ⟨x19, l19, e19, r19⟩ := exc r18
  subst e19
  have e0 : UInt8.ofNat (64 + (k + 20) / 4) = x0 := u8_eq (by
    have hd : ∀ t : List UInt8, (x0 :: t).getD 0 0 = x0 := fun t => rfl
    rw [hd] at hS hf
    have := u8_lt x0
    omega)
  have z1 : ∀ x : UInt8, UInt8.ofNat x.toNat = x := fun x => u8_eq (Nat.mod_eq_of_lt (u8_lt x))
  rw [e0]
  show [x0, UInt8.ofNat x1.toNat] ++ b2 (be [x2, x3]) ++ b2 (be [x4, x5]) ++ b2 (be [x6, x7]) ++ [UInt8.ofNat x8.toNat, UInt8.ofNat x9.toNat, 0, 0] ++ b4 (be [x12, x13, x14, x15]) ++ b4 (be [x16, x17, x18, x19]) ++ l19.take k = _
  rw [be_two, be_two, be_two, be_four, be_four, b2_of, b2_of, b2_of, b4_of, b4_of, z1, z1, z1]
  rfl
theorem getD_ne {l : List UInt8} {i j : Nat} {v : UInt8} (h : i ≠ j) : (l.set i v).getD j 0 = l.getD j 0 := by
  rw [List.getD_eq_getElem?_getD, List.getD_eq_getElem?_getD, List.getElem?_set_ne h]
theorem getD_eq {l : List UInt8} {i : Nat} {v : UInt8} (h : i < l.length) : (l.set i v).getD i 0 = v := by
  rw [List.getD_eq_getElem?_getD, List.getElem?_set_self h]; rfl
theorem ws_ge (l : List UInt8) : ∀ n, 1 ≤ n → (l.getD 0 0).toNat * 256 ≤ ws l n := by
  intro n
  induction n with
  | zero => intro h; omega
  | succ n ih =>
    intro _
    rw [ws_succ]
    rcases Nat.eq_zero_or_pos n with h | h
    · subst h; simp [ws, wt]
    · have := ih h; omega
theorem enc0_len (a0 a1 a2 a3 a4 a5 a6 : Nat) (o : List UInt8) (d : Nat) : (enc0 a0 a1 a2 a3 a4 a5 a6 o d).length = 20 + o.length := by
  simp only [enc0, b2, b4, List.length_append, List.length_cons, List.length_nil]
theorem encB_len (a0 a1 a2 a3 a4 a5 a6 : Nat) (o : List UInt8) (d : Nat) : (encB a0 a1 a2 a3 a4 a5 a6 o d).length = 20 + o.length := by
  simp only [encB, List.length_set, enc0_len]
/-- The check sum makes the sum whole. -/
theorem chk_sum {E : List UInt8} (h12 : 12 ≤ E.length) (h10 : E.getD 10 0 = 0) (h11 : E.getD 11 0 = 0) (h0 : 64 ≤ (E.getD 0 0).toNat) {c : Nat} (hc : c = 65535 - fo (ws E E.length)) :
    fo (ws ((E.set 10 (byteOf c 8)).set 11 (byteOf c 0)) E.length) = 65535 := by
  have h1 := ws_set (l := E) (i := 10) (v := byteOf c 8) E.length (by omega) (by omega)
  have h2 := ws_set (l := E.set 10 (byteOf c 8)) (i := 11) (v := byteOf c 0) E.length (by omega) (by rw [List.length_set]; omega)
  have e11 : (E.set 10 (byteOf c 8)).getD 11 0 = 0 := by rw [getD_ne (by decide)]; exact h11
  rw [h10] at h1
  rw [e11] at h2
  have z : (0 : UInt8).toNat = 0 := rfl
  have w10 : wt 10 = 256 := rfl
  have w11 : wt 11 = 1 := rfl
  rw [z, w10] at h1
  rw [z, w11] at h2
  have hpos : 0 < ws E E.length := by have := ws_ge E E.length (by omega); omega
  have hp := fo_pos hpos
  have hb : (byteOf c 8).toNat * 256 + (byteOf c 0).toNat = c := by simp only [byteOf, UInt8.toNat_ofNat']; omega
  generalize ws ((E.set 10 (byteOf c 8)).set 11 (byteOf c 0)) E.length = A at *
  generalize ws (E.set 10 (byteOf c 8)) E.length = B at *
  generalize ws E E.length = D at *
  generalize fo D = G at *
  generalize (byteOf c 8).toNat = p at *
  generalize (byteOf c 0).toNat = q at *
  refine fo_top.2 ?_
  constructor
  · omega
  · omega
theorem dec_enc {l : List UInt8} (h : decE l = 0) {c : List UInt8}
    (hc : c = encB (l.getD 1 0).toNat (be (sub l 4 2)) (be (sub l 6 2)) (l.getD 8 0).toNat (l.getD 9 0).toNat (be (sub l 12 4)) (be (sub l 16 4)) (optsOf l) (be (sub l 2 2) - hdS l)) :
    c.length = hdS l ∧ (∀ i, i < hdS l → i ≠ 10 → i ≠ 11 → c.getD i 0 = l.getD i 0) ∧ ((l.getD 10 0 = 255 ∧ l.getD 11 0 = 255) ∨ (c.getD 10 0 = l.getD 10 0 ∧ c.getD 11 0 = l.getD 11 0)) := by
  obtain ⟨h0, hA, hB, hC⟩ := decE_ok h
  obtain ⟨q1, q2, q3⟩ := hd_ok h0
  have hf := hd_form h0
  have hlen : (sub l 0 (hdS l)).length = hdS l := by simp only [sub, List.length_take, List.length_drop]; omega
  have hget : ∀ i, i < hdS l → (sub l 0 (hdS l)).getD i 0 = l.getD i 0 := fun i hi => by simp [sub, List.getD, List.getElem?_take_of_lt hi]
  rw [hlen] at hC
  unfold encB at hc
  rw [enc_dec h0 hB] at hc
  generalize hS : sub l 0 (hdS l) = S at *
  generalize hn : hdS l = n at *
  have hlen2 : ((S.set 10 0).set 11 0).length = n := by simp only [List.length_set, hlen]
  simp only [hlen2] at hc
  have g1 := ws_set (l := S) (i := 10) (v := 0) n (by omega) (by omega)
  have g2 := ws_set (l := S.set 10 0) (i := 11) (v := 0) n (by omega) (by rw [List.length_set]; omega)
  have e11 : (S.set 10 0).getD 11 0 = S.getD 11 0 := getD_ne (by decide)
  rw [e11] at g2
  have z : (0 : UInt8).toNat = 0 := rfl
  have w10 : wt 10 = 256 := rfl
  have w11 : wt 11 = 1 := rfl
  rw [z, w10] at g1
  rw [z, w11] at g2
  have e00 : ((S.set 10 0).set 11 0).getD 0 0 = S.getD 0 0 := by rw [getD_ne (by decide), getD_ne (by decide)]
  have hpos : 0 < ws ((S.set 10 0).set 11 0) n := by
    have := ws_ge ((S.set 10 0).set 11 0) n (by omega)
    rw [e00, hget 0 (by omega)] at this
    omega
  have hp := fo_pos hpos
  have ht := fo_top.1 hC
  generalize hW : fo (ws ((S.set 10 0).set 11 0) n) = W at *
  have k1 := u8_lt (S.getD 10 0)
  have k2 := u8_lt (S.getD 11 0)
  refine ⟨by rw [hc]; simp only [List.length_set, hlen], fun i hi h10 h11 => ?_, ?_⟩
  · rw [hc, ← hget i hi]
    rw [getD_ne (by omega), getD_ne (by omega), getD_ne (by omega), getD_ne (by omega)]
  · rw [← hget 10 (by omega), ← hget 11 (by omega)]
    by_cases hh : (S.getD 10 0).toNat * 256 + (S.getD 11 0).toNat = 65535
    · left
      constructor <;> apply UInt8.toNat_inj.1 <;> show _ = 255 <;> omega
    · right
      have hchk : 65535 - W = (S.getD 10 0).toNat * 256 + (S.getD 11 0).toNat := by omega
      have hb := b2_of (S.getD 10 0) (S.getD 11 0)
      rw [← hchk, b2] at hb
      injection hb with hb1 hb2
      injection hb2 with hb2 _
      rw [hc]
      constructor
      · skip
        rw [getD_ne (by decide), getD_eq (by rw [hlen2]; omega), hb1]
      · skip
        rw [getD_eq (by rw [List.length_set, hlen2]; omega), hb2]
theorem enc_sum {a0 a1 a2 a3 a4 a5 a6 d : Nat} {o : List UInt8} (hs : o.length ≤ 40) : fo (ws (encB a0 a1 a2 a3 a4 a5 a6 o d) (20 + o.length)) = 65535 := by
  have h := chk_sum (E := enc0 a0 a1 a2 a3 a4 a5 a6 o d) (c := _) (by rw [enc0_len]; omega) rfl rfl (by
    show 64 ≤ (UInt8.ofNat (64 + (20 + o.length) / 4)).toNat
    rw [UInt8.toNat_ofNat']; omega) rfl
  rw [enc0_len] at h
  unfold encB
  simp only [enc0_len]
  exact h
/-- What was printed is read again, whatever stands behind. -/
theorem enc_read {a0 a1 a2 a3 a4 a5 a6 d : Nat} {o X l : List UInt8} (h0 : a0 ≤ 255) (h3 : a3 ≤ 255) (h4 : a4 ≤ 255) (h1 : a1 ≤ 65535) (h2 : a2 ≤ 65535) (h5 : a5 < 4294967296) (h6 : a6 < 4294967296) (hs : o.length ≤ 40) (h8 : o.length % 4 = 0)
    (hd : d + 20 + o.length ≤ 65535) (hX : d ≤ X.length) (hl : l = encB a0 a1 a2 a3 a4 a5 a6 o d ++ X) :
    decE l = 0 ∧ hdS l = 20 + o.length ∧ be (sub l 2 2) = 20 + o.length + d ∧ (l.getD 1 0).toNat = a0 ∧ be (sub l 4 2) = a1 ∧ be (sub l 6 2) = a2 ∧ (l.getD 8 0).toNat = a3 ∧ (l.getD 9 0).toNat = a4 ∧ be (sub l 12 4) = a5 ∧ be (sub l 16 4) = a6 ∧ sub l 20 o.length = o := by
  have hlen : l.length = 20 + o.length + X.length := by rw [hl, List.length_append, encB_len]
  have hsub : sub l 0 (20 + o.length) = encB a0 a1 a2 a3 a4 a5 a6 o d := by
    rw [hl]; unfold sub; rw [List.drop_zero, List.take_append_of_le_length (by rw [encB_len]; omega), List.take_of_length_le (by rw [encB_len]; omega)]
  generalize hc : 65535 - fo (ws (enc0 a0 a1 a2 a3 a4 a5 a6 o d) (enc0 a0 a1 a2 a3 a4 a5 a6 o d).length) = c
  have hsh : l = UInt8.ofNat (64 + (20 + o.length) / 4) :: UInt8.ofNat a0 :: byteOf (20 + o.length + d) 8 :: byteOf (20 + o.length + d) 0 :: byteOf a1 8 :: byteOf a1 0 :: byteOf a2 8 :: byteOf a2 0 :: UInt8.ofNat a3 :: UInt8.ofNat a4 :: byteOf c 8 :: byteOf c 0 ::
      byteOf a5 24 :: byteOf a5 16 :: byteOf a5 8 :: byteOf a5 0 :: byteOf a6 24 :: byteOf a6 16 :: byteOf a6 8 :: byteOf a6 0 :: (o ++ X) := by
    rw [hl]
    unfold encB
    simp only [hc]
    rfl
  have n0 : (l.getD 0 0).toNat = 64 + (20 + o.length) / 4 := by
    have : l.getD 0 0 = UInt8.ofNat (64 + (20 + o.length) / 4) := by rw [hsh]; rfl
    rw [this, UInt8.toNat_ofNat']; omega
  have hS : hdS l = 20 + o.length := by unfold hdS; rw [n0]; omega
  have hT : be (sub l 2 2) = 20 + o.length + d := by
    have : sub l 2 2 = b2 (20 + o.length + d) := by rw [hsh]; rfl
    rw [this, be_b2 (by omega)]
  have hE : hdE l = 0 := hd_zero (by omega) (by omega) (by omega) (by omega)
  refine ⟨decE_7 hE ?_ ?_ ?_, hS, hT, ?_, ?_, ?_, ?_, ?_, ?_, ?_, ?_⟩
  · show be (sub l 2 2) ≤ _; omega
  · show _ ≤ be (sub l 2 2); omega
  · show fo (ws (sub l 0 (hdS l)) (sub l 0 (hdS l)).length) = 65535
    rw [hS, hsub, encB_len]; exact enc_sum hs
  · have : l.getD 1 0 = UInt8.ofNat a0 := by rw [hsh]; rfl
    rw [this, UInt8.toNat_ofNat']; omega
  · have : sub l 4 2 = b2 a1 := by rw [hsh]; rfl
    rw [this, be_b2 (by omega)]
  · have : sub l 6 2 = b2 a2 := by rw [hsh]; rfl
    rw [this, be_b2 (by omega)]
  · have : l.getD 8 0 = UInt8.ofNat a3 := by rw [hsh]; rfl
    rw [this, UInt8.toNat_ofNat']; omega
  · have : l.getD 9 0 = UInt8.ofNat a4 := by rw [hsh]; rfl
    rw [this, UInt8.toNat_ofNat']; omega
  · have : sub l 12 4 = b4 a5 := by rw [hsh]; rfl
    rw [this, be_b4 (by omega)]
  · have : sub l 16 4 = b4 a6 := by rw [hsh]; rfl
    rw [this, be_b4 (by omega)]
  · have : sub l 20 o.length = (o ++ X).take o.length := by rw [hsh]; rfl
    rw [this, List.take_left]

end Go.Proofs.Ytejoccabclibeaa
