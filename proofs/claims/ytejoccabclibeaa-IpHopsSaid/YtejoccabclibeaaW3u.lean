/-
  Contracts of functions of chapter 03: each theorem says what a call of one function answers, for all arguments that its hypotheses let in.
-/
import Derived.Test.YtejoccabclibeaaW3t
set_option linter.unusedVariables false
set_option linter.unusedSimpArgs false
set_option maxRecDepth 100000
set_option maxHeartbeats 1000000
namespace Go.Proofs.Ytejoccabclibeaa
open Go Go.SL Go.Proofs

theorem w_HopX {l : List UInt8} (hl : l.length ≤ 200000000000000) (h : ¬ hopOK l) : Spec0 Try.prog 8 [.im 1 (l.map byteAV)] (.tup [.im 1 (([] : List UInt8).map byteAV), .sc (.bool false)]) := by
  by_cases h0 : hdE l = 0
  · exact w_HopX2 hl h0 h
  · exact w_HopX1 hl h0
theorem w_refHopX {l : List UInt8} (hl : l.length ≤ 200000000000000) (h : ¬ hopOK l) : Spec0 Try.prog 9 [.im 1 (l.map byteAV)] (.tup [.im 1 (([] : List UInt8).map byteAV), .sc (.bool false)]) := by
  rcases Nat.lt_or_ge l.length 20 with h1 | h1
  · exact w_refHopX1 hl h1
  · by_cases h2 : decE (padN l (be (sub l 2 2))) = 0
    · exact w_refHopX3 hl h1 h2 h
    · exact w_refHopX2 hl h1 h2
open Classical in
/-- What a hop answers. -/
noncomputable def hopT (l : List UInt8) : Bool := decide (hopOK l)
open Classical in
noncomputable def hopR (l : List UInt8) : List UInt8 := if hopOK l then hopB l else []
theorem hopT_iff {l : List UInt8} : hopT l = true ↔ hopOK l := by unfold hopT; simp
theorem hopT_no {l : List UInt8} (h : ¬ hopOK l) : hopT l = false := by unfold hopT; simp [h]
theorem hopT_yes {l : List UInt8} (h : hopOK l) : hopT l = true := hopT_iff.2 h
theorem hopR_no {l : List UInt8} (h : ¬ hopOK l) : hopR l = [] := by unfold hopR; rw [if_neg h]
theorem hopR_yes {l : List UInt8} (h : hopOK l) : hopR l = hopB l := by unfold hopR; rw [if_pos h]
theorem w_Hop {l : List UInt8} (hl : l.length ≤ 200000000000000) : Spec0 Try.prog 8 [.im 1 (l.map byteAV)] (.tup [.im 1 ((hopR l).map byteAV), .sc (.bool (hopT l))]) := by
  by_cases h : hopOK l
  · rw [hopT_yes h, hopR_yes h]; exact w_HopG hl h
  · rw [hopT_no h, hopR_no h]; exact w_HopX hl h
theorem w_refHop {l : List UInt8} (hl : l.length ≤ 200000000000000) : Spec0 Try.prog 9 [.im 1 (l.map byteAV)] (.tup [.im 1 ((hopR l).map byteAV), .sc (.bool (hopT l))]) := by
  by_cases h : hopOK l
  · rw [hopT_yes h, hopR_yes h]; exact w_refHopG hl h
  · rw [hopT_no h, hopR_no h]; exact w_refHopX hl h


theorem sub_set {l : List UInt8} {i a k : Nat} {v : UInt8} (h : a + k ≤ i) : sub (l.set i v) a k = sub l a k := by
  unfold sub
  apply List.ext_getElem?
  intro j
  rw [List.getElem?_take, List.getElem?_take]
  split
  · rw [List.getElem?_drop, List.getElem?_drop, List.getElem?_set_ne (by omega)]
  · rfl
theorem ws_sub {l : List UInt8} {n : Nat} : ∀ k, k ≤ n → ws (sub l 0 n) k = ws l k := by
  intro k
  induction k with
  | zero => intro _; rfl
  | succ k ih =>
    intro h
    rw [ws_succ, ws_succ, ih (by omega)]
    have : (sub l 0 n).getD k 0 = l.getD k 0 := by
      unfold sub
      rw [List.drop_zero, List.getD_eq_getElem?_getD, List.getD_eq_getElem?_getD, List.getElem?_take_of_lt (by omega)]
    rw [this]
/-- A head that can be sent on, but for its time to live. -/
def good (l : List UInt8) : Prop := hdE l = 0 ∧ hdS l ≤ be (sub l 2 2) % 4294967296 ∧ fo (ws l (hdS l)) = 65535
theorem good_of {l : List UInt8} (h : hopOK l) : good l := by
  obtain ⟨h0, h1, h2, _⟩ := h
  obtain ⟨q1, q2, q3⟩ := hd_ok h0
  have hlen : (sub l 0 (hdS l)).length = hdS l := by unfold sub; rw [List.length_take, List.length_drop]; omega
  rw [hlen, ws_sub _ (Nat.le_refl _)] at h2
  exact ⟨h0, h1, h2⟩
theorem hopB_len (l : List UInt8) : (hopB l).length = l.length := by unfold hopB; rw [putN_len]; unfold hopC; rw [List.length_set]
theorem hop_good {l : List UInt8} (h : hopOK l) : good (hopB l) ∧ ((hopB l).getD 8 0).toNat + 1 = (l.getD 8 0).toNat := by
  obtain ⟨g0, g1, g2⟩ := good_of h
  obtain ⟨q1, q2, q3⟩ := hd_ok g0
  have hf := hd_form g0
  have ht := h.2.2.2
  have e1 : hopB l = ((hopC l).set 11 (byteOf (hopN l) 0)).set 10 (byteOf (hopN l) 8) := rfl
  have hlC : (hopC l).length = l.length := by unfold hopC; rw [List.length_set]
  have x8 := u8_lt (l.getD 8 0)
  have x9 := u8_lt (l.getD 9 0)
  have x10 := u8_lt (l.getD 10 0)
  have x11 := u8_lt (l.getD 11 0)
  have c8 : ((hopC l).getD 8 0).toNat = (l.getD 8 0).toNat - 1 := by unfold hopC; rw [getD_eq (by omega), UInt8.toNat_ofNat']; omega
  have c9 : (hopC l).getD 9 0 = l.getD 9 0 := by unfold hopC; rw [getD_ne (by decide)]
  have c10 : (hopC l).getD 10 0 = l.getD 10 0 := by unfold hopC; rw [getD_ne (by decide)]
  have c11 : (hopC l).getD 11 0 = l.getD 11 0 := by unfold hopC; rw [getD_ne (by decide)]
  have b0 : (hopB l).getD 0 0 = l.getD 0 0 := by rw [e1, getD_ne (by decide), getD_ne (by decide)]; unfold hopC; rw [getD_ne (by decide)]
  have b8 : ((hopB l).getD 8 0).toNat = (l.getD 8 0).toNat - 1 := by rw [e1, getD_ne (by decide), getD_ne (by decide), c8]
  have hS : hdS (hopB l) = hdS l := by unfold hdS; rw [b0]
  have hT : sub (hopB l) 2 2 = sub l 2 2 := by rw [e1, sub_set (by decide), sub_set (by decide)]; unfold hopC; rw [sub_set (by decide)]
  have hE : hdE (hopB l) = 0 := hd_zero (by rw [hopB_len]; omega) (by rw [b0]; exact hf) (by omega) (by rw [hS, hopB_len]; omega)
  have hN : hopN l = 65535 - fo ((65535 - ((l.getD 10 0).toNat * 256 + (l.getD 11 0).toNat)) + (65535 - ((l.getD 8 0).toNat * 256 + (l.getD 9 0).toNat)) + (((l.getD 8 0).toNat - 1) * 256 + (l.getD 9 0).toNat)) := by
    unfold hopN
    rw [u16_of (by omega), u16_of (by omega), u16_of (by omega), c8, c9]
  have w10 : wt 10 = 256 := rfl
  have w11 : wt 11 = 1 := rfl
  have w8 : wt 8 = 256 := rfl
  have s1 := ws_set (l := l) (i := 8) (v := UInt8.ofNat ((l.getD 8 0).toNat - 1)) (hdS l) (by omega) (by omega)
  have s2 := ws_set (l := hopC l) (i := 11) (v := byteOf (hopN l) 0) (hdS l) (by omega) (by omega)
  have s3 := ws_set (l := (hopC l).set 11 (byteOf (hopN l) 0)) (i := 10) (v := byteOf (hopN l) 8) (hdS l) (by omega) (by rw [List.length_set]; omega)
  rw [← e1, getD_ne (by decide), c10, w10] at s3
  rw [c11, w11] at s2
  have c8' : (UInt8.ofNat ((l.getD 8 0).toNat - 1)).toNat = (l.getD 8 0).toNat - 1 := by rw [UInt8.toNat_ofNat']; omega
  rw [c8', w8] at s1
  change ws (hopC l) (hdS l) + _ = _ at s1
  have hb : (byteOf (hopN l) 8).toNat * 256 + (byteOf (hopN l) 0).toNat = hopN l := by
    have : hopN l ≤ 65535 := by rw [hN]; omega
    simp only [byteOf, UInt8.toNat_ofNat']; omega
  have hge := ws_ge (hopB l) (hdS l) (by omega)
  rw [b0] at hge
  have t := fo_top.1 g2
  have hp := fo_pos (x := (65535 - ((l.getD 10 0).toNat * 256 + (l.getD 11 0).toNat)) + (65535 - ((l.getD 8 0).toNat * 256 + (l.getD 9 0).toNat)) + (((l.getD 8 0).toNat - 1) * 256 + (l.getD 9 0).toNat)) (by omega)
  generalize fo ((65535 - ((l.getD 10 0).toNat * 256 + (l.getD 11 0).toNat)) + (65535 - ((l.getD 8 0).toNat * 256 + (l.getD 9 0).toNat)) + (((l.getD 8 0).toNat - 1) * 256 + (l.getD 9 0).toNat)) = G at *
  refine ⟨⟨hE, by rw [hS, hT]; exact g1, ?_⟩, by omega⟩
  rw [hS]
  generalize ws (hopB l) (hdS l) = A3 at *
  generalize ws ((hopC l).set 11 (byteOf (hopN l) 0)) (hdS l) = A2 at *
  generalize ws (hopC l) (hdS l) = A1 at *
  generalize ws l (hdS l) = A0 at *
  generalize (byteOf (hopN l) 8).toNat = p at *
  generalize (byteOf (hopN l) 0).toNat = r at *
  generalize hopN l = NN at *
  generalize (l.getD 8 0).toNat = y8 at *
  generalize (l.getD 9 0).toNat = y9 at *
  generalize (l.getD 10 0).toNat = y10 at *
  generalize (l.getD 11 0).toNat = y11 at *
  generalize (l.getD 0 0).toNat = y0 at *
  refine fo_top.2 ⟨by omega, by omega⟩


theorem hop_start {l : List UInt8} (hl : l.length ≤ 200000000000000) : (0 : Nat) ≤ 256 ∧ (hopT l = true → good (hopR l) ∧ ((hopR l).getD 8 0).toNat + 0 ≤ 254 ∧ (hopR l).length ≤ 200000000000000) := by
  refine ⟨by omega, fun h => ?_⟩
  have hk := hopT_iff.1 h
  obtain ⟨g1, g2⟩ := hop_good hk
  rw [hopR_yes hk]
  have := byte_le (l.getD 8 0)
  exact ⟨g1, by omega, by rw [hopB_len]; exact hl⟩
theorem hop_next {c : List UInt8} {n : Nat} (hn : n + 1 ≤ 256) (hg : good c) (ht : (c.getD 8 0).toNat + n ≤ 254) (hl : c.length ≤ 200000000000000) :
    n + 1 ≤ 256 ∧ (hopT c = true → good (hopR c) ∧ ((hopR c).getD 8 0).toNat + (n + 1) ≤ 254 ∧ (hopR c).length ≤ 200000000000000) := by
  refine ⟨hn, fun h => ?_⟩
  have hk := hopT_iff.1 h
  obtain ⟨g1, g2⟩ := hop_good hk
  rw [hopR_yes hk]
  exact ⟨g1, by omega, by rw [hopB_len]; exact hl⟩
theorem good_sum {c : List UInt8} (h : good c) : fo (ws (List.take (hdS c) (List.drop 0 c)) (List.take (hdS c) (List.drop 0 c)).length) = 65535 := by
  obtain ⟨g0, g1, g2⟩ := h
  obtain ⟨q1, q2, q3⟩ := hd_ok g0
  have hlen : (sub c 0 (hdS c)).length = hdS c := by unfold sub; rw [List.length_take, List.length_drop]; omega
  show fo (ws (sub c 0 (hdS c)) (sub c 0 (hdS c)).length) = 65535
  rw [hlen, ws_sub _ (Nat.le_refl _)]; exact g2

end Go.Proofs.Ytejoccabclibeaa
