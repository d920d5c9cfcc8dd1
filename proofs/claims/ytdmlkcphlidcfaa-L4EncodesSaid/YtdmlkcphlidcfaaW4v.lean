/-
  Contracts of functions of chapter 04: each theorem says what a call of one function answers, for all arguments that its hypotheses let in.
-/
import Derived.Test.YtdmlkcphlidcfaaW4q
import Derived.Test.YtdmlkcphlidcfaaW4t
import Derived.Test.YtdmlkcphlidcfaaW4o
set_option linter.unusedVariables false
set_option linter.unusedSimpArgs false
set_option maxRecDepth 100000
set_option maxHeartbeats 1000000
namespace Go.Proofs.Ytdmlkcphlidcfaa
open Go Go.SL Go.Proofs

theorem be_at {l : List UInt8} {i : Nat} (h : i + 2 ≤ l.length) : be (sub l i 2) = (l.getD i 0).toNat * 256 + (l.getD (i + 1) 0).toNat := by
  have e : sub l i 2 = [l.getD i 0, l.getD (i + 1) 0] := by
    unfold sub
    apply List.ext_getElem?
    intro j
    match j with
    | 0 => simp [List.getD_eq_getElem?_getD, List.getElem?_eq_getElem (show i < l.length by omega)]
    | 1 => simp [List.getD_eq_getElem?_getD, List.getElem?_eq_getElem (show i + 1 < l.length by omega)]
    | j + 2 => simp; omega
  rw [e, be_two]
theorem zero_back {E : List UInt8} {k : Nat} (hk1 : k + 1 < E.length) (h : (E.getD k 0).toNat * 256 + (E.getD (k + 1) 0).toNat = 0) : (E.set k 0).set (k + 1) 0 = E := by
  have h0 : E.getD k 0 = 0 := UInt8.toNat_inj.1 (by show _ = 0; omega)
  have h1 : E.getD (k + 1) 0 = 0 := UInt8.toNat_inj.1 (by show _ = 0; omega)
  apply List.ext_getElem?
  intro i
  by_cases g1 : i = k + 1
  · subst g1
    rw [List.getElem?_set_self (by simp only [List.length_set]; omega), ← h1, List.getD_eq_getElem?_getD, List.getElem?_eq_getElem hk1]; rfl
  · by_cases g2 : i = k
    · subst g2
      rw [List.getElem?_set_ne (by omega), List.getElem?_set_self (by omega), ← h0, List.getD_eq_getElem?_getD, List.getElem?_eq_getElem (by omega)]; rfl
    · rw [List.getElem?_set_ne (by omega), List.getElem?_set_ne (by omega)]
theorem back_sum {E c : List UInt8} {k C : Nat} (hk : k % 2 = 0) (hk1 : k + 1 < E.length) (hs : fo (C + ws E E.length) = 65535) (hc : c = put2 ((E.set k 0).set (k + 1) 0) k (65535 - fo (C + ws ((E.set k 0).set (k + 1) 0) E.length))) :
    ∀ i, i < E.length → (c.getD i 0).toNat = (E.getD i 0).toNat ∨ (i / 2 = k / 2 ∧ (E.getD (i - i % 2) 0).toNat = 255 ∧ (E.getD (i - i % 2 + 1) 0).toNat = 255 ∧ i - i % 2 + 1 < E.length) := by
  intro i hi
  rcases chk_back hk hk1 hs with ⟨h1, _⟩ | ⟨_, h2⟩
  · have u1 := u8_lt (E.getD k 0)
    have u2 := u8_lt (E.getD (k + 1) 0)
    by_cases hik : i = k ∨ i = k + 1
    · right
      have e : i - i % 2 = k := by omega
      rw [e]
      exact ⟨by omega, by omega, by omega, by omega⟩
    · left
      rw [hc, put_else (by omega) (by omega)]
  · left
    rw [put_back hk1 hc h2]
theorem icmp_res {l : List UInt8} (h : icE l = 0) {c : List UInt8} (hc : c = encI (l.getD 0 0).toNat (l.getD 1 0).toNat (be (sub l 4 4)) (l.drop 8)) :
    c.length = l.length ∧ ∀ i, i < l.length → (c.getD i 0).toNat = (l.getD i 0).toNat ∨ (i / 2 = 1 ∧ (l.getD (i - i % 2) 0).toNat = 255 ∧ (l.getD (i - i % 2 + 1) 0).toNat = 255 ∧ i - i % 2 + 1 < l.length) := by
  obtain ⟨h8, hs⟩ := icE_ok h
  unfold encI at hc
  rw [icmp_back h8] at hc
  have hl : ((l.set 2 0).set 3 0).length = l.length := by simp
  rw [hl] at hc
  refine ⟨by rw [hc, put2_len, hl], back_sum (k := 2) (C := 0) rfl (by omega) (by rw [Nat.zero_add]; exact hs) (by rw [Nat.zero_add]; exact hc)⟩
theorem tcp_res {src dst : Nat} {l : List UInt8} (h : tcE src dst l = 0) {c : List UInt8}
    (hc : c = encT src dst (be (sub l 0 2)) (be (sub l 2 2)) (be (sub l 4 4)) (be (sub l 8 4)) (be (sub l 12 2) % 4096) (be (sub l 14 2)) (be (sub l 18 2)) (sub l 20 (tcS l - 20)) (l.drop (tcS l))) :
    c.length = l.length ∧ ∀ i, i < l.length → (c.getD i 0).toNat = (l.getD i 0).toNat ∨ (i / 2 = 8 ∧ (l.getD (i - i % 2) 0).toNat = 255 ∧ (l.getD (i - i % 2 + 1) 0).toNat = 255 ∧ i - i % 2 + 1 < l.length) := by
  obtain ⟨h20, hz, hz2, hs⟩ := tcE_ok h
  unfold encT at hc
  rw [tcp_back h20 hz hz2] at hc
  have hl : ((l.set 16 0).set 17 0).length = l.length := by simp
  simp only [hl] at hc
  exact ⟨by rw [hc, put2_len, hl], back_sum (k := 16) (C := psu src dst 6 l.length) rfl (by omega) hs hc⟩
theorem udp_res0 {l : List UInt8} (h8 : 8 ≤ l.length) (h4 : be (sub l 4 2) = l.length) (h6 : be (sub l 6 2) = 0) : udp0 (be (sub l 0 2)) (be (sub l 2 2)) (l.drop 8) = l := by
  rw [udp_back h8 h4]
  exact zero_back (by omega) (by rw [← be_at (by omega)]; exact h6)
theorem udp_res {src dst : Nat} {l : List UInt8} (h8 : 8 ≤ l.length) (h4 : be (sub l 4 2) = l.length) (h6 : be (sub l 6 2) ≠ 0) (hs : fo (psu src dst 17 l.length + ws l l.length) = 65535) :
    (udpC src dst (be (sub l 0 2)) (be (sub l 2 2)) (l.drop 8) = 0 → put2 (udp0 (be (sub l 0 2)) (be (sub l 2 2)) (l.drop 8)) 6 65535 = l) ∧
    (udpC src dst (be (sub l 0 2)) (be (sub l 2 2)) (l.drop 8) ≠ 0 → put2 (udp0 (be (sub l 0 2)) (be (sub l 2 2)) (l.drop 8)) 6 (udpC src dst (be (sub l 0 2)) (be (sub l 2 2)) (l.drop 8)) = l) := by
  rw [be_at (by omega)] at h6
  have hl : ((l.set 6 0).set 7 0).length = l.length := by simp
  have hC : udpC src dst (be (sub l 0 2)) (be (sub l 2 2)) (l.drop 8) = 65535 - fo (psu src dst 17 l.length + ws ((l.set 6 0).set 7 0) l.length) := by
    unfold udpC; rw [udp_back h8 h4, hl]
  rw [udp_back h8 h4, hC]
  rcases chk_back (k := 6) (C := psu src dst 17 l.length) rfl (by omega) hs with ⟨a, b⟩ | ⟨_, b⟩
  · have hb := b (by unfold psu; omega)
    exact ⟨fun _ => put_back (by omega) rfl a.symm, fun hne => absurd (by rw [hb]) hne⟩
  · exact ⟨fun h0 => absurd (b.symm.trans h0) h6, fun _ => put_back (by omega) rfl b⟩

end Go.Proofs.Ytdmlkcphlidcfaa
