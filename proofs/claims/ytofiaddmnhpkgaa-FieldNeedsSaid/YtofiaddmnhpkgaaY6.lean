/-
  The law FieldNeeds.
-/
import Derived.Test.YtofiaddmnhpkgaaY5
set_option linter.unusedVariables false
set_option linter.unusedSimpArgs false
set_option maxRecDepth 100000
set_option maxHeartbeats 1000000
namespace Go.Proofs.Ytofiaddmnhpkgaa
open Go Go.SL Go.Proofs
theorem uand_nat {a b : Nat} (ha : a < 18446744073709551616) (hb : b < 18446744073709551616) : uand (a : Int) (b : Int) = ((a &&& b : Nat) : Int) := by
  unfold uand
  have e1 : BitVec.ofInt 64 (a : Int) = BitVec.ofNat 64 a := by simp
  have e2 : BitVec.ofInt 64 (b : Int) = BitVec.ofNat 64 b := by simp
  have h : a &&& b ≤ a := Nat.and_le_left
  rw [e1, e2, BitVec.toNat_and, BitVec.toNat_ofNat, BitVec.toNat_ofNat, Nat.mod_eq_of_lt (by omega), Nat.mod_eq_of_lt (by omega), IntWalk.u64_in _ (by omega)]
theorem m16 {n : Nat} (h : n < 65536) : uand (n : Int) 65535 = n := by
  have := uand_nat (a := n) (b := 65535) (by omega) (by decide)
  rw [show ((65535 : Nat) : Int) = 65535 from rfl] at this
  rw [this, show (65535 : Nat) = 2 ^ 16 - 1 from rfl, Nat.and_two_pow_sub_one_eq_mod, Nat.mod_eq_of_lt (by omega)]
theorem m8 {n : Nat} (h : n < 256) : uand (n : Int) 255 = n := by
  have := uand_nat (a := n) (b := 255) (by omega) (by decide)
  rw [show ((255 : Nat) : Int) = 255 from rfl] at this
  rw [this, show (255 : Nat) = 2 ^ 8 - 1 from rfl, Nat.and_two_pow_sub_one_eq_mod, Nat.mod_eq_of_lt (by omega)]
theorem n3 {q : Pkt} (g : Good q) (v : Int) : okT (ofP q) ⟨3, v, 65535⟩ = (q.ty == v) := by
  obtain ⟨n, e, h⟩ := g.ty
  have h1 : gE (ofP q) 3 = 0 := rfl
  have h2 : gV (ofP q) 3 = n := by
    show uand (IntKind.u64.wrap q.ty) 65535 = n
    rw [e, IntWalk.u64_in _ (by omega), m16 h]
  have h3 : okT (ofP q) ⟨3, v, 65535⟩ = ((gE (ofP q) 3 == 0) && (uand (gV (ofP q) 3) 65535 == v)) := rfl
  rw [h3, h1, h2, m16 h, e]; rfl
theorem n12 {q : Pkt} (g : Good q) (v : Int) : okT (ofP q) ⟨12, v, 255⟩ = (q.isIp && q.proto == v) := by
  obtain ⟨n, e, h⟩ := g.proto
  have h3 : okT (ofP q) ⟨12, v, 255⟩ = ((gE (ofP q) 12 == 0) && (uand (gV (ofP q) 12) 255 == v)) := rfl
  have h1 : gE (ofP q) 12 = cond q.isIp 0 81 := rfl
  have h2 : gV (ofP q) 12 = cond q.isIp (uand (IntKind.u64.wrap q.proto) 255) 0 := rfl
  rw [h3, h1, h2]
  cases q.isIp
  · rfl
  · simp only [cond_true]
    rw [e, IntWalk.u64_in _ (by omega), m8 h, m8 h]; rfl
theorem wh_mod {n : Nat} (h : n < 65536) : whB (n : Int) = true → n % 16384 = 0 := by
  unfold whB
  have e1 : BitVec.ofInt 64 (n : Int) = BitVec.ofNat 64 n := by simp
  have e2 : BitVec.ofInt 64 16383 = BitVec.ofNat 64 16383 := rfl
  rw [e1, e2, BitVec.toNat_and, BitVec.toNat_ofNat, BitVec.toNat_ofNat, Nat.mod_eq_of_lt (by omega), Nat.mod_eq_of_lt (by omega)]
  rw [show (16383 : Nat) = 2 ^ 14 - 1 from rfl, Nat.and_two_pow_sub_one_eq_mod, IntWalk.i64_in _ (by omega)]
  simp
  omega
theorem fn_h1 {q : Pkt} (g : Good q) : ∀ k : Nat, 1 ≤ k → k ≤ 28 → hasF (ofP q) k = true → needOK (ofP q) k = true
  | 1, _, _, _ => rfl
  | 2, _, _, _ => rfl
  | 3, _, _, _ => rfl
  | 4, _, _, _ => rfl
  | 5, _, _, h => by
    show (okT (ofP q) ⟨3, 2054, 65535⟩ && true) = true
    rw [n3 g, g.arp.1 h]; rfl
  | 6, _, _, h => by
    show (okT (ofP q) ⟨3, 2054, 65535⟩ && true) = true
    rw [n3 g, g.arp.1 h]; rfl
  | 7, _, _, h => by
    show (okT (ofP q) ⟨3, 2054, 65535⟩ && true) = true
    rw [n3 g, g.arp.1 h]; rfl
  | 8, _, _, h => by
    show (okT (ofP q) ⟨3, 2054, 65535⟩ && true) = true
    rw [n3 g, g.arp.1 h]; rfl
  | 9, _, _, h => by
    show (okT (ofP q) ⟨3, 2054, 65535⟩ && true) = true
    rw [n3 g, g.arp.1 h]; rfl
  | 10, _, _, h => by
    show (okT (ofP q) ⟨3, 2048, 65535⟩ && true) = true
    rw [n3 g, g.ip.1 h]; rfl
  | 11, _, _, h => by
    show (okT (ofP q) ⟨3, 2048, 65535⟩ && true) = true
    rw [n3 g, g.ip.1 h]; rfl
  | 12, _, _, h => by
    show (okT (ofP q) ⟨3, 2048, 65535⟩ && true) = true
    rw [n3 g, g.ip.1 h]; rfl
  | 13, _, _, h => by
    show (okT (ofP q) ⟨3, 2048, 65535⟩ && true) = true
    rw [n3 g, g.ip.1 h]; rfl
  | 14, _, _, h => by
    show (okT (ofP q) ⟨3, 2048, 65535⟩ && true) = true
    rw [n3 g, g.ip.1 h]; rfl
  | 15, _, _, h => by
    show (okT (ofP q) ⟨3, 2048, 65535⟩ && true) = true
    rw [n3 g, g.ip.1 h]; rfl
  | 16, _, _, h => by
    have h' : (q.isIp && q.kind == 1) = true := h
    rw [Bool.and_eq_true, beq_iff_eq] at h'
    show (okT (ofP q) ⟨3, 2048, 65535⟩ && (okT (ofP q) ⟨12, 1, 255⟩ && true)) = true
    rw [n3 g, n12 g, g.ip.1 h'.1, h'.1, (g.k h'.1).1 h'.2]; rfl
  | 17, _, _, h => by
    have h' : (q.isIp && q.kind == 1) = true := h
    rw [Bool.and_eq_true, beq_iff_eq] at h'
    show (okT (ofP q) ⟨3, 2048, 65535⟩ && (okT (ofP q) ⟨12, 1, 255⟩ && true)) = true
    rw [n3 g, n12 g, g.ip.1 h'.1, h'.1, (g.k h'.1).1 h'.2]; rfl
  | 18, _, _, h => by
    have hi : q.isIp = true := by
      have h' : (q.isIp && q.kind == 3 || q.isIp && q.kind == 2) = true := h
      cases hh : q.isIp
      · rw [hh] at h'; simp at h'
      · rfl
    show (okT (ofP q) ⟨3, 2048, 65535⟩ && true) = true
    rw [n3 g, g.ip.1 hi]; rfl
  | 19, _, _, h => by
    have hi : q.isIp = true := by
      have h' : (q.isIp && q.kind == 3 || q.isIp && q.kind == 2) = true := h
      cases hh : q.isIp
      · rw [hh] at h'; simp at h'
      · rfl
    show (okT (ofP q) ⟨3, 2048, 65535⟩ && true) = true
    rw [n3 g, g.ip.1 hi]; rfl
  | 20, _, _, h => by
    have h' : (q.isIp && q.kind == 3) = true := h
    rw [Bool.and_eq_true, beq_iff_eq] at h'
    show (okT (ofP q) ⟨3, 2048, 65535⟩ && (okT (ofP q) ⟨12, 6, 255⟩ && true)) = true
    rw [n3 g, n12 g, g.ip.1 h'.1, h'.1, (g.k h'.1).2.2 h'.2]; rfl
  | 21, _, _, _ => rfl
  | 22, _, _, _ => rfl
  | 23, _, _, _ => rfl
  | 24, _, _, _ => rfl
  | 25, _, _, _ => rfl
  | 26, _, _, _ => rfl
  | 27, _, _, _ => rfl
  | 28, _, _, _ => rfl
  | 0, h, _, _ => absurd h (by decide)
  | k + 29, _, h, _ => absurd h (by omega)
theorem fn_h2 {q : Pkt} (g : Good q) : ∀ k : Nat, 1 ≤ k → k ≤ 28 → needOK (ofP q) k = true → k ≠ 18 → k ≠ 19 → whB q.frag = true → hasF (ofP q) k = true
  | 1, _, _, _, _, _, _ => rfl
  | 2, _, _, _, _, _, _ => rfl
  | 3, _, _, _, _, _, _ => rfl
  | 4, _, _, _, _, _, _ => rfl
  | 5, _, _, h, _, _, _ => by
    have h' : (okT (ofP q) ⟨3, 2054, 65535⟩ && true) = true := h
    rw [n3 g, Bool.and_true, beq_iff_eq] at h'
    exact g.arp.2 h'
  | 6, _, _, h, _, _, _ => by
    have h' : (okT (ofP q) ⟨3, 2054, 65535⟩ && true) = true := h
    rw [n3 g, Bool.and_true, beq_iff_eq] at h'
    exact g.arp.2 h'
  | 7, _, _, h, _, _, _ => by
    have h' : (okT (ofP q) ⟨3, 2054, 65535⟩ && true) = true := h
    rw [n3 g, Bool.and_true, beq_iff_eq] at h'
    exact g.arp.2 h'
  | 8, _, _, h, _, _, _ => by
    have h' : (okT (ofP q) ⟨3, 2054, 65535⟩ && true) = true := h
    rw [n3 g, Bool.and_true, beq_iff_eq] at h'
    exact g.arp.2 h'
  | 9, _, _, h, _, _, _ => by
    have h' : (okT (ofP q) ⟨3, 2054, 65535⟩ && true) = true := h
    rw [n3 g, Bool.and_true, beq_iff_eq] at h'
    exact g.arp.2 h'
  | 10, _, _, h, _, _, _ => by
    have h' : (okT (ofP q) ⟨3, 2048, 65535⟩ && true) = true := h
    rw [n3 g, Bool.and_true, beq_iff_eq] at h'
    exact g.ip.2 h'
  | 11, _, _, h, _, _, _ => by
    have h' : (okT (ofP q) ⟨3, 2048, 65535⟩ && true) = true := h
    rw [n3 g, Bool.and_true, beq_iff_eq] at h'
    exact g.ip.2 h'
  | 12, _, _, h, _, _, _ => by
    have h' : (okT (ofP q) ⟨3, 2048, 65535⟩ && true) = true := h
    rw [n3 g, Bool.and_true, beq_iff_eq] at h'
    exact g.ip.2 h'
  | 13, _, _, h, _, _, _ => by
    have h' : (okT (ofP q) ⟨3, 2048, 65535⟩ && true) = true := h
    rw [n3 g, Bool.and_true, beq_iff_eq] at h'
    exact g.ip.2 h'
  | 14, _, _, h, _, _, _ => by
    have h' : (okT (ofP q) ⟨3, 2048, 65535⟩ && true) = true := h
    rw [n3 g, Bool.and_true, beq_iff_eq] at h'
    exact g.ip.2 h'
  | 15, _, _, h, _, _, _ => by
    have h' : (okT (ofP q) ⟨3, 2048, 65535⟩ && true) = true := h
    rw [n3 g, Bool.and_true, beq_iff_eq] at h'
    exact g.ip.2 h'
  | 16, _, _, h, _, _, hw => by
    have h' : (okT (ofP q) ⟨3, 2048, 65535⟩ && (okT (ofP q) ⟨12, 1, 255⟩ && true)) = true := h
    rw [n3 g, n12 g, Bool.and_true, Bool.and_eq_true, Bool.and_eq_true, beq_iff_eq, beq_iff_eq] at h'
    obtain ⟨n, e, hn⟩ := g.frag
    have hz := (g.r h'.2.1 ⟨n, e, wh_mod hn (by rw [← e]; exact hw)⟩).1 h'.2.2
    show (q.isIp && q.kind == 1) = true
    rw [h'.2.1, hz]; rfl
  | 17, _, _, h, _, _, hw => by
    have h' : (okT (ofP q) ⟨3, 2048, 65535⟩ && (okT (ofP q) ⟨12, 1, 255⟩ && true)) = true := h
    rw [n3 g, n12 g, Bool.and_true, Bool.and_eq_true, Bool.and_eq_true, beq_iff_eq, beq_iff_eq] at h'
    obtain ⟨n, e, hn⟩ := g.frag
    have hz := (g.r h'.2.1 ⟨n, e, wh_mod hn (by rw [← e]; exact hw)⟩).1 h'.2.2
    show (q.isIp && q.kind == 1) = true
    rw [h'.2.1, hz]; rfl
  | 18, _, _, _, h, h', _ => absurd rfl h
  | 19, _, _, _, h, h', _ => absurd rfl h'
  | 20, _, _, h, _, _, hw => by
    have h' : (okT (ofP q) ⟨3, 2048, 65535⟩ && (okT (ofP q) ⟨12, 6, 255⟩ && true)) = true := h
    rw [n3 g, n12 g, Bool.and_true, Bool.and_eq_true, Bool.and_eq_true, beq_iff_eq, beq_iff_eq] at h'
    obtain ⟨n, e, hn⟩ := g.frag
    have hz := (g.r h'.2.1 ⟨n, e, wh_mod hn (by rw [← e]; exact hw)⟩).2 h'.2.2
    show (q.isIp && q.kind == 3) = true
    rw [h'.2.1, hz]; rfl
  | 21, _, _, _, _, _, _ => rfl
  | 22, _, _, _, _, _, _ => rfl
  | 23, _, _, _, _, _, _ => rfl
  | 24, _, _, _, _, _, _ => rfl
  | 25, _, _, _, _, _, _ => rfl
  | 26, _, _, _, _, _, _ => rfl
  | 27, _, _, _, _, _, _ => rfl
  | 28, _, _, _, _, _, _ => rfl
  | 0, h, _, _, _, _, _ => absurd h (by decide)
  | k + 29, _, h, _, _, _, _ => absurd h (by omega)
theorem w_FieldNeeds (l : List UInt8) (hl : l.length ≤ 200000000000000) : Spec0 Try.prog 6 [.im 1 (l.map byteAV)] (B true) := by
  rcases ex_Parse l hl with ⟨q, hP, g⟩ | ⟨e, he, hP⟩
  · exact fn_ok l q hP (fn_h1 g) (fn_h2 g)
  · exact fn_err l e he hP
end Go.Proofs.Ytofiaddmnhpkgaa
