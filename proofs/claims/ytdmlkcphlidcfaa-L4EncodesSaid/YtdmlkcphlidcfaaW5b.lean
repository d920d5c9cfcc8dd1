/-
  Contracts of functions of chapter 04: each theorem says what a call of one function answers, for all arguments that its hypotheses let in.
-/
import Derived.Test.YtdmlkcphlidcfaaW4v
set_option linter.unusedVariables false
set_option linter.unusedSimpArgs false
set_option maxRecDepth 100000
set_option maxHeartbeats 1000000
namespace Go.Proofs.Ytdmlkcphlidcfaa
open Go Go.SL Go.Proofs

theorem be_byte2 {n : Nat} (h : n < 65536) : be [byteOf n 8, byteOf n 0] = n := by
  rw [be_two]; simp only [byteOf, UInt8.toNat_ofNat']; omega
theorem be_byte4 {n : Nat} (h : n < 4294967296) : be [byteOf (n / 65536) 8, byteOf (n / 65536) 0, byteOf (n % 65536) 8, byteOf (n % 65536) 0] = n := by
  rw [be_four]; simp only [byteOf, UInt8.toNat_ofNat']; omega
theorem ws_put2 {E : List UInt8} {k c : Nat} (hk : k % 2 = 0) (hk1 : k + 1 < E.length) (h0 : E.getD k 0 = 0) (h1 : E.getD (k + 1) 0 = 0) (hc : c ≤ 65535) : ws (put2 E k c) E.length = ws E E.length + c := by
  have g1 := ws_set (l := E) (i := k) (v := byteOf c 8) E.length (by omega) (by omega)
  have g2 := ws_set (l := E.set k (byteOf c 8)) (i := k + 1) (v := byteOf c 0) E.length (by omega) (by rw [List.length_set]; omega)
  rw [getD_ne (by omega), h1] at g2
  rw [h0] at g1
  have z : (0 : UInt8).toNat = 0 := rfl
  have w10 : wt k = 256 := by unfold wt; rw [if_pos hk]
  have w11 : wt (k + 1) = 1 := by unfold wt; rw [if_neg (by omega)]
  rw [z, w10] at g1
  rw [z, w11] at g2
  have hb : (byteOf c 8).toNat * 256 + (byteOf c 0).toNat = c := by simp only [byteOf, UInt8.toNat_ofNat']; omega
  unfold put2
  omega
theorem psu_split (a b p n : Nat) : psu a b p n = psu a b 0 0 + p + n % 65536 := by unfold psu; omega
theorem oth {src other dst p n W c : Nat} (hp : 0 < p) (hcc : (psu src dst p n + W + c) % 65535 = 0) :
    fo (psu other dst p n + (W + c)) = 65535 ↔ psu src dst 0 0 % 65535 = psu other dst 0 0 % 65535 := by
  rw [fo_top, psu_split other dst p n]
  rw [psu_split src dst p n] at hcc
  generalize psu src dst 0 0 = A at *
  generalize psu other dst 0 0 = B at *
  constructor
  · intro ⟨_, h⟩; omega
  · intro h; exact ⟨by omega, by omega⟩
theorem chk_neg {S : Nat} (h : 0 < S) : (S + (65535 - fo S)) % 65535 = 0 := by
  have := fo_pos h; omega
def udpD (src dst sp dp : Nat) (o : List UInt8) : Nat := if udpC src dst sp dp o = 0 then 65535 else udpC src dst sp dp o
theorem udp_shape (sp dp : Nat) (o : List UInt8) : udp0 sp dp o = byteOf sp 8 :: byteOf sp 0 :: byteOf dp 8 :: byteOf dp 0 :: byteOf (8 + o.length) 8 :: byteOf (8 + o.length) 0 :: 0 :: 0 :: o := rfl
theorem udp_shape2 (sp dp c : Nat) (o : List UInt8) : put2 (udp0 sp dp o) 6 c = byteOf sp 8 :: byteOf sp 0 :: byteOf dp 8 :: byteOf dp 0 :: byteOf (8 + o.length) 8 :: byteOf (8 + o.length) 0 :: byteOf c 8 :: byteOf c 0 :: o := rfl
theorem udp_read {sp dp c : Nat} {o b : List UInt8} (hsp : sp ≤ 65535) (hdp : dp ≤ 65535) (ho : o.length ≤ 65507) (hc : c ≤ 65535) (hb : b = byteOf sp 8 :: byteOf sp 0 :: byteOf dp 8 :: byteOf dp 0 :: byteOf (8 + o.length) 8 :: byteOf (8 + o.length) 0 :: byteOf c 8 :: byteOf c 0 :: o) :
    b.length = 8 + o.length ∧ be (sub b 0 2) = sp ∧ be (sub b 2 2) = dp ∧ be (sub b 4 2) = b.length ∧ be (sub b 6 2) = c ∧ b.drop 8 = o := by
  have hl : b.length = 8 + o.length := by rw [hb]; simp only [List.length_cons]; omega
  refine ⟨hl, ?_, ?_, ?_, ?_, ?_⟩
  · have : sub b 0 2 = [byteOf sp 8, byteOf sp 0] := by rw [hb]; rfl
    rw [this, be_byte2 (by omega)]
  · have : sub b 2 2 = [byteOf dp 8, byteOf dp 0] := by rw [hb]; rfl
    rw [this, be_byte2 (by omega)]
  · have : sub b 4 2 = [byteOf (8 + o.length) 8, byteOf (8 + o.length) 0] := by rw [hb]; rfl
    rw [this, be_byte2 (by omega), hl]
  · have : sub b 6 2 = [byteOf c 8, byteOf c 0] := by rw [hb]; rfl
    rw [this, be_byte2 (by omega)]
  · rw [hb]; rfl
theorem udp_sum {src other dst sp dp : Nat} {o : List UInt8} (n : Nat) (hn : n = 8 + o.length) : fo (psu other dst 17 n + ws (put2 (udp0 sp dp o) 6 (udpD src dst sp dp o)) n) = 65535 ↔ psu src dst 0 0 % 65535 = psu other dst 0 0 % 65535 := by
  subst hn
  have hl := udp0_len sp dp o
  have hd : udpD src dst sp dp o ≤ 65535 := by unfold udpD udpC; split <;> omega
  have hw := ws_put2 (E := udp0 sp dp o) (k := 6) (c := udpD src dst sp dp o) rfl (by omega) rfl rfl hd
  rw [hl] at hw
  rw [hw]
  refine oth (by decide) ?_
  have hS : 0 < psu src dst 17 (8 + o.length) + ws (udp0 sp dp o) (8 + o.length) := by unfold psu; omega
  have hx := chk_neg hS
  have hC : udpC src dst sp dp o = 65535 - fo (psu src dst 17 (8 + o.length) + ws (udp0 sp dp o) (8 + o.length)) := by unfold udpC; rw [hl]
  unfold udpD
  split <;> omega
theorem tcp_read {src dst sp dp se ac fl wi ur : Nat} {p o b : List UInt8} (hsp : sp ≤ 65535) (hdp : dp ≤ 65535) (hse : se < 4294967296) (hac : ac < 4294967296) (hfl : fl ≤ 4095) (hwi : wi ≤ 65535) (hur : ur ≤ 65535) (hp : p.length ≤ 40) (hp4 : p.length % 4 = 0)
    (hb : b = encT src dst sp dp se ac fl wi ur p o) :
    b.length = 20 + p.length + o.length ∧ tcS b = 20 + p.length ∧ be (sub b 0 2) = sp ∧ be (sub b 2 2) = dp ∧ be (sub b 4 4) = se ∧ be (sub b 8 4) = ac ∧ be (sub b 12 2) % 4096 = fl ∧ be (sub b 14 2) = wi ∧ be (sub b 18 2) = ur ∧ sub b 20 p.length = p ∧ b.drop (20 + p.length) = o ∧
    ∀ other n, n = b.length → (fo (psu other dst 6 n + ws b n) = 65535 ↔ psu src dst 0 0 % 65535 = psu other dst 0 0 % 65535) := by
  generalize hc : 65535 - fo (psu src dst 6 (tcp0 sp dp se ac fl wi ur p o).length + ws (tcp0 sp dp se ac fl wi ur p o) (tcp0 sp dp se ac fl wi ur p o).length) = c at *
  have hb2 : b = put2 (tcp0 sp dp se ac fl wi ur p o) 16 c := by rw [hb]; unfold encT; simp only [hc]
  have hl0 : (tcp0 sp dp se ac fl wi ur p o).length = 20 + p.length + o.length := by rw [tcp0_eq]; unfold tcpH; simp only [List.length_append, List.length_cons, List.length_nil]; omega
  generalize hE : (20 + p.length) / 4 * 4096 + fl = E at *
  have hsh : b = byteOf sp 8 :: byteOf sp 0 :: byteOf dp 8 :: byteOf dp 0 :: byteOf (se / 65536) 8 :: byteOf (se / 65536) 0 :: byteOf (se % 65536) 8 :: byteOf (se % 65536) 0 :: byteOf (ac / 65536) 8 :: byteOf (ac / 65536) 0 :: byteOf (ac % 65536) 8 :: byteOf (ac % 65536) 0 ::
      byteOf E 8 :: byteOf E 0 :: byteOf wi 8 :: byteOf wi 0 :: byteOf c 8 :: byteOf c 0 :: byteOf ur 8 :: byteOf ur 0 :: (p ++ o) := by
    rw [hb2, tcp0_eq, hE]; rfl
  have hl : b.length = 20 + p.length + o.length := by rw [hb2, put2_len, hl0]
  have b12 : b.getD 12 0 = byteOf E 8 := by rw [hsh]; rfl
  have hS : tcS b = 20 + p.length := by
    unfold tcS; rw [b12]; simp only [byteOf, UInt8.toNat_ofNat']; omega
  refine ⟨hl, hS, ?_, ?_, ?_, ?_, ?_, ?_, ?_, ?_, ?_, fun other n hn => ?_⟩
  · have : sub b 0 2 = [byteOf sp 8, byteOf sp 0] := by rw [hsh]; rfl
    rw [this, be_byte2 (by omega)]
  · have : sub b 2 2 = [byteOf dp 8, byteOf dp 0] := by rw [hsh]; rfl
    rw [this, be_byte2 (by omega)]
  · have : sub b 4 4 = [byteOf (se / 65536) 8, byteOf (se / 65536) 0, byteOf (se % 65536) 8, byteOf (se % 65536) 0] := by rw [hsh]; rfl
    rw [this, be_byte4 (by omega)]
  · have : sub b 8 4 = [byteOf (ac / 65536) 8, byteOf (ac / 65536) 0, byteOf (ac % 65536) 8, byteOf (ac % 65536) 0] := by rw [hsh]; rfl
    rw [this, be_byte4 (by omega)]
  · have : sub b 12 2 = [byteOf E 8, byteOf E 0] := by rw [hsh]; rfl
    rw [this, be_byte2 (by omega)]; omega
  · have : sub b 14 2 = [byteOf wi 8, byteOf wi 0] := by rw [hsh]; rfl
    rw [this, be_byte2 (by omega)]
  · have : sub b 18 2 = [byteOf ur 8, byteOf ur 0] := by rw [hsh]; rfl
    rw [this, be_byte2 (by omega)]
  · have : sub b 20 p.length = (p ++ o).take p.length := by rw [hsh]; rfl
    rw [this, List.take_left]
  · have : b.drop 20 = p ++ o := by rw [hsh]; rfl
    rw [← List.drop_drop, this, List.drop_left]
  · have hz0 : (tcp0 sp dp se ac fl wi ur p o).getD 16 0 = 0 := by rw [tcp0_eq]; rfl
    have hz1 : (tcp0 sp dp se ac fl wi ur p o).getD 17 0 = 0 := by rw [tcp0_eq]; rfl
    have hw := ws_put2 (E := tcp0 sp dp se ac fl wi ur p o) (k := 16) (c := c) rfl (by omega) hz0 hz1 (by omega)
    rw [hn, hl, hb2]
    rw [hl0] at hw hc
    rw [hw]
    refine oth (by decide) ?_
    rw [← hc]
    exact chk_neg (by unfold psu; omega)

end Go.Proofs.Ytdmlkcphlidcfaa
