/-
  Contracts of functions of chapter 04: each theorem says what a call of one function answers, for all arguments that its hypotheses let in.
-/
import Derived.Test.YtdmlkcphlidcfaaW5h
import Derived.Test.YtdmlkcphlidcfaaW5d
set_option linter.unusedVariables false
set_option linter.unusedSimpArgs false
set_option maxRecDepth 100000
set_option maxHeartbeats 1000000
namespace Go.Proofs.Ytdmlkcphlidcfaa
open Go Go.SL Go.Proofs

theorem sub_set {l : List UInt8} {i a k : Nat} {v : UInt8} (h : a + k ≤ i) : sub (l.set i v) a k = sub l a k := by
  unfold sub
  apply List.ext_getElem?
  intro j
  rw [List.getElem?_take, List.getElem?_take]
  split
  · rw [List.getElem?_drop, List.getElem?_drop, List.getElem?_set_ne (by omega)]
  · rfl
theorem flip_len (L : List UInt8) (i b : Nat) : (flip L i b).length = L.length := by unfold flip; rw [List.length_set]
theorem icE_30 {l : List UInt8} (h8 : 8 ≤ l.length) (hs : fo (ws l l.length) ≠ 65535) : icE l = 30 := by
  unfold icE; rw [if_neg (by omega), if_pos hs]
theorem icmp_shape (ty co re : Nat) (o : List UInt8) : icmp0 ty co re o = UInt8.ofNat ty :: UInt8.ofNat co :: 0 :: 0 :: byteOf (re / 65536) 8 :: byteOf (re / 65536) 0 :: byteOf (re % 65536) 8 :: byteOf (re % 65536) 0 :: o := rfl
theorem icmp_valid (ty co re : Nat) (o : List UInt8) : (encI ty co re o).length = 8 + o.length ∧ fo (ws (encI ty co re o) (8 + o.length)) = 65535 := by
  have hl : (icmp0 ty co re o).length = 8 + o.length := by rw [icmp_shape]; simp only [List.length_cons]; omega
  have hw := ws_put2 (E := icmp0 ty co re o) (k := 2) (c := 65535 - fo (ws (icmp0 ty co re o) (icmp0 ty co re o).length)) rfl (by omega) rfl rfl (by omega)
  refine ⟨by unfold encI; rw [put2_len, hl], ?_⟩
  rw [hl] at hw
  unfold encI
  rw [hl, hw]
  rcases Nat.eq_zero_or_pos (ws (icmp0 ty co re o) (8 + o.length)) with h0 | h0
  · rw [h0]; rfl
  · exact fo_top.2 ⟨by omega, chk_neg h0⟩
theorem dec_turn1 {src dst : Nat} (hsrc : src < 4294967296) (hdst : dst < 4294967296) {ty co re : Nat} {da : ByteArray} (hty : ty ≤ 255) (hco : co ≤ 255) (hre : re < 4294967296) (hda : da.size ≤ 65507) {i b : Nat} (hi : 4 ≤ i) (hn : i < 8 + da.size) : Spec0 Try.prog 8 [.sc (.int .u32 ((src : Nat) : Int)), .sc (.int .u32 ((dst : Nat) : Int)), .sc (.int .i64 1), .im 1 ((flip (encI ty co re da.data.toList) i b).map byteAV)] (.tup [.agg [.sc (.int .i64 0), .sc (.int .i64 0), .sc (.int .i64 0), .sc (.int .u32 0), .sc (.int .i64 0), .sc (.int .i64 0), .sc (.bool false), .sc (.int .u32 0), .sc (.int .u32 0), .sc (.int .i64 0), .sc (.int .i64 0), .sc (.int .i64 0), .sc (.string ⟨#[]⟩), .sc (.string ⟨#[]⟩)], .sc (.int .i64 30)]) := by
  have hd := len_da da
  obtain ⟨v1, v2⟩ := icmp_valid ty co re da.data.toList
  have hfl := flip_len (encI ty co re da.data.toList) i b
  have hs := flip_sum (C := 0) (b := b) (n := 8 + da.data.toList.length) (by rw [Nat.zero_add]; exact v2) (show i < (encI ty co re da.data.toList).length by omega) v1.symm
  rw [Nat.zero_add] at hs
  have e := icE_30 (l := flip (encI ty co re da.data.toList) i b) (by omega) (by rw [hfl, v1]; exact hs)
  have h := w_DecX1 (src := src) (dst := dst) (l := flip (encI ty co re da.data.toList) i b) hsrc hdst (by omega) (by rw [e]; decide)
  rw [e] at h
  exact h
theorem dec_turn2 {src dst : Nat} (hsrc : src < 4294967296) (hdst : dst < 4294967296) {sp dp : Nat} {da : ByteArray} (hsp : sp ≤ 65535) (hdp : dp ≤ 65535) (hda : da.size ≤ 65507) {i b : Nat} (hi : 8 ≤ i) (hn : i < 8 + da.size) : Spec0 Try.prog 8 [.sc (.int .u32 ((src : Nat) : Int)), .sc (.int .u32 ((dst : Nat) : Int)), .sc (.int .i64 17), .im 1 ((flip (put2 (udp0 sp dp da.data.toList) 6 (udpD src dst sp dp da.data.toList)) i b).map byteAV)] (.tup [.agg [.sc (.int .i64 0), .sc (.int .i64 0), .sc (.int .i64 0), .sc (.int .u32 0), .sc (.int .i64 0), .sc (.int .i64 0), .sc (.bool false), .sc (.int .u32 0), .sc (.int .u32 0), .sc (.int .i64 0), .sc (.int .i64 0), .sc (.int .i64 0), .sc (.string ⟨#[]⟩), .sc (.string ⟨#[]⟩)], .sc (.int .i64 30)]) := by
  have hd := len_da da
  have hD : udpD src dst sp dp da.data.toList ≤ 65535 ∧ udpD src dst sp dp da.data.toList ≠ 0 := by unfold udpD; split <;> (unfold udpC at *; omega)
  obtain ⟨r1, r2, r3, r4, r5, r6⟩ := udp_read (sp := sp) (dp := dp) (c := udpD src dst sp dp da.data.toList) (o := da.data.toList) (b := put2 (udp0 sp dp da.data.toList) 6 (udpD src dst sp dp da.data.toList)) hsp hdp (by omega) hD.1 (udp_shape2 _ _ _ _)
  have hfl := flip_len (put2 (udp0 sp dp da.data.toList) 6 (udpD src dst sp dp da.data.toList)) i b
  have hs := flip_sum (L := put2 (udp0 sp dp da.data.toList) 6 (udpD src dst sp dp da.data.toList)) (C := psu src dst 17 (put2 (udp0 sp dp da.data.toList) 6 (udpD src dst sp dp da.data.toList)).length) (i := i) (b := b) (n := (put2 (udp0 sp dp da.data.toList) 6 (udpD src dst sp dp da.data.toList)).length) ((udp_sum _ r1).2 rfl) (by omega) rfl
  have e := udE_30 (src := src) (dst := dst) (l := flip (put2 (udp0 sp dp da.data.toList) 6 (udpD src dst sp dp da.data.toList)) i b) (by omega) (by rw [hfl]; unfold flip; rw [sub_set (by omega)]; exact r4) (by unfold flip; rw [sub_set (by omega), r5]; exact hD.2) (by rw [hfl]; exact hs)
  have h := w_DecX17 (src := src) (dst := dst) (l := flip (put2 (udp0 sp dp da.data.toList) 6 (udpD src dst sp dp da.data.toList)) i b) hsrc hdst (by omega) (by rw [e]; decide)
  rw [e] at h
  exact h
theorem dec_turn3 {src dst : Nat} (hsrc : src < 4294967296) (hdst : dst < 4294967296) {sp dp se ac fl wi ur : Nat} {op da : ByteArray} (hsp : sp ≤ 65535) (hdp : dp ≤ 65535) (hse : se < 4294967296) (hac : ac < 4294967296) (hfl : fl ≤ 4095) (hwi : wi ≤ 65535) (hur : ur ≤ 65535) (hop : op.size ≤ 40) (hop4 : op.size % 4 = 0) (hda : da.size + 20 + op.size ≤ 65515) {i b : Nat} (hi : 18 ≤ i) (hn : i < 20 + op.size + da.size) : Spec0 Try.prog 8 [.sc (.int .u32 ((src : Nat) : Int)), .sc (.int .u32 ((dst : Nat) : Int)), .sc (.int .i64 6), .im 1 ((flip (encT src dst sp dp se ac fl wi ur op.data.toList da.data.toList) i b).map byteAV)] (.tup [.agg [.sc (.int .i64 0), .sc (.int .i64 0), .sc (.int .i64 0), .sc (.int .u32 0), .sc (.int .i64 0), .sc (.int .i64 0), .sc (.bool false), .sc (.int .u32 0), .sc (.int .u32 0), .sc (.int .i64 0), .sc (.int .i64 0), .sc (.int .i64 0), .sc (.string ⟨#[]⟩), .sc (.string ⟨#[]⟩)], .sc (.int .i64 30)]) := by
  have hd := len_da da
  have hp := len_da op
  obtain ⟨r1, r2, r3, r4, r5, r6, r7, r8, r9, r10, r11, r12⟩ := tcp_read (src := src) (dst := dst) (sp := sp) (dp := dp) (se := se) (ac := ac) (fl := fl) (wi := wi) (ur := ur) (p := op.data.toList) (o := da.data.toList) hsp hdp hse hac hfl hwi hur (by omega) (by omega) rfl
  have hfl := flip_len (encT src dst sp dp se ac fl wi ur op.data.toList da.data.toList) i b
  have hS : tcS (flip (encT src dst sp dp se ac fl wi ur op.data.toList da.data.toList) i b) = tcS (encT src dst sp dp se ac fl wi ur op.data.toList da.data.toList) := by unfold tcS flip; rw [getD_ne (by omega)]
  have hs := flip_sum (L := encT src dst sp dp se ac fl wi ur op.data.toList da.data.toList) (C := psu src dst 6 (encT src dst sp dp se ac fl wi ur op.data.toList da.data.toList).length) (i := i) (b := b) (n := (encT src dst sp dp se ac fl wi ur op.data.toList da.data.toList).length) ((r12 src _ rfl).2 rfl) (by omega) rfl
  have e := tcE_30 (src := src) (dst := dst) (l := flip (encT src dst sp dp se ac fl wi ur op.data.toList da.data.toList) i b) (by omega) (by omega) (by omega) (by rw [hfl]; exact hs)
  have h := w_DecX6 (src := src) (dst := dst) (l := flip (encT src dst sp dp se ac fl wi ur op.data.toList da.data.toList) i b) hsrc hdst (by omega) (by rw [e]; decide)
  rw [e] at h
  exact h
theorem encO_udpD {src dst : Nat} (hsrc : src < 4294967296) (hdst : dst < 4294967296) {sp dp : Nat} {da : ByteArray} (hsp : sp ≤ 65535) (hdp : dp ≤ 65535) (hda : da.size ≤ 65507) : Go.SL.Spec Try.prog 11 [.sc (.int .u32 ((src : Nat) : Int)), .sc (.int .u32 ((dst : Nat) : Int)), .agg [.sc (.int .i64 2), .sc (.int .i64 0), .sc (.int .i64 0), .sc (.int .u32 0), .sc (.int .i64 ((sp : Nat) : Int)), .sc (.int .i64 ((dp : Nat) : Int)), .sc (.bool false), .sc (.int .u32 0), .sc (.int .u32 0), .sc (.int .i64 0), .sc (.int .i64 0), .sc (.int .i64 0), .sc (.string ⟨#[]⟩), .sc (.string da)]] [] (fun r hp' => r = .tup [.sl 0 0 (8 + da.size), .sc (.int .i64 0)] ∧ hp' = [.row 1 ((put2 (udp0 sp dp da.data.toList) 6 (udpD src dst sp dp da.data.toList)).map byteAV)]) := by
  unfold udpD
  split
  · rename_i h; exact w_EncOU2 hsrc hdst hsp hdp hda h
  · rename_i h; exact w_EncOU3 hsrc hdst hsp hdp hda h

end Go.Proofs.Ytdmlkcphlidcfaa
