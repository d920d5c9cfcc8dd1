/-
  Contracts of functions of chapter 04: each theorem says what a call of one function answers, for all arguments that its hypotheses let in.
-/
import Derived.Test.YtdmlkcphlidcfaaW5b
import Derived.Test.YtdmlkcphlidcfaaW4m
import Derived.Test.YtdmlkcphlidcfaaW4f
import Derived.Test.YtdmlkcphlidcfaaW4e
set_option linter.unusedVariables false
set_option linter.unusedSimpArgs false
set_option maxRecDepth 100000
set_option maxHeartbeats 1000000
namespace Go.Proofs.Ytdmlkcphlidcfaa
open Go Go.SL Go.Proofs

theorem udE_30 {src dst : Nat} {l : List UInt8} (h8 : 8 ≤ l.length) (h4 : be (sub l 4 2) = l.length) (h6 : be (sub l 6 2) ≠ 0) (hs : fo (psu src dst 17 l.length + ws l l.length) ≠ 65535) : udE src dst l = 30 := by
  unfold udE; rw [if_neg (by omega), if_neg (by omega), if_neg h6, if_pos hs]
theorem tcE_30 {src dst : Nat} {l : List UInt8} (h20 : 20 ≤ l.length) (hz : 20 ≤ tcS l) (hz2 : tcS l ≤ l.length) (hs : fo (psu src dst 6 l.length + ws l l.length) ≠ 65535) : tcE src dst l = 30 := by
  unfold tcE; rw [if_neg (by omega), if_neg (by omega), if_neg (by omega), if_pos hs]
theorem tcE_0 {src dst : Nat} {l : List UInt8} (h20 : 20 ≤ l.length) (hz : 20 ≤ tcS l) (hz2 : tcS l ≤ l.length) (hs : fo (psu src dst 6 l.length + ws l l.length) = 65535) : tcE src dst l = 0 := by
  unfold tcE; rw [if_neg (by omega), if_neg (by omega), if_neg (by omega), if_neg (by omega)]
theorem len_da (s : ByteArray) : s.data.toList.length = s.size := by rw [Array.length_toList]; rfl
theorem enc_udpD {src dst : Nat} (hsrc : src < 4294967296) (hdst : dst < 4294967296) {sp dp : Nat} {da : ByteArray} (hsp : sp ≤ 65535) (hdp : dp ≤ 65535) (hda : da.size ≤ 65507)  : Spec0 Try.prog 11 [.sc (.int .u32 ((src : Nat) : Int)), .sc (.int .u32 ((dst : Nat) : Int)), .agg [.sc (.int .i64 2), .sc (.int .i64 0), .sc (.int .i64 0), .sc (.int .u32 0), .sc (.int .i64 ((sp : Nat) : Int)), .sc (.int .i64 ((dp : Nat) : Int)), .sc (.bool false), .sc (.int .u32 0), .sc (.int .u32 0), .sc (.int .i64 0), .sc (.int .i64 0), .sc (.int .i64 0), .sc (.string ⟨#[]⟩), .sc (.string da)]] (.tup [.im 1 ((put2 (udp0 sp dp da.data.toList) 6 (udpD src dst sp dp da.data.toList)).map byteAV), .sc (.int .i64 0)]) := by
  unfold udpD
  split
  · rename_i h; exact w_EncU2 hsrc hdst hsp hdp hda h
  · rename_i h; exact w_EncU3 hsrc hdst hsp hdp hda h
theorem dec_udp1 {other dst : Nat} (hdst : dst < 4294967296) (hoth : other < 4294967296) {sp dp : Nat} {da : ByteArray} (hsp : sp ≤ 65535) (hdp : dp ≤ 65535) (hda : da.size ≤ 65507)  : Spec0 Try.prog 8 [.sc (.int .u32 ((other : Nat) : Int)), .sc (.int .u32 ((dst : Nat) : Int)), .sc (.int .i64 17), .im 1 ((udp0 sp dp da.data.toList).map byteAV)] (.tup [.agg [.sc (.int .i64 2), .sc (.int .i64 0), .sc (.int .i64 0), .sc (.int .u32 0), .sc (.int .i64 ((sp : Nat) : Int)), .sc (.int .i64 ((dp : Nat) : Int)), .sc (.bool true), .sc (.int .u32 0), .sc (.int .u32 0), .sc (.int .i64 0), .sc (.int .i64 0), .sc (.int .i64 0), .sc (.string ⟨#[]⟩), .sc (.string da)], .sc (.int .i64 0)]) := by
  have hd := len_da da
  obtain ⟨r1, r2, r3, r4, r5, r6⟩ := udp_read (sp := sp) (dp := dp) (c := 0) (o := da.data.toList) (b := udp0 sp dp da.data.toList) hsp hdp (by omega) (by decide) (by rw [udp_shape]; rfl)
  have h := w_DecU1 (src := other) (dst := dst) (l := udp0 sp dp da.data.toList) hoth hdst (by omega) (by omega) r4 r5
  rw [r2, r3, r6] at h
  exact h
theorem dec_udp2 {src dst other : Nat} (hsrc : src < 4294967296) (hdst : dst < 4294967296) (hoth : other < 4294967296) {sp dp : Nat} {da : ByteArray} (hsp : sp ≤ 65535) (hdp : dp ≤ 65535) (hda : da.size ≤ 65507)  (hsm : psu src dst 0 0 % 65535 = psu other dst 0 0 % 65535) : Spec0 Try.prog 8 [.sc (.int .u32 ((other : Nat) : Int)), .sc (.int .u32 ((dst : Nat) : Int)), .sc (.int .i64 17), .im 1 ((put2 (udp0 sp dp da.data.toList) 6 (udpD src dst sp dp da.data.toList)).map byteAV)] (.tup [.agg [.sc (.int .i64 2), .sc (.int .i64 0), .sc (.int .i64 0), .sc (.int .u32 0), .sc (.int .i64 ((sp : Nat) : Int)), .sc (.int .i64 ((dp : Nat) : Int)), .sc (.bool false), .sc (.int .u32 0), .sc (.int .u32 0), .sc (.int .i64 0), .sc (.int .i64 0), .sc (.int .i64 0), .sc (.string ⟨#[]⟩), .sc (.string da)], .sc (.int .i64 0)]) := by
  have hd := len_da da
  have hD : udpD src dst sp dp da.data.toList ≤ 65535 ∧ udpD src dst sp dp da.data.toList ≠ 0 := by unfold udpD; split <;> (unfold udpC at *; omega)
  obtain ⟨r1, r2, r3, r4, r5, r6⟩ := udp_read (sp := sp) (dp := dp) (c := udpD src dst sp dp da.data.toList) (o := da.data.toList) (b := put2 (udp0 sp dp da.data.toList) 6 (udpD src dst sp dp da.data.toList)) hsp hdp (by omega) hD.1 (udp_shape2 _ _ _ _)
  have h := w_DecU2 (src := other) (dst := dst) (l := put2 (udp0 sp dp da.data.toList) 6 (udpD src dst sp dp da.data.toList)) hoth hdst (by omega) (by omega) r4 (by rw [r5]; exact hD.2) ((udp_sum _ r1).2 hsm)
  rw [r2, r3, r6] at h
  exact h
theorem dec_udp3 {src dst other : Nat} (hsrc : src < 4294967296) (hdst : dst < 4294967296) (hoth : other < 4294967296) {sp dp : Nat} {da : ByteArray} (hsp : sp ≤ 65535) (hdp : dp ≤ 65535) (hda : da.size ≤ 65507)  (hsm : psu src dst 0 0 % 65535 ≠ psu other dst 0 0 % 65535) : Spec0 Try.prog 8 [.sc (.int .u32 ((other : Nat) : Int)), .sc (.int .u32 ((dst : Nat) : Int)), .sc (.int .i64 17), .im 1 ((put2 (udp0 sp dp da.data.toList) 6 (udpD src dst sp dp da.data.toList)).map byteAV)] (.tup [.agg [.sc (.int .i64 0), .sc (.int .i64 0), .sc (.int .i64 0), .sc (.int .u32 0), .sc (.int .i64 0), .sc (.int .i64 0), .sc (.bool false), .sc (.int .u32 0), .sc (.int .u32 0), .sc (.int .i64 0), .sc (.int .i64 0), .sc (.int .i64 0), .sc (.string ⟨#[]⟩), .sc (.string ⟨#[]⟩)], .sc (.int .i64 30)]) := by
  have hd := len_da da
  have hD : udpD src dst sp dp da.data.toList ≤ 65535 ∧ udpD src dst sp dp da.data.toList ≠ 0 := by unfold udpD; split <;> (unfold udpC at *; omega)
  obtain ⟨r1, r2, r3, r4, r5, r6⟩ := udp_read (sp := sp) (dp := dp) (c := udpD src dst sp dp da.data.toList) (o := da.data.toList) (b := put2 (udp0 sp dp da.data.toList) 6 (udpD src dst sp dp da.data.toList)) hsp hdp (by omega) hD.1 (udp_shape2 _ _ _ _)
  have e := udE_30 (src := other) (dst := dst) (l := put2 (udp0 sp dp da.data.toList) 6 (udpD src dst sp dp da.data.toList)) (by omega) r4 (by rw [r5]; exact hD.2) (fun h => hsm ((udp_sum _ r1).1 h))
  have h := w_DecX17 (src := other) (dst := dst) (l := put2 (udp0 sp dp da.data.toList) 6 (udpD src dst sp dp da.data.toList)) hoth hdst (by omega) (by rw [e]; decide)
  rw [e] at h
  exact h
theorem dec_tcp2 {src dst other : Nat} (hsrc : src < 4294967296) (hdst : dst < 4294967296) (hoth : other < 4294967296) {sp dp se ac fl wi ur : Nat} {op da : ByteArray} (hsp : sp ≤ 65535) (hdp : dp ≤ 65535) (hse : se < 4294967296) (hac : ac < 4294967296) (hfl : fl ≤ 4095) (hwi : wi ≤ 65535) (hur : ur ≤ 65535) (hop : op.size ≤ 40) (hop4 : op.size % 4 = 0) (hda : da.size + 20 + op.size ≤ 65515)  (hsm : psu src dst 0 0 % 65535 = psu other dst 0 0 % 65535) : Spec0 Try.prog 8 [.sc (.int .u32 ((other : Nat) : Int)), .sc (.int .u32 ((dst : Nat) : Int)), .sc (.int .i64 6), .im 1 ((encT src dst sp dp se ac fl wi ur op.data.toList da.data.toList).map byteAV)] (.tup [.agg [.sc (.int .i64 3), .sc (.int .i64 0), .sc (.int .i64 0), .sc (.int .u32 0), .sc (.int .i64 ((sp : Nat) : Int)), .sc (.int .i64 ((dp : Nat) : Int)), .sc (.bool false), .sc (.int .u32 ((se : Nat) : Int)), .sc (.int .u32 ((ac : Nat) : Int)), .sc (.int .i64 ((fl : Nat) : Int)), .sc (.int .i64 ((wi : Nat) : Int)), .sc (.int .i64 ((ur : Nat) : Int)), .sc (.string op), .sc (.string da)], .sc (.int .i64 0)]) := by
  have hd := len_da da
  have hp := len_da op
  obtain ⟨r1, r2, r3, r4, r5, r6, r7, r8, r9, r10, r11, r12⟩ := tcp_read (src := src) (dst := dst) (sp := sp) (dp := dp) (se := se) (ac := ac) (fl := fl) (wi := wi) (ur := ur) (p := op.data.toList) (o := da.data.toList) hsp hdp hse hac hfl hwi hur (by omega) (by omega) rfl
  have e := tcE_0 (src := other) (dst := dst) (l := encT src dst sp dp se ac fl wi ur op.data.toList da.data.toList) (by omega) (by omega) (by omega) ((r12 other _ rfl).2 hsm)
  have h := w_DecT (src := other) (dst := dst) (l := encT src dst sp dp se ac fl wi ur op.data.toList da.data.toList) hoth hdst (by omega) e
  rw [r2, show 20 + op.data.toList.length - 20 = op.data.toList.length by omega, r3, r4, r5, r6, r7, r8, r9, r10, r11] at h
  exact h
theorem dec_tcp3 {src dst other : Nat} (hsrc : src < 4294967296) (hdst : dst < 4294967296) (hoth : other < 4294967296) {sp dp se ac fl wi ur : Nat} {op da : ByteArray} (hsp : sp ≤ 65535) (hdp : dp ≤ 65535) (hse : se < 4294967296) (hac : ac < 4294967296) (hfl : fl ≤ 4095) (hwi : wi ≤ 65535) (hur : ur ≤ 65535) (hop : op.size ≤ 40) (hop4 : op.size % 4 = 0) (hda : da.size + 20 + op.size ≤ 65515)  (hsm : psu src dst 0 0 % 65535 ≠ psu other dst 0 0 % 65535) : Spec0 Try.prog 8 [.sc (.int .u32 ((other : Nat) : Int)), .sc (.int .u32 ((dst : Nat) : Int)), .sc (.int .i64 6), .im 1 ((encT src dst sp dp se ac fl wi ur op.data.toList da.data.toList).map byteAV)] (.tup [.agg [.sc (.int .i64 0), .sc (.int .i64 0), .sc (.int .i64 0), .sc (.int .u32 0), .sc (.int .i64 0), .sc (.int .i64 0), .sc (.bool false), .sc (.int .u32 0), .sc (.int .u32 0), .sc (.int .i64 0), .sc (.int .i64 0), .sc (.int .i64 0), .sc (.string ⟨#[]⟩), .sc (.string ⟨#[]⟩)], .sc (.int .i64 30)]) := by
  have hd := len_da da
  have hp := len_da op
  obtain ⟨r1, r2, r3, r4, r5, r6, r7, r8, r9, r10, r11, r12⟩ := tcp_read (src := src) (dst := dst) (sp := sp) (dp := dp) (se := se) (ac := ac) (fl := fl) (wi := wi) (ur := ur) (p := op.data.toList) (o := da.data.toList) hsp hdp hse hac hfl hwi hur (by omega) (by omega) rfl
  have e := tcE_30 (src := other) (dst := dst) (l := encT src dst sp dp se ac fl wi ur op.data.toList da.data.toList) (by omega) (by omega) (by omega) (fun h => hsm ((r12 other _ rfl).1 h))
  have h := w_DecX6 (src := other) (dst := dst) (l := encT src dst sp dp se ac fl wi ur op.data.toList da.data.toList) hoth hdst (by omega) (by rw [e]; decide)
  rw [e] at h
  exact h

end Go.Proofs.Ytdmlkcphlidcfaa
