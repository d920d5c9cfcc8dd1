/-
  Contracts of functions of chapter 04: each theorem says what a call of one function answers, for all arguments that its hypotheses let in.
-/
import Derived.Test.YtdmlkcphlidcfaaW5i
import Derived.Test.YtdmlkcphlidcfaaW4j
import Derived.Test.YtdmlkcphlidcfaaW4k
set_option linter.unusedVariables false
set_option linter.unusedSimpArgs false
set_option maxRecDepth 100000
set_option maxHeartbeats 1000000
namespace Go.Proofs.Ytdmlkcphlidcfaa
open Go Go.SL Go.Proofs

theorem w_L4Turned {src dst : Nat} (hsrc : src < 4294967296) (hdst : dst < 4294967296) {a0 : Int} {a1 : Int} {a2 : Int} {a3 : Int} {a4 : Int} {a5 : Int} {a6 : Bool} {a7 : Int} {a8 : Int} {a9 : Int} {a10 : Int} {a11 : Int} {a12 : ByteArray} {a13 : ByteArray} {bit : Int} (g0 : isI a0) (g1 : isI a1) (g2 : isI a2) (g3 : isU a3) (g4 : isI a4) (g5 : isI a5) (g7 : isU a7) (g8 : isU a8) (g9 : isI a9) (g10 : isI a10) (g11 : isI a11) (g12 : a12.size ≤ 200000000000000) (g13 : a13.size ≤ 200000000000000) (hbit : -9223372036854775808 ≤ bit ∧ bit ≤ 9223372036854775807) : Spec0 Try.prog 7 [.sc (.int .u32 ((src : Nat) : Int)), .sc (.int .u32 ((dst : Nat) : Int)), .agg [.sc (.int .i64 a0), .sc (.int .i64 a1), .sc (.int .i64 a2), .sc (.int .u32 a3), .sc (.int .i64 a4), .sc (.int .i64 a5), .sc (.bool a6), .sc (.int .u32 a7), .sc (.int .u32 a8), .sc (.int .i64 a9), .sc (.int .i64 a10), .sc (.int .i64 a11), .sc (.string a12), .sc (.string a13)], .sc (.int .i64 bit)] (.sc (.bool true)) := by
  by_cases h : okL4 a0 a1 a2 a3 a4 a5 a6 a7 a8 a9 a10 a11 a12 a13
  · simp only [isI, isU] at *
    rcases h with ⟨k, z, r⟩ | ⟨k, z, r⟩ | ⟨k, z, r⟩ | ⟨k, z, r⟩
    · subst k
      obtain ⟨rfl, rfl, rfl, rfl, rfl, rfl, rfl, rfl, rfl, rfl, rfl, rfl⟩ := z
      exact w_TurnC0 (w_Enc0 hsrc hdst r) (w_Chk0 r)
    · subst k
      obtain ⟨rfl, rfl, rfl, rfl, rfl, rfl, rfl, rfl, rfl⟩ := z
      obtain ⟨r1, r2, r3⟩ := r
      obtain ⟨n1, rfl⟩ := Int.eq_ofNat_of_zero_le r1.1
      obtain ⟨n2, rfl⟩ := Int.eq_ofNat_of_zero_le r2.1
      obtain ⟨n3, rfl⟩ := Int.eq_ofNat_of_zero_le g3.1
      have hd := len_da a13
      have hv := (icmp_valid n1 n2 n3 a13.data.toList).1
      exact w_Turn1 hbit (by omega) (by omega) (by omega) (w_EncO1 hsrc hdst (by omega) (by omega) (by omega) r3) (fun i b hi hn => dec_turn1 hsrc hdst (by omega) (by omega) (by omega) r3 hi hn)
    · subst k
      obtain ⟨rfl, rfl, rfl, rfl, rfl, rfl, rfl, rfl, rfl⟩ := z
      obtain ⟨r4, r5, r13⟩ := r
      obtain ⟨n4, rfl⟩ := Int.eq_ofNat_of_zero_le r4.1
      obtain ⟨n5, rfl⟩ := Int.eq_ofNat_of_zero_le r5.1
      have hd := len_da a13
      have hv : (put2 (udp0 n4 n5 a13.data.toList) 6 (udpD src dst n4 n5 a13.data.toList)).length = 8 + a13.data.toList.length := by rw [put2_len, udp0_len]
      cases a6 with
      | true => exact w_TurnC2 (w_EncU1 hsrc hdst (by omega) (by omega) r13) (w_Chk2 (by omega) (by omega) r13)
      | false => exact w_Turn2 hbit (by omega) (by omega) (by omega) (encO_udpD hsrc hdst (by omega) (by omega) r13) (fun i b hi hn => dec_turn2 hsrc hdst (by omega) (by omega) r13 hi hn)
    · subst k
      obtain ⟨rfl, rfl, rfl, rfl⟩ := z
      obtain ⟨r4, r5, r10, r11, r9, r12, r124, r13⟩ := r
      obtain ⟨n4, rfl⟩ := Int.eq_ofNat_of_zero_le r4.1
      obtain ⟨n5, rfl⟩ := Int.eq_ofNat_of_zero_le r5.1
      obtain ⟨n7, rfl⟩ := Int.eq_ofNat_of_zero_le g7.1
      obtain ⟨n8, rfl⟩ := Int.eq_ofNat_of_zero_le g8.1
      obtain ⟨n9, rfl⟩ := Int.eq_ofNat_of_zero_le r9.1
      obtain ⟨n10, rfl⟩ := Int.eq_ofNat_of_zero_le r10.1
      obtain ⟨n11, rfl⟩ := Int.eq_ofNat_of_zero_le r11.1
      have hd := len_da a13
      have hp := len_da a12
      have hv := (tcp_read (src := src) (dst := dst) (sp := n4) (dp := n5) (se := n7) (ac := n8) (fl := n9) (wi := n10) (ur := n11) (p := a12.data.toList) (o := a13.data.toList) (by omega) (by omega) (by omega) (by omega) (by omega) (by omega) (by omega) (by omega) (by omega) rfl).1
      exact w_Turn3 hbit (by omega) (by omega) (by omega) (w_EncO3 hsrc hdst (by omega) (by omega) (by omega) (by omega) (by omega) (by omega) (by omega) r12 r124 (by omega)) (fun i b hi hn => dec_turn3 hsrc hdst (by omega) (by omega) (by omega) (by omega) (by omega) (by omega) (by omega) r12 r124 (by omega) hi hn)
  · exact w_TurnX hsrc hdst g0 g1 g2 g3 g4 g5 g7 g8 g9 g10 g11 g12 g13 h

end Go.Proofs.Ytdmlkcphlidcfaa
