/-
  The law GeneveEncaps.
-/
import Derived.Test.YtkhpligflffamaaLGq1
set_option linter.unusedVariables false
set_option linter.unusedSimpArgs false
set_option maxRecDepth 100000
set_option maxHeartbeats 1000000
namespace Go.Proofs.Ytkhpligflffamaa
open Go Go.SL Go.Proofs
theorem w_lives : Spec0 Try.prog 9 [] (B true) := sx0 hm hF 1000 20 [] [22 ≤ 9223372036854775807, 8 ≤ 9223372036854775807, 22 ≤ 9223372036854775807, 8 ≤ 9223372036854775807] (by kernel_rfl) ⟨by decide, by decide, by decide, by decide, trivial⟩

theorem w_GeneveEncaps (src dst sp vn : Int) (oam : Bool) (l : List Opt) (fr : ByteArray) (q1 : 0 ≤ src ∧ src < 4294967296) (q2 : 0 ≤ dst ∧ dst < 4294967296) (hl0 : l.length ≤ 4611686018427387) (hz0 : ∀ o ∈ l, o.d.size ≤ 200000000000000) (hfr : fr.size ≤ 140737488351232) : Spec0 Try.prog 3 [.agg [I .u32 src, I .u32 dst, I .i64 sp, I .i64 vn, B oam, OL l, S fr]] (B true) := by
  have bad : ∀ e : Int, e ≠ 0 → Spec0 Try.prog 7 [.agg [I .u32 src, I .u32 dst, I .i64 sp, I .i64 vn, B oam, OL l, S fr]] (.tup [.nil, I .i64 e]) → Spec0 Try.prog 8 [.agg [I .u32 src, I .u32 dst, I .i64 sp, I .i64 vn, B oam, OL l, S fr]] (.tup [.nil, I .i64 e]) → Spec0 Try.prog 3 [.agg [I .u32 src, I .u32 dst, I .i64 sp, I .i64 vn, B oam, OL l, S fr]] (B true) :=
    fun e he h1 h2 => w_GE_bad src dst sp vn oam l fr w_lives e he h1 h2
  have hO := w_options l hl0 hz0
  have refs : (sp < 0 ∨ 65535 < sp ∨ vn < 0 ∨ 16777215 < vn) → Spec0 Try.prog 8 [.agg [I .u32 src, I .u32 dst, I .i64 sp, I .i64 vn, B oam, OL l, S fr]] (.tup [.nil, I .i64 1]) := by
    intro h
    by_cases c1 : sp < 0
    · exact w_rEn_s1 src dst sp vn oam l fr hfr c1
    by_cases c2 : 65535 < sp
    · exact w_rEn_s2 src dst sp vn oam l fr hfr (by omega) c2
    by_cases c3 : vn < 0
    · exact w_rEn_v1 src dst sp vn oam l fr hfr (by omega) (by omega) c3
    · exact w_rEn_v2 src dst sp vn oam l fr hfr (by omega) (by omega) (by omega) (by omega)
  by_cases ha : okA l
  · rw [if_pos ha] at hO
    by_cases c1 : sp < 0
    · exact bad 1 (by decide) (w_En_s1 src dst sp vn oam l fr hfr _ _ ha.2 hO c1) (refs (by omega))
    by_cases c2 : 65535 < sp
    · exact bad 1 (by decide) (w_En_s2 src dst sp vn oam l fr hfr _ _ ha.2 hO (by omega) c2) (refs (by omega))
    by_cases c3 : vn < 0
    · exact bad 1 (by decide) (w_En_v1 src dst sp vn oam l fr hfr _ _ ha.2 hO (by omega) (by omega) c3) (refs (by omega))
    by_cases c4 : 16777215 < vn
    · exact bad 1 (by decide) (w_En_v2 src dst sp vn oam l fr hfr _ _ ha.2 hO (by omega) (by omega) (by omega) c4) (refs (by omega))
    obtain ⟨sp, rfl⟩ := Int.eq_ofNat_of_zero_le (show 0 ≤ sp by omega)
    obtain ⟨vn, rfl⟩ := Int.eq_ofNat_of_zero_le (show 0 ≤ vn by omega)
    by_cases c5 : 9018 < fr.size
    · exact bad 3 (by decide) (w_En_f src dst (sp : Nat) (vn : Nat) oam l fr hfr _ _ ha.2 hO (by omega) (by omega) (by omega) (by omega) c5) (w_rEn src dst sp vn oam l fr (by omega) (by omega) hl0 hz0 hfr _ (fun h => absurd ha h) (fun _ _ => rfl) (fun _ h => by omega))
    obtain ⟨src, rfl⟩ := Int.eq_ofNat_of_zero_le q1.1
    obtain ⟨dst, rfl⟩ := Int.eq_ofNat_of_zero_le q2.1
    obtain ⟨L, hL, _, e1, e2, e3⟩ := tun_ok src dst sp vn oam l fr (by omega) (by omega) (by omega) (by omega) hl0 hz0 ha (by omega)
    exact w_GE_ok (src : Nat) (dst : Nat) (sp : Nat) (vn : Nat) oam l fr w_lives L (by omega) e1 e2 e3 (w_Same (src : Nat) (dst : Nat) (sp : Nat) (vn : Nat) oam l fr hl0)
  · rw [if_neg ha] at hO
    refine bad 1 (by decide) (w_En_o src dst sp vn oam l fr hfr hO) ?_
    by_cases c : sp < 0 ∨ 65535 < sp ∨ vn < 0 ∨ 16777215 < vn
    · exact refs c
    obtain ⟨sp, rfl⟩ := Int.eq_ofNat_of_zero_le (show 0 ≤ sp by omega)
    obtain ⟨vn, rfl⟩ := Int.eq_ofNat_of_zero_le (show 0 ≤ vn by omega)
    exact w_rEn src dst sp vn oam l fr (by omega) (by omega) hl0 hz0 hfr _ (fun _ => rfl) (fun h => absurd h ha) (fun h => absurd h ha)

end Go.Proofs.Ytkhpligflffamaa
