/-
  The law GeneveDecaps.
-/
import Derived.Test.YtkhpligflffamaaLKq3
import Derived.Test.YtkhpligflffamaaDDq3
import Derived.Test.YtkhpligflffamaaLDq3
import Derived.Test.YtkhpligflffamaaY3rq3
set_option linter.unusedVariables false
set_option linter.unusedSimpArgs false
set_option maxRecDepth 100000
set_option maxHeartbeats 1000000
namespace Go.Proofs.Ytkhpligflffamaa
open Go Go.SL Go.Proofs
theorem ip_c2 (m : List UInt8) (hl : m.length ≤ 200000000000000) :
    (∃ (tos id frag ttl proto src dst S T : Nat) (opt : ByteArray), Spec0 Try.prog 23 [.im 1 (m.map byteAV)] (.tup [(ipV (tos : Nat) (id : Nat) (frag : Nat) (ttl : Nat) (proto : Nat) (src : Nat) (dst : Nat) opt), I .i64 (S : Nat), I .i64 (T : Nat), I .i64 0]) ∧ Spec0 Try.prog 26 [.im 1 (m.map byteAV)] (.tup [(ipV (tos : Nat) (id : Nat) (frag : Nat) (ttl : Nat) (proto : Nat) (src : Nat) (dst : Nat) opt), I .i64 (S : Nat), I .i64 (T : Nat), I .i64 0]) ∧ S ≤ T ∧ T ≤ m.length ∧ T ≤ 65535 ∧ src < 4294967296 ∧ dst < 4294967296) ∨
    (∃ e : Int, e ≠ 0 ∧ Spec0 Try.prog 23 [.im 1 (m.map byteAV)] (.tup [ipV 0 0 0 0 0 0 0 ⟨#[]⟩, I .i64 0, I .i64 0, I .i64 e]) ∧ Spec0 Try.prog 26 [.im 1 (m.map byteAV)] (.tup [ipV 0 0 0 0 0 0 0 ⟨#[]⟩, I .i64 0, I .i64 0, I .i64 e])) := by
  by_cases h1 : m.length < 20
  · exact .inr ⟨20, by decide, w_Ip_short m hl h1, w_rIp_short m hl h1⟩
  by_cases h2 : (m.getD 0 0).toNat / 16 = 4
  rotate_left
  · exact .inr ⟨21, by decide, w_Ip_ver m hl (by omega) h2, w_rIp_ver m hl (by omega) h2⟩
  by_cases h3 : 4 * ((m.getD 0 0).toNat % 16) < 20
  · exact .inr ⟨21, by decide, w_Ip_small m hl (by omega) h2 h3, w_rIp_small m hl (by omega) h2 h3⟩
  by_cases h4 : m.length < 4 * ((m.getD 0 0).toNat % 16)
  · exact .inr ⟨20, by decide, w_Ip_short2 m hl (by omega) h2 (by omega) h4, w_rIp_short2 m hl (by omega) h2 (by omega) h4⟩
  by_cases h5 : m.length < be ((m.drop 2).take 2)
  · exact .inr ⟨20, by decide, w_Ip_short3 m hl (by omega) h2 (by omega) (by omega) h5, w_rIp_short3 m hl (by omega) h2 (by omega) (by omega) h5⟩
  by_cases h6 : be ((m.drop 2).take 2) < 4 * ((m.getD 0 0).toNat % 16)
  · exact .inr ⟨21, by decide, w_Ip_form m hl (by omega) h2 (by omega) (by omega) (by omega) h6, w_rIp_form m hl (by omega) h2 (by omega) (by omega) (by omega) h6⟩
  by_cases h7 : fo (ws (m.take (4 * ((m.getD 0 0).toNat % 16))) (m.take (4 * ((m.getD 0 0).toNat % 16))).length) = 65535
  rotate_left
  · exact .inr ⟨30, by decide, w_Ip_sum m hl (by omega) h2 (by omega) (by omega) (by omega) (by omega) h7, w_rIp_sum m hl (by omega) h2 (by omega) (by omega) (by omega) (by omega) h7⟩
  have c2 := be2 (m.drop 2)
  exact .inl ⟨_, _, _, _, _, _, _, _, _, _, w_Ip_ok m hl (by omega) h2 (by omega) (by omega) (by omega) (by omega) h7, w_rIp_ok m hl (by omega) h2 (by omega) (by omega) (by omega) (by omega) h7, by omega, by omega, by omega, be4 _, be4 _⟩
theorem l4_c2 (a b p : Nat) (m : List UInt8) (ha : a < 4294967296) (hb : b < 4294967296) (hl : m.length ≤ 65535) :
    (∃ (k ty co re sp dp se ac fl wi ur : Nat) (ns : Bool) (op da : ByteArray), Spec0 Try.prog 24 [I .u32 (a : Nat), I .u32 (b : Nat), I .i64 (p : Nat), .im 1 (m.map byteAV)] (.tup [(l4V (k : Nat) (ty : Nat) (co : Nat) (re : Nat) (sp : Nat) (dp : Nat) ns (se : Nat) (ac : Nat) (fl : Nat) (wi : Nat) (ur : Nat) op da), I .i64 0]) ∧ Spec0 Try.prog 27 [I .u32 (a : Nat), I .u32 (b : Nat), I .i64 (p : Nat), .im 1 (m.map byteAV)] (.tup [(l4V (k : Nat) (ty : Nat) (co : Nat) (re : Nat) (sp : Nat) (dp : Nat) ns (se : Nat) (ac : Nat) (fl : Nat) (wi : Nat) (ur : Nat) op da), I .i64 0]) ∧ sp ≤ 65535 ∧ da.size ≤ 65535) ∨
    (∃ e : Int, e ≠ 0 ∧ Spec0 Try.prog 24 [I .u32 (a : Nat), I .u32 (b : Nat), I .i64 (p : Nat), .im 1 (m.map byteAV)] (.tup [l4V 0 0 0 0 0 0 false 0 0 0 0 0 ⟨#[]⟩ ⟨#[]⟩, I .i64 e]) ∧ Spec0 Try.prog 27 [I .u32 (a : Nat), I .u32 (b : Nat), I .i64 (p : Nat), .im 1 (m.map byteAV)] (.tup [l4V 0 0 0 0 0 0 false 0 0 0 0 0 ⟨#[]⟩ ⟨#[]⟩, I .i64 e])) := by
  have hl' : m.length ≤ 200000000000000 := by omega
  have w2 : ∀ p, fo (fo (psu a b p m.length) + fo (ws m m.length)) = fo (psu a b p m.length + ws m m.length) := fun p => by rw [fo_add, fo_add']
  have c0 := be2 m
  have dz : ∀ k, (⟨(List.drop k m).toArray⟩ : ByteArray).size ≤ 65535 := fun k => by rw [ba_szL, List.length_drop]; omega
  by_cases p1 : p = 1
  · subst p1
    by_cases h1 : m.length < 8
    · exact .inr ⟨20, by decide, w_L4_ic_short a b m ha hb hl' h1, w_rL4_ic_short a b m ha hb hl' h1⟩
    by_cases h2 : fo (ws m m.length) = 65535
    · exact .inl ⟨1, _, _, _, 0, 0, 0, 0, 0, 0, 0, false, _, _, w_L4_ic_ok a b m ha hb hl' (by omega) h2, w_rL4_ic_ok a b m ha hb hl' (by omega) h2, by decide, dz _⟩
    · exact .inr ⟨30, by decide, w_L4_ic_sum a b m ha hb hl' (by omega) h2, w_rL4_ic_sum a b m ha hb hl' (by omega) h2⟩
  by_cases p2 : p = 17
  · subst p2
    by_cases h1 : m.length < 8
    · exact .inr ⟨20, by decide, w_L4_ud_short a b m ha hb hl' h1, w_rL4_ud_short a b m ha hb hl' h1⟩
    by_cases h2 : be ((m.drop 4).take 2) = m.length
    rotate_left
    · exact .inr ⟨21, by decide, w_L4_ud_form a b m ha hb hl' (by omega) h2, w_rL4_ud_form a b m ha hb hl' (by omega) h2⟩
    by_cases h3 : be ((m.drop 6).take 2) = 0
    · exact .inl ⟨2, 0, 0, 0, _, _, 0, 0, 0, 0, 0, true, _, _, w_L4_ud_none a b m ha hb hl' (by omega) h2 h3, w_rL4_ud_none a b m ha hb hl' (by omega) h2 h3, by omega, dz _⟩
    by_cases h4 : fo (psu a b 17 m.length + ws m m.length) = 65535
    · exact .inl ⟨2, 0, 0, 0, _, _, 0, 0, 0, 0, 0, false, _, _, w_L4_ud_ok a b m ha hb hl' (by omega) h2 h3 h4, w_rL4_ud_ok a b m ha hb hl' (by omega) h2 h3 (by rw [w2]; exact h4), by omega, dz _⟩
    · exact .inr ⟨30, by decide, w_L4_ud_sum a b m ha hb hl' (by omega) h2 h3 h4, w_rL4_ud_sum a b m ha hb hl' (by omega) h2 h3 (by rw [w2]; exact h4)⟩
  by_cases p3 : p = 6
  · subst p3
    by_cases h1 : m.length < 20
    · exact .inr ⟨20, by decide, w_L4_tc_short a b m ha hb hl' h1, w_rL4_tc_short a b m ha hb hl' h1⟩
    by_cases h2 : 4 * ((m.getD 12 0).toNat / 16) < 20
    · exact .inr ⟨21, by decide, w_L4_tc_form a b m ha hb hl' (by omega) h2, w_rL4_tc_form a b m ha hb hl' (by omega) h2⟩
    by_cases h3 : m.length < 4 * ((m.getD 12 0).toNat / 16)
    · exact .inr ⟨20, by decide, w_L4_tc_short2 a b m ha hb hl' (by omega) (by omega) h3, w_rL4_tc_short2 a b m ha hb hl' (by omega) (by omega) h3⟩
    by_cases h4 : fo (psu a b 6 m.length + ws m m.length) = 65535
    · exact .inl ⟨3, 0, 0, 0, _, _, _, _, _, _, _, false, _, _, w_L4_tc_ok a b m ha hb hl' (by omega) (by omega) (by omega) h4, w_rL4_tc_ok a b m ha hb hl' (by omega) (by omega) (by omega) (by rw [w2]; exact h4), by omega, dz _⟩
    · exact .inr ⟨30, by decide, w_L4_tc_sum a b m ha hb hl' (by omega) (by omega) (by omega) h4, w_rL4_tc_sum a b m ha hb hl' (by omega) (by omega) (by omega) (by rw [w2]; exact h4)⟩
  · exact .inl ⟨0, 0, 0, 0, 0, 0, 0, 0, 0, 0, 0, false, _, _, w_L4_op a b (p : Nat) m (by omega) (by omega) (by omega), w_rL4_op a b (p : Nat) m (by omega) (by omega) (by omega), by decide, by rw [ba_szL]; exact hl⟩
theorem decap_both (l : List UInt8) (hl : l.length ≤ 200000000000000) :
    (∃ (src dst sp vn : Nat) (oam : Bool) (os : List Opt) (fr : ByteArray), Spec0 Try.prog 10 [.im 1 (l.map byteAV)] (.tup [.agg [I .u32 (src : Nat), I .u32 (dst : Nat), I .i64 (sp : Nat), I .i64 (vn : Nat), B oam, OL os, S fr], I .i64 0]) ∧ Spec0 Try.prog 12 [.im 1 (l.map byteAV)] (.tup [.agg [I .u32 (src : Nat), I .u32 (dst : Nat), I .i64 (sp : Nat), I .i64 (vn : Nat), B oam, OL os, S fr], I .i64 0]) ∧ Spec0 Try.prog 7 [.agg [I .u32 (src : Nat), I .u32 (dst : Nat), I .i64 (sp : Nat), I .i64 (vn : Nat), B oam, OL os, S fr]] (.tup [.im 1 (l.map byteAV), I .i64 0]) ∧ os.length ≤ 4611686018427387) ∨
    (∃ e : Int, e ≠ 0 ∧ Spec0 Try.prog 10 [.im 1 (l.map byteAV)] (.tup [.agg Z7, I .i64 e]) ∧ Spec0 Try.prog 12 [.im 1 (l.map byteAV)] (.tup [.agg Z7, I .i64 e])) := by
  rcases ip_c2 l hl with ⟨tos, id, frag, ttl, proto, src, dst, S, T, opt, hI, hI', h2, h3, h4, q1, q2⟩ | ⟨e, he, hI, hI'⟩
  rotate_left
  · exact .inr ⟨e, he, w_Dc_e l hl e he hI, w_rDc_e l hl e he hI'⟩
  have lm : ((l.drop S).take (T - S)).length ≤ 65535 := by rw [List.length_take, List.length_drop]; omega
  rcases l4_c2 src dst proto ((l.drop S).take (T - S)) q1 q2 lm with ⟨k, ty, co, re, sp, dp, se, ac, fl, wi, ur, ns, op, da, hL, hL', hsp, hda⟩ | ⟨e, he, hL, hL'⟩
  rotate_left
  · exact .inr ⟨e, he, w_Dc_l4 l hl tos id frag ttl proto src dst S T opt hI h2 h3 e he hL, w_rDc_l4 l hl tos id frag ttl proto src dst S T opt hI' h2 h3 e he hL'⟩
  have hR := w_read da (by omega)
  have hR' := w_inner da (by omega)
  have hv := vnS_le da
  have hfr : (da.extract (zS da) da.size).size ≤ 140737488351232 := by rw [ex_size _ (Nat.le_refl _)]; omega
  generalize vnS da = vn at *
  generalize oamS da = oam at *
  generalize da.extract (zS da) da.size = fr at *
  cases hr : rdR da with
  | none =>
    rw [hr] at hR hR'
    have ok0 : okA [] := ⟨rfl, Nat.zero_le _⟩
    rcases enc_c src dst sp 0 false [] ⟨#[]⟩ q1 q2 hsp (by decide) (by decide) (fun o ho => absurd ho (by simp)) ok0 (by decide) with ⟨A, hA, e1, e2⟩ | ⟨e, he, e1, e2⟩
    · exact .inr ⟨70, by decide, w_Dc_r0 l hl tos id frag ttl proto src dst S T opt hI h2 h3 k ty co re sp dp se ac fl wi ur ns op da hL hR A (by omega) (nilArg e1), w_rDc_r0 l hl tos id frag ttl proto src dst S T opt hI' h2 h3 k ty co re sp dp se ac fl wi ur ns op da hL' hR' A (by omega) (nilArg e2)⟩
    · obtain ⟨L, _, _, e3, _, _⟩ := tun_ok src dst sp 0 false [] ⟨#[]⟩ q1 q2 hsp (by decide) (by decide) (fun o ho => absurd ho (by simp)) ok0 (by decide)
      obtain ⟨L', hL9, _, e3, e4, _⟩ := tun_ok src dst sp 0 false [] ⟨#[]⟩ q1 q2 hsp (by decide) (by decide) (fun o ho => absurd ho (by simp)) ok0 (by decide)
      exact .inr ⟨70, by decide, w_Dc_r0 l hl tos id frag ttl proto src dst S T opt hI h2 h3 k ty co re sp dp se ac fl wi ur ns op da hL hR L' (by omega) (nilArg e3), w_rDc_r0 l hl tos id frag ttl proto src dst S T opt hI' h2 h3 k ty co re sp dp se ac fl wi ur ns op da hL' hR' L' (by omega) (nilArg e4)⟩
  | some os =>
    rw [hr] at hR hR'
    obtain ⟨ha, hl0, hz0⟩ := rd_okA hr
    rcases enc_c src dst sp vn oam os fr q1 q2 hsp hv hl0 hz0 ha hfr with ⟨A, hA, e1, e2⟩ | ⟨e, he, e1, e2⟩
    · by_cases hal : A = l
      · subst hal
        exact .inl ⟨src, dst, sp, vn, oam, os, fr, w_Dc_ok A hl tos id frag ttl proto src dst S T opt hI h2 h3 k ty co re sp dp se ac fl wi ur ns op da hL vn oam os fr hR e1, w_rDc_ok A hl tos id frag ttl proto src dst S T opt hI' h2 h3 k ty co re sp dp se ac fl wi ur ns op da hL' vn oam os fr hR' e2, e1, hl0⟩
      · have hne : ((⟨A.toArray⟩ : ByteArray).toList == (⟨l.toArray⟩ : ByteArray).toList) = false := by
          rw [ByteArray.toList_eq, ByteArray.toList_eq]; simpa using hal
        exact .inr ⟨70, by decide, w_Dc_tun l hl tos id frag ttl proto src dst S T opt hI h2 h3 k ty co re sp dp se ac fl wi ur ns op da hL vn oam os fr hR A (by omega) hne e1, w_rDc_tun l hl tos id frag ttl proto src dst S T opt hI' h2 h3 k ty co re sp dp se ac fl wi ur ns op da hL' vn oam os fr hR' A (by omega) hne e2⟩
    · exact .inr ⟨70, by decide, w_Dc_tb l hl tos id frag ttl proto src dst S T opt hI h2 h3 k ty co re sp dp se ac fl wi ur ns op da hL vn oam os fr hR e he e1, w_rDc_tb l hl tos id frag ttl proto src dst S T opt hI' h2 h3 k ty co re sp dp se ac fl wi ur ns op da hL' vn oam os fr hR' e he e2⟩
theorem w_GeneveDecaps (l : List UInt8) (hl : l.length ≤ 200000000000000) : Spec0 Try.prog 4 [.im 1 (l.map byteAV)] (B true) := by
  rcases decap_both l hl with ⟨src, dst, sp, vn, oam, os, fr, h1, h2, h3, h4⟩ | ⟨e, he, h1, h2⟩
  · exact w_GD_ok l hl w_lives (src : Nat) (dst : Nat) (sp : Nat) (vn : Nat) oam os fr (w_Same (src : Nat) (dst : Nat) (sp : Nat) (vn : Nat) oam os fr h4) h1 h2 h3
  · exact w_GD_bad l hl w_lives e he w_Same0 h1 h2

end Go.Proofs.Ytkhpligflffamaa
