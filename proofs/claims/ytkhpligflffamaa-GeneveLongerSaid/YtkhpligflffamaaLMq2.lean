/-
  The law GeneveLonger.
-/
import Derived.Test.YtkhpligflffamaaLEq2
import Derived.Test.YtkhpligflffamaaDEq2
import Derived.Test.YtkhpligflffamaaLNq2
set_option linter.unusedVariables false
set_option linter.unusedSimpArgs false
set_option maxRecDepth 100000
set_option maxHeartbeats 1000000
namespace Go.Proofs.Ytkhpligflffamaa
open Go Go.SL Go.Proofs

theorem ip_sp2 (src dst n : Nat) (h1 : src < 4294967296) (h2 : dst < 4294967296) (h3 : n ≤ 65515) : ∃ X : List UInt8, (X.length = 20 ∧ (X.getD 0 0).toNat = 69 ∧ be ((X.drop 2).take 2) = 20 + n) ∧
    SpecO Try.prog 19 [ipV 0 0 16384 64 17 (src : Nat) (dst : Nat) ⟨#[]⟩, I .i64 (n : Nat)] (X.map byteAV) X.length [I .i64 0] ∧ ipR 0 0 16384 64 17 src dst n ⟨#[]⟩ X := by
  have hz : (⟨#[]⟩ : ByteArray).size = 0 := rfl
  have lX : ∀ c, (ipT src dst n c).length = 20 := fun c => rfl
  generalize hc : 65535 - fo (ws (ipT src dst n 0) (ipT src dst n 0).length) = c
  have hcc : c ≤ 65535 := by omega
  have k1 := w_Check (l := ipT src dst n 0) (by rw [lX]; decide)
  rw [hc] at k1
  have b2 : be (List.take 2 (List.drop 2 (ipT src dst n c))) = 20 + (⟨#[]⟩ : ByteArray).size + n := be_ub2 (by rw [hz]; omega)
  exact ⟨ipT src dst n c, ⟨lX c, ub_nat (n := 69) (by decide), b2⟩, SpecO.cg (w_Ei 0 0 16384 64 17 src dst n ⟨#[]⟩ (by decide) (by decide) (by decide) (by decide) (by decide) h1 h2 (by decide) rfl (by rw [hz]; omega) c hcc k1) rfl (lX c).symm,
    ip_read (by decide) (by decide) (by decide) (by decide) (by decide) h1 h2 (by decide) rfl (by rw [hz]; omega) hcc hc.symm⟩
theorem tl_ne {a b : List UInt8} (h : a.length ≠ b.length) : ((⟨a.toArray⟩ : ByteArray).toList == (⟨b.toArray⟩ : ByteArray).toList) = false := by
  rw [ByteArray.toList_eq, ByteArray.toList_eq]
  have : a ≠ b := fun e => h (by rw [e])
  simpa using this
theorem tun_more (src dst sp vn : Nat) (oam : Bool) (l : List Opt) (fr : ByteArray) (h1 : src < 4294967296) (h2 : dst < 4294967296) (hsp : sp ≤ 65535) (hvn : vn ≤ 16777215) (hl0 : l.length ≤ 4611686018427387) (hz0 : ∀ o ∈ l, o.d.size ≤ 200000000000000) (ha : okA l) (hfr : fr.size ≤ 9018) :
    ∃ L : List UInt8, L.length ≤ 65535 ∧ 28 ≤ L.length ∧ Spec0 Try.prog 7 [.agg [I .u32 (src : Nat), I .u32 (dst : Nat), I .i64 (sp : Nat), I .i64 (vn : Nat), B oam, OL l, S fr]] (.tup [.im 1 (L.map byteAV), I .i64 0]) ∧ Spec0 Try.prog 10 [.im 1 (L.map byteAV)] (.tup [.agg [I .u32 (src : Nat), I .u32 (dst : Nat), I .i64 (sp : Nat), I .i64 (vn : Nat), B oam, OL l, S fr], I .i64 0]) ∧ (∀ m : List UInt8, 0 < m.length → m.length ≤ 150000000000000 → Spec0 Try.prog 10 [.im 1 ((L ++ m).map byteAV)] (.tup [.agg Z7, I .i64 70])) ∧ (∀ kk : Nat, kk < L.length → Spec0 Try.prog 10 [.im 1 ((L.take kk).map byteAV)] (.tup [.agg Z7, I .i64 20])) := by
  obtain ⟨d1, d2, d3, d4⟩ := rd_hdr (vn := vn) (oam := oam) (cr := l.any crit) (fr := fr) ha hvn
  have hO := w_options l hl0 hz0
  rw [if_pos ha] at hO
  have hle := ha.2
  have hlen := hdr_len (l.flatMap opB) vn oam (l.any crit) fr
  generalize hLd : hdrL (l.flatMap opB) vn oam (l.any crit) fr = Ld at *
  obtain ⟨s1, s2⟩ := ud_sp src dst sp h1 h2 Ld hsp (by omega)
  have lD := udB_len sp 6081 (8 + Ld.length) 0 Ld
  have dD : List.drop 8 (udB sp 6081 (8 + Ld.length) 0 Ld) = Ld := rfl
  have b0 : be (List.take 2 (udB sp 6081 (8 + Ld.length) 0 Ld)) = sp := be_ub2 (n := sp) (by omega)
  have b2 : be (List.take 2 (List.drop 2 (udB sp 6081 (8 + Ld.length) 0 Ld))) = 6081 := be_ub2 (n := 6081) (by decide)
  have b4 : be (List.take 2 (List.drop 4 (udB sp 6081 (8 + Ld.length) 0 Ld))) = 8 + Ld.length := be_ub2 (n := 8 + Ld.length) (by omega)
  have b6 : be (List.take 2 (List.drop 6 (udB sp 6081 (8 + Ld.length) 0 Ld))) = 0 := be_ub2 (n := 0) (by decide)
  generalize udB sp 6081 (8 + Ld.length) 0 Ld = D at *
  obtain ⟨X, ⟨lX, x69, xbe⟩, x1, xR⟩ := ip_sp2 src dst D.length h1 h2 (by omega)
  have hE : Spec0 Try.prog 7 [.agg [I .u32 (src : Nat), I .u32 (dst : Nat), I .i64 (sp : Nat), I .i64 (vn : Nat), B oam, OL l, S fr]] (.tup [.im 1 ((X ++ D).map byteAV), I .i64 0]) := by
    have fin : ∀ {K : AV}, K = .tup [.im 1 ((X ++ List.take D.length D).map byteAV), I .i64 0] → K = .tup [.im 1 ((X ++ D).map byteAV), I .i64 0] := fun h => by rw [h, List.take_length]
    cases oam <;> cases hc : l.any crit <;> rw [hc] at hO hLd
    · exact Spec0.cg (w_En_ff src dst sp vn l fr hfr hsp hvn _ hle hO ⟨Ld.toArray⟩ (by rw [← hLd]; rfl) D (by omega) s1 X (by omega) x1) (fin rfl)
    · exact Spec0.cg (w_En_ft src dst sp vn l fr hfr hsp hvn _ hle hO ⟨Ld.toArray⟩ (by rw [← hLd]; rfl) D (by omega) s1 X (by omega) x1) (fin rfl)
    · exact Spec0.cg (w_En_tf src dst sp vn l fr hfr hsp hvn _ hle hO ⟨Ld.toArray⟩ (by rw [← hLd]; rfl) D (by omega) s1 X (by omega) x1) (fin rfl)
    · exact Spec0.cg (w_En_tt src dst sp vn l fr hfr hsp hvn _ hle hO ⟨Ld.toArray⟩ (by rw [← hLd]; rfl) D (by omega) s1 X (by omega) x1) (fin rfl)
  have hl : (X ++ D).length = 20 + D.length := by rw [List.length_append, lX]
  have hL := w_L4_ud_none src dst D h1 h2 (by omega) (by omega) (by rw [b4]; omega) b6
  rw [b0, b2, dD] at hL
  have hR := w_read ⟨Ld.toArray⟩ (by rw [ba_szL]; omega)
  rw [d1, d2, d3, d4] at hR
  have eD : ∀ m : List UInt8, ((X ++ (D ++ m)).drop 20).take (20 + D.length - 20) = D := fun m => by
    rw [← lX, List.drop_left, lX, Nat.add_sub_cancel_left, List.take_left]
  have hI : ∀ m : List UInt8, m.length ≤ 150000000000000 → Spec0 Try.prog 23 [.im 1 ((X ++ (D ++ m)).map byteAV)] (.tup [ipV 0 0 16384 64 17 (src : Nat) (dst : Nat) ⟨#[]⟩, I .i64 (20 : Nat), I .i64 ((20 + D.length : Nat)), I .i64 0]) := fun m hm => by
    have := xR (D ++ m) (by rw [List.length_append]; omega) (by simp only [List.length_append]; omega)
    rw [lX] at this
    exact this
  refine ⟨X ++ D, by omega, by omega, hE, ?_, fun m h0 hm => ?_, fun kk hk => ?_⟩
  · have h := hI [] (by decide)
    have e := eD []
    rw [List.append_nil] at h e
    exact w_Dc_ok (X ++ D) (by omega) 0 0 16384 64 17 src dst 20 (20 + D.length) ⟨#[]⟩ h (by omega) (by omega) 2 0 0 0 sp 6081 0 0 0 0 0 true ⟨#[]⟩ ⟨Ld.toArray⟩ (by rw [e]; exact hL) vn oam l fr hR hE
  · rw [List.append_assoc]
    have hlm : (X ++ (D ++ m)).length = 20 + D.length + m.length := by simp only [List.length_append]; omega
    exact w_Dc_tun (X ++ (D ++ m)) (by omega) 0 0 16384 64 17 src dst 20 (20 + D.length) ⟨#[]⟩ (hI m hm) (by omega) (by omega) 2 0 0 0 sp 6081 0 0 0 0 0 true ⟨#[]⟩ ⟨Ld.toArray⟩ (by rw [eD]; exact hL) vn oam l fr hR (X ++ D) (by omega) (tl_ne (by omega)) hE
  · have lk : ((X ++ D).take kk).length = kk := by rw [List.length_take]; omega
    by_cases h20 : kk < 20
    · exact w_Dc_e _ (by omega) 20 (by decide) (w_Ip_short _ (by omega) (by omega))
    have g0 : ((X ++ D).take kk).getD 0 0 = X.getD 0 0 := by
      rw [List.getD_eq_getElem?_getD, List.getD_eq_getElem?_getD, List.getElem?_take_of_lt (by omega), List.getElem?_append_left (by omega)]
    have g2 : (((X ++ D).take kk).drop 2).take 2 = (X.drop 2).take 2 := by
      rw [List.drop_take, List.take_take, Nat.min_eq_left (by omega), List.drop_append_of_le_length (by omega), List.take_append_of_le_length (by rw [List.length_drop]; omega)]
    exact w_Dc_e _ (by omega) 20 (by decide) (w_Ip_short3 _ (by omega) (by omega) (by rw [g0, x69]) (by rw [g0, x69]; decide) (by rw [g0, x69, lk]; omega) (by rw [g2, xbe, lk]; omega))

theorem w_GeneveLonger (src dst sp vn less : Int) (oam : Bool) (l : List Opt) (fr : ByteArray) (m : List UInt8) (q1 : 0 ≤ src ∧ src < 4294967296) (q2 : 0 ≤ dst ∧ dst < 4294967296) (hl0 : l.length ≤ 4611686018427387) (hz0 : ∀ o ∈ l, o.d.size ≤ 200000000000000) (hfr : fr.size ≤ 140737488351232) (hm1 : m.length ≤ 140737488351232) : Spec0 Try.prog 5 [.agg [I .u32 src, I .u32 dst, I .i64 sp, I .i64 vn, B oam, OL l, S fr], .im 1 (m.map byteAV), I .i64 less] (B true) := by
  have bad : ∀ e : Int, e ≠ 0 → Spec0 Try.prog 7 [.agg [I .u32 src, I .u32 dst, I .i64 sp, I .i64 vn, B oam, OL l, S fr]] (.tup [.nil, I .i64 e]) → Spec0 Try.prog 5 [.agg [I .u32 src, I .u32 dst, I .i64 sp, I .i64 vn, B oam, OL l, S fr], .im 1 (m.map byteAV), I .i64 less] (B true) :=
    fun e he h1 => w_GL_bad src dst sp vn less oam l fr m hm1 w_lives e he h1
  have hO := w_options l hl0 hz0
  by_cases ha : okA l
  · rw [if_pos ha] at hO
    by_cases c1 : sp < 0
    · exact bad 1 (by decide) (w_En_s1 src dst sp vn oam l fr hfr _ _ ha.2 hO c1)
    by_cases c2 : 65535 < sp
    · exact bad 1 (by decide) (w_En_s2 src dst sp vn oam l fr hfr _ _ ha.2 hO (by omega) c2)
    by_cases c3 : vn < 0
    · exact bad 1 (by decide) (w_En_v1 src dst sp vn oam l fr hfr _ _ ha.2 hO (by omega) (by omega) c3)
    by_cases c4 : 16777215 < vn
    · exact bad 1 (by decide) (w_En_v2 src dst sp vn oam l fr hfr _ _ ha.2 hO (by omega) (by omega) (by omega) c4)
    obtain ⟨sp, rfl⟩ := Int.eq_ofNat_of_zero_le (show 0 ≤ sp by omega)
    obtain ⟨vn, rfl⟩ := Int.eq_ofNat_of_zero_le (show 0 ≤ vn by omega)
    by_cases c5 : 9018 < fr.size
    · exact bad 3 (by decide) (w_En_f src dst (sp : Nat) (vn : Nat) oam l fr hfr _ _ ha.2 hO (by omega) (by omega) (by omega) (by omega) c5)
    obtain ⟨src, rfl⟩ := Int.eq_ofNat_of_zero_le q1.1
    obtain ⟨dst, rfl⟩ := Int.eq_ofNat_of_zero_le q2.1
    obtain ⟨L, hL1, hL2, hE, hD, hMo, hK⟩ := tun_more src dst sp vn oam l fr (by omega) (by omega) (by omega) (by omega) hl0 hz0 ha (by omega)
    have hs := w_Same0
    have t1 := Int.tmod_lt_of_pos less (show (0 : Int) < ((L.length : Nat) : Int) by omega)
    have t2 := Int.lt_tmod_of_pos less (show (0 : Int) < ((L.length : Nat) : Int) by omega)
    generalize hz : less.tmod ((L.length : Nat) : Int) = z at t1 t2
    by_cases hzs : 0 ≤ z
    · obtain ⟨kk, rfl⟩ := Int.eq_ofNat_of_zero_le hzs
      have hD2 := hK kk (by omega)
      by_cases hm : m.length = 0
      · exact w_GL_0p (src : Nat) (dst : Nat) (sp : Nat) (vn : Nat) less oam l fr m hm1 w_lives L hL1 hL2 hE hs kk (by omega) hD2 hm (by rw [List.eq_nil_of_length_eq_zero hm, List.append_nil]; exact hD) hz
      · exact w_GL_1p (src : Nat) (dst : Nat) (sp : Nat) (vn : Nat) less oam l fr m hm1 w_lives L hL1 hL2 hE hs kk (by omega) hD2 (by omega) (hMo m (by omega) (by omega)) hz
    · obtain ⟨kk, hkk⟩ := Int.eq_ofNat_of_zero_le (show 0 ≤ z + ((L.length : Nat) : Int) by omega)
      have hD2 := hK kk (by omega)
      by_cases hm : m.length = 0
      · exact w_GL_0n (src : Nat) (dst : Nat) (sp : Nat) (vn : Nat) less oam l fr m hm1 w_lives L hL1 hL2 hE hs kk (by omega) hD2 hm (by rw [List.eq_nil_of_length_eq_zero hm, List.append_nil]; exact hD) z (by omega) (by omega) hz hkk
      · exact w_GL_1n (src : Nat) (dst : Nat) (sp : Nat) (vn : Nat) less oam l fr m hm1 w_lives L hL1 hL2 hE hs kk (by omega) hD2 (by omega) (hMo m (by omega) (by omega)) z (by omega) (by omega) hz hkk
  · rw [if_neg ha] at hO
    exact bad 1 (by decide) (w_En_o src dst sp vn oam l fr hfr hO)

end Go.Proofs.Ytkhpligflffamaa
