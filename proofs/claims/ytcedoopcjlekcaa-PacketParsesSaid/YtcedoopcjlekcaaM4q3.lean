/-
  Both readers answer the same, and what is read is printed near to what it was.
-/
import Derived.Test.YtcedoopcjlekcaaM3q3
import Derived.Test.YtcedoopcjlekcaaY3rq3
import Derived.Test.YtcedoopcjlekcaaP1q3
set_option linter.unusedVariables false
set_option linter.unusedSimpArgs false
set_option maxRecDepth 100000
set_option maxHeartbeats 1000000
namespace Go.Proofs.Ytcedoopcjlekcaa
open Go Go.SL Go.Proofs
theorem wh_iff {n : Nat} (h : n < 65536) : whB (n : Int) = true ↔ n % 16384 = 0 := by
  unfold whB
  have e1 : BitVec.ofInt 64 (n : Int) = BitVec.ofNat 64 n := by simp
  have e2 : BitVec.ofInt 64 16383 = BitVec.ofNat 64 16383 := rfl
  rw [e1, e2, BitVec.toNat_and, BitVec.toNat_ofNat, BitVec.toNat_ofNat, Nat.mod_eq_of_lt (by omega), Nat.mod_eq_of_lt (by omega)]
  rw [show (16383 : Nat) = 2 ^ 14 - 1 from rfl, Nat.and_two_pow_sub_one_eq_mod, IntWalk.i64_in _ (by omega)]
  simp
  omega
theorem kind_c (tos id frag ttl proto src dst : Int) (opt : ByteArray) : ∃ w : Int, Spec0 Try.prog 48 [ipV tos id frag ttl proto src dst opt] (I .i64 w) ∧ (whB frag = true → Spec0 Try.prog 54 [I .i64 proto] (I .i64 w) ∧ (w = 1 ↔ proto = 1) ∧ (w = 2 ↔ proto = 17) ∧ (w = 3 ↔ proto = 6)) ∧ (whB frag = false → w = 0) ∧ 0 ≤ w ∧ w ≤ 3 := by
  cases hW : whB frag
  · exact ⟨0, w_kind_w tos id frag ttl proto src dst opt hW, fun h => by simp at h, fun _ => rfl, by decide, by decide⟩
  · by_cases h1 : proto = 1
    · subst h1; exact ⟨1, w_kind_1 tos id frag ttl src dst opt hW, fun _ => ⟨w_rkind_1, by decide, by decide, by decide⟩, fun h => by simp at h, by decide, by decide⟩
    by_cases h2 : proto = 17
    · subst h2; exact ⟨2, w_kind_17 tos id frag ttl src dst opt hW, fun _ => ⟨w_rkind_17, by decide, by decide, by decide⟩, fun h => by simp at h, by decide, by decide⟩
    by_cases h3 : proto = 6
    · subst h3; exact ⟨3, w_kind_6 tos id frag ttl src dst opt hW, fun _ => ⟨w_rkind_6, by decide, by decide, by decide⟩, fun h => by simp at h, by decide, by decide⟩
    exact ⟨0, w_kind_o tos id frag ttl proto src dst opt hW h1 h2 h3, fun _ => ⟨w_rkind_o proto h1 h2 h3, by omega, by omega, by omega⟩, fun h => by simp at h, by decide, by decide⟩

theorem ba_sz (l : List UInt8) : (⟨l.toArray⟩ : ByteArray).size = l.length := rfl
theorem ba_tl (l : List UInt8) : (⟨l.toArray⟩ : ByteArray).data.toList = l := by simp
theorem hd_c (l : List UInt8) (hl : l.length ≤ 200000000000000) :
    (∃ (d s tag ty n : Nat) (tg : Bool), Spec0 Try.prog 16 [.im 1 (l.map byteAV)] (.tup [ethV (d : Nat) (s : Nat) (tag : Nat) (ty : Nat) tg, I .i64 (n : Nat), I .i64 0]) ∧ Spec0 Try.prog 20 [.im 1 (l.map byteAV)] (.tup [ethV (d : Nat) (s : Nat) (tag : Nat) (ty : Nat) tg, I .i64 (n : Nat), I .i64 0]) ∧ n ≤ l.length ∧ l.length ≤ 9018 ∧ n ≤ 18 ∧ n % 2 = 0 ∧
      One 27 [ethV (d : Nat) (s : Nat) (tag : Nat) (ty : Nat) tg] (l.take n) ∧ ethR d s tag ty tg (l.take n)) ∨
    (∃ e : Int, e ≠ 0 ∧ Spec0 Try.prog 16 [.im 1 (l.map byteAV)] (.tup [ethV 0 0 0 0 false, I .i64 0, I .i64 e]) ∧ Spec0 Try.prog 20 [.im 1 (l.map byteAV)] (.tup [ethV 0 0 0 0 false, I .i64 0, I .i64 e])) := by
  by_cases h1 : 9018 < l.length
  · exact .inr ⟨3, by decide, w_Head_long l hl h1, w_rHead_long l hl h1⟩
  by_cases h2 : l.length < 14
  · exact .inr ⟨20, by decide, w_Head_short l hl h2, w_rHead_short l hl h2⟩
  have b2 := be2 (l.drop 12)
  have b6 := be6 l
  have b6' := be6 (l.drop 6)
  by_cases h3 : be ((l.drop 12).take 2) = 33024
  · by_cases h4 : l.length < 18
    · exact .inr ⟨20, by decide, w_Head_short2 l hl (by omega) (by omega) h3 h4, w_rHead_short2 l hl (by omega) (by omega) h3 h4⟩
    · by_cases h5 : be ((l.drop 16).take 2) = 33024
      · exact .inr ⟨21, by decide, w_Head_form l hl (by omega) (by omega) h3 h5, w_rHead_form l hl (by omega) (by omega) h3 h5⟩
      · have b14 := be2 (l.drop 14)
        have b16 := be2 (l.drop 16)
        have k := eth_ok1 (be (l.take 6)) (be ((l.drop 6).take 6)) (be ((l.drop 14).take 2)) (be ((l.drop 16).take 2)) (by omega) (by omega) (by omega) (by omega) h5
        rw [hd_dec1 (by omega) h3] at k
        exact .inl ⟨_, _, _, _, 18, true, w_Head_tag l hl (by omega) (by omega) h3 h5, w_rHead_tag l hl (by omega) (by omega) h3 h5, by omega, by omega, by omega, rfl, k.1, k.2⟩
  · have k := eth_ok0 (be (l.take 6)) (be ((l.drop 6).take 6)) (be ((l.drop 12).take 2)) (by omega) (by omega) (by omega) h3
    rw [hd_dec0 (by omega)] at k
    exact .inl ⟨_, _, 0, _, 14, false, w_Head_ok l hl (by omega) (by omega) h3, w_rHead_ok l hl (by omega) (by omega) h3, by omega, by omega, by omega, rfl, k.1, k.2⟩
theorem arp_c (m : List UInt8) (hl : m.length ≤ 200000000000000) :
    (∃ (ao sha spa tha tpa : Nat), Spec0 Try.prog 17 [.im 1 (m.map byteAV)] (.tup [arpV (ao : Nat) (sha : Nat) (spa : Nat) (tha : Nat) (tpa : Nat), I .i64 0]) ∧ Spec0 Try.prog 21 [.im 1 (m.map byteAV)] (.tup [arpV (ao : Nat) (sha : Nat) (spa : Nat) (tha : Nat) (tpa : Nat), I .i64 0]) ∧ 28 ≤ m.length ∧
      One 51 [arpV (ao : Nat) (sha : Nat) (spa : Nat) (tha : Nat) (tpa : Nat)] (m.take 28) ∧ arpR ao sha spa tha tpa (m.take 28)) ∨
    (∃ e : Int, e ≠ 0 ∧ Spec0 Try.prog 17 [.im 1 (m.map byteAV)] (.tup [arpV 0 0 0 0 0, I .i64 e]) ∧ Spec0 Try.prog 21 [.im 1 (m.map byteAV)] (.tup [arpV 0 0 0 0 0, I .i64 e])) := by
  by_cases h1 : m.length < 28
  · exact .inr ⟨20, by decide, w_Arp_short m hl h1, w_rArp_short m hl h1⟩
  by_cases h2 : be (m.take 6) = 4429186564
  · have h3 := arp_head (by omega) h2
    have b1 := be2 (m.drop 6)
    have b2 := be6 (m.drop 8)
    have b3 := be4 (m.drop 14)
    have b4 := be6 (m.drop 18)
    have b5 := be4 (m.drop 24)
    have k := arp_ok (be ((m.drop 6).take 2)) (be ((m.drop 8).take 6)) (be ((m.drop 14).take 4)) (be ((m.drop 18).take 6)) (be ((m.drop 24).take 4)) (by omega) (by omega) b3 (by omega) b5
    rw [arp_dec (by omega) h3] at k
    exact .inl ⟨_, _, _, _, _, w_Arp_ok m hl (by omega) (by rw [h3]), w_rArp_ok m hl (by omega) h2, by omega, k.1, k.2⟩
  · refine .inr ⟨21, by decide, w_Arp_form m hl (by omega) (fun h => h2 ?_), w_rArp_form m hl (by omega) h2⟩
    have : m.take 6 = [0, 1, 8, 0, 6, 4] := by
      have := congrArg (fun b : ByteArray => b.data.toList) h
      simpa using this
    rw [this]; rfl
theorem ip_c (m : List UInt8) (hl : m.length ≤ 200000000000000) :
    (∃ (tos id frag ttl proto src dst S T : Nat) (opt : ByteArray), Spec0 Try.prog 15 [.im 1 (m.map byteAV)] (.tup [ipV (tos : Nat) (id : Nat) (frag : Nat) (ttl : Nat) (proto : Nat) (src : Nat) (dst : Nat) opt, I .i64 (S : Nat), I .i64 (T : Nat), I .i64 0]) ∧ Spec0 Try.prog 22 [.im 1 (m.map byteAV)] (.tup [ipV (tos : Nat) (id : Nat) (frag : Nat) (ttl : Nat) (proto : Nat) (src : Nat) (dst : Nat) opt, I .i64 (S : Nat), I .i64 (T : Nat), I .i64 0]) ∧
      S ≤ T ∧ T ≤ m.length ∧ T ≤ 65535 ∧ 20 ≤ S ∧ S ≤ 60 ∧ S % 2 = 0 ∧ frag < 65536 ∧ proto < 256 ∧ src < 4294967296 ∧ dst < 4294967296 ∧
      ∃ X : List UInt8, X.length = S ∧ Apart X (m.take S) 10 ∧ One 53 [ipV (tos : Nat) (id : Nat) (frag : Nat) (ttl : Nat) (proto : Nat) (src : Nat) (dst : Nat) opt, I .i64 ((T - S : Nat))] X ∧ ipR tos id frag ttl proto src dst (T - S) opt X) ∨
    (∃ e : Int, e ≠ 0 ∧ Spec0 Try.prog 15 [.im 1 (m.map byteAV)] (.tup [ipV 0 0 0 0 0 0 0 ⟨#[]⟩, I .i64 0, I .i64 0, I .i64 e]) ∧ Spec0 Try.prog 22 [.im 1 (m.map byteAV)] (.tup [ipV 0 0 0 0 0 0 0 ⟨#[]⟩, I .i64 0, I .i64 0, I .i64 e])) := by
  by_cases h1 : m.length < 20
  · exact .inr ⟨20, by decide, w_Ip_short m hl h1, w_rIp_short m hl h1⟩
  by_cases h2 : (m.getD 0 0).toNat / 16 = 4
  rotate_left
  · exact .inr ⟨21, by decide, w_Ip_ver m hl (by omega) h2, w_rIp_ver m hl (by omega) h2⟩
  by_cases h3 : 4 * ((m.getD 0 0).toNat % 16) < 20
  · exact .inr ⟨21, by decide, w_Ip_small m hl (by omega) h2 h3, w_rIp_small m hl (by omega) h2 h3⟩
  by_cases h4 : m.length < 4 * ((m.getD 0 0).toNat % 16)
  · exact .inr ⟨20, by decide, w_Ip_short2 m hl (by omega) h2 (by omega) h4, w_rIp_short2 m hl (by omega) h2 (by omega) h4⟩
  by_cases h5 : m.length < be ((m.drop 2).take 2)
  · exact .inr ⟨20, by decide, w_Ip_short3 m hl (by omega) h2 (by omega) (by omega) h5, w_rIp_short3 m hl (by omega) h2 (by omega) (by omega) h5⟩
  by_cases h6 : be ((m.drop 2).take 2) < 4 * ((m.getD 0 0).toNat % 16)
  · exact .inr ⟨21, by decide, w_Ip_form m hl (by omega) h2 (by omega) (by omega) (by omega) h6, w_rIp_form m hl (by omega) h2 (by omega) (by omega) (by omega) h6⟩
  by_cases h7 : fo (ws (m.take (4 * ((m.getD 0 0).toNat % 16))) (m.take (4 * ((m.getD 0 0).toNat % 16))).length) = 65535
  rotate_left
  · exact .inr ⟨30, by decide, w_Ip_sum m hl (by omega) h2 (by omega) (by omega) (by omega) (by omega) h7, w_rIp_sum m hl (by omega) h2 (by omega) (by omega) (by omega) (by omega) h7⟩
  have k1 := w_Ip_ok m hl (by omega) h2 (by omega) (by omega) (by omega) (by omega) h7
  have k2 := w_rIp_ok m hl (by omega) h2 (by omega) (by omega) (by omega) (by omega) h7
  generalize hS : 4 * ((m.getD 0 0).toNat % 16) = S at *
  have hz : (⟨(List.take (S - 20) (List.drop 20 m)).toArray⟩ : ByteArray).size = S - 20 := by rw [ba_sz, List.length_take, List.length_drop]; omega
  have y1 := byte_le (m.getD 1 0)
  have y8 := byte_le (m.getD 8 0)
  have y9 := byte_le (m.getD 9 0)
  have c2 := be2 (m.drop 2)
  have c4 := be2 (m.drop 4)
  have c6 := be2 (m.drop 6)
  obtain ⟨c, q1, q2⟩ := ip_ok (m.getD 1 0).toNat (be ((m.drop 4).take 2)) (be ((m.drop 6).take 2)) (m.getD 8 0).toNat (m.getD 9 0).toNat (be ((m.drop 12).take 4)) (be ((m.drop 16).take 4)) (be ((m.drop 2).take 2) - S) ⟨(List.take (S - 20) (List.drop 20 m)).toArray⟩ (by omega) (by omega) (by omega) (by omega) (by omega) (be4 _) (be4 _) (by omega) (by omega) (by omega)
  rw [hz, ba_tl, show 20 + (S - 20) = S by omega, show S + (be ((m.drop 2).take 2) - S) = be ((m.drop 2).take 2) by omega] at q1 q2
  have hn := ip_near (c := c) (m := m) (by omega) h2 hS (by omega) (by omega) rfl rfl
  refine .inl ⟨_, _, _, _, _, _, _, S, _, _, k1, k2, by omega, by omega, by omega, by omega, by omega, by omega, c6, by omega, be4 _, be4 _, _, ?_, hn, q1, q2⟩
  rw [hn.1, List.length_take]; omega
theorem l4_c (a b p : Nat) (m : List UInt8) (ha : a < 4294967296) (hb : b < 4294967296) (hl : m.length ≤ 65515) :
    (∃ (k ty co re sp dp se ac fl wi ur : Nat) (ns : Bool) (op da : ByteArray), Spec0 Try.prog 19 [I .u32 (a : Nat), I .u32 (b : Nat), I .i64 (p : Nat), .im 1 (m.map byteAV)] (.tup [(l4V (k : Nat) (ty : Nat) (co : Nat) (re : Nat) (sp : Nat) (dp : Nat) ns (se : Nat) (ac : Nat) (fl : Nat) (wi : Nat) (ur : Nat) op da), I .i64 0]) ∧ Spec0 Try.prog 24 [I .u32 (a : Nat), I .u32 (b : Nat), I .i64 (p : Nat), .im 1 (m.map byteAV)] (.tup [(l4V (k : Nat) (ty : Nat) (co : Nat) (re : Nat) (sp : Nat) (dp : Nat) ns (se : Nat) (ac : Nat) (fl : Nat) (wi : Nat) (ur : Nat) op da), I .i64 0]) ∧ (k = 1 ↔ p = 1) ∧ (k = 2 ↔ p = 17) ∧ (k = 3 ↔ p = 6) ∧ k ≤ 3 ∧
      ∃ (D : List UInt8) (r : Nat), r % 2 = 0 ∧ Apart D m r ∧ One 52 [I .u32 (a : Nat), I .u32 (b : Nat), (l4V (k : Nat) (ty : Nat) (co : Nat) (re : Nat) (sp : Nat) (dp : Nat) ns (se : Nat) (ac : Nat) (fl : Nat) (wi : Nat) (ur : Nat) op da)] D ∧ l4R a b k ty co re sp dp ns se ac fl wi ur op da D) ∨
    (∃ e : Int, e ≠ 0 ∧ Spec0 Try.prog 19 [I .u32 (a : Nat), I .u32 (b : Nat), I .i64 (p : Nat), .im 1 (m.map byteAV)] (.tup [l4V 0 0 0 0 0 0 false 0 0 0 0 0 ⟨#[]⟩ ⟨#[]⟩, I .i64 e]) ∧ Spec0 Try.prog 24 [I .u32 (a : Nat), I .u32 (b : Nat), I .i64 (p : Nat), .im 1 (m.map byteAV)] (.tup [l4V 0 0 0 0 0 0 false 0 0 0 0 0 ⟨#[]⟩ ⟨#[]⟩, I .i64 e])) := by
  have hl' : m.length ≤ 200000000000000 := by omega
  have w2 : ∀ p, fo (fo (psu a b p m.length) + fo (ws m m.length)) = fo (psu a b p m.length + ws m m.length) := fun p => by rw [fo_add, fo_add']
  have y0 := byte_le (m.getD 0 0)
  have y1 := byte_le (m.getD 1 0)
  have c0 := be2 m
  have c2 := be2 (m.drop 2)
  by_cases p1 : p = 1
  · subst p1
    by_cases h1 : m.length < 8
    · exact .inr ⟨20, by decide, w_L4_ic_short a b m ha hb hl' h1, w_rL4_ic_short a b m ha hb hl' h1⟩
    by_cases h2 : fo (ws m m.length) = 65535
    · obtain ⟨D, ⟨c, eD⟩, lD, ⟨e1, _⟩, e2⟩ := ic_both a b ha hb (m.getD 0 0).toNat (m.getD 1 0).toNat (be ((m.drop 4).take 4)) ⟨(m.drop 8).toArray⟩ (by omega) (by omega) (be4 _) (by rw [ba_sz, List.length_drop]; omega)
      refine .inl ⟨1, _, _, _, 0, 0, 0, 0, 0, 0, 0, false, _, _, w_L4_ic_ok a b m ha hb hl' (by omega) h2, w_rL4_ic_ok a b m ha hb hl' (by omega) h2, by decide, by decide, by decide, by decide, D, 2, rfl, ?_, e1, e2⟩
      rw [eD, ba_tl]; exact ic_near (by omega)
    · exact .inr ⟨30, by decide, w_L4_ic_sum a b m ha hb hl' (by omega) h2, w_rL4_ic_sum a b m ha hb hl' (by omega) h2⟩
  by_cases p2 : p = 17
  · subst p2
    by_cases h1 : m.length < 8
    · exact .inr ⟨20, by decide, w_L4_ud_short a b m ha hb hl' h1, w_rL4_ud_short a b m ha hb hl' h1⟩
    by_cases h2 : be ((m.drop 4).take 2) = m.length
    rotate_left
    · exact .inr ⟨21, by decide, w_L4_ud_form a b m ha hb hl' (by omega) h2, w_rL4_ud_form a b m ha hb hl' (by omega) h2⟩
    have near : ∀ c, Apart (udB (be (m.take 2)) (be ((m.drop 2).take 2)) (8 + (⟨(m.drop 8).toArray⟩ : ByteArray).size) c (⟨(m.drop 8).toArray⟩ : ByteArray).data.toList) m 6 := fun c => by
      rw [ba_tl]; exact ud_near (by omega) (by rw [ba_sz, List.length_drop, h2]; omega)
    by_cases h3 : be ((m.drop 6).take 2) = 0
    · obtain ⟨D, ⟨c, eD⟩, lD, ⟨e1, _⟩, e2⟩ := ud_both a b ha hb (be (m.take 2)) (be ((m.drop 2).take 2)) true ⟨(m.drop 8).toArray⟩ (by omega) (by omega) (by rw [ba_sz, List.length_drop]; omega)
      exact .inl ⟨2, 0, 0, 0, _, _, 0, 0, 0, 0, 0, true, _, _, w_L4_ud_none a b m ha hb hl' (by omega) h2 h3, w_rL4_ud_none a b m ha hb hl' (by omega) h2 h3, by decide, by decide, by decide, by decide, D, 6, rfl, by rw [eD]; exact near c, e1, e2⟩
    by_cases h4 : fo (psu a b 17 m.length + ws m m.length) = 65535
    · obtain ⟨D, ⟨c, eD⟩, lD, ⟨e1, _⟩, e2⟩ := ud_both a b ha hb (be (m.take 2)) (be ((m.drop 2).take 2)) false ⟨(m.drop 8).toArray⟩ (by omega) (by omega) (by rw [ba_sz, List.length_drop]; omega)
      exact .inl ⟨2, 0, 0, 0, _, _, 0, 0, 0, 0, 0, false, _, _, w_L4_ud_ok a b m ha hb hl' (by omega) h2 h3 h4, w_rL4_ud_ok a b m ha hb hl' (by omega) h2 h3 (by rw [w2]; exact h4), by decide, by decide, by decide, by decide, D, 6, rfl, by rw [eD]; exact near c, e1, e2⟩
    · exact .inr ⟨30, by decide, w_L4_ud_sum a b m ha hb hl' (by omega) h2 h3 h4, w_rL4_ud_sum a b m ha hb hl' (by omega) h2 h3 (by rw [w2]; exact h4)⟩
  by_cases p3 : p = 6
  · subst p3
    by_cases h1 : m.length < 20
    · exact .inr ⟨20, by decide, w_L4_tc_short a b m ha hb hl' h1, w_rL4_tc_short a b m ha hb hl' h1⟩
    by_cases h2 : 4 * ((m.getD 12 0).toNat / 16) < 20
    · exact .inr ⟨21, by decide, w_L4_tc_form a b m ha hb hl' (by omega) h2, w_rL4_tc_form a b m ha hb hl' (by omega) h2⟩
    by_cases h3 : m.length < 4 * ((m.getD 12 0).toNat / 16)
    · exact .inr ⟨20, by decide, w_L4_tc_short2 a b m ha hb hl' (by omega) (by omega) h3, w_rL4_tc_short2 a b m ha hb hl' (by omega) (by omega) h3⟩
    by_cases h4 : fo (psu a b 6 m.length + ws m m.length) = 65535
    rotate_left
    · exact .inr ⟨30, by decide, w_L4_tc_sum a b m ha hb hl' (by omega) (by omega) (by omega) h4, w_rL4_tc_sum a b m ha hb hl' (by omega) (by omega) (by omega) (by rw [w2]; exact h4)⟩
    have k1 := w_L4_tc_ok a b m ha hb hl' (by omega) (by omega) (by omega) h4
    have k2 := w_rL4_tc_ok a b m ha hb hl' (by omega) (by omega) (by omega) (by rw [w2]; exact h4)
    have y12 := byte_le (m.getD 12 0)
    have hx := tc_x (m := m) (by omega)
    generalize hS : 4 * ((m.getD 12 0).toNat / 16) = S at *
    have z1 : (⟨(List.take (S - 20) (List.drop 20 m)).toArray⟩ : ByteArray).size = S - 20 := by rw [ba_sz, List.length_take, List.length_drop]; omega
    have z2 : (⟨(List.drop S m).toArray⟩ : ByteArray).size = m.length - S := by rw [ba_sz, List.length_drop]
    have c14 := be2 (m.drop 14)
    have c18 := be2 (m.drop 18)
    obtain ⟨D, ⟨c, eD⟩, lD, ⟨e1, _⟩, e2⟩ := tc_both a b ha hb (be (m.take 2)) (be ((m.drop 2).take 2)) (be ((m.drop 4).take 4)) (be ((m.drop 8).take 4)) (be ((m.drop 12).take 2) % 4096) (be ((m.drop 14).take 2)) (be ((m.drop 18).take 2)) ⟨(List.take (S - 20) (List.drop 20 m)).toArray⟩ ⟨(List.drop S m).toArray⟩ (by omega) (by omega) (be4 _) (be4 _) (by omega) (by omega) (by omega) (by omega) (by omega) (by omega)
    refine .inl ⟨3, 0, 0, 0, _, _, _, _, _, _, _, false, _, _, k1, k2, by decide, by decide, by decide, by decide, D, 16, rfl, ?_, e1, e2⟩
    rw [eD, z1, ba_tl, ba_tl]
    refine tc_near (by omega) (by rw [show 20 + (S - 20) = S by omega, hx]) ?_
    have : List.drop S m = List.drop (S - 20) (List.drop 20 m) := by rw [List.drop_drop]; congr 1; omega
    rw [this, List.take_append_drop]
  · obtain ⟨D, lD, eD, ⟨e1, _⟩, e2⟩ := op_both a b ha hb ⟨m.toArray⟩ (by rw [ba_sz]; omega)
    refine .inl ⟨0, 0, 0, 0, 0, 0, 0, 0, 0, 0, 0, false, _, _, w_L4_op a b (p : Nat) m (by omega) (by omega) (by omega), w_rL4_op a b (p : Nat) m (by omega) (by omega) (by omega), by omega, by omega, by omega, by omega, D, 0, rfl, ?_, e1, e2⟩
    rw [eD, ba_tl]; exact Apart.refl _ _

end Go.Proofs.Ytcedoopcjlekcaa
