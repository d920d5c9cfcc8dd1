/-
  Packets: what is printed is read again.
-/
import Derived.Test.YtcedoopcjlekcaaL2sq2
import Derived.Test.YtcedoopcjlekcaaP1q2
import Derived.Test.YtcedoopcjlekcaaP2q2
import Derived.Test.YtcedoopcjlekcaaP3q2
import Derived.Test.YtcedoopcjlekcaaY5q2
set_option linter.unusedVariables false
set_option linter.unusedSimpArgs false
set_option maxRecDepth 100000
set_option maxHeartbeats 1000000
namespace Go.Proofs.Ytcedoopcjlekcaa
open Go Go.SL Go.Proofs

theorem eqPk_eq {r t : Pkt} (h : eqPk r t = true) : r = t := by
  cases r; cases t
  simp only [eqPk, Bool.and_eq_true, beq_iff_eq, and_true] at h
  simp [h]
theorem wh_iff {n : Nat} (h : n < 65536) : whB (n : Int) = true ↔ n % 16384 = 0 := by
  unfold whB
  have e1 : BitVec.ofInt 64 (n : Int) = BitVec.ofNat 64 n := by simp
  have e2 : BitVec.ofInt 64 16383 = BitVec.ofNat 64 16383 := rfl
  rw [e1, e2, BitVec.toNat_and, BitVec.toNat_ofNat, BitVec.toNat_ofNat, Nat.mod_eq_of_lt (by omega), Nat.mod_eq_of_lt (by omega)]
  rw [show (16383 : Nat) = 2 ^ 14 - 1 from rfl, Nat.and_two_pow_sub_one_eq_mod, IntWalk.i64_in _ (by omega)]
  simp
  omega
/-- A packet's numbers are within their types. -/
structure Typed (p : Pkt) : Prop where
  dst : 0 ≤ p.dst
  src : 0 ≤ p.src
  sha : 0 ≤ p.sha
  spa : 0 ≤ p.spa ∧ p.spa < 4294967296
  tha : 0 ≤ p.tha
  tpa : 0 ≤ p.tpa ∧ p.tpa < 4294967296
  isrc : 0 ≤ p.isrc ∧ p.isrc < 4294967296
  idst : 0 ≤ p.idst ∧ p.idst < 4294967296
  iopt : p.iopt.size ≤ 140737488351232
  rest : 0 ≤ p.rest ∧ p.rest < 4294967296
  seq : 0 ≤ p.seq ∧ p.seq < 4294967296
  ack : 0 ≤ p.ack ∧ p.ack < 4294967296
  data : p.data.size ≤ 140737488351232
  body : p.body.size ≤ 140737488351232
  pad : p.pad.size ≤ 140737488351232
theorem kind_c (tos id frag ttl proto src dst : Int) (opt : ByteArray) : ∃ w : Int, Spec0 Try.prog 48 [ipV tos id frag ttl proto src dst opt] (I .i64 w) ∧ (whB frag = true → Spec0 Try.prog 54 [I .i64 proto] (I .i64 w) ∧ (w = 1 ↔ proto = 1) ∧ (w = 2 ↔ proto = 17) ∧ (w = 3 ↔ proto = 6)) ∧ (whB frag = false → w = 0) := by
  cases hW : whB frag
  · exact ⟨0, w_kind_w tos id frag ttl proto src dst opt hW, fun h => by simp at h, fun _ => rfl⟩
  · by_cases h1 : proto = 1
    · subst h1; exact ⟨1, w_kind_1 tos id frag ttl src dst opt hW, fun _ => ⟨w_rkind_1, by decide, by decide, by decide⟩, fun h => by simp at h⟩
    by_cases h2 : proto = 17
    · subst h2; exact ⟨2, w_kind_17 tos id frag ttl src dst opt hW, fun _ => ⟨w_rkind_17, by decide, by decide, by decide⟩, fun h => by simp at h⟩
    by_cases h3 : proto = 6
    · subst h3; exact ⟨3, w_kind_6 tos id frag ttl src dst opt hW, fun _ => ⟨w_rkind_6, by decide, by decide, by decide⟩, fun h => by simp at h⟩
    exact ⟨0, w_kind_o tos id frag ttl proto src dst opt hW h1 h2 h3, fun _ => ⟨w_rkind_o proto h1 h2 h3, by omega, by omega, by omega⟩, fun h => by simp at h⟩
/-- Printed by both alike, and read again. -/
def Good (p : Pkt) (L : List UInt8) : Prop := 14 ≤ L.length ∧ L.length ≤ 9018 ∧ Spec0 Try.prog 10 [.agg p.cells] (.tup [.im 1 (L.map byteAV), I .i64 0]) ∧ Spec0 Try.prog 10 [.agg p.cells] (.tup [.im 1 (L.map byteAV), I .i64 0]) ∧ Spec0 Try.prog 7 [.im 1 (L.map byteAV)] (.tup [.agg p.cells, I .i64 0])
def Bad (p : Pkt) : Prop := ∃ e : Int, e ≠ 0 ∧ Spec0 Try.prog 10 [.agg p.cells] (.tup [.nil, I .i64 e]) ∧ Spec0 Try.prog 10 [.agg p.cells] (.tup [.nil, I .i64 e])
theorem Bad.mk {p : Pkt} {e : Int} (he : e ≠ 0) (h1 : Spec0 Try.prog 10 [.agg p.cells] (.tup [.nil, I .i64 e])) (h2 : Spec0 Try.prog 10 [.agg p.cells] (.tup [.nil, I .i64 e])) : Bad p := ⟨e, he, h1, h2⟩
/-- The parts of a printed packet of IP. -/
def IpParts (p : Pkt) (L : List UInt8) : Prop := p.isIp = true → p.isArp = false ∧ ∃ H X D : List UInt8, L = H ++ (X ++ (D ++ p.pad.data.toList)) ∧ H.length = (if p.tagged then 18 else 14) ∧ X.length = 20 + p.iopt.size ∧ X.length ≤ 60 ∧ D.length ≤ 65515 ∧
  Enc 52 52 [I .u32 p.isrc, I .u32 p.idst, l4V p.kind p.typ p.code p.rest p.sport p.dport p.noSum p.seq p.ack p.flags p.win p.urg p.lopt p.data] D ∧ Enc 53 53 [ipV p.tos p.id p.frag p.ttl p.proto p.isrc p.idst p.iopt, I .i64 (D.length : Nat)] X ∧
  Spec0 Try.prog 15 [.im 1 ((L.drop H.length).map byteAV)] (.tup [ipV p.tos p.id p.frag p.ttl p.proto p.isrc p.idst p.iopt, I .i64 (X.length : Nat), I .i64 ((X.length + D.length : Nat)), I .i64 0])
theorem pr_arp (d s tag : Int) (tg : Bool) (ao sha spa tha tpa tos id frag ttl proto src dst : Int) (opt : ByteArray) (k ty4 co re sp dp se ac fl wi ur : Int) (ns : Bool) (op da : ByteArray) (ia ii : Bool) (body pad : ByteArray) (ht : Typed ⟨d, s, tg, tag, 2054, ia, ao, sha, spa, tha, tpa, ii, tos, id, frag, ttl, proto, src, dst, opt, k, ty4, co, re, sp, dp, ns, se, ac, fl, wi, ur, op, da, body, pad⟩) : (∃ L, Good ⟨d, s, tg, tag, 2054, ia, ao, sha, spa, tha, tpa, ii, tos, id, frag, ttl, proto, src, dst, opt, k, ty4, co, re, sp, dp, ns, se, ac, fl, wi, ur, op, da, body, pad⟩ L ∧ IpParts ⟨d, s, tg, tag, 2054, ia, ao, sha, spa, tha, tpa, ii, tos, id, frag, ttl, proto, src, dst, opt, k, ty4, co, re, sp, dp, ns, se, ac, fl, wi, ur, op, da, body, pad⟩ L) ∨ Bad ⟨d, s, tg, tag, 2054, ia, ao, sha, spa, tha, tpa, ii, tos, id, frag, ttl, proto, src, dst, opt, k, ty4, co, re, sp, dp, ns, se, ac, fl, wi, ur, op, da, body, pad⟩ := by
  cases h : eqPk (⟨d, s, tg, tag, 2054, ia, ao, sha, spa, tha, tpa, ii, tos, id, frag, ttl, proto, src, dst, opt, k, ty4, co, re, sp, dp, ns, se, ac, fl, wi, ur, op, da, body, pad⟩ : Pkt) ⟨d, s, tg, tag, 2054, true, ao, sha, spa, tha, tpa, false, 0, 0, 0, 0, 0, 0, 0, ⟨#[]⟩, 0, 0, 0, 0, 0, 0, false, 0, 0, 0, 0, 0, ⟨#[]⟩, ⟨#[]⟩, ⟨#[]⟩, pad⟩
  · exact .inr (Bad.mk (e := 1) (by decide) (w_Pr_nf d s tag tg ao sha spa tha tpa tos id frag ttl proto src dst opt k ty4 co re sp dp se ac fl wi ur ns op da ia ii body pad 2054 (w_fits_an d s tag tg ao sha spa tha tpa tos id frag ttl proto src dst opt k ty4 co re sp dp se ac fl wi ur ns op da ia ii body pad h))
      (w_Pr_nf d s tag tg ao sha spa tha tpa tos id frag ttl proto src dst opt k ty4 co re sp dp se ac fl wi ur ns op da ia ii body pad 2054 (w_fits_an d s tag tg ao sha spa tha tpa tos id frag ttl proto src dst opt k ty4 co re sp dp se ac fl wi ur ns op da ia ii body pad h)))
  have e := eqPk_eq h
  simp only [Pkt.mk.injEq, true_and, and_true] at e
  obtain ⟨rfl, rfl, rfl, rfl, rfl, rfl, rfl, rfl, rfl, rfl, rfl, rfl, rfl, rfl, rfl, rfl, rfl, rfl, rfl, rfl, rfl, rfl, rfl, rfl, rfl⟩ := e
  have hp : pad.size ≤ 140737488351232 := ht.pad
  have f1 := w_fits_a d s tag tg ao sha spa tha tpa pad
  have f2 := w_fits_a d s tag tg ao sha spa tha tpa pad
  rcases eth_both d s tag 2054 tg ht.dst ht.src with ⟨H, l1, l2, _, ⟨e1, e2⟩, d', s', tag', ty', rfl, rfl, rfl, t1, hR⟩ | ⟨e, he, e1, e2⟩
  rotate_left
  · exact .inr (Bad.mk he (w_Pr_eh_a _ _ _ _ _ _ _ _ _ pad hp f1 e he e1) (w_Pr_eh_a _ _ _ _ _ _ _ _ _ pad hp f2 e he e2))
  rcases arp_both ao sha spa tha tpa ht.sha ht.spa ht.tha ht.tpa with ⟨A, l3, ⟨e3, e4⟩, ao', sha', spa', tha', tpa', rfl, rfl, rfl, rfl, rfl, aR⟩ | ⟨e, he, e3, e4⟩
  rotate_left
  · exact .inr (Bad.mk he (w_Pr_ea _ _ _ _ _ _ _ _ _ pad hp f1 H l2 e1 e he e3) (w_Pr_ea _ _ _ _ _ _ _ _ _ pad hp f2 H l2 e2 e he e4))
  have hq := ba_len pad
  by_cases hs : H.length + A.length + pad.size ≤ 9018
  rotate_left
  · exact .inr (Bad.mk (e := 3) (by decide) (w_Pr_al _ _ _ _ _ _ _ _ _ pad hp f1 H l2 e1 A (by omega) e3 (by omega)) (w_Pr_al _ _ _ _ _ _ _ _ _ pad hp f2 H l2 e2 A (by omega) e4 (by omega)))
  have p1 := w_Pr_a _ _ _ _ _ _ _ _ _ pad hp f1 H l2 e1 A (by omega) e3 hs
  have p2 := w_Pr_a _ _ _ _ _ _ _ _ _ pad hp f2 H l2 e2 A (by omega) e4 hs
  rw [List.take_length, List.append_assoc] at p1
  rw [List.take_length, List.append_assoc] at p2
  have hl : (H ++ (A ++ pad.data.toList)).length = H.length + A.length + pad.size := by simp only [List.length_append]; omega
  have hd : List.drop H.length (H ++ (A ++ pad.data.toList)) = A ++ pad.data.toList := List.drop_left
  have ha := aR pad.data.toList (by rw [List.length_append]; omega)
  rw [← hd] at ha
  have q := w_Parse_arp (H ++ (A ++ pad.data.toList)) (by omega) d' s' tag' ty' H.length tg (hR _ (by omega)) (by omega) (by omega) ao' sha' spa' tha' tpa' (by rw [hd, List.length_append]; omega) ha
  rw [hd, ← l3, List.drop_left, ba_mk, ← t1] at q
  exact .inl ⟨_, ⟨by omega, by omega, p1, p2, q⟩, fun h => by simp at h⟩
theorem pr_body (d s tag : Int) (tg : Bool) (ao sha spa tha tpa tos id frag ttl proto src dst : Int) (opt : ByteArray) (k ty4 co re sp dp se ac fl wi ur : Int) (ns : Bool) (op da : ByteArray) (ia ii : Bool) (body pad : ByteArray) (ty : Int) (g1 : ty ≠ 2054) (g2 : ty ≠ 2048) (ht : Typed ⟨d, s, tg, tag, ty, ia, ao, sha, spa, tha, tpa, ii, tos, id, frag, ttl, proto, src, dst, opt, k, ty4, co, re, sp, dp, ns, se, ac, fl, wi, ur, op, da, body, pad⟩) : (∃ L, Good ⟨d, s, tg, tag, ty, ia, ao, sha, spa, tha, tpa, ii, tos, id, frag, ttl, proto, src, dst, opt, k, ty4, co, re, sp, dp, ns, se, ac, fl, wi, ur, op, da, body, pad⟩ L ∧ IpParts ⟨d, s, tg, tag, ty, ia, ao, sha, spa, tha, tpa, ii, tos, id, frag, ttl, proto, src, dst, opt, k, ty4, co, re, sp, dp, ns, se, ac, fl, wi, ur, op, da, body, pad⟩ L) ∨ Bad ⟨d, s, tg, tag, ty, ia, ao, sha, spa, tha, tpa, ii, tos, id, frag, ttl, proto, src, dst, opt, k, ty4, co, re, sp, dp, ns, se, ac, fl, wi, ur, op, da, body, pad⟩ := by
  cases h : eqPk (⟨d, s, tg, tag, ty, ia, ao, sha, spa, tha, tpa, ii, tos, id, frag, ttl, proto, src, dst, opt, k, ty4, co, re, sp, dp, ns, se, ac, fl, wi, ur, op, da, body, pad⟩ : Pkt) ⟨d, s, tg, tag, ty, false, 0, 0, 0, 0, 0, false, 0, 0, 0, 0, 0, 0, 0, ⟨#[]⟩, 0, 0, 0, 0, 0, 0, false, 0, 0, 0, 0, 0, ⟨#[]⟩, ⟨#[]⟩, body, ⟨#[]⟩⟩
  · exact .inr (Bad.mk (e := 1) (by decide) (w_Pr_nf d s tag tg ao sha spa tha tpa tos id frag ttl proto src dst opt k ty4 co re sp dp se ac fl wi ur ns op da ia ii body pad ty (w_fits_bn d s tag tg ao sha spa tha tpa tos id frag ttl proto src dst opt k ty4 co re sp dp se ac fl wi ur ns op da ia ii body pad ty g1 g2 h))
      (w_Pr_nf d s tag tg ao sha spa tha tpa tos id frag ttl proto src dst opt k ty4 co re sp dp se ac fl wi ur ns op da ia ii body pad ty (w_fits_bn d s tag tg ao sha spa tha tpa tos id frag ttl proto src dst opt k ty4 co re sp dp se ac fl wi ur ns op da ia ii body pad ty g1 g2 h)))
  have e := eqPk_eq h
  simp only [Pkt.mk.injEq, true_and, and_true] at e
  obtain ⟨rfl, rfl, rfl, rfl, rfl, rfl, rfl, rfl, rfl, rfl, rfl, rfl, rfl, rfl, rfl, rfl, rfl, rfl, rfl, rfl, rfl, rfl, rfl, rfl, rfl, rfl, rfl, rfl, rfl, rfl⟩ := e
  have hp : body.size ≤ 140737488351232 := ht.body
  have f1 := w_fits_b d s tag tg ty g1 g2 body
  have f2 := w_fits_b d s tag tg ty g1 g2 body
  rcases eth_both d s tag ty tg ht.dst ht.src with ⟨H, l1, l2, _, ⟨e1, e2⟩, d', s', tag', ty', rfl, rfl, rfl, rfl, hR⟩ | ⟨e, he, e1, e2⟩
  rotate_left
  · exact .inr (Bad.mk he (w_Pr_eh_b _ _ _ _ _ body hp f1 e he e1) (w_Pr_eh_b _ _ _ _ _ body hp f2 e he e2))
  have hq := ba_len body
  by_cases hs : H.length + body.size ≤ 9018
  rotate_left
  · exact .inr (Bad.mk (e := 3) (by decide) (w_Pr_bl _ _ _ _ _ body hp f1 H l2 e1 (by omega)) (w_Pr_bl _ _ _ _ _ body hp f2 H l2 e2 (by omega)))
  have p1 := w_Pr_b _ _ _ _ _ body hp f1 H l2 e1 hs
  have p2 := w_Pr_b _ _ _ _ _ body hp f2 H l2 e2 hs
  rw [← hq, List.take_length, show (ByteArray.mk #[]).data.toList = [] from rfl, List.append_nil] at p1
  rw [← hq, List.take_length, show (ByteArray.mk #[]).data.toList = [] from rfl, List.append_nil] at p2
  have hl : (H ++ body.data.toList).length = H.length + body.size := by simp only [List.length_append]; omega
  have q := w_Parse_body (H ++ body.data.toList) (by omega) d' s' tag' ty' H.length tg (hR _ (by omega)) (by omega) (by omega) (by omega)
  rw [List.drop_left, ba_mk] at q
  exact .inl ⟨_, ⟨by omega, by omega, p1, p2, q⟩, fun h => by simp at h⟩
theorem pr_ip (d s tag : Int) (tg : Bool) (ao sha spa tha tpa tos id frag ttl proto src dst : Int) (opt : ByteArray) (k ty4 co re sp dp se ac fl wi ur : Int) (ns : Bool) (op da : ByteArray) (ia ii : Bool) (body pad : ByteArray) (ht : Typed ⟨d, s, tg, tag, 2048, ia, ao, sha, spa, tha, tpa, ii, tos, id, frag, ttl, proto, src, dst, opt, k, ty4, co, re, sp, dp, ns, se, ac, fl, wi, ur, op, da, body, pad⟩) : (∃ L, Good ⟨d, s, tg, tag, 2048, ia, ao, sha, spa, tha, tpa, ii, tos, id, frag, ttl, proto, src, dst, opt, k, ty4, co, re, sp, dp, ns, se, ac, fl, wi, ur, op, da, body, pad⟩ L ∧ IpParts ⟨d, s, tg, tag, 2048, ia, ao, sha, spa, tha, tpa, ii, tos, id, frag, ttl, proto, src, dst, opt, k, ty4, co, re, sp, dp, ns, se, ac, fl, wi, ur, op, da, body, pad⟩ L) ∨ Bad ⟨d, s, tg, tag, 2048, ia, ao, sha, spa, tha, tpa, ii, tos, id, frag, ttl, proto, src, dst, opt, k, ty4, co, re, sp, dp, ns, se, ac, fl, wi, ur, op, da, body, pad⟩ := by
  obtain ⟨w, hK, hT, hFa⟩ := kind_c tos id frag ttl proto src dst opt
  cases h : eqPk (⟨d, s, tg, tag, 2048, ia, ao, sha, spa, tha, tpa, ii, tos, id, frag, ttl, proto, src, dst, opt, k, ty4, co, re, sp, dp, ns, se, ac, fl, wi, ur, op, da, body, pad⟩ : Pkt) ⟨d, s, tg, tag, 2048, false, 0, 0, 0, 0, 0, true, tos, id, frag, ttl, proto, src, dst, opt, k, ty4, co, re, sp, dp, ns, se, ac, fl, wi, ur, op, da, ⟨#[]⟩, pad⟩
  · refine .inr (Bad.mk (e := 1) (by decide) (w_Pr_nf d s tag tg ao sha spa tha tpa tos id frag ttl proto src dst opt k ty4 co re sp dp se ac fl wi ur ns op da ia ii body pad 2048 (w_fits_in d s tag tg ao sha spa tha tpa tos id frag ttl proto src dst opt k ty4 co re sp dp se ac fl wi ur ns op da ia ii body pad h))
      (w_Pr_nf d s tag tg ao sha spa tha tpa tos id frag ttl proto src dst opt k ty4 co re sp dp se ac fl wi ur ns op da ia ii body pad 2048 ?_))
    exact w_fits_in d s tag tg ao sha spa tha tpa tos id frag ttl proto src dst opt k ty4 co re sp dp se ac fl wi ur ns op da ia ii body pad h
  have e := eqPk_eq h
  simp only [Pkt.mk.injEq, true_and, and_true] at e
  obtain ⟨rfl, rfl, rfl, rfl, rfl, rfl, rfl, rfl⟩ := e
  have hp : pad.size ≤ 140737488351232 := ht.pad
  cases hk : (k == w)
  · refine .inr (Bad.mk (e := 1) (by decide) (w_Pr_nf d s tag tg 0 0 0 0 0 tos id frag ttl proto src dst opt k ty4 co re sp dp se ac fl wi ur ns op da false true ⟨#[]⟩ pad 2048 (w_fits_ik d s tag tg tos id frag ttl proto src dst opt k ty4 co re sp dp se ac fl wi ur ns op da pad w hK hk))
      (w_Pr_nf d s tag tg 0 0 0 0 0 tos id frag ttl proto src dst opt k ty4 co re sp dp se ac fl wi ur ns op da false true ⟨#[]⟩ pad 2048 ?_))
    exact w_fits_ik d s tag tg tos id frag ttl proto src dst opt k ty4 co re sp dp se ac fl wi ur ns op da pad w hK hk
  have f1 := w_fits_i d s tag tg tos id frag ttl proto src dst opt k ty4 co re sp dp se ac fl wi ur ns op da pad w hK hk
  have f2 : Spec0 Try.prog 26 [.agg (Pkt.cells ⟨d, s, tg, tag, 2048, false, 0, 0, 0, 0, 0, true, tos, id, frag, ttl, proto, src, dst, opt, k, ty4, co, re, sp, dp, ns, se, ac, fl, wi, ur, op, da, ⟨#[]⟩, pad⟩)] (B true) := by
    exact f1
  obtain rfl := beq_iff_eq.1 hk
  rcases eth_both d s tag 2048 tg ht.dst ht.src with ⟨H, l1, l2, l9, ⟨e1, e2⟩, d', s', tag', ty', rfl, rfl, rfl, t1, hR⟩ | ⟨e, he, e1, e2⟩
  rotate_left
  · exact .inr (Bad.mk he (w_Pr_eh_i _ _ _ _ _ _ _ _ _ _ _ opt _ _ _ _ _ _ _ _ _ _ _ ns op da pad hp f1 e he e1) (w_Pr_eh_i _ _ _ _ _ _ _ _ _ _ _ opt _ _ _ _ _ _ _ _ _ _ _ ns op da pad hp f2 e he e2))
  have q1 := ht.isrc
  have q2 := ht.idst
  obtain ⟨src', rfl⟩ := Int.eq_ofNat_of_zero_le (show 0 ≤ src from q1.1)
  obtain ⟨dst', rfl⟩ := Int.eq_ofNat_of_zero_le (show 0 ≤ dst from q2.1)
  have g1 : src' < 4294967296 := by have := q1.2; simp only at this; omega
  have g2 : dst' < 4294967296 := by have := q2.2; simp only at this; omega
  have hda : da.size ≤ 140737488351232 := ht.data
  have hop : opt.size ≤ 140737488351232 := ht.iopt
  rcases l4_both src' dst' g1 g2 k ty4 co re sp dp se ac fl wi ur ns op da ht.rest ht.seq ht.ack (by omega) with ⟨D, l3, ⟨e3, e4⟩, k', ty4', co', re', sp', dp', se', ac', fl', wi', ur', rfl, rfl, rfl, rfl, rfl, rfl, rfl, rfl, rfl, rfl, rfl, lR, l0⟩ | ⟨e, he, e3, e4⟩
  rotate_left
  · exact .inr (Bad.mk he (w_Pr_e4 _ _ _ _ _ _ _ _ _ _ _ opt _ _ _ _ _ _ _ _ _ _ _ ns op da pad hp f1 H l2 e1 e he e3) (w_Pr_e4 _ _ _ _ _ _ _ _ _ _ _ opt _ _ _ _ _ _ _ _ _ _ _ ns op da pad hp f2 H l2 e2 e he e4))
  rcases ip_both tos id frag ttl proto src' dst' D.length opt (by omega) (by omega) (by omega) (by omega) with ⟨X, l4, l5, l6, ⟨e5, e6⟩, tos', id', frag', ttl', proto', src2, dst2, rfl, rfl, rfl, rfl, rfl, t3, t4, l7, l8, iR⟩ | ⟨e, he, e5, e6⟩
  rotate_left
  · exact .inr (Bad.mk he (w_Pr_ei _ _ _ _ _ _ _ _ _ _ _ opt _ _ _ _ _ _ _ _ _ _ _ ns op da pad hp f1 H l2 e1 D l3 e3 e he e5) (w_Pr_ei _ _ _ _ _ _ _ _ _ _ _ opt _ _ _ _ _ _ _ _ _ _ _ ns op da pad hp f2 H l2 e2 D l3 e4 e he e6))
  obtain rfl : src' = src2 := by omega
  obtain rfl : dst' = dst2 := by omega
  have hq := ba_len pad
  by_cases hs : H.length + (X.length + D.length) + pad.size ≤ 9018
  rotate_left
  · exact .inr (Bad.mk (e := 3) (by decide) (w_Pr_il _ _ _ _ _ _ _ _ _ _ _ opt _ _ _ _ _ _ _ _ _ _ _ ns op da pad hp f1 H l2 e1 D l3 e3 X l5 e5 (by omega)) (w_Pr_il _ _ _ _ _ _ _ _ _ _ _ opt _ _ _ _ _ _ _ _ _ _ _ ns op da pad hp f2 H l2 e2 D l3 e4 X l5 e6 (by omega)))
  have p1 := w_Pr_i _ _ _ _ _ _ _ _ _ _ _ opt _ _ _ _ _ _ _ _ _ _ _ ns op da pad hp f1 H l2 e1 D l3 e3 X l5 e5 hs
  have p2 := w_Pr_i _ _ _ _ _ _ _ _ _ _ _ opt _ _ _ _ _ _ _ _ _ _ _ ns op da pad hp f2 H l2 e2 D l3 e4 X l5 e6 hs
  rw [List.take_length, ← List.length_append, List.take_length, List.append_assoc, List.append_assoc] at p1
  rw [List.take_length, ← List.length_append, List.take_length, List.append_assoc, List.append_assoc] at p2
  have hl : (H ++ (X ++ (D ++ pad.data.toList))).length = H.length + (X.length + D.length) + pad.size := by simp only [List.length_append]; omega
  have hd : List.drop H.length (H ++ (X ++ (D ++ pad.data.toList))) = X ++ (D ++ pad.data.toList) := List.drop_left
  have hi := iR (D ++ pad.data.toList) (by rw [List.length_append]; omega) (by simp only [List.length_append]; omega)
  rw [← hd] at hi
  have hlx : (X ++ (D ++ pad.data.toList)).length = X.length + D.length + pad.size := by simp only [List.length_append]; omega
  have hh := hR (X ++ (D ++ pad.data.toList)) (by omega)
  have hd2 : List.take (X.length + D.length - X.length) (List.drop X.length (List.drop H.length (H ++ (X ++ (D ++ pad.data.toList))))) = D := by
    rw [hd, List.drop_left, Nat.add_sub_cancel_left, List.take_left]
  have hd3 : List.drop (X.length + D.length) (List.drop H.length (H ++ (X ++ (D ++ pad.data.toList)))) = pad.data.toList := by
    rw [hd, ← List.length_append, ← List.append_assoc, List.drop_left]
  have parts : IpParts ⟨(d' : Nat), (s' : Nat), tg, (tag' : Nat), 2048, false, 0, 0, 0, 0, 0, true, (tos' : Nat), (id' : Nat), (frag' : Nat), (ttl' : Nat), (proto' : Nat), (src' : Nat), (dst' : Nat), opt, (k' : Nat), (ty4' : Nat), (co' : Nat), (re' : Nat), (sp' : Nat), (dp' : Nat), ns, (se' : Nat), (ac' : Nat), (fl' : Nat), (wi' : Nat), (ur' : Nat), op, da, ⟨#[]⟩, pad⟩ (H ++ (X ++ (D ++ pad.data.toList))) :=
    fun _ => ⟨rfl, H, X, D, rfl, l9, l6, l5, l3, ⟨e3, e4⟩, ⟨e5, e6⟩, hi⟩
  refine .inl ⟨_, ⟨by omega, by omega, p1, p2, ?_⟩, parts⟩
  cases hW : whB (frag' : Nat)
  · have hw : frag' % 16384 ≠ 0 := fun h => by rw [(wh_iff l7).2 h] at hW; simp at hW
    obtain ⟨rfl, rfl, rfl, rfl, rfl, rfl, rfl, rfl, rfl, rfl, rfl, rfl, rfl⟩ := l0 (hFa hW)
    obtain rfl : k' = 0 := by have := hFa hW; omega
    have q := w_Parse_frag (H ++ (X ++ (da.data.toList ++ pad.data.toList))) (by omega) d' s' tag' ty' H.length tg hh (by omega) (by omega) tos' id' frag' ttl' proto' src' dst' X.length (X.length + da.data.toList.length) opt hi (by omega) (by rw [hd]; omega) l7 hw
    rw [hd2, hd3, ba_mk, ba_mk, ← t1] at q
    exact q
  · have hw := (wh_iff l7).1 hW
    obtain ⟨_, i1, i2, i3⟩ := hT hW
    have hL := lR proto' (by omega) (by omega) (by omega)
    rw [← hd2] at hL
    have q := w_Parse_ip (H ++ (X ++ (D ++ pad.data.toList))) (by omega) d' s' tag' ty' H.length tg hh (by omega) (by omega) tos' id' frag' ttl' proto' src' dst' X.length (X.length + D.length) opt hi (by omega) (by rw [hd]; omega) l7 hw k' ty4' co' re' sp' dp' se' ac' fl' wi' ur' ns op da hL
    rw [hd3, ba_mk, ← t1] at q
    exact q
theorem print_both (p : Pkt) (ht : Typed p) : (∃ L, Good p L ∧ IpParts p L) ∨ Bad p := by
  obtain ⟨d, s, tg, tag, ty, ia, ao, sha, spa, tha, tpa, ii, tos, id, frag, ttl, proto, src, dst, opt, k, ty4, co, re, sp, dp, ns, se, ac, fl, wi, ur, op, da, body, pad⟩ := p
  by_cases h1 : ty = 2054
  · subst h1; exact pr_arp _ _ _ _ _ _ _ _ _ _ _ _ _ _ _ _ _ _ _ _ _ _ _ _ _ _ _ _ _ _ _ _ _ _ _ ht
  by_cases h2 : ty = 2048
  · subst h2; exact pr_ip _ _ _ _ _ _ _ _ _ _ _ _ _ _ _ _ _ _ _ _ _ _ _ _ _ _ _ _ _ _ _ _ _ _ _ ht
  exact pr_body _ _ _ _ _ _ _ _ _ _ _ _ _ _ _ _ _ _ _ _ _ _ _ _ _ _ _ _ _ _ _ _ _ _ _ ty h1 h2 ht

end Go.Proofs.Ytcedoopcjlekcaa
