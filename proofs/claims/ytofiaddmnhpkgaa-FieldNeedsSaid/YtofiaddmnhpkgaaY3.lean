/-
  Each frame is read to a packet that is good, or to none.
-/
import Derived.Test.YtofiaddmnhpkgaaY2
set_option linter.unusedVariables false
set_option linter.unusedSimpArgs false
set_option maxRecDepth 100000
set_option maxHeartbeats 1000000
namespace Go.Proofs.Ytofiaddmnhpkgaa
open Go Go.SL Go.Proofs
theorem ex_Head (l : List UInt8) (hl : l.length ≤ 200000000000000) :
    (∃ (d s tag ty n : Nat) (tg : Bool), Spec0 Try.prog 27 [.im 1 (l.map byteAV)] (.tup [.agg [I .u64 (d : Nat), I .u64 (s : Nat), B tg, I .i64 (tag : Nat), I .i64 (ty : Nat)], I .i64 (n : Nat), I .i64 0]) ∧ n ≤ l.length ∧ ty < 65536) ∨
    (∃ (d s tag ty n e : Int) (tg : Bool), Spec0 Try.prog 27 [.im 1 (l.map byteAV)] (.tup [.agg [I .u64 d, I .u64 s, B tg, I .i64 tag, I .i64 ty], I .i64 n, I .i64 e]) ∧ e ≠ 0) := by
  by_cases h1 : 9018 < l.length
  · exact .inr ⟨0, 0, 0, 0, 0, 3, false, w_Head_long l hl h1, by decide⟩
  by_cases h2 : l.length < 14
  · exact .inr ⟨0, 0, 0, 0, 0, 20, false, w_Head_short l hl h2, by decide⟩
  have b2 := be2 (l.drop 12)
  by_cases h3 : be ((l.drop 12).take 2) = 33024
  · by_cases h4 : l.length < 18
    · exact .inr ⟨0, 0, 0, 0, 0, 20, false, w_Head_short2 l hl (by omega) (by omega) h3 h4, by decide⟩
    · by_cases h5 : be ((l.drop 16).take 2) = 33024
      · exact .inr ⟨0, 0, 0, 0, 0, 21, false, w_Head_form l hl (by omega) (by omega) h3 h5, by decide⟩
      · exact .inl ⟨_, _, _, _, 18, true, w_Head_tag l hl (by omega) (by omega) h3 h5, by omega, be2 _⟩
  · exact .inl ⟨_, _, 0, _, 14, false, w_Head_ok l hl (by omega) (by omega) h3, by omega, b2⟩
theorem ex_Arp (l : List UInt8) (hl : l.length ≤ 200000000000000) :
    (∃ (ao sha spa tha tpa : Nat), Spec0 Try.prog 28 [.im 1 (l.map byteAV)] (.tup [.agg [I .i64 (ao : Nat), I .u64 (sha : Nat), I .u32 (spa : Nat), I .u64 (tha : Nat), I .u32 (tpa : Nat)], I .i64 0]) ∧ 28 ≤ l.length) ∨
    (∃ (ao sha spa tha tpa e : Int), Spec0 Try.prog 28 [.im 1 (l.map byteAV)] (.tup [.agg [I .i64 ao, I .u64 sha, I .u32 spa, I .u64 tha, I .u32 tpa], I .i64 e]) ∧ e ≠ 0) := by
  by_cases h1 : l.length < 28
  · exact .inr ⟨0, 0, 0, 0, 0, 20, w_Arp_short l hl h1, by decide⟩
  by_cases h3 : (⟨(l.take 6).toArray⟩ : ByteArray) = ⟨#[0, 1, 8, 0, 6, 4]⟩
  · exact .inl ⟨_, _, _, _, _, w_Arp_ok l hl (by omega) h3, by omega⟩
  · exact .inr ⟨0, 0, 0, 0, 0, 21, w_Arp_form l hl (by omega) h3, by decide⟩
theorem ex_Ip (l : List UInt8) (hl : l.length ≤ 200000000000000) :
    (∃ (tos id frag ttl proto src dst sz tot : Nat) (opt : ByteArray), Spec0 Try.prog 29 [.im 1 (l.map byteAV)] (.tup [.agg [I .i64 (tos : Nat), I .i64 (id : Nat), I .i64 (frag : Nat), I .i64 (ttl : Nat), I .i64 (proto : Nat), I .u32 (src : Nat), I .u32 (dst : Nat), S opt], I .i64 (sz : Nat), I .i64 (tot : Nat), I .i64 0]) ∧ sz ≤ tot ∧ tot ≤ l.length ∧ frag < 65536 ∧ proto < 256 ∧ src < 4294967296 ∧ dst < 4294967296) ∨
    (∃ (tos id frag ttl proto src dst sz tot e : Int) (opt : ByteArray), Spec0 Try.prog 29 [.im 1 (l.map byteAV)] (.tup [.agg [I .i64 tos, I .i64 id, I .i64 frag, I .i64 ttl, I .i64 proto, I .u32 src, I .u32 dst, S opt], I .i64 sz, I .i64 tot, I .i64 e]) ∧ e ≠ 0) := by
  by_cases h1 : l.length < 20
  · exact .inr ⟨0, 0, 0, 0, 0, 0, 0, 0, 0, 20, ⟨#[]⟩, w_Ip_short l hl h1, by decide⟩
  by_cases h2 : (l.getD 0 0).toNat / 16 = 4
  · by_cases h3 : 4 * ((l.getD 0 0).toNat % 16) < 20
    · exact .inr ⟨0, 0, 0, 0, 0, 0, 0, 0, 0, 21, ⟨#[]⟩, w_Ip_small l hl (by omega) h2 h3, by decide⟩
    by_cases h4 : l.length < 4 * ((l.getD 0 0).toNat % 16)
    · exact .inr ⟨0, 0, 0, 0, 0, 0, 0, 0, 0, 20, ⟨#[]⟩, w_Ip_short2 l hl (by omega) h2 (by omega) h4, by decide⟩
    by_cases h5 : l.length < be ((l.drop 2).take 2)
    · exact .inr ⟨0, 0, 0, 0, 0, 0, 0, 0, 0, 20, ⟨#[]⟩, w_Ip_short3 l hl (by omega) h2 (by omega) (by omega) h5, by decide⟩
    by_cases h6 : be ((l.drop 2).take 2) < 4 * ((l.getD 0 0).toNat % 16)
    · exact .inr ⟨0, 0, 0, 0, 0, 0, 0, 0, 0, 21, ⟨#[]⟩, w_Ip_form l hl (by omega) h2 (by omega) (by omega) (by omega) h6, by decide⟩
    by_cases h7 : fo (ws (l.take (4 * ((l.getD 0 0).toNat % 16))) (l.take (4 * ((l.getD 0 0).toNat % 16))).length) = 65535
    · exact .inl ⟨_, _, _, _, _, _, _, _, _, _, w_Ip_ok l hl (by omega) h2 (by omega) (by omega) (by omega) (by omega) h7, by omega, by omega, be2 _, by have := byte_le (l.getD 9 0); omega, be4 _, be4 _⟩
    · exact .inr ⟨0, 0, 0, 0, 0, 0, 0, 0, 0, 30, ⟨#[]⟩, w_Ip_sum l hl (by omega) h2 (by omega) (by omega) (by omega) (by omega) h7, by decide⟩
  · exact .inr ⟨0, 0, 0, 0, 0, 0, 0, 0, 0, 21, ⟨#[]⟩, w_Ip_ver l hl (by omega) h2, by decide⟩
def zL4 : List AV := [I .i64 0, I .i64 0, I .i64 0, I .u32 0, I .i64 0, I .i64 0, B false, I .u32 0, I .u32 0, I .i64 0, I .i64 0, I .i64 0, S ⟨#[]⟩, S ⟨#[]⟩]
abbrev erL4 (a b : Nat) (p : Nat) (l : List UInt8) : Prop := ∃ (k4 t4 c4 re sp dp se ac fl wi ur e : Int) (ns : Bool) (op4 da : ByteArray), Spec0 Try.prog 31 [I .u32 (a : Nat), I .u32 (b : Nat), I .i64 (p : Nat), .im 1 (l.map byteAV)] (.tup [.agg [I .i64 k4, I .i64 t4, I .i64 c4, I .u32 re, I .i64 sp, I .i64 dp, B ns, I .u32 se, I .u32 ac, I .i64 fl, I .i64 wi, I .i64 ur, S op4, S da], I .i64 e]) ∧ e ≠ 0
theorem er_L4 {a b p : Nat} {l : List UInt8} {e : Int} (h : Spec0 Try.prog 31 [I .u32 (a : Nat), I .u32 (b : Nat), I .i64 (p : Nat), .im 1 (l.map byteAV)] (.tup [.agg zL4, I .i64 e])) (he : e ≠ 0) : erL4 a b p l :=
  ⟨0, 0, 0, 0, 0, 0, 0, 0, 0, 0, 0, e, false, ⟨#[]⟩, ⟨#[]⟩, h, he⟩
theorem ex_L4 (a b p : Nat) (l : List UInt8) (ha : a < 4294967296) (hb : b < 4294967296) (hl : l.length ≤ 200000000000000) :
    (∃ (k4 t4 c4 re sp dp se ac fl wi ur : Nat) (ns : Bool) (op4 da : ByteArray), Spec0 Try.prog 31 [I .u32 (a : Nat), I .u32 (b : Nat), I .i64 (p : Nat), .im 1 (l.map byteAV)] (.tup [.agg [I .i64 (k4 : Nat), I .i64 (t4 : Nat), I .i64 (c4 : Nat), I .u32 (re : Nat), I .i64 (sp : Nat), I .i64 (dp : Nat), B ns, I .u32 (se : Nat), I .u32 (ac : Nat), I .i64 (fl : Nat), I .i64 (wi : Nat), I .i64 (ur : Nat), S op4, S da], I .i64 0]) ∧ (k4 = 1 ↔ p = 1) ∧ (k4 = 2 ↔ p = 17) ∧ (k4 = 3 ↔ p = 6)) ∨ erL4 a b p l := by
  by_cases p1 : p = 1
  · subst p1
    by_cases h1 : l.length < 8
    · exact .inr (er_L4 (w_L4_ic_short a b l ha hb hl h1) (by decide))
    by_cases h2 : fo (ws l l.length) = 65535
    · exact .inl ⟨1, _, _, _, 0, 0, 0, 0, 0, 0, 0, false, _, _, w_L4_ic_ok a b l ha hb hl (by omega) h2, by decide, by decide, by decide⟩
    · exact .inr (er_L4 (w_L4_ic_sum a b l ha hb hl (by omega) h2) (by decide))
  by_cases p2 : p = 17
  · subst p2
    by_cases h1 : l.length < 8
    · exact .inr (er_L4 (w_L4_ud_short a b l ha hb hl h1) (by decide))
    by_cases h2 : be ((l.drop 4).take 2) = l.length
    · by_cases h3 : be ((l.drop 6).take 2) = 0
      · exact .inl ⟨2, 0, 0, 0, _, _, 0, 0, 0, 0, 0, true, _, _, w_L4_ud_none a b l ha hb hl (by omega) h2 h3, by decide, by decide, by decide⟩
      · by_cases h4 : fo (psu a b 17 l.length + ws l l.length) = 65535
        · exact .inl ⟨2, 0, 0, 0, _, _, 0, 0, 0, 0, 0, false, _, _, w_L4_ud_ok a b l ha hb hl (by omega) h2 h3 h4, by decide, by decide, by decide⟩
        · exact .inr (er_L4 (w_L4_ud_sum a b l ha hb hl (by omega) h2 h3 h4) (by decide))
    · exact .inr (er_L4 (w_L4_ud_form a b l ha hb hl (by omega) h2) (by decide))
  by_cases p3 : p = 6
  · subst p3
    by_cases h1 : l.length < 20
    · exact .inr (er_L4 (w_L4_tc_short a b l ha hb hl h1) (by decide))
    by_cases h2 : 4 * ((l.getD 12 0).toNat / 16) < 20
    · exact .inr (er_L4 (w_L4_tc_form a b l ha hb hl (by omega) h2) (by decide))
    by_cases h3 : l.length < 4 * ((l.getD 12 0).toNat / 16)
    · exact .inr (er_L4 (w_L4_tc_short2 a b l ha hb hl (by omega) (by omega) h3) (by decide))
    by_cases h4 : fo (psu a b 6 l.length + ws l l.length) = 65535
    · exact .inl ⟨3, 0, 0, 0, _, _, _, _, _, _, _, false, _, _, w_L4_tc_ok a b l ha hb hl (by omega) (by omega) (by omega) h4, by decide, by decide, by decide⟩
    · exact .inr (er_L4 (w_L4_tc_sum a b l ha hb hl (by omega) (by omega) (by omega) h4) (by decide))
  · exact .inl ⟨0, 0, 0, 0, 0, 0, 0, 0, 0, 0, 0, false, _, _, w_L4_op a b (p : Nat) l (by omega) (by omega) (by omega), by omega, by omega, by omega⟩
structure Pkt where
  dst : Int
  src : Int
  tagged : Bool
  tag : Int
  ty : Int
  isArp : Bool
  op : Int
  sha : Int
  spa : Int
  tha : Int
  tpa : Int
  isIp : Bool
  tos : Int
  id : Int
  frag : Int
  ttl : Int
  proto : Int
  isrc : Int
  idst : Int
  iopt : ByteArray
  kind : Int
  typ : Int
  code : Int
  rest : Int
  sport : Int
  dport : Int
  noSum : Bool
  seq : Int
  ack : Int
  flags : Int
  win : Int
  urg : Int
  lopt : ByteArray
  data : ByteArray
  body : ByteArray
  pad : ByteArray
def Pkt.cells (s : Pkt) : List AV := [I .u64 s.dst, I .u64 s.src, B s.tagged, I .i64 s.tag, I .i64 s.ty, B s.isArp, I .i64 s.op, I .u64 s.sha, I .u32 s.spa, I .u64 s.tha, I .u32 s.tpa, B s.isIp, I .i64 s.tos, I .i64 s.id, I .i64 s.frag, I .i64 s.ttl, I .i64 s.proto, I .u32 s.isrc, I .u32 s.idst, S s.iopt, I .i64 s.kind, I .i64 s.typ, I .i64 s.code, I .u32 s.rest, I .i64 s.sport, I .i64 s.dport, B s.noSum, I .u32 s.seq, I .u32 s.ack, I .i64 s.flags, I .i64 s.win, I .i64 s.urg, S s.lopt, S s.data, S s.body, S s.pad]
def zP : Pkt := ⟨0, 0, false, 0, 0, false, 0, 0, 0, 0, 0, false, 0, 0, 0, 0, 0, 0, 0, ⟨#[]⟩, 0, 0, 0, 0, 0, 0, false, 0, 0, 0, 0, 0, ⟨#[]⟩, ⟨#[]⟩, ⟨#[]⟩, ⟨#[]⟩⟩
def whB (x : Int) : Bool := IntKind.i64.wrap ((BitVec.ofInt 64 x &&& BitVec.ofInt 64 16383).toNat : Int) == 0
/-- What is so of each packet that was read. -/
structure Good (q : Pkt) : Prop where
  ty : ∃ n : Nat, q.ty = n ∧ n < 65536
  proto : ∃ n : Nat, q.proto = n ∧ n < 256
  frag : ∃ n : Nat, q.frag = n ∧ n < 65536
  arp : q.isArp = true ↔ q.ty = 2054
  ip : q.isIp = true ↔ q.ty = 2048
  k : q.isIp = true → (q.kind = 1 → q.proto = 1) ∧ (q.kind = 2 → q.proto = 17) ∧ (q.kind = 3 → q.proto = 6)
  r : q.isIp = true → (∃ n : Nat, q.frag = n ∧ n % 16384 = 0) → (q.proto = 1 → q.kind = 1) ∧ (q.proto = 6 → q.kind = 3)
theorem ex_Parse (l : List UInt8) (hl : l.length ≤ 200000000000000) : (∃ q : Pkt, Spec0 Try.prog 19 [.im 1 (l.map byteAV)] (.tup [.agg q.cells, I .i64 0]) ∧ Good q) ∨ ∃ e : Int, e ≠ 0 ∧ Spec0 Try.prog 19 [.im 1 (l.map byteAV)] (.tup [.agg zP.cells, I .i64 e]) := by
  rcases ex_Head l hl with ⟨d, s, tag, ty, n, tg, hH, hn, ht⟩ | ⟨d, s, tag, ty, n, e, tg, hH, he⟩
  · have hd : (l.drop n).length ≤ 200000000000000 := by rw [List.length_drop]; omega
    by_cases h1 : ty = 2054
    · rcases ex_Arp (l.drop n) hd with ⟨ao, sha, spa, tha, tpa, hA, h2⟩ | ⟨ao, sha, spa, tha, tpa, e, hA, he⟩
      · refine .inl ⟨{ zP with dst := d, src := s, tagged := tg, tag := tag, ty := ty, isArp := true, op := ao, sha := sha, spa := spa, tha := tha, tpa := tpa, pad := _ }, w_Parse_arp l hl d s tag ty n tg hH hn h1 ao sha spa tha tpa h2 hA, ?_⟩
        exact ⟨⟨ty, rfl, ht⟩, ⟨0, rfl, by decide⟩, ⟨0, rfl, by decide⟩, by simp; omega, by simp [zP]; omega, fun h => by simp [zP] at h, fun h => by simp [zP] at h⟩
      · exact .inr ⟨e, he, w_Parse_ea l hl d s tag ty n tg hH hn h1 ao sha spa tha tpa e he hA⟩
    by_cases h2 : ty = 2048
    · rcases ex_Ip (l.drop n) hd with ⟨tos, id, frag, ttl, proto, src, dst, sz, tot, opt, hI, h3, h4, h5, h6, h7, h8⟩ | ⟨tos, id, frag, ttl, proto, src, dst, sz, tot, e, opt, hI, he⟩
      · by_cases h9 : frag % 16384 = 0
        · have hs : (((l.drop n).drop sz).take (tot - sz)).length ≤ 200000000000000 := by rw [List.length_take, List.length_drop]; omega
          rcases ex_L4 src dst proto (((l.drop n).drop sz).take (tot - sz)) h7 h8 hs with ⟨k4, t4, c4, re, sp, dp, se, ac, fl, wi, ur, ns, op4, da, hL, g1, g2, g3⟩ | ⟨k4, t4, c4, re, sp, dp, se, ac, fl, wi, ur, e, ns, op4, da, hL, he⟩
          · refine .inl ⟨{ zP with dst := d, src := s, tagged := tg, tag := tag, ty := ty, isIp := true, tos := tos, id := id, frag := frag, ttl := ttl, proto := proto, isrc := src, idst := dst, iopt := opt, kind := k4, typ := t4, code := c4, rest := re, sport := sp, dport := dp, noSum := ns, seq := se, ack := ac, flags := fl, win := wi, urg := ur, lopt := op4, data := da, pad := _ },
              w_Parse_ip l hl d s tag ty n tg hH hn h2 tos id frag ttl proto src dst sz tot opt hI h3 h4 h5 h9 k4 t4 c4 re sp dp se ac fl wi ur ns op4 da hL, ?_⟩
            exact ⟨⟨ty, rfl, ht⟩, ⟨proto, rfl, h6⟩, ⟨frag, rfl, h5⟩, by simp [zP]; omega, by simp; omega, fun _ => ⟨by simp; omega, by simp; omega, by simp; omega⟩, fun _ _ => ⟨by simp; omega, by simp; omega⟩⟩
          · exact .inr ⟨e, he, w_Parse_el l hl d s tag ty n tg hH hn h2 tos id frag ttl proto src dst sz tot opt hI h3 h4 h5 h9 k4 t4 c4 re sp dp se ac fl wi ur e ns op4 da he hL⟩
        · refine .inl ⟨{ zP with dst := d, src := s, tagged := tg, tag := tag, ty := ty, isIp := true, tos := tos, id := id, frag := frag, ttl := ttl, proto := proto, isrc := src, idst := dst, iopt := opt, data := _, pad := _ }, w_Parse_frag l hl d s tag ty n tg hH hn h2 tos id frag ttl proto src dst sz tot opt hI h3 h4 h5 h9, ?_⟩
          exact ⟨⟨ty, rfl, ht⟩, ⟨proto, rfl, h6⟩, ⟨frag, rfl, h5⟩, by simp [zP]; omega, by simp; omega, fun _ => ⟨by simp [zP], by simp [zP], by simp [zP]⟩, fun _ ⟨m, h, h'⟩ => by simp at h; omega⟩
      · exact .inr ⟨e, he, w_Parse_ei l hl d s tag ty n tg hH hn h2 tos id frag ttl proto src dst sz tot e opt he hI⟩
    · refine .inl ⟨{ zP with dst := d, src := s, tagged := tg, tag := tag, ty := ty, body := _ }, w_Parse_body l hl d s tag ty n tg hH hn h1 h2, ?_⟩
      exact ⟨⟨ty, rfl, ht⟩, ⟨0, rfl, by decide⟩, ⟨0, rfl, by decide⟩, by simp [zP]; omega, by simp [zP]; omega, fun h => by simp [zP] at h, fun h => by simp [zP] at h⟩
  · exact .inr ⟨e, he, w_Parse_eh l e he .nil d s tag ty n tg hH⟩
end Go.Proofs.Ytofiaddmnhpkgaa
