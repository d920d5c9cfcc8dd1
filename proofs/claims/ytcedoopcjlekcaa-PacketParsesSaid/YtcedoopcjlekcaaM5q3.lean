/-
  Parse of both answers the same, and what is read is printed near to what it was.
-/
import Derived.Test.YtcedoopcjlekcaaM4q3
import Derived.Test.YtcedoopcjlekcaaP2q3
import Derived.Test.YtcedoopcjlekcaaP3q3
import Derived.Test.YtcedoopcjlekcaaY5q3
set_option linter.unusedVariables false
set_option linter.unusedSimpArgs false
set_option maxRecDepth 100000
set_option maxHeartbeats 1000000
namespace Go.Proofs.Ytcedoopcjlekcaa
open Go Go.SL Go.Proofs

def PGood (l : List UInt8) : Prop := ∃ (p : Pkt) (c : List UInt8), Spec0 Try.prog 7 [.im 1 (l.map byteAV)] (.tup [.agg p.cells, I .i64 0]) ∧ Spec0 Try.prog 8 [.im 1 (l.map byteAV)] (.tup [.agg p.cells, I .i64 0]) ∧ Spec0 Try.prog 10 [.agg p.cells] (.tup [.im 1 (c.map byteAV), I .i64 0]) ∧ Spec0 Try.prog 7 [.im 1 (c.map byteAV)] (.tup [.agg p.cells, I .i64 0]) ∧ Near c l ∧ l.length ≤ 9018
def PBad (l : List UInt8) : Prop := ∃ e : Int, e ≠ 0 ∧ Spec0 Try.prog 7 [.im 1 (l.map byteAV)] (.tup [.agg zP.cells, I .i64 e]) ∧ Spec0 Try.prog 8 [.im 1 (l.map byteAV)] (.tup [.agg zP.cells, I .i64 e])
theorem parse_both (l : List UInt8) (hl : l.length ≤ 200000000000000) : PGood l ∨ PBad l := by
  rcases hd_c l hl with ⟨d, s, tag, ty, n, tg, hH, hH', hn, h9, hn18, hn2, oH, hR⟩ | ⟨e, he, hH, hH'⟩
  rotate_left
  · exact .inr ⟨e, he, w_Parse_eh l e he (.agg []) 0 0 0 0 0 false hH, w_rParse_eh l e he (.agg []) 0 0 0 0 0 false hH'⟩
  have lH : (l.take n).length = n := by rw [List.length_take]; omega
  have hd : (l.drop n).length = l.length - n := List.length_drop
  have split : l.take n ++ l.drop n = l := List.take_append_drop n l
  generalize hm : l.drop n = m at *
  have hml : m.length ≤ 200000000000000 := by omega
  by_cases t1 : ty = 2054
  · subst t1
    rcases arp_c m hml with ⟨ao, sha, spa, tha, tpa, hA, hA', h28, oA, aR⟩ | ⟨e, he, hA, hA'⟩
    rotate_left
    · exact .inr ⟨e, he, w_Parse_ea l hl d s tag 2054 n tg hH hn rfl 0 0 0 0 0 e he (by rw [hm]; exact hA), w_rParse_ea l hl d s tag 2054 n tg hH' hn rfl 0 0 0 0 0 e he (by rw [hm]; exact hA')⟩
    have q1 := w_Parse_arp l hl d s tag 2054 n tg hH hn rfl ao sha spa tha tpa (by rw [hm]; exact h28) (by rw [hm]; exact hA)
    have q2 := w_rParse_arp l hl d s tag 2054 n tg hH' hn rfl ao sha spa tha tpa (by rw [hm]; exact h28) (by rw [hm]; exact hA')
    rw [hm] at q1 q2
    have lA : (m.take 28).length = 28 := by rw [List.length_take]; omega
    have lp : (⟨(m.drop 28).toArray⟩ : ByteArray).size = m.length - 28 := by rw [ba_sz, List.length_drop]
    have p1 := w_Pr_a (d : Nat) (s : Nat) (tag : Nat) tg (ao : Nat) (sha : Nat) (spa : Nat) (tha : Nat) (tpa : Nat) ⟨(m.drop 28).toArray⟩ (by omega) (w_fits_a (d : Nat) (s : Nat) (tag : Nat) tg (ao : Nat) (sha : Nat) (spa : Nat) (tha : Nat) (tpa : Nat) ⟨(m.drop 28).toArray⟩) (l.take n) (by omega) oH (m.take 28) (by omega) oA (by omega)
    have split2 : m.take 28 ++ m.drop 28 = m := List.take_append_drop 28 m
    rw [List.take_length, ba_tl, List.append_assoc, split2, split] at p1
    exact .inl ⟨⟨(d : Nat), (s : Nat), tg, (tag : Nat), 2054, true, (ao : Nat), (sha : Nat), (spa : Nat), (tha : Nat), (tpa : Nat), false, 0, 0, 0, 0, 0, 0, 0, ⟨#[]⟩, 0, 0, 0, 0, 0, 0, false, 0, 0, 0, 0, 0, ⟨#[]⟩, ⟨#[]⟩, ⟨#[]⟩, ⟨(m.drop 28).toArray⟩⟩, l, q1, q2, p1, q1, Near.refl l, h9⟩
  by_cases t2 : ty = 2048
  rotate_left
  · have q1 := w_Parse_body l hl d s tag ty n tg hH hn t1 t2
    have q2 := w_rParse_body l hl d s tag ty n tg hH' hn t1 t2
    rw [hm] at q1 q2
    have g1 : ((ty : Nat) : Int) ≠ 2054 := by omega
    have g2 : ((ty : Nat) : Int) ≠ 2048 := by omega
    have lp : (⟨m.toArray⟩ : ByteArray).size = m.length := ba_sz m
    have p1 := w_Pr_b (d : Nat) (s : Nat) (tag : Nat) tg (ty : Nat) ⟨m.toArray⟩ (by omega) (w_fits_b (d : Nat) (s : Nat) (tag : Nat) tg (ty : Nat) g1 g2 ⟨m.toArray⟩) (l.take n) (by omega) oH (by omega)
    rw [ba_tl, lp, List.take_length, show (ByteArray.mk #[]).data.toList = [] from rfl, List.append_nil, split] at p1
    exact .inl ⟨⟨(d : Nat), (s : Nat), tg, (tag : Nat), (ty : Nat), false, 0, 0, 0, 0, 0, false, 0, 0, 0, 0, 0, 0, 0, ⟨#[]⟩, 0, 0, 0, 0, 0, 0, false, 0, 0, 0, 0, 0, ⟨#[]⟩, ⟨#[]⟩, ⟨m.toArray⟩, ⟨#[]⟩⟩, l, q1, q2, p1, q1, Near.refl l, h9⟩
  subst t2
  rcases ip_c m hml with ⟨tos, id, frag, ttl, proto, src, dst, S, T, opt, hI, hI', h3, h4, h5, h20, h60, hS2, hfr, hpr, hsrc, hdst, X, lX, aX, oX, iR⟩ | ⟨e, he, hI, hI'⟩
  rotate_left
  · exact .inr ⟨e, he, w_Parse_ei l hl d s tag 2048 n tg hH hn rfl 0 0 0 0 0 0 0 0 0 e ⟨#[]⟩ he (by rw [hm]; exact hI), w_rParse_ei l hl d s tag 2048 n tg hH' hn rfl 0 0 0 0 0 0 0 0 0 e ⟨#[]⟩ he (by rw [hm]; exact hI')⟩
  have lp : (⟨(m.drop T).toArray⟩ : ByteArray).size = m.length - T := by rw [ba_sz, List.length_drop]
  generalize hM : (m.drop S).take (T - S) = M at *
  have lM : M.length = T - S := by rw [← hM, List.length_take, List.length_drop]; omega
  have em : m = m.take S ++ (M ++ m.drop T) := by
    rw [← hM, show m.drop T = (m.drop S).drop (T - S) by rw [List.drop_drop]; congr 1; omega, List.take_append_drop, List.take_append_drop]
  obtain ⟨w, hK, hT, hF0, w0, w3⟩ := kind_c (tos : Nat) (id : Nat) (frag : Nat) (ttl : Nat) (proto : Nat) (src : Nat) (dst : Nat) opt
  -- what follows from an encoded datagram that is near
  have fin : ∀ (k ty co re sp dp se ac fl wi ur : Nat) (ns : Bool) (op da : ByteArray) (D : List UInt8) (r : Nat), r % 2 = 0 → Apart D M r → One 52 [I .u32 (src : Nat), I .u32 (dst : Nat), l4V (k : Nat) (ty : Nat) (co : Nat) (re : Nat) (sp : Nat) (dp : Nat) ns (se : Nat) (ac : Nat) (fl : Nat) (wi : Nat) (ur : Nat) op da] D → ((k : Nat) : Int) = w →
      (∀ q : List UInt8, q = l.take n ++ (X ++ (D ++ m.drop T)) → Spec0 Try.prog 10 [.agg (Pkt.cells ⟨(d : Nat), (s : Nat), tg, (tag : Nat), 2048, false, 0, 0, 0, 0, 0, true, (tos : Nat), (id : Nat), (frag : Nat), (ttl : Nat), (proto : Nat), (src : Nat), (dst : Nat), opt, (k : Nat), (ty : Nat), (co : Nat), (re : Nat), (sp : Nat), (dp : Nat), ns, (se : Nat), (ac : Nat), (fl : Nat), (wi : Nat), (ur : Nat), op, da, ⟨#[]⟩, ⟨(m.drop T).toArray⟩⟩)] (.tup [.im 1 (q.map byteAV), I .i64 0]) ∧ Near q l) := by
    intro k ty co re sp dp se ac fl wi ur ns op da D r hr aD oD hk q hq
    have lD := aD.1
    have f1 := w_fits_i (d : Nat) (s : Nat) (tag : Nat) tg (tos : Nat) (id : Nat) (frag : Nat) (ttl : Nat) (proto : Nat) (src : Nat) (dst : Nat) opt (k : Nat) (ty : Nat) (co : Nat) (re : Nat) (sp : Nat) (dp : Nat) (se : Nat) (ac : Nat) (fl : Nat) (wi : Nat) (ur : Nat) ns op da ⟨(m.drop T).toArray⟩ w hK (beq_iff_eq.2 hk)
    have oX' := oX
    rw [← lM, ← lD] at oX'
    have p1 := w_Pr_i (d : Nat) (s : Nat) (tag : Nat) tg (tos : Nat) (id : Nat) (frag : Nat) (ttl : Nat) (proto : Nat) (src : Nat) (dst : Nat) opt (k : Nat) (ty : Nat) (co : Nat) (re : Nat) (sp : Nat) (dp : Nat) (se : Nat) (ac : Nat) (fl : Nat) (wi : Nat) (ur : Nat) ns op da ⟨(m.drop T).toArray⟩ (by omega) f1 (l.take n) (by omega) oH D (by omega) oD X (by omega) oX' (by omega)
    rw [List.take_length, ← List.length_append, List.take_length, List.append_assoc, List.append_assoc, ba_tl, ← hq] at p1
    refine ⟨p1, ?_⟩
    have nr := near_app (H := l.take n) (P := m.drop T) (by omega) (by omega) hr aX aD
    rw [← em, split, ← hq] at nr
    exact nr
  -- it is read again
  have again : ∀ D : List UInt8, D.length = T - S → ∃ q, q = l.take n ++ (X ++ (D ++ m.drop T)) ∧ q.length = l.length ∧ List.drop n q = X ++ (D ++ m.drop T) ∧ List.take (T - S) (List.drop S (List.drop n q)) = D ∧ List.drop T (List.drop n q) = m.drop T := by
    intro D lD
    refine ⟨_, rfl, ?_, ?_, ?_, ?_⟩
    · simp only [List.length_append, List.length_drop, lH, lX, lD]; omega
    · rw [List.drop_left' lH]
    · rw [List.drop_left' lH, List.drop_left' lX, ← lD, List.take_left]
    · rw [List.drop_left' lH, ← List.append_assoc, List.drop_left' (by rw [List.length_append, lX, lD]; omega)]
  cases hW : whB (frag : Nat)
  · have hw : frag % 16384 ≠ 0 := fun h => by rw [(wh_iff hfr).2 h] at hW; simp at hW
    have q1 := w_Parse_frag l hl d s tag 2048 n tg hH hn rfl tos id frag ttl proto src dst S T opt (by rw [hm]; exact hI) h3 (by rw [hm]; exact h4) hfr hw
    have q2 := w_rParse_frag l hl d s tag 2048 n tg hH' hn rfl tos id frag ttl proto src dst S T opt (by rw [hm]; exact hI') h3 (by rw [hm]; exact h4) hfr hw
    rw [hm, hM] at q1 q2
    obtain ⟨D, lD, eD, ⟨e1, _⟩, e2⟩ := op_both src dst hsrc hdst ⟨M.toArray⟩ (by rw [ba_sz]; omega)
    rw [ba_tl] at eD
    subst eD
    obtain ⟨q, hq, lq, k1, k2, k3⟩ := again D lM
    obtain ⟨p1, nr⟩ := fin 0 0 0 0 0 0 0 0 0 0 0 false ⟨#[]⟩ ⟨D.toArray⟩ D 0 rfl (Apart.refl _ _) e1 (by rw [hF0 hW]; rfl) q hq
    have hh := hR (X ++ (D ++ m.drop T)) (by rw [← hq]; omega)
    rw [← hq, lH] at hh
    have hi := iR (D ++ m.drop T) (by rw [List.length_append]; omega) (by rw [← k1, List.length_drop]; omega)
    rw [← k1, lX, show S + (T - S) = T by omega] at hi
    have q3 := w_Parse_frag q (by omega) d s tag 2048 n tg hh (by omega) rfl tos id frag ttl proto src dst S T opt hi h3 (by rw [List.length_drop]; omega) hfr hw
    rw [k2, k3] at q3
    exact .inl ⟨⟨(d : Nat), (s : Nat), tg, (tag : Nat), 2048, false, 0, 0, 0, 0, 0, true, (tos : Nat), (id : Nat), (frag : Nat), (ttl : Nat), (proto : Nat), (src : Nat), (dst : Nat), opt, 0, 0, 0, 0, 0, 0, false, 0, 0, 0, 0, 0, ⟨#[]⟩, ⟨D.toArray⟩, ⟨#[]⟩, ⟨(m.drop T).toArray⟩⟩, q, q1, q2, p1, q3, nr, h9⟩
  · have hw := (wh_iff hfr).1 hW
    obtain ⟨_, i1, i2, i3⟩ := hT hW
    rcases l4_c src dst proto M hsrc hdst (by omega) with ⟨k, ty, co, re, sp, dp, se, ac, fl, wi, ur, ns, op, da, hL, hL', k1, k2, k3, k4, D, r, hr, aD, oD, lR⟩ | ⟨e, he, hL, hL'⟩
    rotate_left
    · exact .inr ⟨e, he, w_Parse_el l hl d s tag 2048 n tg hH hn rfl tos id frag ttl proto src dst S T opt (by rw [hm]; exact hI) h3 (by rw [hm]; exact h4) hfr hw 0 0 0 0 0 0 0 0 0 0 0 e false ⟨#[]⟩ ⟨#[]⟩ he (by rw [hm, hM]; exact hL), w_rParse_el l hl d s tag 2048 n tg hH' hn rfl tos id frag ttl proto src dst S T opt (by rw [hm]; exact hI') h3 (by rw [hm]; exact h4) hfr hw 0 0 0 0 0 0 0 0 0 0 0 e false ⟨#[]⟩ ⟨#[]⟩ he (by rw [hm, hM]; exact hL')⟩
    have q1 := w_Parse_ip l hl d s tag 2048 n tg hH hn rfl tos id frag ttl proto src dst S T opt (by rw [hm]; exact hI) h3 (by rw [hm]; exact h4) hfr hw k ty co re sp dp se ac fl wi ur ns op da (by rw [hm, hM]; exact hL)
    have q2 := w_rParse_ip l hl d s tag 2048 n tg hH' hn rfl tos id frag ttl proto src dst S T opt (by rw [hm]; exact hI') h3 (by rw [hm]; exact h4) hfr hw k ty co re sp dp se ac fl wi ur ns op da (by rw [hm, hM]; exact hL')
    rw [hm] at q1 q2
    obtain ⟨q, hq, lq, j1, j2, j3⟩ := again D (by rw [aD.1, lM])
    obtain ⟨p1, nr⟩ := fin k ty co re sp dp se ac fl wi ur ns op da D r hr aD oD (by omega) q hq
    have lD : D.length = T - S := by rw [aD.1, lM]
    have hh := hR (X ++ (D ++ m.drop T)) (by rw [← hq]; omega)
    rw [← hq, lH] at hh
    have hi := iR (D ++ m.drop T) (by rw [List.length_append]; omega) (by rw [← j1, List.length_drop]; omega)
    rw [← j1, lX, show S + (T - S) = T by omega] at hi
    have q3 := w_Parse_ip q (by omega) d s tag 2048 n tg hh (by omega) rfl tos id frag ttl proto src dst S T opt hi h3 (by rw [List.length_drop]; omega) hfr hw k ty co re sp dp se ac fl wi ur ns op da (by rw [j2]; exact lR proto k1 k2 k3)
    rw [j3] at q3
    exact .inl ⟨⟨(d : Nat), (s : Nat), tg, (tag : Nat), 2048, false, 0, 0, 0, 0, 0, true, (tos : Nat), (id : Nat), (frag : Nat), (ttl : Nat), (proto : Nat), (src : Nat), (dst : Nat), opt, (k : Nat), (ty : Nat), (co : Nat), (re : Nat), (sp : Nat), (dp : Nat), ns, (se : Nat), (ac : Nat), (fl : Nat), (wi : Nat), (ur : Nat), op, da, ⟨#[]⟩, ⟨(m.drop T).toArray⟩⟩, q, q1, q2, p1, q3, nr, h9⟩

end Go.Proofs.Ytcedoopcjlekcaa
