/-
  The given statement, proved from the contract of the law: whatever the arguments, the call returns true and each argument reads as it did. No condition.
-/
import Derived.Test.YtcedoopcjlekcaaX1q2
import Derived.Test.YtcedoopcjlekcaaX2q2
import Derived.Test.YtcedoopcjlekcaaL3sq2
import Derived.Test.YtcedoopcjlekcaaQ1q2
import Derived.Test.YtcedoopcjlekcaaQ2q2
import Derived.Test.YtcedoopcjlekcaaQLq2
set_option linter.unusedVariables false
set_option linter.unusedSimpArgs false
set_option maxRecDepth 100000
set_option maxHeartbeats 1000000
namespace Go.Proofs.Ytcedoopcjlekcaa
open Go Go.SL Go.Proofs
open Go.ChangeShapes Go.WideShapes Go.ChangeAt Go.RowKit
theorem ok_typed {s : Pkt} (h : s.ok) : Typed s := by
  obtain ⟨k0, k1, k2, k3, k4, k5, k6, k7, k8, k9, k10, k11, k12, k13, k14, k15, k16, k17, k18, k19, k20, k21, k22, k23, k24, k25, k26, k27, k28, k29, k30, k31⟩ := h
  exact ⟨k0.1, k1.1, k5.1, ⟨k6.1, by omega⟩, k7.1, ⟨k8.1, by omega⟩, ⟨k14.1, by omega⟩, ⟨k15.1, by omega⟩, k16, ⟨k20.1, by omega⟩, ⟨k23.1, by omega⟩, ⟨k24.1, by omega⟩, k29, k30, k31⟩

theorem errs_c (p : Pkt) : ∃ b : Bool, Spec0 Try.prog 34 [.agg p.cells] (B b) ∧ (b = true → p.isIp = true) := by
  obtain ⟨d, s, tg, tag, ty, ia, ao, sha, spa, tha, tpa, ii, tos, id, frag, ttl, proto, src, dst, opt, k, ty4, co, re, sp, dp, ns, se, ac, fl, wi, ur, op, da, body, pad⟩ := p
  cases ii
  · exact ⟨false, w_errs_0 d s tag tg ao sha spa tha tpa tos id frag ttl proto src dst opt k ty4 co re sp dp se ac fl wi ur ns op da ia false body pad ty, fun h => by simp at h⟩
  obtain ⟨fi, hf⟩ : ∃ b, Spec0 Try.prog 62 [.agg [I .i64 tos, I .i64 id, I .i64 frag, I .i64 ttl, I .i64 proto, I .u32 src, I .u32 dst, S opt]] (B b) := ⟨_, w_First tos id frag ttl proto src dst opt⟩
  obtain ⟨m, hm⟩ : ∃ b, Spec0 Try.prog 63 [I .u64 s] (B b) := ⟨_, w_Multi s⟩
  cases fi
  · exact ⟨false, w_errs_1 d s tag tg ao sha spa tha tpa tos id frag ttl proto src dst opt k ty4 co re sp dp se ac fl wi ur ns op da ia true body pad ty hf, fun h => by simp at h⟩
  by_cases h1 : k = 1
  · subst h1
    by_cases h8 : ty4 = 8
    · subst h8
      by_cases h2 : src = 0
      · exact ⟨false, w_errs_3b d s tag tg ao sha spa tha tpa tos id frag ttl proto src dst opt 1 8 co re sp dp se ac fl wi ur ns op da ia true body pad ty hf h2, fun h => by simp at h⟩
      by_cases h3 : 3758096384 ≤ src
      · exact ⟨false, w_errs_4b d s tag tg ao sha spa tha tpa tos id frag ttl proto src dst opt 1 8 co re sp dp se ac fl wi ur ns op da ia true body pad ty hf h2 h3, fun h => by simp at h⟩
      cases m
      · exact ⟨true, w_errs_6b d s tag tg ao sha spa tha tpa tos id frag ttl proto src dst opt 1 8 co re sp dp se ac fl wi ur ns op da ia true body pad ty hf h2 (by omega) hm, fun h => rfl⟩
      · exact ⟨false, w_errs_5b d s tag tg ao sha spa tha tpa tos id frag ttl proto src dst opt 1 8 co re sp dp se ac fl wi ur ns op da ia true body pad ty hf h2 (by omega) hm, fun h => by simp at h⟩
    by_cases h0 : ty4 = 0
    · subst h0
      by_cases h2 : src = 0
      · exact ⟨false, w_errs_3c d s tag tg ao sha spa tha tpa tos id frag ttl proto src dst opt 1 0 co re sp dp se ac fl wi ur ns op da ia true body pad ty hf h2, fun h => by simp at h⟩
      by_cases h3 : 3758096384 ≤ src
      · exact ⟨false, w_errs_4c d s tag tg ao sha spa tha tpa tos id frag ttl proto src dst opt 1 0 co re sp dp se ac fl wi ur ns op da ia true body pad ty hf h2 h3, fun h => by simp at h⟩
      cases m
      · exact ⟨true, w_errs_6c d s tag tg ao sha spa tha tpa tos id frag ttl proto src dst opt 1 0 co re sp dp se ac fl wi ur ns op da ia true body pad ty hf h2 (by omega) hm, fun h => rfl⟩
      · exact ⟨false, w_errs_5c d s tag tg ao sha spa tha tpa tos id frag ttl proto src dst opt 1 0 co re sp dp se ac fl wi ur ns op da ia true body pad ty hf h2 (by omega) hm, fun h => by simp at h⟩
    · exact ⟨false, w_errs_2 d s tag tg ao sha spa tha tpa tos id frag ttl proto src dst opt 1 ty4 co re sp dp se ac fl wi ur ns op da ia true body pad ty hf h8 h0, fun h => by simp at h⟩
  by_cases h2 : src = 0
  · exact ⟨false, w_errs_3a d s tag tg ao sha spa tha tpa tos id frag ttl proto src dst opt k ty4 co re sp dp se ac fl wi ur ns op da ia true body pad ty hf h1 h2, fun h => by simp at h⟩
  by_cases h3 : 3758096384 ≤ src
  · exact ⟨false, w_errs_4a d s tag tg ao sha spa tha tpa tos id frag ttl proto src dst opt k ty4 co re sp dp se ac fl wi ur ns op da ia true body pad ty hf h1 h2 h3, fun h => by simp at h⟩
  cases m
  · exact ⟨true, w_errs_6a d s tag tg ao sha spa tha tpa tos id frag ttl proto src dst opt k ty4 co re sp dp se ac fl wi ur ns op da ia true body pad ty hf h1 h2 (by omega) hm, fun h => rfl⟩
  · exact ⟨false, w_errs_5a d s tag tg ao sha spa tha tpa tos id frag ttl proto src dst opt k ty4 co re sp dp se ac fl wi ur ns op da ia true body pad ty hf h1 h2 (by omega) hm, fun h => by simp at h⟩
theorem take_two {X D R : List UInt8} {k : Nat} (h : k ≤ X.length + D.length) : List.take k (X ++ (D ++ R)) = List.take k (X ++ D) := by
  rw [← List.append_assoc, List.take_append_of_le_length (by rw [List.length_append]; exact h)]
theorem w_PacketQuotes (p : Pkt) (hp : p.ok) (mac addr : Int) : Spec0 Try.prog 6 [.agg p.cells, I .u64 mac, I .u32 addr] (B true) := by
  obtain ⟨b, hb, hi⟩ := errs_c p
  obtain ⟨d, s, tg, tag, ty, ia, ao, sha, spa, tha, tpa, ii, tos, id, frag, ttl, proto, src, dst, opt, k, ty4, co, re, sp, dp, ns, se, ac, fl, wi, ur, op, da, body, pad⟩ := p
  rcases print_both _ (ok_typed hp) with ⟨L, ⟨l1, l2, h1, h2, h3⟩, parts⟩ | ⟨e, he, h1, h2⟩
  · cases b
    · exact w_PQ_0 d s tag tg ao sha spa tha tpa tos id frag ttl proto src dst opt k ty4 co re sp dp se ac fl wi ur ns op da ia ii body pad ty mac addr w_lives (w_Err_0 d s tag tg ao sha spa tha tpa tos id frag ttl proto src dst opt k ty4 co re sp dp se ac fl wi ur ns op da ia ii body pad ty mac addr hb) L l2 h1
    obtain rfl : ii = true := hi rfl
    obtain ⟨ha, H, X, D, eL, lH, lX, lX2, lD, ⟨e4, _⟩, ⟨eI, _⟩, hD⟩ := parts rfl
    obtain rfl : ia = false := ha
    simp only at lH lX e4 eI hD eL
    have hd : List.drop H.length L = X ++ (D ++ pad.data.toList) := by rw [eL]; exact List.drop_left
    have hl : L.length = H.length + (X.length + (D.length + pad.data.toList.length)) := by rw [eL]; simp only [List.length_append]
    have key : ∀ kk : Nat, kk ≤ X.length + D.length → X.length ≤ kk → kk ≤ X.length + 8 → Spec0 Try.prog 14 [.agg (Pkt.cells ⟨d, s, tg, tag, ty, false, ao, sha, spa, tha, tpa, true, tos, id, frag, ttl, proto, src, dst, opt, k, ty4, co, re, sp, dp, ns, se, ac, fl, wi, ur, op, da, body, pad⟩), I .u64 mac, I .u32 addr, I .i64 11, I .i64 0] (.tup [.agg [I .u64 s, I .u64 (IntKind.wrap IntKind.u64 (↑(BitVec.toNat (BitVec.ofInt (IntKind.bits IntKind.u64) mac &&& BitVec.ofInt (IntKind.bits IntKind.u64) 281474976710655)) : Int)), B tg, I .i64 tag, I .i64 ty, B false, I .i64 0, I .u64 0, I .u32 0, I .u64 0, I .u32 0, B true, I .i64 0, I .i64 0, I .i64 0, I .i64 64, I .i64 1, I .u32 addr, I .u32 src, S ⟨#[]⟩, I .i64 1, I .i64 11, I .i64 0, I .u32 0, I .i64 0, I .i64 0, B false, I .u32 0, I .u32 0, I .i64 0, I .i64 0, I .i64 0, S ⟨#[]⟩, S ⟨(List.take kk (X ++ D)).toArray⟩, S ⟨#[]⟩, S ⟨#[]⟩], B true]) → Spec0 Try.prog 6 [.agg (Pkt.cells ⟨d, s, tg, tag, ty, false, ao, sha, spa, tha, tpa, true, tos, id, frag, ttl, proto, src, dst, opt, k, ty4, co, re, sp, dp, ns, se, ac, fl, wi, ur, op, da, body, pad⟩), I .u64 mac, I .u32 addr] (B true) := by
      intro kk k1 k2 k3 hE
      have sz : (⟨(List.take kk (X ++ D)).toArray⟩ : ByteArray).size = kk := by show (List.take kk (X ++ D)).length = kk; rw [List.length_take, List.length_append]; omega
      cases tg
      · have lH : H.length = 14 := lH
        rw [lH] at hD hl hd
        exact w_PQ_2 d s tag false ao sha spa tha tpa tos id frag ttl proto src dst opt k ty4 co re sp dp se ac fl wi ur ns op da false true body pad ty mac addr w_lives L l2 h1 _ hE X.length (X.length + D.length) (by rw [sz]; omega) (by rw [sz]; omega) (by rw [sz]; omega) (by rw [sz, hd, take_two k1]) hD
      · have lH : H.length = 18 := lH
        rw [lH] at hD hl hd
        exact w_PQ_3 d s tag true ao sha spa tha tpa tos id frag ttl proto src dst opt k ty4 co re sp dp se ac fl wi ur ns op da false true body pad ty mac addr w_lives L l2 h1 _ hE X.length (X.length + D.length) (by rw [sz]; omega) (by rw [sz]; omega) (by rw [sz]; omega) (by rw [sz, hd, take_two k1]) hD
    by_cases hs : X.length + D.length ≤ 28 + opt.size
    · have q := w_Err_2 d s tag tg ao sha spa tha tpa tos id frag ttl proto src dst opt k ty4 co re sp dp se ac fl wi ur ns op da false true body pad ty mac addr hb L l2 h1 D lD e4 X lX2 eI (by omega) hs
      rw [List.take_length] at q
      exact key _ (Nat.le_refl _) (by omega) (by omega) q
    · have q := w_Err_3 d s tag tg ao sha spa tha tpa tos id frag ttl proto src dst opt k ty4 co re sp dp se ac fl wi ur ns op da false true body pad ty mac addr hb L l2 h1 D lD e4 X lX2 eI (by omega) (by omega)
      rw [List.take_length] at q
      exact key _ (by omega) (by omega) (by omega) q
  · cases b
    · exact w_PQ_1 d s tag tg ao sha spa tha tpa tos id frag ttl proto src dst opt k ty4 co re sp dp se ac fl wi ur ns op da ia ii body pad ty mac addr w_lives (w_Err_0 d s tag tg ao sha spa tha tpa tos id frag ttl proto src dst opt k ty4 co re sp dp se ac fl wi ur ns op da ia ii body pad ty mac addr hb) e he h1
    · exact w_PQ_1 d s tag tg ao sha spa tha tpa tos id frag ttl proto src dst opt k ty4 co re sp dp se ac fl wi ur ns op da ia ii body pad ty mac addr w_lives (w_Err_1 d s tag tg ao sha spa tha tpa tos id frag ttl proto src dst opt k ty4 co re sp dp se ac fl wi ur ns op da ia ii body pad ty mac addr hb e he h1) e he h1

end Go.Proofs.Ytcedoopcjlekcaa
