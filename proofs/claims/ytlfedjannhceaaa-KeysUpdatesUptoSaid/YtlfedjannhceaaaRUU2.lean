/-
  The reference: Update.
-/
import Derived.Test.YtlfedjannhceaaaRQU2
import Derived.Test.YtlfedjannhceaaaRRU2
set_option linter.unusedVariables false
set_option linter.unusedSimpArgs false
set_option maxRecDepth 100000
set_option maxHeartbeats 1000000
namespace Go.Proofs.Ytlfedjannhceaaa
open Go Go.SL Go.Proofs
theorem rup_bad (a b c d : List Key) (rows : List Rw) (hck : Spec0 Try.prog 9 [.agg [KL a, KL b, KL c, KL d]] (I .i64 190)) : Spec0 Try.prog 11 [.agg [KL a, KL b, KL c, KL d], RL rows] (AV.tup [AV.agg [AV.nil, AV.nil, AV.nil, AV.nil], I .i64 (Int.ofNat 190)]) := sx0 hm hF 1000 20 [.c 11 1 1 (I .i64 (Int.ofNat 190))] [Spec0 Try.prog 9 [AV.agg [KL a, KL b, KL c, KL d]] (I .i64 (Int.ofNat 190))] (by kernel_rfl) ⟨hck, trivial⟩
theorem rup_1 (a b c d : List Key) (rows : List Rw) (hck : Spec0 Try.prog 9 [.agg [KL a, KL b, KL c, KL d]] (I .i64 0)) (n1 n2 n3 n4 : List ByteArray) (m1 : Spec0 Try.prog 23 [RL rows, I .i64 1] (NL n1)) (m2 : Spec0 Try.prog 23 [RL rows, I .i64 2] (NL n2)) (m3 : Spec0 Try.prog 23 [RL rows, I .i64 3] (NL n3)) (m4 : Spec0 Try.prog 23 [RL rows, I .i64 4] (NL n4)) (u1 u2 u3 u4 : List Key) (p1 : Spec0 Try.prog 22 [KL a, KL b, NL n1, NL n3, I .i64 16777215] (.tup [KL u1, KL u2, B false])) (p2 : Spec0 Try.prog 22 [KL c, KL d, NL n2, NL n4, I .i64 65535] (.tup [KL u3, KL u4, B true])) : Spec0 Try.prog 11 [.agg [KL a, KL b, KL c, KL d], RL rows] (AV.tup [AV.agg [AV.nil, AV.nil, AV.nil, AV.nil], I .i64 (Int.ofNat 190)]) := sx0 hm hF 1000 20 [.c 11 1 1 (I .i64 (Int.ofNat 0)), .c 11 4 5 (AV.im 1 (List.flatMap nmC n1)), .c 11 4 7 (AV.im 1 (List.flatMap nmC n3)), .c 11 4 8 (AV.tup [AV.im 2 (List.flatMap keyC u1), AV.im 2 (List.flatMap keyC u2), B false]), .c 11 5 5 (AV.im 1 (List.flatMap nmC n2)), .c 11 5 7 (AV.im 1 (List.flatMap nmC n4)), .c 11 5 8 (AV.tup [AV.im 2 (List.flatMap keyC u3), AV.im 2 (List.flatMap keyC u4), B true])] [Spec0 Try.prog 22 [KL c, KL d, NL n2, NL n4, I IntKind.i64 65535] (AV.tup [AV.im 2 (List.flatMap keyC u3), AV.im 2 (List.flatMap keyC u4), B true]), Spec0 Try.prog 23 [RL rows, I IntKind.i64 4] (AV.im 1 (List.flatMap nmC n4)), Spec0 Try.prog 23 [RL rows, I IntKind.i64 2] (AV.im 1 (List.flatMap nmC n2)), Spec0 Try.prog 22 [KL a, KL b, NL n1, NL n3, I IntKind.i64 16777215] (AV.tup [AV.im 2 (List.flatMap keyC u1), AV.im 2 (List.flatMap keyC u2), B false]), Spec0 Try.prog 23 [RL rows, I IntKind.i64 3] (AV.im 1 (List.flatMap nmC n3)), Spec0 Try.prog 23 [RL rows, I IntKind.i64 1] (AV.im 1 (List.flatMap nmC n1)), Spec0 Try.prog 9 [AV.agg [KL a, KL b, KL c, KL d]] (I .i64 (Int.ofNat 0))] (by kernel_rfl) ⟨p2, m4, m2, p1, m3, m1, hck, trivial⟩
theorem rup_2 (a b c d : List Key) (rows : List Rw) (hck : Spec0 Try.prog 9 [.agg [KL a, KL b, KL c, KL d]] (I .i64 0)) (n1 n2 n3 n4 : List ByteArray) (m1 : Spec0 Try.prog 23 [RL rows, I .i64 1] (NL n1)) (m2 : Spec0 Try.prog 23 [RL rows, I .i64 2] (NL n2)) (m3 : Spec0 Try.prog 23 [RL rows, I .i64 3] (NL n3)) (m4 : Spec0 Try.prog 23 [RL rows, I .i64 4] (NL n4)) (u1 u2 u3 u4 : List Key) (p1 : Spec0 Try.prog 22 [KL a, KL b, NL n1, NL n3, I .i64 16777215] (.tup [KL u1, KL u2, B true])) (p2 : Spec0 Try.prog 22 [KL c, KL d, NL n2, NL n4, I .i64 65535] (.tup [KL u3, KL u4, B false])) : Spec0 Try.prog 11 [.agg [KL a, KL b, KL c, KL d], RL rows] (AV.tup [AV.agg [AV.nil, AV.nil, AV.nil, AV.nil], I .i64 (Int.ofNat 190)]) := sx0 hm hF 1000 20 [.c 11 1 1 (I .i64 (Int.ofNat 0)), .c 11 4 5 (AV.im 1 (List.flatMap nmC n1)), .c 11 4 7 (AV.im 1 (List.flatMap nmC n3)), .c 11 4 8 (AV.tup [AV.im 2 (List.flatMap keyC u1), AV.im 2 (List.flatMap keyC u2), B true]), .c 11 5 5 (AV.im 1 (List.flatMap nmC n2)), .c 11 5 7 (AV.im 1 (List.flatMap nmC n4)), .c 11 5 8 (AV.tup [AV.im 2 (List.flatMap keyC u3), AV.im 2 (List.flatMap keyC u4), B false])] [Spec0 Try.prog 22 [KL c, KL d, NL n2, NL n4, I IntKind.i64 65535] (AV.tup [AV.im 2 (List.flatMap keyC u3), AV.im 2 (List.flatMap keyC u4), B false]), Spec0 Try.prog 23 [RL rows, I IntKind.i64 4] (AV.im 1 (List.flatMap nmC n4)), Spec0 Try.prog 23 [RL rows, I IntKind.i64 2] (AV.im 1 (List.flatMap nmC n2)), Spec0 Try.prog 22 [KL a, KL b, NL n1, NL n3, I IntKind.i64 16777215] (AV.tup [AV.im 2 (List.flatMap keyC u1), AV.im 2 (List.flatMap keyC u2), B true]), Spec0 Try.prog 23 [RL rows, I IntKind.i64 3] (AV.im 1 (List.flatMap nmC n3)), Spec0 Try.prog 23 [RL rows, I IntKind.i64 1] (AV.im 1 (List.flatMap nmC n1)), Spec0 Try.prog 9 [AV.agg [KL a, KL b, KL c, KL d]] (I .i64 (Int.ofNat 0))] (by kernel_rfl) ⟨p2, m4, m2, p1, m3, m1, hck, trivial⟩
theorem rup_3 (a b c d : List Key) (rows : List Rw) (hck : Spec0 Try.prog 9 [.agg [KL a, KL b, KL c, KL d]] (I .i64 0)) (n1 n2 n3 n4 : List ByteArray) (m1 : Spec0 Try.prog 23 [RL rows, I .i64 1] (NL n1)) (m2 : Spec0 Try.prog 23 [RL rows, I .i64 2] (NL n2)) (m3 : Spec0 Try.prog 23 [RL rows, I .i64 3] (NL n3)) (m4 : Spec0 Try.prog 23 [RL rows, I .i64 4] (NL n4)) (u1 u2 u3 u4 : List Key) (p1 : Spec0 Try.prog 22 [KL a, KL b, NL n1, NL n3, I .i64 16777215] (.tup [KL u1, KL u2, B false])) (p2 : Spec0 Try.prog 22 [KL c, KL d, NL n2, NL n4, I .i64 65535] (.tup [KL u3, KL u4, B false])) : Spec0 Try.prog 11 [.agg [KL a, KL b, KL c, KL d], RL rows] (AV.tup [AV.agg [AV.nil, AV.nil, AV.nil, AV.nil], I .i64 (Int.ofNat 190)]) := sx0 hm hF 1000 20 [.c 11 1 1 (I .i64 (Int.ofNat 0)), .c 11 4 5 (AV.im 1 (List.flatMap nmC n1)), .c 11 4 7 (AV.im 1 (List.flatMap nmC n3)), .c 11 4 8 (AV.tup [AV.im 2 (List.flatMap keyC u1), AV.im 2 (List.flatMap keyC u2), B false]), .c 11 5 5 (AV.im 1 (List.flatMap nmC n2)), .c 11 5 7 (AV.im 1 (List.flatMap nmC n4)), .c 11 5 8 (AV.tup [AV.im 2 (List.flatMap keyC u3), AV.im 2 (List.flatMap keyC u4), B false])] [Spec0 Try.prog 22 [KL c, KL d, NL n2, NL n4, I IntKind.i64 65535] (AV.tup [AV.im 2 (List.flatMap keyC u3), AV.im 2 (List.flatMap keyC u4), B false]), Spec0 Try.prog 23 [RL rows, I IntKind.i64 4] (AV.im 1 (List.flatMap nmC n4)), Spec0 Try.prog 23 [RL rows, I IntKind.i64 2] (AV.im 1 (List.flatMap nmC n2)), Spec0 Try.prog 22 [KL a, KL b, NL n1, NL n3, I IntKind.i64 16777215] (AV.tup [AV.im 2 (List.flatMap keyC u1), AV.im 2 (List.flatMap keyC u2), B false]), Spec0 Try.prog 23 [RL rows, I IntKind.i64 3] (AV.im 1 (List.flatMap nmC n3)), Spec0 Try.prog 23 [RL rows, I IntKind.i64 1] (AV.im 1 (List.flatMap nmC n1)), Spec0 Try.prog 9 [AV.agg [KL a, KL b, KL c, KL d]] (I .i64 (Int.ofNat 0))] (by kernel_rfl) ⟨p2, m4, m2, p1, m3, m1, hck, trivial⟩
theorem rup_ok (a b c d : List Key) (rows : List Rw) (hck : Spec0 Try.prog 9 [.agg [KL a, KL b, KL c, KL d]] (I .i64 0)) (n1 n2 n3 n4 : List ByteArray) (m1 : Spec0 Try.prog 23 [RL rows, I .i64 1] (NL n1)) (m2 : Spec0 Try.prog 23 [RL rows, I .i64 2] (NL n2)) (m3 : Spec0 Try.prog 23 [RL rows, I .i64 3] (NL n3)) (m4 : Spec0 Try.prog 23 [RL rows, I .i64 4] (NL n4)) (u1 u2 u3 u4 : List Key) (p1 : Spec0 Try.prog 22 [KL a, KL b, NL n1, NL n3, I .i64 16777215] (.tup [KL u1, KL u2, B true])) (p2 : Spec0 Try.prog 22 [KL c, KL d, NL n2, NL n4, I .i64 65535] (.tup [KL u3, KL u4, B true])) : Spec0 Try.prog 11 [.agg [KL a, KL b, KL c, KL d], RL rows] (.tup [.agg [KL u1, KL u2, KL u3, KL u4], I .i64 0]) := sxF hm hF 1000 20 [.c 11 1 1 (I .i64 (Int.ofNat 0)), .c 11 4 5 (AV.im 1 (List.flatMap nmC n1)), .c 11 4 7 (AV.im 1 (List.flatMap nmC n3)), .c 11 4 8 (AV.tup [AV.im 2 (List.flatMap keyC u1), AV.im 2 (List.flatMap keyC u2), B true]), .c 11 5 5 (AV.im 1 (List.flatMap nmC n2)), .c 11 5 7 (AV.im 1 (List.flatMap nmC n4)), .c 11 5 8 (AV.tup [AV.im 2 (List.flatMap keyC u3), AV.im 2 (List.flatMap keyC u4), B true])] [Spec0 Try.prog 22 [KL c, KL d, NL n2, NL n4, I IntKind.i64 65535] (AV.tup [AV.im 2 (List.flatMap keyC u3), AV.im 2 (List.flatMap keyC u4), B true]), Spec0 Try.prog 23 [RL rows, I IntKind.i64 4] (AV.im 1 (List.flatMap nmC n4)), Spec0 Try.prog 23 [RL rows, I IntKind.i64 2] (AV.im 1 (List.flatMap nmC n2)), Spec0 Try.prog 22 [KL a, KL b, NL n1, NL n3, I IntKind.i64 16777215] (AV.tup [AV.im 2 (List.flatMap keyC u1), AV.im 2 (List.flatMap keyC u2), B true]), Spec0 Try.prog 23 [RL rows, I IntKind.i64 3] (AV.im 1 (List.flatMap nmC n3)), Spec0 Try.prog 23 [RL rows, I IntKind.i64 1] (AV.im 1 (List.flatMap nmC n1)), Spec0 Try.prog 9 [AV.agg [KL a, KL b, KL c, KL d]] (I .i64 (Int.ofNat 0))] (AV.tup [AV.agg [AV.im 2 (List.flatMap keyC u1), AV.im 2 (List.flatMap keyC u2), AV.im 2 (List.flatMap keyC u3), AV.im 2 (List.flatMap keyC u4)], I .i64 (Int.ofNat 0)]) [AObj.row 1 [AV.im 2 (List.flatMap keyC a), AV.im 2 (List.flatMap keyC b), AV.im 2 (List.flatMap keyC c), AV.im 2 (List.flatMap keyC d)], AObj.row 1 [AV.im 2 (List.flatMap keyC u1), AV.im 2 (List.flatMap keyC u2), AV.im 2 (List.flatMap keyC u3), AV.im 2 (List.flatMap keyC u4)]] (by kernel_rfl) ⟨p2, m4, m2, p1, m3, m1, hck, trivial⟩ (.keep rfl)
theorem names_len (kind : Int) : ∀ (rows : List Rw) (l : List ByteArray), (rows.foldl (nmIns kind) l).length ≤ l.length + rows.length
  | [], l => Nat.le_refl _
  | r :: rows, l => by
    rw [List.foldl_cons]
    refine Nat.le_trans (names_len kind rows _) ?_
    unfold nmIns
    split
    · simp only [List.length_cons]; omega
    · have := insV_len r.name l; simp only [List.length_cons]; omega
theorem kept_le {a b : List Key} {x y : List ByteArray} {C : Int} (h0 : 0 ≤ C) (ha : ∀ k ∈ a, k.num ≤ C) (hb : ∀ k ∈ b, k.num ≤ C) : ∀ u ∈ keptV a x ++ keptV b y, u ≤ C := by
  intro u hu
  rw [List.mem_append] at hu
  unfold keptV at hu
  rw [kept_iff, kept_iff] at hu
  simp only [List.not_mem_nil, false_or] at hu
  rcases hu with ⟨n, _, _, e⟩ | ⟨n, _, _, e⟩
  · rw [← e]; exact findV_le a n C h0 ha
  · rw [← e]; exact findV_le b n C h0 hb
/-- The reference's Update. -/
theorem w_rUpdate (a b c d : List Key) (rows : List Rw) (ha : a.length ≤ 1048576) (hb : b.length ≤ 1048576) (hc : c.length ≤ 1048576) (hd : d.length ≤ 1048576) (hl0 : rows.length ≤ 1048576) : match updR a b c d rows with
    | some (u1, u2, u3, u4) => Spec0 Try.prog 11 [.agg [KL a, KL b, KL c, KL d], RL rows] (.tup [.agg [KL u1, KL u2, KL u3, KL u4], I .i64 0])
    | none => Spec0 Try.prog 11 [.agg [KL a, KL b, KL c, KL d], RL rows] (.tup [.agg [.nil, .nil, .nil, .nil], I .i64 190]) := by
  have hck := w_rCheck a b c d ha hb hc hd
  unfold updR
  cases hcv : checkV a b c d
  · rw [hcv] at hck
    exact rup_bad a b c d rows hck
  rw [hcv] at hck
  simp only [if_true] at hck ⊢
  have hcv2 := hcv
  unfold checkV at hcv2
  simp only [Bool.and_eq_true] at hcv2
  obtain ⟨na, nb⟩ := rightV_num hcv2.1
  obtain ⟨nc, nd⟩ := rightV_num hcv2.2
  rw [rpair_is (by decide) na nb, rpair_is (by decide) nc nd]
  have nl : ∀ k, (namesV rows k).length ≤ rows.length := fun k => by
    have := names_len k rows []
    simpa [namesV] using this
  have kb1 : ∀ x ∈ keptV a (namesV rows 1) ++ keptV b (namesV rows 3), x ≤ 16777215 := kept_le (by decide) (fun k hk => (na k hk).2) (fun k hk => (nb k hk).2)
  have kb2 : ∀ x ∈ keptV c (namesV rows 2) ++ keptV d (namesV rows 4), x ≤ 65535 := kept_le (by decide) (fun k hk => (nc k hk).2) (fun k hk => (nd k hk).2)
  have p1 := w_pair a b (namesV rows 1) (namesV rows 3) 16777215 16777215 (by decide) (by decide) (by omega) (by omega) (Nat.le_trans (nl 1) hl0) (Nat.le_trans (nl 3) hl0) kb1
  have p2 := w_pair c d (namesV rows 2) (namesV rows 4) 65535 65535 (by decide) (by decide) (by omega) (by omega) (Nat.le_trans (nl 2) hl0) (Nat.le_trans (nl 4) hl0) kb2
  have m1 := w_names rows 1 (by omega)
  have m2 := w_names rows 2 (by omega)
  have m3 := w_names rows 3 (by omega)
  have m4 := w_names rows 4 (by omega)
  obtain ⟨r1, e1⟩ : ∃ r, r = rpairV a b (namesV rows 1) (namesV rows 3) := ⟨_, rfl⟩
  obtain ⟨r2, e2⟩ : ∃ r, r = rpairV c d (namesV rows 2) (namesV rows 4) := ⟨_, rfl⟩
  rw [← e1] at p1 ⊢
  rw [← e2] at p2 ⊢
  by_cases c1 : ∀ u ∈ r1.2.2, u ≤ 16777215
  · rw [allLe_iff.2 c1] at p1
    rw [if_pos c1]
    by_cases c2 : ∀ u ∈ r2.2.2, u ≤ 65535
    · rw [allLe_iff.2 c2] at p2
      rw [if_pos c2]
      exact rup_ok a b c d rows hck _ _ _ _ m1 m2 m3 m4 r1.1 r1.2.1 r2.1 r2.2.1 p1 p2
    · rw [show allLe _ _ = false from by rw [Bool.eq_false_iff]; exact fun g => c2 (allLe_iff.1 g)] at p2
      rw [if_neg c2]
      exact rup_2 a b c d rows hck _ _ _ _ m1 m2 m3 m4 r1.1 r1.2.1 r2.1 r2.2.1 p1 p2
  · rw [show allLe _ _ = false from by rw [Bool.eq_false_iff]; exact fun g => c1 (allLe_iff.1 g)] at p1
    rw [if_neg c1]
    by_cases c2 : ∀ u ∈ r2.2.2, u ≤ 65535
    · rw [allLe_iff.2 c2] at p2
      exact rup_1 a b c d rows hck _ _ _ _ m1 m2 m3 m4 r1.1 r1.2.1 r2.1 r2.2.1 p1 p2
    · rw [show allLe _ _ = false from by rw [Bool.eq_false_iff]; exact fun g => c2 (allLe_iff.1 g)] at p2
      exact rup_3 a b c d rows hck _ _ _ _ m1 m2 m3 m4 r1.1 r1.2.1 r2.1 r2.2.1 p1 p2

end Go.Proofs.Ytlfedjannhceaaa
