/-
  The law KeysStay.
-/
import Derived.Test.YtlfedjannhceaaaASU2
set_option linter.unusedVariables false
set_option linter.unusedSimpArgs false
set_option maxRecDepth 100000
set_option maxHeartbeats 1000000
namespace Go.Proofs.Ytlfedjannhceaaa
open Go Go.SL Go.Proofs
theorem same_ok (a b c d : List Key) (ha : Spec0 Try.prog 24 [KL a, KL a] (B true)) (hb : Spec0 Try.prog 24 [KL b, KL b] (B true)) (hc : Spec0 Try.prog 24 [KL c, KL c] (B true)) (hd : Spec0 Try.prog 24 [KL d, KL d] (B true)) : Spec0 Try.prog 12 [.agg [KL a, KL b, KL c, KL d], .agg [KL a, KL b, KL c, KL d]] (B true) := sx0 hm hF 1000 20 [.c 12 1 4 (B true), .c 12 1 10 (B true), .c 12 1 17 (B true), .c 12 1 24 (B true)] [Spec0 Try.prog 24 [KL d, KL d] (B true), Spec0 Try.prog 24 [KL c, KL c] (B true), Spec0 Try.prog 24 [KL b, KL b] (B true), Spec0 Try.prog 24 [KL a, KL a] (B true)] (by kernel_rfl) ⟨hd, hc, hb, ha, trivial⟩theorem ks_bad (a b c d : List Key) (r1 r2 : List Rw) (hlv : Spec0 Try.prog 7 [] (B true)) (h1 : Spec0 Try.prog 10 [.agg [KL a, KL b, KL c, KL d], RL r1] (.tup [.agg [.nil, .nil, .nil, .nil], I .i64 190])) : Spec0 Try.prog 4 [.agg [KL a, KL b, KL c, KL d], RL r1, RL r2] (B true) := sx0 hm hF 1000 20 [.c 4 1 0 (B true), .c 4 3 2 (AV.tup [AV.agg [AV.nil, AV.nil, AV.nil, AV.nil], I .i64 (Int.ofNat 190)])] [Spec0 Try.prog 10 [AV.agg [KL a, KL b, KL c, KL d], RL r1] (AV.tup [AV.agg [AV.nil, AV.nil, AV.nil, AV.nil], I .i64 (Int.ofNat 190)]), Spec0 Try.prog 7 [] (B true)] (by kernel_rfl) ⟨h1, hlv, trivial⟩
theorem w_sameList (l : List Key) (hl0 : l.length ≤ 4611686018427387) : Spec0 Try.prog 24 [KL l, KL l] (B true) := by
  refine Spec0.walk Try.func24 rfl rfl ?_
  refine W.sxP hm hF 24 2 1000 20 [.n 24 1 1 (List.length l), .n 24 1 3 (List.length l), .b 24 1 4 false] [((↑(List.length l) : Int) != (↑(List.length l) : Int)) = false, List.length l * 2 = List.length (List.flatMap keyC l), 0 < 2, List.length l * 2 = List.length (List.flatMap keyC l), 0 < 2] [(0, KL l), (1, KL l)] [] (by kernel_rfl) ⟨(by simp <;> omega), (by exact Eq.symm (fm_len (c := (keyC)) (fun _ => rfl) _)), (by omega), (by exact Eq.symm (fm_len (c := (keyC)) (fun _ => rfl) _)), (by omega), trivial⟩ ?_
  refine W.seq ?_
  refine W.seq ?_
  refine W.sx hm hF 24 1000 20 [] [] .normal [(0, KL l), (1, KL l), (5, I .i64 0)] [] (by kernel_rfl) trivial (fun σ h => W.weaken h ?_)
  refine W.block ?_
  refine W.loop (fun i : Nat => ⟨tbl [(0, KL l), (1, KL l), (5, I .i64 (i : Nat))], []⟩) (fun i => i ≤ l.length) (fun i => l.length - i) 0 (Nat.zero_le _) (Le.refl _) ?_
  intro i hi
  by_cases hlt : i < l.length
  · obtain ⟨k, hget⟩ : ∃ k, l[i]? = some k := ⟨_, List.getElem?_eq_getElem hlt⟩
    exact W.sx hm hF 24 1000 20 [.n 24 4 2 (List.length l), .b 24 4 3 true, .j 24 6 2 (List.length l) i, .l 24 6 3 (AV.agg (keyC k)), .j 24 6 6 (List.length l) i, .l 24 6 7 (AV.agg (keyC k)), .b 24 6 8 false, .x 24 5 1 (Xt.na (i + 1))] [i + 1 < cap IntKind.i64, i + 1 = i + 1, (!(k.name == k.name && (k.num == k.num && true))) = false, List.take 2 (List.drop (i * 2) (List.flatMap keyC l)) = keyC k, i * 2 + 2 ≤ List.length (List.flatMap keyC l), List.length l * 2 = List.length (List.flatMap keyC l), 0 < 2, (↑i : Int) = (↑i : Int), i < List.length l, List.take 2 (List.drop (i * 2) (List.flatMap keyC l)) = keyC k, i * 2 + 2 ≤ List.length (List.flatMap keyC l), List.length l * 2 = List.length (List.flatMap keyC l), 0 < 2, (↑i : Int) = (↑i : Int), i < List.length l, decide ((↑i : Int) < (↑(List.length l) : Int)) = true, List.length l * 2 = List.length (List.flatMap keyC l), 0 < 2] .normal [(0, KL l), (1, KL l), (5, I .i64 ((i + 1 : Nat) : Int))] [] (by kernel_rfl) ⟨(by simp [cap] <;> omega), (by rfl), (by simp <;> omega), (by exact fm_at (c := (keyC)) (fun _ => rfl) _ (by assumption)), (by exact fm_bound (c := (keyC)) (fun _ => rfl) _ (by omega)), (by exact Eq.symm (fm_len (c := (keyC)) (fun _ => rfl) _)), (by omega), (by first | (simp [bself]) | omega | decide | simp), (by assumption), (by exact fm_at (c := (keyC)) (fun _ => rfl) _ (by assumption)), (by exact fm_bound (c := (keyC)) (fun _ => rfl) _ (by omega)), (by exact Eq.symm (fm_len (c := (keyC)) (fun _ => rfl) _)), (by omega), (by first | (simp [bself]) | omega | decide | simp), (by assumption), (by simp <;> omega), (by exact Eq.symm (fm_len (c := (keyC)) (fun _ => rfl) _)), (by omega), trivial⟩ (fun σ h => ⟨i + 1, hlt, by omega, h⟩)
  · have hb : decide (((i : Nat) : Int) < (l.length : Nat)) = false := decide_eq_false (by omega)
    refine W.sx hm hF 24 1000 20 [.n 24 4 2 l.length, .b 24 4 3 false] [decide (((i : Nat) : Int) < (l.length : Nat)) = false, l.length * 2 = (l.flatMap keyC).length, 0 < 2] (.exit 0) [] [] (by kernel_rfl) ⟨hb, Eq.symm (fm_len (c := keyC) (fun _ => rfl) _), by decide, trivial⟩ (fun σ h => W.weaken h ?_)
    exact W.sxR hm hF 24 1000 20 [] [] [.tmp 4] .ret (B true) (by kernel_rfl) trivial (fun σ xs h1 h2 => retK.mk (.inl rfl) h1 h2)
theorem w_Same (a b c d : List Key) (ha : a.length ≤ 4611686018427387) (hb : b.length ≤ 4611686018427387) (hc : c.length ≤ 4611686018427387) (hd : d.length ≤ 4611686018427387) : Spec0 Try.prog 12 [.agg [KL a, KL b, KL c, KL d], .agg [KL a, KL b, KL c, KL d]] (B true) :=
  same_ok a b c d (w_sameList a ha) (w_sameList b hb) (w_sameList c hc) (w_sameList d hd)
theorem updR_parts {a b c d u1 u2 u3 u4 : List Key} {rows : List Rw} (h : updR a b c d rows = some (u1, u2, u3, u4)) : checkV a b c d = true ∧ pairV a b 1 3 rows 16777215 = some (u1, u2) ∧ pairV c d 2 4 rows 65535 = some (u3, u4) := by
  unfold updR at h
  split at h
  · rename_i hc
    split at h
    · rename_i x1 x2 x3 x4 h1 h2
      simp only [Option.some.injEq, Prod.mk.injEq] at h
      obtain ⟨rfl, rfl, rfl, rfl⟩ := h
      exact ⟨hc, h1, h2⟩
    · simp at h
  · simp at h
theorem pair_len {a b : List Key} {ka kb : Int} {rows : List Rw} {most : Int} {u1 u2 : List Key} (h : pairV a b ka kb rows most = some (u1, u2)) : u1.length ≤ rows.length ∧ u2.length ≤ rows.length := by
  unfold pairV at h
  simp only at h
  split at h
  · simp only [Option.some.injEq, Prod.mk.injEq] at h
    obtain ⟨rfl, rfl⟩ := h
    constructor
    · rw [giveL_len, (sortK_perm _).length_eq]
      have := stay_len a ka rows ([], [])
      simpa [stayF] using this
    · rw [giveL_len, (sortK_perm _).length_eq]
      have := stay_len b kb rows ((stayF a ka [] rows).1, [])
      simpa [stayF] using this
  · simp at h
end Go.Proofs.Ytlfedjannhceaaa
