/-
  The law KeysStay.
-/
import Derived.Test.YtlfedjannhceaaaASc
set_option linter.unusedVariables false
set_option linter.unusedSimpArgs false
set_option maxRecDepth 100000
set_option maxHeartbeats 1000000
namespace Go.Proofs.Ytlfedjannhceaaa
open Go Go.SL Go.Proofs
theorem same_ok (a b c d : List Key) (ha : Spec0 Try.prog 24 [KL a, KL a] (B true)) (hb : Spec0 Try.prog 24 [KL b, KL b] (B true)) (hc : Spec0 Try.prog 24 [KL c, KL c] (B true)) (hd : Spec0 Try.prog 24 [KL d, KL d] (B true)) : Spec0 Try.prog 12 [.agg [KL a, KL b, KL c, KL d], .agg [KL a, KL b, KL c, KL d]] (B true) := sx0 hm hF 1000 20 [.c 12 1 4 (B true), .c 12 1 10 (B true), .c 12 1 17 (B true), .c 12 1 24 (B true)] [Spec0 Try.prog 24 [KL d, KL d] (B true), Spec0 Try.prog 24 [KL c, KL c] (B true), Spec0 Try.prog 24 [KL b, KL b] (B true), Spec0 Try.prog 24 [KL a, KL a] (B true)] (by kernel_rfl) ⟨hd, hc, hb, ha, trivial⟩theorem ks_bad (a b c d : List Key) (r1 r2 : List Rw) (hlv : Spec0 Try.prog 7 [] (B true)) (h1 : Spec0 Try.prog 10 [.agg [KL a, KL b, KL c, KL d], RL r1] (.tup [.agg [.nil, .nil, .nil, .nil], I .i64 190])) : Spec0 Try.prog 4 [.agg [KL a, KL b, KL c, KL d], RL r1, RL r2] (B true) := sx0 hm hF 1000 20 [.c 4 1 0 (B true), .c 4 3 2 (AV.tup [AV.agg [AV.nil, AV.nil, AV.nil, AV.nil], I .i64 (Int.ofNat 190)])] [Spec0 Try.prog 10 [AV.agg [KL a, KL b, KL c, KL d], RL r1] (AV.tup [AV.agg [AV.nil, AV.nil, AV.nil, AV.nil], I .i64 (Int.ofNat 190)]), Spec0 Try.prog 7 [] (B true)] (by kernel_rfl) ⟨h1, hlv, trivial⟩
theorem ks_full (a b c d : List Key) (r1 r2 : List Rw) (hlv : Spec0 Try.prog 7 [] (B true)) (u1 u2 u3 u4 : List Key) (h1 : Spec0 Try.prog 10 [.agg [KL a, KL b, KL c, KL d], RL r1] (.tup [.agg [KL u1, KL u2, KL u3, KL u4], I .i64 0])) (h2 : Spec0 Try.prog 10 [.agg [KL u1, KL u2, KL u3, KL u4], RL r1] (.tup [.agg [KL u1, KL u2, KL u3, KL u4], I .i64 0])) (hck : Spec0 Try.prog 8 [.agg [KL u1, KL u2, KL u3, KL u4]] (I .i64 0)) (hsm : Spec0 Try.prog 12 [.agg [KL u1, KL u2, KL u3, KL u4], .agg [KL u1, KL u2, KL u3, KL u4]] (B true)) (h3 : Spec0 Try.prog 10 [.agg [KL u1, KL u2, KL u3, KL u4], RL r2] (.tup [.agg [.nil, .nil, .nil, .nil], I .i64 190])) : Spec0 Try.prog 4 [.agg [KL a, KL b, KL c, KL d], RL r1, RL r2] (B true) := sx0 hm hF 1000 20 [.c 4 1 0 (B true), .c 4 3 2 (AV.tup [AV.agg [AV.im 2 (List.flatMap keyC u1), AV.im 2 (List.flatMap keyC u2), AV.im 2 (List.flatMap keyC u3), AV.im 2 (List.flatMap keyC u4)], I .i64 (Int.ofNat 0)]), .c 4 6 2 (AV.tup [AV.agg [AV.im 2 (List.flatMap keyC u1), AV.im 2 (List.flatMap keyC u2), AV.im 2 (List.flatMap keyC u3), AV.im 2 (List.flatMap keyC u4)], I .i64 (Int.ofNat 0)]), .c 4 7 2 (AV.tup [AV.agg [AV.nil, AV.nil, AV.nil, AV.nil], I .i64 (Int.ofNat 190)]), .c 4 8 1 (I .i64 (Int.ofNat 0)), .c 4 8 10 (B true)] [Spec0 Try.prog 12 [AV.agg [KL u1, KL u2, KL u3, KL u4], AV.agg [KL u1, KL u2, KL u3, KL u4]] (B true), Spec0 Try.prog 8 [AV.agg [KL u1, KL u2, KL u3, KL u4]] (I .i64 (Int.ofNat 0)), Spec0 Try.prog 10 [AV.agg [KL u1, KL u2, KL u3, KL u4], RL r2] (AV.tup [AV.agg [AV.nil, AV.nil, AV.nil, AV.nil], I .i64 (Int.ofNat 190)]), Spec0 Try.prog 10 [AV.agg [KL u1, KL u2, KL u3, KL u4], RL r1] (AV.tup [AV.agg [AV.im 2 (List.flatMap keyC u1), AV.im 2 (List.flatMap keyC u2), AV.im 2 (List.flatMap keyC u3), AV.im 2 (List.flatMap keyC u4)], I .i64 (Int.ofNat 0)]), Spec0 Try.prog 10 [AV.agg [KL a, KL b, KL c, KL d], RL r1] (AV.tup [AV.agg [AV.im 2 (List.flatMap keyC u1), AV.im 2 (List.flatMap keyC u2), AV.im 2 (List.flatMap keyC u3), AV.im 2 (List.flatMap keyC u4)], I .i64 (Int.ofNat 0)]), Spec0 Try.prog 7 [] (B true)] (by kernel_rfl) ⟨hsm, hck, h3, h2, h1, hlv, trivial⟩
theorem w_sameList (l : List Key) (hl0 : l.length ≤ 4611686018427387) : Spec0 Try.prog 24 [KL l, KL l] (B true) := by
  refine Spec0.walk Try.func24 rfl rfl ?_
  refine W.sxP hm hF 24 2 1000 20 [.n 24 1 1 (List.length l), .n 24 1 3 (List.length l), .b 24 1 4 false] [((↑(List.length l) : Int) != (↑(List.length l) : Int)) = false, List.length l * 2 = List.length (List.flatMap keyC l), 0 < 2, List.length l * 2 = List.length (List.flatMap keyC l), 0 < 2] [(0, KL l), (1, KL l)] [] (by kernel_rfl) ⟨(by simp <;> omega), (by exact Eq.symm (fm_len (c := (keyC)) (fun _ => rfl) _)), (by omega), (by exact Eq.symm (fm_len (c := (keyC)) (fun _ => rfl) _)), (by omega), trivial⟩ ?_
  refine W.seq ?_
  refine W.seq ?_
  refine W.sx hm hF 24 1000 20 [] [] .normal [(0, KL l), (1, KL l), (5, I .i64 0)] [] (by kernel_rfl) trivial (fun σ h => W.weaken h ?_)
  refine W.block ?_
  refine W.loop (fun i : Nat => ⟨tbl [(0, KL l), (1, KL l), (5, I .i64 (i : Nat))], []⟩) (fun i => i ≤ l.length) (fun i => l.length - i) 0 (Nat.zero_le _) (Le.refl _) ?_
  intro i hi
  by_cases hlt : i < l.length
  · obtain ⟨k, hget⟩ : ∃ k, l[i]? = some k := ⟨_, List.getElem?_eq_getElem hlt⟩
    exact W.sx hm hF 24 1000 20 [.n 24 4 2 (List.length l), .b 24 4 3 true, .j 24 6 2 (List.length l) i, .l 24 6 3 (AV.agg (keyC k)), .j 24 6 6 (List.length l) i, .l 24 6 7 (AV.agg (keyC k)), .b 24 6 8 false, .x 24 5 1 (Xt.na (i + 1))] [i + 1 < cap IntKind.i64, i + 1 = i + 1, (!(k.name == k.name && (k.num == k.num && true))) = false, List.take 2 (List.drop (i * 2) (List.flatMap keyC l)) = keyC k, i * 2 + 2 ≤ List.length (List.flatMap keyC l), List.length l * 2 = List.length (List.flatMap keyC l), 0 < 2, (↑i : Int) = (↑i : Int), i < List.length l, List.take 2 (List.drop (i * 2) (List.flatMap keyC l)) = keyC k, i * 2 + 2 ≤ List.length (List.flatMap keyC l), List.length l * 2 = List.length (List.flatMap keyC l), 0 < 2, (↑i : Int) = (↑i : Int), i < List.length l, decide ((↑i : Int) < (↑(List.length l) : Int)) = true, List.length l * 2 = List.length (List.flatMap keyC l), 0 < 2] .normal [(0, KL l), (1, KL l), (5, I .i64 ((i + 1 : Nat) : Int))] [] (by kernel_rfl) ⟨(by simp [cap] <;> omega), (by rfl), (by simp <;> omega), (by exact fm_at (c := (keyC)) (fun _ => rfl) _ (by assumption)), (by exact fm_bound (c := (keyC)) (fun _ => rfl) _ (by omega)), (by exact Eq.symm (fm_len (c := (keyC)) (fun _ => rfl) _)), (by omega), (by first | (simp [bself]) | omega | decide | simp), (by assumption), (by exact fm_at (c := (keyC)) (fun _ => rfl) _ (by assumption)), (by exact fm_bound (c := (keyC)) (fun _ => rfl) _ (by omega)), (by exact Eq.symm (fm_len (c := (keyC)) (fun _ => rfl) _)), (by omega), (by first | (simp [bself]) | omega | decide | simp), (by assumption), (by simp <;> omega), (by exact Eq.symm (fm_len (c := (keyC)) (fun _ => rfl) _)), (by omega), trivial⟩ (fun σ h => ⟨i + 1, hlt, by omega, h⟩)
  · have hb : decide (((i : Nat) : Int) < (l.length : Nat)) = false := decide_eq_false (by omega)
    refine W.sx hm hF 24 1000 20 [.n 24 4 2 l.length, .b 24 4 3 false] [decide (((i : Nat) : Int) < (l.length : Nat)) = false, l.length * 2 = (l.flatMap keyC).length, 0 < 2] (.exit 0) [] [] (by kernel_rfl) ⟨hb, Eq.symm (fm_len (c := keyC) (fun _ => rfl) _), by decide, trivial⟩ (fun σ h => W.weaken h ?_)
    exact W.sxR hm hF 24 1000 20 [] [] [.tmp 4] .ret (B true) (by kernel_rfl) trivial (fun σ xs h1 h2 => retK.mk (.inl rfl) h1 h2)
theorem w_Same (a b c d : List Key) (ha : a.length ≤ 4611686018427387) (hb : b.length ≤ 4611686018427387) (hc : c.length ≤ 4611686018427387) (hd : d.length ≤ 4611686018427387) : Spec0 Try.prog 12 [.agg [KL a, KL b, KL c, KL d], .agg [KL a, KL b, KL c, KL d]] (B true) :=
  same_ok a b c d (w_sameList a ha) (w_sameList b hb) (w_sameList c hc) (w_sameList d hd)
theorem w_stays (a b c d : List Key) (r1 r2 : List Rw) (hlv : Spec0 Try.prog 7 [] (B true)) (u1 u2 u3 u4 : List Key) (h1 : Spec0 Try.prog 10 [.agg [KL a, KL b, KL c, KL d], RL r1] (.tup [.agg [KL u1, KL u2, KL u3, KL u4], I .i64 0])) (h2 : Spec0 Try.prog 10 [.agg [KL u1, KL u2, KL u3, KL u4], RL r1] (.tup [.agg [KL u1, KL u2, KL u3, KL u4], I .i64 0])) (hck : Spec0 Try.prog 8 [.agg [KL u1, KL u2, KL u3, KL u4]] (I .i64 0)) (hsm : Spec0 Try.prog 12 [.agg [KL u1, KL u2, KL u3, KL u4], .agg [KL u1, KL u2, KL u3, KL u4]] (B true)) (v1 v2 v3 v4 : List Key) (h3 : Spec0 Try.prog 10 [.agg [KL u1, KL u2, KL u3, KL u4], RL r2] (.tup [.agg [KL v1, KL v2, KL v3, KL v4], I .i64 0])) (hck2 : Spec0 Try.prog 8 [.agg [KL v1, KL v2, KL v3, KL v4]] (I .i64 0))
    (l1 : u2.length ≤ 4611686018427387) (l2 : u3.length ≤ 4611686018427387) (l3 : v2.length ≤ 4611686018427387) (l4 : v3.length ≤ 4611686018427387)
    (k0 : ∀ (i : Nat) (k : Key), v3[i]? = some k → (findV u3 k.name).2 = true → (findV u3 k.name).1 = k.num) (k1 : ∀ (i : Nat) (k : Key), v2[i]? = some k → (findV u2 k.name).2 = true → (findV u2 k.name).1 = k.num) : Spec0 Try.prog 4 [.agg [KL a, KL b, KL c, KL d], RL r1, RL r2] (B true) := by
  refine Spec0.walk Try.func4 rfl rfl ?_
  refine W.sxP hm hF 4 7 1000 20 [.c 4 1 0 (B true), .c 4 3 2 (AV.tup [AV.agg [AV.im 2 (List.flatMap keyC u1), AV.im 2 (List.flatMap keyC u2), AV.im 2 (List.flatMap keyC u3), AV.im 2 (List.flatMap keyC u4)], I .i64 (Int.ofNat 0)]), .c 4 6 2 (AV.tup [AV.agg [AV.im 2 (List.flatMap keyC u1), AV.im 2 (List.flatMap keyC u2), AV.im 2 (List.flatMap keyC u3), AV.im 2 (List.flatMap keyC u4)], I .i64 (Int.ofNat 0)]), .c 4 7 2 (AV.tup [AV.agg [AV.im 2 (List.flatMap keyC v1), AV.im 2 (List.flatMap keyC v2), AV.im 2 (List.flatMap keyC v3), AV.im 2 (List.flatMap keyC v4)], I .i64 (Int.ofNat 0)]), .c 4 8 1 (I .i64 (Int.ofNat 0)), .c 4 8 10 (B true)] [Spec0 Try.prog 12 [AV.agg [KL u1, KL u2, KL u3, KL u4], AV.agg [KL u1, KL u2, KL u3, KL u4]] (B true), Spec0 Try.prog 8 [AV.agg [KL u1, KL u2, KL u3, KL u4]] (I .i64 (Int.ofNat 0)), Spec0 Try.prog 10 [AV.agg [KL u1, KL u2, KL u3, KL u4], RL r2] (AV.tup [AV.agg [AV.im 2 (List.flatMap keyC v1), AV.im 2 (List.flatMap keyC v2), AV.im 2 (List.flatMap keyC v3), AV.im 2 (List.flatMap keyC v4)], I .i64 (Int.ofNat 0)]), Spec0 Try.prog 10 [AV.agg [KL u1, KL u2, KL u3, KL u4], RL r1] (AV.tup [AV.agg [AV.im 2 (List.flatMap keyC u1), AV.im 2 (List.flatMap keyC u2), AV.im 2 (List.flatMap keyC u3), AV.im 2 (List.flatMap keyC u4)], I .i64 (Int.ofNat 0)]), Spec0 Try.prog 10 [AV.agg [KL a, KL b, KL c, KL d], RL r1] (AV.tup [AV.agg [AV.im 2 (List.flatMap keyC u1), AV.im 2 (List.flatMap keyC u2), AV.im 2 (List.flatMap keyC u3), AV.im 2 (List.flatMap keyC u4)], I .i64 (Int.ofNat 0)]), Spec0 Try.prog 7 [] (B true)] [(7, .ptr 1 0), (11, .ptr 3 0)] [.row 1 [KL a, KL b, KL c, KL d], .row 1 [KL u1, KL u2, KL u3, KL u4], .row 1 [KL u1, KL u2, KL u3, KL u4], .row 1 [KL v1, KL v2, KL v3, KL v4]] (by kernel_rfl) ⟨hsm, hck, h3, h2, h1, hlv, trivial⟩ ?_
  refine W.seq ?_
  refine W.seq ?_
  refine W.sx hm hF 4 1000 20 [] [] .normal [(7, .ptr 1 0), (11, .ptr 3 0), (13, I .i64 0)] [.row 1 [KL a, KL b, KL c, KL d], .row 1 [KL u1, KL u2, KL u3, KL u4], .row 1 [KL u1, KL u2, KL u3, KL u4], .row 1 [KL v1, KL v2, KL v3, KL v4]] (by kernel_rfl) trivial (fun σ h => W.weaken h ?_)
  refine W.block ?_
  refine W.loop (fun i : Nat => ⟨tbl [(7, .ptr 1 0), (11, .ptr 3 0), (13, I .i64 (i : Nat))], [.row 1 [KL a, KL b, KL c, KL d], .row 1 [KL u1, KL u2, KL u3, KL u4], .row 1 [KL u1, KL u2, KL u3, KL u4], .row 1 [KL v1, KL v2, KL v3, KL v4]]⟩) (fun i => i ≤ v3.length) (fun i => v3.length - i) 0 (Nat.zero_le _) (Le.refl _) ?_
  intro i hi0
  by_cases hi : i < v3.length
  · obtain ⟨k, hx⟩ : ∃ x, v3[i]? = some x := ⟨_, List.getElem?_eq_getElem hi⟩
    have hll : v3.length ≤ 4611686018427387 := by omega
    have hf := w_findV u3 k.name (by omega)
    have hk := k0 i k hx
    cases he : (findV u3 k.name).2 with
    | true =>
      rw [he, hk he] at hf
      exact W.sx hm hF 4 1000 20 [.n 4 11 3 (List.length v3), .b 4 11 4 true, .j 4 13 5 (List.length v3) i, .l 4 13 7 (S k.name), .c 4 13 8 (AV.tup [I .i64 k.num, B true]), .j 4 14 6 (List.length v3) i, .l 4 14 8 (I .i64 k.num), .b 4 14 9 false, .x 4 12 1 (Xt.na (i + 1))] [i + 1 < cap IntKind.i64, i + 1 = i + 1, (k.num != k.num) = false, (List.flatMap keyC v3)[i * 2 + 1]? = some (I .i64 k.num), List.length v3 * 2 = List.length (List.flatMap keyC v3), 0 < 2, (↑i : Int) = (↑i : Int), i < List.length v3, Spec0 Try.prog 13 [KL u3, S k.name] (AV.tup [I .i64 k.num, B true]), (List.flatMap keyC v3)[i * 2 + 0]? = some (S k.name), List.length v3 * 2 = List.length (List.flatMap keyC v3), 0 < 2, (↑i : Int) = (↑i : Int), i < List.length v3, decide ((↑i : Int) < (↑(List.length v3) : Int)) = true, List.length v3 * 2 = List.length (List.flatMap keyC v3), 0 < 2] .normal [(7, .ptr 1 0), (11, .ptr 3 0), (13, I .i64 ((i + 1 : Nat) : Int))] [.row 1 [KL a, KL b, KL c, KL d], .row 1 [KL u1, KL u2, KL u3, KL u4], .row 1 [KL u1, KL u2, KL u3, KL u4], .row 1 [KL v1, KL v2, KL v3, KL v4]] (by kernel_rfl) ⟨(by simp [cap] <;> omega), (by rfl), (by simp <;> omega), (by exact fm_cell (c := (keyC)) (fun _ => rfl) _ (by assumption) (by decide) rfl), (by exact Eq.symm (fm_len (c := (keyC)) (fun _ => rfl) _)), (by omega), (by first | (simp [bself]) | omega | decide | simp), (by assumption), hf, (by exact fm_cell (c := (keyC)) (fun _ => rfl) _ (by assumption) (by decide) rfl), (by exact Eq.symm (fm_len (c := (keyC)) (fun _ => rfl) _)), (by omega), (by first | (simp [bself]) | omega | decide | simp), (by assumption), (by simp <;> omega), (by exact Eq.symm (fm_len (c := (keyC)) (fun _ => rfl) _)), (by omega), trivial⟩ (fun σ h => ⟨i + 1, hi, by omega, h⟩)
    | false =>
      rw [he] at hf
      obtain ⟨n, hn⟩ : ∃ n, n = (findV u3 k.name).1 := ⟨_, rfl⟩
      rw [← hn] at hf
      exact W.sx hm hF 4 1000 20 [.n 4 11 3 (List.length v3), .b 4 11 4 true, .j 4 13 5 (List.length v3) i, .l 4 13 7 (S k.name), .c 4 13 8 (AV.tup [I .i64 n, B false]), .x 4 12 1 (Xt.na (i + 1))] [i + 1 < cap IntKind.i64, i + 1 = i + 1, Spec0 Try.prog 13 [KL u3, S k.name] (AV.tup [I .i64 n, B false]), (List.flatMap keyC v3)[i * 2 + 0]? = some (S k.name), List.length v3 * 2 = List.length (List.flatMap keyC v3), 0 < 2, (↑i : Int) = (↑i : Int), i < List.length v3, decide ((↑i : Int) < (↑(List.length v3) : Int)) = true, List.length v3 * 2 = List.length (List.flatMap keyC v3), 0 < 2] .normal [(7, .ptr 1 0), (11, .ptr 3 0), (13, I .i64 ((i + 1 : Nat) : Int))] [.row 1 [KL a, KL b, KL c, KL d], .row 1 [KL u1, KL u2, KL u3, KL u4], .row 1 [KL u1, KL u2, KL u3, KL u4], .row 1 [KL v1, KL v2, KL v3, KL v4]] (by kernel_rfl) ⟨(by simp [cap] <;> omega), (by rfl), hf, (by exact fm_cell (c := (keyC)) (fun _ => rfl) _ (by assumption) (by decide) rfl), (by exact Eq.symm (fm_len (c := (keyC)) (fun _ => rfl) _)), (by omega), (by first | (simp [bself]) | omega | decide | simp), (by assumption), (by simp <;> omega), (by exact Eq.symm (fm_len (c := (keyC)) (fun _ => rfl) _)), (by omega), trivial⟩ (fun σ h => ⟨i + 1, hi, by omega, h⟩)
  have hbb0 : decide (((i : Nat) : Int) < (v3.length : Nat)) = false := decide_eq_false (by omega)
  refine W.sx hm hF 4 1000 20 [.n 4 11 3 v3.length, .b 4 11 4 false] [decide (((i : Nat) : Int) < (v3.length : Nat)) = false, v3.length * 2 = (v3.flatMap keyC).length, 0 < 2] (.exit 0) [(7, .ptr 1 0), (11, .ptr 3 0)] [.row 1 [KL a, KL b, KL c, KL d], .row 1 [KL u1, KL u2, KL u3, KL u4], .row 1 [KL u1, KL u2, KL u3, KL u4], .row 1 [KL v1, KL v2, KL v3, KL v4]] (by kernel_rfl) ⟨hbb0, Eq.symm (fm_len (c := keyC) (fun _ => rfl) _), by decide, trivial⟩ (fun σ h => W.weaken h ?_)
  refine W.seq ?_
  refine W.seq ?_
  refine W.sx hm hF 4 1000 20 [] [] .normal [(7, .ptr 1 0), (11, .ptr 3 0), (16, I .i64 0)] [.row 1 [KL a, KL b, KL c, KL d], .row 1 [KL u1, KL u2, KL u3, KL u4], .row 1 [KL u1, KL u2, KL u3, KL u4], .row 1 [KL v1, KL v2, KL v3, KL v4]] (by kernel_rfl) trivial (fun σ h => W.weaken h ?_)
  refine W.block ?_
  refine W.loop (fun i : Nat => ⟨tbl [(7, .ptr 1 0), (11, .ptr 3 0), (16, I .i64 (i : Nat))], [.row 1 [KL a, KL b, KL c, KL d], .row 1 [KL u1, KL u2, KL u3, KL u4], .row 1 [KL u1, KL u2, KL u3, KL u4], .row 1 [KL v1, KL v2, KL v3, KL v4]]⟩) (fun i => i ≤ v2.length) (fun i => v2.length - i) 0 (Nat.zero_le _) (Le.refl _) ?_
  intro i hi0
  by_cases hi : i < v2.length
  · obtain ⟨k, hx⟩ : ∃ x, v2[i]? = some x := ⟨_, List.getElem?_eq_getElem hi⟩
    have hll : v2.length ≤ 4611686018427387 := by omega
    have hf := w_findV u2 k.name (by omega)
    have hk := k1 i k hx
    cases he : (findV u2 k.name).2 with
    | true =>
      rw [he, hk he] at hf
      exact W.sx hm hF 4 1000 20 [.n 4 17 3 (List.length v2), .b 4 17 4 true, .j 4 19 5 (List.length v2) i, .l 4 19 7 (S k.name), .c 4 19 8 (AV.tup [I .i64 k.num, B true]), .j 4 20 6 (List.length v2) i, .l 4 20 8 (I .i64 k.num), .b 4 20 9 false, .x 4 18 1 (Xt.na (i + 1))] [i + 1 < cap IntKind.i64, i + 1 = i + 1, (k.num != k.num) = false, (List.flatMap keyC v2)[i * 2 + 1]? = some (I .i64 k.num), List.length v2 * 2 = List.length (List.flatMap keyC v2), 0 < 2, (↑i : Int) = (↑i : Int), i < List.length v2, Spec0 Try.prog 13 [KL u2, S k.name] (AV.tup [I .i64 k.num, B true]), (List.flatMap keyC v2)[i * 2 + 0]? = some (S k.name), List.length v2 * 2 = List.length (List.flatMap keyC v2), 0 < 2, (↑i : Int) = (↑i : Int), i < List.length v2, decide ((↑i : Int) < (↑(List.length v2) : Int)) = true, List.length v2 * 2 = List.length (List.flatMap keyC v2), 0 < 2] .normal [(7, .ptr 1 0), (11, .ptr 3 0), (16, I .i64 ((i + 1 : Nat) : Int))] [.row 1 [KL a, KL b, KL c, KL d], .row 1 [KL u1, KL u2, KL u3, KL u4], .row 1 [KL u1, KL u2, KL u3, KL u4], .row 1 [KL v1, KL v2, KL v3, KL v4]] (by kernel_rfl) ⟨(by simp [cap] <;> omega), (by rfl), (by simp <;> omega), (by exact fm_cell (c := (keyC)) (fun _ => rfl) _ (by assumption) (by decide) rfl), (by exact Eq.symm (fm_len (c := (keyC)) (fun _ => rfl) _)), (by omega), (by first | (simp [bself]) | omega | decide | simp), (by assumption), hf, (by exact fm_cell (c := (keyC)) (fun _ => rfl) _ (by assumption) (by decide) rfl), (by exact Eq.symm (fm_len (c := (keyC)) (fun _ => rfl) _)), (by omega), (by first | (simp [bself]) | omega | decide | simp), (by assumption), (by simp <;> omega), (by exact Eq.symm (fm_len (c := (keyC)) (fun _ => rfl) _)), (by omega), trivial⟩ (fun σ h => ⟨i + 1, hi, by omega, h⟩)
    | false =>
      rw [he] at hf
      obtain ⟨n, hn⟩ : ∃ n, n = (findV u2 k.name).1 := ⟨_, rfl⟩
      rw [← hn] at hf
      exact W.sx hm hF 4 1000 20 [.n 4 17 3 (List.length v2), .b 4 17 4 true, .j 4 19 5 (List.length v2) i, .l 4 19 7 (S k.name), .c 4 19 8 (AV.tup [I .i64 n, B false]), .x 4 18 1 (Xt.na (i + 1))] [i + 1 < cap IntKind.i64, i + 1 = i + 1, Spec0 Try.prog 13 [KL u2, S k.name] (AV.tup [I .i64 n, B false]), (List.flatMap keyC v2)[i * 2 + 0]? = some (S k.name), List.length v2 * 2 = List.length (List.flatMap keyC v2), 0 < 2, (↑i : Int) = (↑i : Int), i < List.length v2, decide ((↑i : Int) < (↑(List.length v2) : Int)) = true, List.length v2 * 2 = List.length (List.flatMap keyC v2), 0 < 2] .normal [(7, .ptr 1 0), (11, .ptr 3 0), (16, I .i64 ((i + 1 : Nat) : Int))] [.row 1 [KL a, KL b, KL c, KL d], .row 1 [KL u1, KL u2, KL u3, KL u4], .row 1 [KL u1, KL u2, KL u3, KL u4], .row 1 [KL v1, KL v2, KL v3, KL v4]] (by kernel_rfl) ⟨(by simp [cap] <;> omega), (by rfl), hf, (by exact fm_cell (c := (keyC)) (fun _ => rfl) _ (by assumption) (by decide) rfl), (by exact Eq.symm (fm_len (c := (keyC)) (fun _ => rfl) _)), (by omega), (by first | (simp [bself]) | omega | decide | simp), (by assumption), (by simp <;> omega), (by exact Eq.symm (fm_len (c := (keyC)) (fun _ => rfl) _)), (by omega), trivial⟩ (fun σ h => ⟨i + 1, hi, by omega, h⟩)
  have hbb1 : decide (((i : Nat) : Int) < (v2.length : Nat)) = false := decide_eq_false (by omega)
  refine W.sx hm hF 4 1000 20 [.n 4 17 3 v2.length, .b 4 17 4 false] [decide (((i : Nat) : Int) < (v2.length : Nat)) = false, v2.length * 2 = (v2.flatMap keyC).length, 0 < 2] (.exit 2) [(7, .ptr 1 0), (11, .ptr 3 0)] [.row 1 [KL a, KL b, KL c, KL d], .row 1 [KL u1, KL u2, KL u3, KL u4], .row 1 [KL u1, KL u2, KL u3, KL u4], .row 1 [KL v1, KL v2, KL v3, KL v4]] (by kernel_rfl) ⟨hbb1, Eq.symm (fm_len (c := keyC) (fun _ => rfl) _), by decide, trivial⟩ (fun σ h => W.weaken h ?_)
  exact W.sxR hm hF 4 1000 20 [.c 4 22 1 (I .i64 (Int.ofNat 0))] [Spec0 Try.prog 8 [AV.agg [KL v1, KL v2, KL v3, KL v4]] (I .i64 (Int.ofNat 0))] [.tmp 6] .ret (B true) (by kernel_rfl) ⟨hck2, trivial⟩ (fun σ xs h1 h2 => retK.mk (.inl rfl) h1 h2)
theorem updR_parts {a b c d u1 u2 u3 u4 : List Key} {rows : List Rw} (h : updR a b c d rows = some (u1, u2, u3, u4)) : checkV a b c d = true ∧ pairV a b 1 3 rows 16777215 = some (u1, u2) ∧ pairV c d 2 4 rows 65535 = some (u3, u4) := by
  unfold updR at h
  split at h
  · rename_i hc
    split at h
    · rename_i x1 x2 x3 x4 h1 h2
      simp only [Option.some.injEq, Prod.mk.injEq] at h
      obtain ⟨rfl, rfl, rfl, rfl⟩ := h
      exact ⟨hc, h1, h2⟩
    · simp at h
  · simp at h
theorem pair_len {a b : List Key} {ka kb : Int} {rows : List Rw} {most : Int} {u1 u2 : List Key} (h : pairV a b ka kb rows most = some (u1, u2)) : u1.length ≤ rows.length ∧ u2.length ≤ rows.length := by
  unfold pairV at h
  simp only at h
  split at h
  · simp only [Option.some.injEq, Prod.mk.injEq] at h
    obtain ⟨rfl, rfl⟩ := h
    constructor
    · rw [giveL_len, (sortK_perm _).length_eq]
      have := stay_len a ka rows ([], [])
      simpa [stayF] using this
    · rw [giveL_len, (sortK_perm _).length_eq]
      have := stay_len b kb rows ((stayF a ka [] rows).1, [])
      simpa [stayF] using this
  · simp at h
theorem upd_right {a b c d u1 u2 u3 u4 : List Key} {rows : List Rw} (h : updR a b c d rows = some (u1, u2, u3, u4)) : updR u1 u2 u3 u4 rows = some (u1, u2, u3, u4) ∧ checkV u1 u2 u3 u4 = true := by
  obtain ⟨hc, h1, h2⟩ := updR_parts h
  unfold checkV at hc
  simp only [Bool.and_eq_true] at hc
  obtain ⟨na, nb⟩ := rightV_num hc.1
  obtain ⟨nc, nd⟩ := rightV_num hc.2
  obtain ⟨p1, p2⟩ := pair_again (by decide) h1 (rightV_nodup hc.1) na nb
  obtain ⟨q1, q2⟩ := pair_again (by decide) h2 (rightV_nodup hc.2) nc nd
  have hk : checkV u1 u2 u3 u4 = true := by unfold checkV; rw [p2, q2]; rfl
  refine ⟨?_, hk⟩
  unfold updR
  rw [if_pos hk, p1, q1]
theorem w_KeysStay (a b c d : List Key) (r1 r2 : List Rw) (ha : a.length ≤ 4611686018427387) (hb : b.length ≤ 4611686018427387) (hc : c.length ≤ 4611686018427387) (hd : d.length ≤ 4611686018427387) (hl1 : r1.length ≤ 1034834473170) (hl2 : r2.length ≤ 1034834473170) : Spec0 Try.prog 4 [.agg [KL a, KL b, KL c, KL d], RL r1, RL r2] (B true) := by
  have h1 := w_Update a b c d r1 ha hb hc hd hl1
  unfold UpdOk at h1
  cases e1 : updR a b c d r1 with
  | none =>
    rw [e1] at h1
    exact ks_bad a b c d r1 r2 w_lives h1
  | some u =>
    obtain ⟨u1, u2, u3, u4⟩ := u
    rw [e1] at h1
    obtain ⟨e2, ck⟩ := upd_right e1
    obtain ⟨_, p1, p2⟩ := updR_parts e1
    obtain ⟨m1, m2⟩ := pair_len p1
    obtain ⟨m3, m4⟩ := pair_len p2
    have h2 := w_Update u1 u2 u3 u4 r1 (by omega) (by omega) (by omega) (by omega) hl1
    unfold UpdOk at h2
    rw [e2] at h2
    have hck := w_Check u1 u2 u3 u4 (by omega) (by omega) (by omega) (by omega)
    rw [ck] at hck
    have hsm := w_Same u1 u2 u3 u4 (by omega) (by omega) (by omega) (by omega)
    have h3 := w_Update u1 u2 u3 u4 r2 (by omega) (by omega) (by omega) (by omega) hl2
    unfold UpdOk at h3
    cases e3 : updR u1 u2 u3 u4 r2 with
    | none =>
      rw [e3] at h3
      exact ks_full a b c d r1 r2 w_lives u1 u2 u3 u4 h1 h2 hck hsm h3
    | some v =>
      obtain ⟨v1, v2, v3, v4⟩ := v
      rw [e3] at h3
      obtain ⟨e4, ck2⟩ := upd_right e3
      obtain ⟨hc', q1, q2⟩ := updR_parts e3
      obtain ⟨n1, n2⟩ := pair_len q1
      obtain ⟨n3, n4⟩ := pair_len q2
      have hck2 := w_Check v1 v2 v3 v4 (by omega) (by omega) (by omega) (by omega)
      rw [ck2] at hck2
      have hc2 := hc'
      unfold checkV at hc2
      simp only [Bool.and_eq_true] at hc2
      obtain ⟨na, nb⟩ := rightV_num hc2.1
      obtain ⟨nc, nd⟩ := rightV_num hc2.2
      obtain ⟨_, _, _, _, hs2, nx2, f2⟩ := pair_facts q1 (rightV_nodup hc2.1) na nb
      obtain ⟨_, _, _, ⟨hs3, nx3, f3⟩, _⟩ := pair_facts q2 (rightV_nodup hc2.2) nc nd
      exact w_stays a b c d r1 r2 w_lives u1 u2 u3 u4 h1 h2 hck hsm v1 v2 v3 v4 h3 hck2 (by omega) (by omega) (by omega) (by omega) (fun i k hk hf => keep_num (fun k hk => (nc k hk).1) f3 hk hf) (fun i k hk hf => keep_num (fun k hk => (nb k hk).1) f2 hk hf)

end Go.Proofs.Ytlfedjannhceaaa
