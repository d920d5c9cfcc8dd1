/-
  What is found in a list.
-/
import Derived.Test.YtlfedjannhceaaaKCU2
set_option linter.unusedVariables false
set_option linter.unusedSimpArgs false
set_option maxRecDepth 100000
set_option maxHeartbeats 1000000
namespace Go.Proofs.Ytlfedjannhceaaa
open Go Go.SL Go.Proofs

theorem w_index26 (l : List Key) (x : ByteArray) (hl0 : l.length ≤ 4611686018427387) : Spec0 Try.prog 25 [KL l, .fn 26 [] [.ip [S x] 0]] (I .i64 (ixV (fun a : Key => a.name == x) l)) := by
  refine Spec0.walk Try.func25 rfl rfl ?_
  refine W.sxP hm hF 25 1 1000 20 [] [] [(0, KL l), (1, .fn 26 [] [.ip [S x] 0])] [] (by kernel_rfl) trivial ?_
  refine W.seq ?_
  refine W.seq ?_
  refine W.sx hm hF 25 1000 20 [.n 25 1 1 l.length] [l.length * 2 = (l.flatMap keyC).length, 0 < 2] .normal [(0, KL l), (1, .fn 26 [] [.ip [S x] 0]), (7, I .i64 (l.length : Nat)), (8, I .i64 0)] [] (by kernel_rfl) ⟨Eq.symm (fm_len (c := keyC) (fun _ => rfl) _), by decide, trivial⟩ (fun σ h => W.weaken h ?_)
  refine W.block ?_
  refine W.loopD 0 (fun i : Nat => ⟨tbl [(0, KL l), (1, .fn 26 [] [.ip [S x] 0]), (7, I .i64 (l.length : Nat)), (8, I .i64 (i : Nat))], []⟩) (fun i => i ≤ l.length ∧ fi (fun a : Key => a.name == x) l 0 = fi (fun a : Key => a.name == x) (l.drop i) i) (fun i => l.length - i) 0 ⟨Nat.zero_le _, by simp⟩ rfl (Le.refl _) ?_
  rintro i ⟨hi, ha⟩
  by_cases hlt : i < l.length
  · obtain ⟨t, hget⟩ : ∃ t, l[i]? = some t := ⟨_, List.getElem?_eq_getElem hlt⟩
    have hc : Spec0 Try.prog 26 [.agg (keyC t), .ip [S x] 0] (B ((fun a : Key => a.name == x) t)) := by show Spec0 _ _ _ (B (t.name == x)); rw [beq_toListBytes]; exact w_c26 t x
    cases hp : (fun a : Key => a.name == x) t
    · rw [hp] at hc
      exact W.sx hm hF 25 1000 20 [.b 25 2 0 true, .j 25 4 3 (List.length l) i, .l 25 4 4 (AV.agg (keyC t)), .c 25 4 5 (AV.sc (Value.bool false)), .x 25 6 0 (Xt.na (i + 1))] [i + 1 < cap IntKind.i64, i + 1 = i + 1, Spec0 Try.prog 26 [AV.agg (keyC t), AV.ip [S x] 0] (AV.sc (Value.bool false)), List.take 2 (List.drop (i * 2) (List.flatMap keyC l)) = keyC t, i * 2 + 2 ≤ List.length (List.flatMap keyC l), List.length l * 2 = List.length (List.flatMap keyC l), 0 < 2, (↑i : Int) = (↑i : Int), i < List.length l, decide ((↑i : Int) < (↑(List.length l) : Int)) = true] .normal [(0, KL l), (1, .fn 26 [] [.ip [S x] 0]), (7, I .i64 (l.length : Nat)), (8, I .i64 (i + 1 : Nat))] [] (by kernel_rfl) ⟨(by simp [cap] <;> omega), (by rfl), hc, (by exact fm_at (c := (keyC)) (fun _ => rfl) _ (by assumption)), (by exact fm_bound (c := (keyC)) (fun _ => rfl) _ (by omega)), (by exact Eq.symm (fm_len (c := (keyC)) (fun _ => rfl) _)), (by omega), (by rfl), (by assumption), (by simp <;> omega), trivial⟩ (fun σ h => ⟨i + 1, ⟨hlt, fi_no ha hget hp⟩, by omega, LeD.mk rfl rfl h⟩)
    · rw [hp] at hc
      rw [show ixV (fun a : Key => a.name == x) l = (i : Int) by unfold ixV; rw [fi_hit ha hget hp]]
      exact W.sxR hm hF 25 1000 20 [.b 25 2 0 true, .j 25 4 3 (List.length l) i, .l 25 4 4 (AV.agg (keyC t)), .c 25 4 5 (AV.sc (Value.bool true))] [Spec0 Try.prog 26 [AV.agg (keyC t), AV.ip [S x] 0] (AV.sc (Value.bool true)), List.take 2 (List.drop (i * 2) (List.flatMap keyC l)) = keyC t, i * 2 + 2 ≤ List.length (List.flatMap keyC l), List.length l * 2 = List.length (List.flatMap keyC l), 0 < 2, (↑i : Int) = (↑i : Int), i < List.length l, decide ((↑i : Int) < (↑(List.length l) : Int)) = true] [.tmp 4] .ret (I .i64 (i : Nat)) (by kernel_rfl) ⟨hc, (by exact fm_at (c := (keyC)) (fun _ => rfl) _ (by assumption)), (by exact fm_bound (c := (keyC)) (fun _ => rfl) _ (by omega)), (by exact Eq.symm (fm_len (c := (keyC)) (fun _ => rfl) _)), (by omega), (by rfl), (by assumption), (by simp <;> omega), trivial⟩ (fun σ xs h1 h2 => retK.mk (.inl rfl) h1 h2)
  · have hb : decide (((i : Nat) : Int) < (l.length : Nat)) = false := decide_eq_false (by omega)
    rw [show ixV (fun a : Key => a.name == x) l = -1 by unfold ixV; rw [fi_end ha (by omega)]]
    refine W.sx hm hF 25 1000 20 [.b 25 2 0 false] [decide (((i : Nat) : Int) < (l.length : Nat)) = false] (.exit 0) [] [] (by kernel_rfl) ⟨hb, trivial⟩ (fun σ h => W.weaken h ?_)
    exact W.sxR hm hF 25 1000 20 [] [] [.tmp 4] .ret (I .i64 (-1)) (by kernel_rfl) trivial (fun σ xs h1 h2 => retK.mk (.inl rfl) h1 h2)

theorem w_rfindV (l : List Key) (x : ByteArray) (hl0 : l.length ≤ 4611686018427387) : Spec0 Try.prog 14 [KL l, S x] (.tup [I .i64 (findV l x).1, B (findV l x).2]) := by
  refine Spec0.walk Try.func14 rfl rfl ?_
  refine W.sxP hm hF 14 1 1000 20 [] [] [(0, KL l), (1, S x)] [] (by kernel_rfl) trivial ?_
  refine W.seq ?_
  refine W.seq ?_
  refine W.sx hm hF 14 1000 20 [] [] .normal [(0, KL l), (1, S x), (6, I .i64 0)] [] (by kernel_rfl) trivial (fun σ h => W.weaken h ?_)
  refine W.block ?_
  refine W.loopD 0 (fun i : Nat => ⟨tbl [(0, KL l), (1, S x), (6, I .i64 (i : Nat))], []⟩) (fun i => i ≤ l.length ∧ fi (fun a : Key => a.name == x) l 0 = fi (fun a : Key => a.name == x) (l.drop i) i) (fun i => l.length - i) 0 ⟨Nat.zero_le _, by simp⟩ rfl (Le.refl _) ?_
  rintro i ⟨hi, ha⟩
  by_cases hlt : i < l.length
  · obtain ⟨t, hget⟩ : ∃ t, l[i]? = some t := ⟨_, List.getElem?_eq_getElem hlt⟩
    skip
    cases hp : (fun a : Key => a.name == x) t
    · skip
      exact W.sx hm hF 14 1000 20 [.n 14 2 2 (List.length l), .b 14 2 3 true, .j 14 4 2 (List.length l) i, .l 14 4 4 (AV.sc (Value.string t.name)), .b 14 4 6 false, .x 14 3 1 (Xt.na (i + 1))] [i + 1 < cap IntKind.i64, i + 1 = i + 1, (ByteArray.toList t.name == ByteArray.toList x) = false, (List.flatMap keyC l)[i * 2 + 0]? = some (AV.sc (Value.string t.name)), List.length l * 2 = List.length (List.flatMap keyC l), 0 < 2, (↑i : Int) = (↑i : Int), i < List.length l, decide ((↑i : Int) < (↑(List.length l) : Int)) = true, List.length l * 2 = List.length (List.flatMap keyC l), 0 < 2] .normal [(0, KL l), (1, S x), (6, I .i64 (i + 1 : Nat))] [] (by kernel_rfl) ⟨(by simp [cap] <;> omega), (by rfl), (by rw [← beq_toListBytes]; assumption), (by exact fm_cell (c := (keyC)) (fun _ => rfl) _ (by assumption) (by decide) rfl), (by exact Eq.symm (fm_len (c := (keyC)) (fun _ => rfl) _)), (by omega), (by rfl), (by assumption), (by simp <;> omega), (by exact Eq.symm (fm_len (c := (keyC)) (fun _ => rfl) _)), (by omega), trivial⟩ (fun σ h => ⟨i + 1, ⟨hlt, fi_no ha hget hp⟩, by omega, LeD.mk rfl rfl h⟩)
    · skip
      rw [show findV l x = (t.num, true) by unfold findV; rw [fi_hit ha hget hp]; simp [hget]]
      exact W.sxR hm hF 14 1000 20 [.n 14 2 2 (List.length l), .b 14 2 3 true, .j 14 4 2 (List.length l) i, .l 14 4 4 (AV.sc (Value.string t.name)), .b 14 4 6 true, .j 14 5 2 (List.length l) i, .l 14 5 4 (AV.sc (Value.int IntKind.i64 t.num))] [(List.flatMap keyC l)[i * 2 + 1]? = some (AV.sc (Value.int IntKind.i64 t.num)), List.length l * 2 = List.length (List.flatMap keyC l), 0 < 2, (↑i : Int) = (↑i : Int), i < List.length l, (ByteArray.toList t.name == ByteArray.toList x) = true, (List.flatMap keyC l)[i * 2 + 0]? = some (AV.sc (Value.string t.name)), List.length l * 2 = List.length (List.flatMap keyC l), 0 < 2, (↑i : Int) = (↑i : Int), i < List.length l, decide ((↑i : Int) < (↑(List.length l) : Int)) = true, List.length l * 2 = List.length (List.flatMap keyC l), 0 < 2] [.tmp 4, .tmp 5] .ret (.tup [I .i64 t.num, B true]) (by kernel_rfl) ⟨(by exact fm_cell (c := (keyC)) (fun _ => rfl) _ (by assumption) (by decide) rfl), (by exact Eq.symm (fm_len (c := (keyC)) (fun _ => rfl) _)), (by omega), (by rfl), (by assumption), (by rw [← beq_toListBytes]; assumption), (by exact fm_cell (c := (keyC)) (fun _ => rfl) _ (by assumption) (by decide) rfl), (by exact Eq.symm (fm_len (c := (keyC)) (fun _ => rfl) _)), (by omega), (by rfl), (by assumption), (by simp <;> omega), (by exact Eq.symm (fm_len (c := (keyC)) (fun _ => rfl) _)), (by omega), trivial⟩ (fun σ xs h1 h2 => retK.mk (.inl rfl) h1 h2)
  · have hb : decide (((i : Nat) : Int) < (l.length : Nat)) = false := decide_eq_false (by omega)
    rw [show findV l x = (0, false) by unfold findV; rw [fi_end ha (by omega)]]
    refine W.sx hm hF 14 1000 20 [.n 14 2 2 l.length, .b 14 2 3 false] [decide (((i : Nat) : Int) < (l.length : Nat)) = false, l.length * 2 = (l.flatMap keyC).length, 0 < 2] (.exit 0) [] [] (by kernel_rfl) ⟨hb, Eq.symm (fm_len (c := keyC) (fun _ => rfl) _), by decide, trivial⟩ (fun σ h => W.weaken h ?_)
    exact W.sxR hm hF 14 1000 20 [] [] [.tmp 4, .tmp 5] .ret (.tup [I .i64 0, B false]) (by kernel_rfl) trivial (fun σ xs h1 h2 => retK.mk (.inl rfl) h1 h2)

end Go.Proofs.Ytlfedjannhceaaa
