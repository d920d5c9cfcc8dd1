/-
  The reference: number.
-/
import Derived.Test.YtlfedjannhceaaaRAU2
set_option linter.unusedVariables false
set_option linter.unusedSimpArgs false
set_option maxRecDepth 100000
set_option maxHeartbeats 1000000
namespace Go.Proofs.Ytlfedjannhceaaa
open Go Go.SL Go.Proofs
def numStep (old : List Key) (s : List Int × List Key) (x : ByteArray) : List Int × List Key :=
  if (findV old x).2 = true then (s.1, s.2 ++ [⟨x, (findV old x).1⟩]) else (s.1 ++ [nfree s.1 1], s.2 ++ [⟨x, nfree s.1 1⟩])
def numF (old : List Key) (names : List ByteArray) (used : List Int) : List Int × List Key := names.foldl (numStep old) (used, [])
theorem numF_next {old : List Key} {names : List ByteArray} {used : List Int} {i : Nat} {x : ByteArray} (h : names[i]? = some x) : numF old (names.take (i + 1)) used = numStep old (numF old (names.take i) used) x := by
  unfold numF
  rw [List.take_add_one, h, List.foldl_append]; rfl
theorem w_number (old : List Key) (names : List ByteArray) (used0 : List Int) (C : Int) (hC0 : 0 ≤ C) (hC : C ≤ 1099511627776) (hb0 : ∀ a ∈ used0, a ≤ C) (hold : old.length ≤ 4611686018427387) (hl0 : names.length ≤ 1034834473170) (hu0 : used0.length ≤ 3298534883328) :
    Spec0 Try.prog 35 [KL old, NL names, IL used0] (.tup [KL (numF old names used0).2, IL (numF old names used0).1]) := by
  refine Spec0.walk Try.func35 rfl rfl ?_
  refine W.sxP hm hF 35 2 1000 20 [] [] [(0, KL old), (1, NL names), (2, IL used0), (8, .nil)] [] (by kernel_rfl) trivial ?_
  refine W.seq ?_
  refine W.seq ?_
  refine W.sx hm hF 35 1000 20 [] [] .normal [(0, KL old), (1, NL names), (2, IL used0), (8, .nil), (9, I .i64 0)] [] (by kernel_rfl) trivial (fun σ h => W.weaken h ?_)
  refine W.block ?_
  refine W.loopQ 0 (fun i : Nat => ⟨tbl [(0, KL old), (1, NL names), (2, IL (numF old (names.take i) used0).1), (8, .sl 0 0 (numF old (names.take i) used0).2.length), (9, I .i64 ((i : Nat) : Int))], [.row 2 ((numF old (names.take i) used0).2.flatMap keyC)]⟩) (fun i => i ≤ names.length ∧ (numF old (names.take i) used0).2.length ≤ i ∧ (∀ a ∈ (numF old (names.take i) used0).1, a ≤ C + (i : Nat)) ∧ (numF old (names.take i) used0).1.length ≤ used0.length + i) (fun i => names.length - i) 0 ⟨Nat.zero_le _, Nat.le_refl _, by simpa [numF] using hb0, Nat.le_refl _⟩ rfl (fun x _ => Nat.zero_le _) (Entry.nil (l := [(0, KL old), (1, NL names), (2, IL used0), (8, .nil), (9, I .i64 0)]) (hp := []) 2) ?_
  rintro i ⟨hi, hol, hbn, hul0⟩
  by_cases hlt : i < names.length
  · obtain ⟨x, hget⟩ : ∃ x, names[i]? = some x := ⟨_, List.getElem?_eq_getElem hlt⟩
    have hX := numF_next (old := old) (used := used0) hget
    generalize numF old (names.take i) used0 = s at hX hol hbn hul0
    obtain ⟨used, out⟩ := s
    simp only at hol hbn hul0
    simp only
    have hf := w_rfindV old x hold
    unfold numStep at hX
    simp only at hX
    obtain ⟨v, hv⟩ : ∃ v, v = (findV old x).1 := ⟨_, rfl⟩
    rw [← hv] at hf hX
    cases hb : (findV old x).2 with
    | true =>
      rw [hb] at hf
      rw [hb, if_pos rfl] at hX
      obtain ⟨out', ho'⟩ : ∃ o, o = out ++ [(⟨x, v⟩ : Key)] := ⟨_, rfl⟩
      rw [← ho'] at hX
      have hoe : out'.length = out.length + 1 := by rw [ho']; simp
      refine W.sx hm hF 35 1000 20 [.n 35 3 2 (List.length names), .b 35 3 3 true, .j 35 5 3 (List.length names) i, .l 35 5 4 (S x), .c 35 5 5 (AV.tup [I .i64 v, B true]), .j 35 11 3 (List.length names) i, .l 35 11 4 (S x), .x 35 11 8 (Xt.ap 1 (List.length out + 1) (keyC (Key.mk x v)) (List.flatMap keyC out')), .x 35 4 1 (Xt.na (i + 1))] [i + 1 < cap IntKind.i64, i + 1 = i + 1, 1 = 1, 2 ≤ List.length [S x, I .i64 v], List.all (List.take 2 (List.drop 0 [S x, I .i64 v])) cellAV = true, List.take 2 (List.drop 0 [S x, I .i64 v]) = keyC (Key.mk x v), 0 + List.length out * 2 = List.length (List.flatMap keyC out), (List.length out + 1) * 24 ≤ 140737488355328 ∨ 24 = 1 ∧ List.length out + 1 ≤ 200000000000000, List.length out + 1 = List.length out + 1, List.drop 0 (List.flatMap keyC out) ++ keyC (Key.mk x v) = List.flatMap keyC out', (List.flatMap nmC names)[i * 1]? = some (S x), List.length names * 1 = List.length (List.flatMap nmC names), 0 < 1, (↑i : Int) = (↑i : Int), i < List.length names, Spec0 Try.prog 14 [KL old, S x] (AV.tup [I .i64 v, B true]), (List.flatMap nmC names)[i * 1]? = some (S x), List.length names * 1 = List.length (List.flatMap nmC names), 0 < 1, (↑i : Int) = (↑i : Int), i < List.length names, decide ((↑i : Int) < (↑(List.length names) : Int)) = true, List.length names * 1 = List.length (List.flatMap nmC names), 0 < 1] .normal [(0, KL old), (1, NL names), (2, IL used), (8, .sl 2 0 (out.length + 1)), (9, I .i64 ((i + 1 : Nat) : Int))] [AObj.dead, AObj.row 2 [S x, I .i64 v], AObj.row 2 (List.flatMap keyC out')] (by kernel_rfl) ⟨(by simp [cap] <;> omega), (by rfl), (by omega), (by simp <;> omega), (by rfl), (by rfl), (by rw [fm_len (c := keyC) (e := 2) (fun _ => rfl)]; omega), (by omega), (by omega), (by subst ho'; exact fm_snoc0 (c := keyC) out _), (by have := fm_cell (c := (nmC)) (k := 0) (fun _ => rfl) _ (by assumption) (by decide) rfl; rw [Nat.add_zero] at this; exact this), (by exact Eq.symm (fm_len (c := (nmC)) (fun _ => rfl) _)), (by omega), (by rfl), (by assumption), hf, (by have := fm_cell (c := (nmC)) (k := 0) (fun _ => rfl) _ (by assumption) (by decide) rfl; rw [Nat.add_zero] at this; exact this), (by exact Eq.symm (fm_len (c := (nmC)) (fun _ => rfl) _)), (by omega), (by rfl), (by assumption), (by simp <;> omega), (by exact Eq.symm (fm_len (c := (nmC)) (fun _ => rfl) _)), (by omega), trivial⟩ (fun σ h => ⟨i + 1, ?_, by omega, ?_⟩)
      · rw [hX]
        exact ⟨hlt, by simp only; omega, fun a ha => by have := hbn a ha; omega, by simp only; omega⟩
      · rw [hX]
        refine Entry.lnN (Nat.zero_le _) (LeN.mk' (is := [2]) ?_ ?_ (by simp) (by decide) rfl h)
        · simp only [List.map_cons, List.map_nil, hoe]; rfl
        · simp only [List.map_cons, List.map_nil, keys_ren]; rfl
    | false =>
      rw [hb] at hf
      rw [hb, if_neg (by decide)] at hX
      refine W.sxP hm hF 35 1 1000 20 [.n 35 3 2 (List.length names), .b 35 3 3 true] [decide ((↑i : Int) < (↑(List.length names) : Int)) = true, List.length names * 1 = List.length (List.flatMap nmC names), 0 < 1] [(0, KL old), (1, NL names), (2, IL used), (8, .sl 0 0 out.length), (9, I .i64 ((i : Nat) : Int))] [.row 2 (out.flatMap keyC)] (by kernel_rfl) ⟨(by simp <;> omega), (by exact Eq.symm (fm_len (c := (nmC)) (fun _ => rfl) _)), (by omega), trivial⟩ ?_
      refine W.seq ?_
      refine W.block ?_
      refine W.sxP hm hF 35 1 1000 20 [.j 35 5 3 (List.length names) i, .l 35 5 4 (S x), .c 35 5 5 (AV.tup [I .i64 v, B false])] [Spec0 Try.prog 14 [KL old, S x] (AV.tup [I .i64 v, B false]), (List.flatMap nmC names)[i * 1]? = some (S x), List.length names * 1 = List.length (List.flatMap nmC names), 0 < 1, (↑i : Int) = (↑i : Int), i < List.length names] [(0, KL old), (1, NL names), (2, IL used), (8, .sl 0 0 out.length), (9, I .i64 ((i : Nat) : Int)), (11, B false)] [.row 2 (out.flatMap keyC)] (by kernel_rfl) ⟨hf, (by have := fm_cell (c := (nmC)) (k := 0) (fun _ => rfl) _ (by assumption) (by decide) rfl; rw [Nat.add_zero] at this; exact this), (by exact Eq.symm (fm_len (c := (nmC)) (fun _ => rfl) _)), (by omega), (by rfl), (by assumption), trivial⟩ ?_
      refine W.seq ?_
      refine W.seq ?_
      refine W.sx hm hF 35 1000 20 [] [] .normal [(0, KL old), (1, NL names), (2, IL used), (8, .sl 0 0 out.length), (9, I .i64 ((i : Nat) : Int)), (28, B true)] [.row 2 (out.flatMap keyC)] (by kernel_rfl) trivial (fun σ h => W.weaken h ?_)
      refine W.condT rfl ?_
      refine W.seq ?_
      refine W.sx hm hF 35 1000 20 [] [] .normal [(0, KL old), (1, NL names), (2, IL used), (8, .sl 0 0 out.length), (9, I .i64 ((i : Nat) : Int)), (10, I .i64 1)] [.row 2 (out.flatMap keyC)] (by kernel_rfl) trivial (fun σ h => W.weaken h ?_)
      refine W.seq ?_
      refine W.block ?_
      refine W.loop (fun n : Int => ⟨tbl [(0, KL old), (1, NL names), (2, IL used), (8, .sl 0 0 out.length), (9, I .i64 ((i : Nat) : Int)), (10, I .i64 n)], [.row 2 (out.flatMap keyC)]⟩) (fun n => nfree used n = nfree used 1 ∧ 1 ≤ n ∧ n ≤ C + 1 + (i : Nat)) (fun n => cntN used n) 1 ⟨rfl, by decide, by omega⟩ (Le.refl _) ?_
      rintro n ⟨g1, g2, g3⟩
      have hh := w_has used n (by omega)
      have hn0 : 0 ≤ n := by omega
      have hn1 : n ≤ 4611686018427387 := by omega
      by_cases hm1 : n ∈ used
      · rw [decide_eq_true hm1] at hh
        have hbb := hbn n hm1
        have hw : IntKind.i64.wrap (n + 1) = n + 1 := IntWalk.i64_in _ (by omega)
        exact W.sx hm hF 35 1000 20 [.c 35 8 2 (B true), .z 35 9 1 (n + 1)] [IntKind.wrap IntKind.i64 (n + 1) = n + 1, Spec0 Try.prog 39 [IL used, I IntKind.i64 n] (B true)] .normal [(0, KL old), (1, NL names), (2, IL used), (8, .sl 0 0 out.length), (9, I .i64 ((i : Nat) : Int)), (10, I .i64 (n + 1))] [.row 2 (out.flatMap keyC)] (by kernel_rfl) ⟨(by assumption), hh, trivial⟩ (fun σ h => ⟨n + 1, ⟨by rw [← nfree_in hm1]; exact g1, by omega, by omega⟩, cntN_lt hm1, h⟩)
      · rw [decide_eq_false hm1] at hh
        have hm2 : nfree used 1 = n := by rw [← g1, nfree_out hm1]
        refine W.sx hm hF 35 1000 20 [.c 35 8 2 (B false)] [Spec0 Try.prog 39 [IL used, I IntKind.i64 n] (B false)] (.exit 2) [(0, KL old), (1, NL names), (2, IL used), (8, .sl 0 0 out.length), (9, I .i64 ((i : Nat) : Int)), (10, I .i64 n)] [.row 2 (out.flatMap keyC)] (by kernel_rfl) ⟨hh, trivial⟩ (fun σ h => W.weaken h ?_)
        obtain ⟨used', hu'⟩ : ∃ h, h = used ++ [n] := ⟨_, rfl⟩
        obtain ⟨out', ho'⟩ : ∃ o, o = out ++ [(⟨x, n⟩ : Key)] := ⟨_, rfl⟩
        have hul : used.length ≤ 4398046511104 := by omega
        rw [hm2, ← hu', ← ho'] at hX
        have hue : used'.length = used.length + 1 := by rw [hu']; simp
        have hoe : out'.length = out.length + 1 := by rw [ho']; simp
        refine W.sx hm hF 35 1000 20 [.x 35 10 2 (Xt.ap (List.length used) (List.length used) (List.flatMap numC used) (List.flatMap numC used)), .x 35 10 5 (Xt.ap 1 (List.length used + 1) (numC n) (List.flatMap numC used'))] [1 = 1, 1 ≤ List.length [I .i64 n], List.all (List.take 1 (List.drop 0 [I .i64 n])) cellAV = true, List.take 1 (List.drop 0 [I .i64 n]) = numC n, 0 + List.length used * 1 = List.length (List.flatMap numC used), (List.length used + 1) * 8 ≤ 140737488355328 ∨ 8 = 1 ∧ List.length used + 1 ≤ 200000000000000, List.length used + 1 = List.length used + 1, List.drop 0 (List.flatMap numC used) ++ numC n = List.flatMap numC used', List.length used * 1 = List.length (List.flatMap numC used), 0 < 1, List.all (List.flatMap numC used) cellAV = true, List.flatMap numC used = List.flatMap numC used, 0 = 0, List.length used * 8 ≤ 140737488355328 ∨ 8 = 1 ∧ List.length used ≤ 200000000000000, 0 + List.length used = List.length used, List.drop 0 [] ++ List.flatMap numC used = List.flatMap numC used] .normal [(0, KL old), (1, NL names), (2, .sl 4 0 (used.length + 1)), (8, .sl 0 0 out.length), (9, I .i64 ((i : Nat) : Int)), (10, I .i64 n)] [AObj.row 2 (List.flatMap keyC out), AObj.dead, AObj.dead, AObj.row 1 [I .i64 n], AObj.row 1 (List.flatMap numC used')] (by kernel_rfl) ⟨(by omega), (by simp <;> omega), (by rfl), (by rfl), (by rw [fm_len (c := numC) (e := 1) (fun _ => rfl)]; omega), (by omega), (by omega), (by subst hu'; exact fm_snoc0 (c := numC) used n), (by exact Eq.symm (fm_len (c := (numC)) (fun _ => rfl) _)), (by omega), (by exact fm_one (c := numC) (fun _ => rfl) _), (by with_reducible rfl), (by omega), (by omega), (by omega), (by rw [List.drop_zero, List.nil_append]), trivial⟩ (fun σ h => W.weaken h ?_)
        refine W.fzK [4] [(0, KL old), (1, NL names), (2, IL used'), (8, .sl 0 0 out.length), (9, I .i64 ((i : Nat) : Int)), (10, I .i64 n)] ⟨.keep, .keep, .fm (c := numC) (e := 1) (o := 4) (n := used.length + 1) (fun _ => rfl) (fun _ => rfl) rfl rfl hue, .keep, .keep, .keep, trivial⟩ ?_
        refine W.sx hm hF 35 1000 20 [.j 35 11 3 (List.length names) i, .l 35 11 4 (S x), .x 35 11 8 (Xt.ap 1 (List.length out + 1) (keyC (Key.mk x n)) (List.flatMap keyC out'))] [1 = 1, 2 ≤ List.length [S x, I .i64 n], List.all (List.take 2 (List.drop 0 [S x, I .i64 n])) cellAV = true, List.take 2 (List.drop 0 [S x, I .i64 n]) = keyC (Key.mk x n), 0 + List.length out * 2 = List.length (List.flatMap keyC out), (List.length out + 1) * 24 ≤ 140737488355328 ∨ 24 = 1 ∧ List.length out + 1 ≤ 200000000000000, List.length out + 1 = List.length out + 1, List.drop 0 (List.flatMap keyC out) ++ keyC (Key.mk x n) = List.flatMap keyC out', (List.flatMap nmC names)[i * 1]? = some (S x), List.length names * 1 = List.length (List.flatMap nmC names), 0 < 1, (↑i : Int) = (↑i : Int), i < List.length names] .normal [(0, KL old), (1, NL names), (2, IL used'), (8, .sl 6 0 (out.length + 1)), (9, I .i64 ((i : Nat) : Int))] [AObj.dead, AObj.dead, AObj.dead, AObj.row 1 [I .i64 n], AObj.dead, AObj.row 2 [S x, I .i64 n], AObj.row 2 (List.flatMap keyC out')] (by kernel_rfl) ⟨(by omega), (by simp <;> omega), (by rfl), (by rfl), (by rw [fm_len (c := keyC) (e := 2) (fun _ => rfl)]; omega), (by omega), (by omega), (by subst ho'; exact fm_snoc0 (c := keyC) out _), (by have := fm_cell (c := (nmC)) (k := 0) (fun _ => rfl) _ (by assumption) (by decide) rfl; rw [Nat.add_zero] at this; exact this), (by exact Eq.symm (fm_len (c := (nmC)) (fun _ => rfl) _)), (by omega), (by rfl), (by assumption), trivial⟩ (fun σ h => W.weaken h ?_)
        refine W.sx hm hF 35 1000 20 [.z 35 4 1 ((i + 1 : Nat) : Int)] [IntKind.i64.wrap (((i : Nat) : Int) + 1) = ((i + 1 : Nat) : Int)] .normal [(0, KL old), (1, NL names), (2, IL used'), (8, .sl 6 0 (out.length + 1)), (9, I .i64 ((i + 1 : Nat) : Int))] [AObj.dead, AObj.dead, AObj.dead, AObj.row 1 [I .i64 n], AObj.dead, AObj.row 2 [S x, I .i64 n], AObj.row 2 (List.flatMap keyC out')] (by kernel_rfl) ⟨i64_n i (by omega), trivial⟩ (fun σ h => ⟨i + 1, ?_, by omega, ?_⟩)
        · rw [hX]
          refine ⟨hlt, by simp only; omega, fun a ha => ?_, by simp only; omega⟩
          simp only at ha
          rw [hu'] at ha
          rcases List.mem_append.1 ha with ha | ha
          · have := hbn a ha; omega
          · simp only [List.mem_singleton] at ha; omega
        · rw [hX]
          refine Entry.lnN (Nat.zero_le _) (LeN.mk' (is := [6]) ?_ ?_ (by simp) (by decide) rfl h)
          · simp only [List.map_cons, List.map_nil, hoe]; rfl
          · simp only [List.map_cons, List.map_nil, keys_ren]; rfl
  · have hbb : decide (((i : Nat) : Int) < (names.length : Nat)) = false := decide_eq_false (by omega)
    rw [List.take_of_length_le (by omega)]
    refine W.sx hm hF 35 1000 20 [.n 35 3 2 names.length, .b 35 3 3 false] [decide (((i : Nat) : Int) < (names.length : Nat)) = false, names.length * 1 = (names.flatMap nmC).length, 0 < 1] (.exit 0) [(2, IL (numF old names used0).1), (8, .sl 0 0 (numF old names used0).2.length)] [.row 2 ((numF old names used0).2.flatMap keyC)] (by kernel_rfl) ⟨hbb, Eq.symm (fm_len (c := nmC) (fun _ => rfl) _), by decide, trivial⟩ (fun σ h => W.weaken h ?_)
    exact W.sx hm hF 35 1000 20 [] [] .ret [(6, .sl 0 0 (numF old names used0).2.length), (7, IL (numF old names used0).1)] [.row 2 ((numF old names used0).2.flatMap keyC)] (by kernel_rfl) trivial (fun σ h => retK.fz (.inl rfl) h rfl (.tup (.cons (Fz.fm (c := keyC) (fun _ => rfl) (fun _ => rfl) rfl rfl) (.cons (.keep rfl) .nil))))

end Go.Proofs.Ytlfedjannhceaaa
