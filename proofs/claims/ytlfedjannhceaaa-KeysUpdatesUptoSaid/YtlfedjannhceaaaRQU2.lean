/-
  The reference: pair.
-/
import Derived.Test.YtlfedjannhceaaaRPU2
set_option linter.unusedVariables false
set_option linter.unusedSimpArgs false
set_option maxRecDepth 100000
set_option maxHeartbeats 1000000
namespace Go.Proofs.Ytlfedjannhceaaa
open Go Go.SL Go.Proofs
theorem kept_len (old : List Key) : ∀ (x : List ByteArray) (out : List Int), (x.foldl (keptStep old) out).length ≤ out.length + x.length
  | [], out => Nat.le_refl _
  | n :: x, out => by
    rw [List.foldl_cons]
    refine Nat.le_trans (kept_len old x _) ?_
    unfold keptStep
    split <;> simp <;> omega
theorem num_bound (old : List Key) (C : Int) (h0 : 0 ≤ C) : ∀ (x : List ByteArray) (us : List Int) (out : List Key), (∀ a ∈ us, a ≤ C) → (∀ a ∈ (x.foldl (numStep old) (us, out)).1, a ≤ C + (x.length : Nat)) ∧ (x.foldl (numStep old) (us, out)).1.length ≤ us.length + x.length
  | [], us, out, h => ⟨fun a ha => by have := h a ha; simp; omega, Nat.le_refl _⟩
  | n :: x, us, out, h => by
    rw [List.foldl_cons]
    by_cases hc : (findV old n).2 = true
    · rw [show numStep old (us, out) n = (us, out ++ [⟨n, (findV old n).1⟩]) by unfold numStep; rw [if_pos hc]]
      have := num_bound old C h0 x us (out ++ [⟨n, (findV old n).1⟩]) h
      exact ⟨fun a ha => by have := this.1 a ha; simp only [List.length_cons]; omega, by have := this.2; simp only [List.length_cons]; omega⟩
    · rw [show numStep old (us, out) n = (us ++ [nfree us 1], out ++ [⟨n, nfree us 1⟩]) by unfold numStep; rw [if_neg hc]]
      have g := nfree_le h (n := 1) (by omega)
      have := num_bound old (C + 1) (by omega) x (us ++ [nfree us 1]) (out ++ [⟨n, nfree us 1⟩]) (fun a ha => by
        rcases List.mem_append.1 ha with ha | ha
        · have := h a ha; omega
        · simp only [List.mem_singleton] at ha; omega)
      exact ⟨fun a ha => by have := this.1 a ha; simp only [List.length_cons]; omega, by have := this.2; simp only [List.length_cons, List.length_append, List.length_nil] at this ⊢; omega⟩
def allLe (most : Int) (us : List Int) : Bool := us.all fun u => decide (u ≤ most)
theorem allLe_iff {most : Int} {us : List Int} : allLe most us = true ↔ ∀ u ∈ us, u ≤ most := by simp [allLe]
theorem all_next (most : Int) {us : List Int} {i : Nat} {x : Int} (h : us[i]? = some x) : allLe most (us.take (i + 1)) = (allLe most (us.take i) && decide (x ≤ most)) := by
  unfold allLe
  rw [List.take_add_one, h, List.all_append]
  simp
theorem w_pair (a b : List Key) (na nb : List ByteArray) (most C : Int) (hC0 : 0 ≤ C) (hC : C ≤ 34359738368) (ha : a.length ≤ 4611686018427387) (hb : b.length ≤ 4611686018427387) (hna : na.length ≤ 1048576) (hnb : nb.length ≤ 1048576)
    (hkb : ∀ x ∈ keptV a na ++ keptV b nb, x ≤ C) :
    Spec0 Try.prog 22 [KL a, KL b, NL na, NL nb, I .i64 most] (.tup [KL (rpairV a b na nb).1, KL (rpairV a b na nb).2.1, B (allLe most (rpairV a b na nb).2.2)]) := by
  have h1 := w_keptS a na ha (by omega)
  have h2 := w_kept b nb hb (by omega)
  have lka := kept_len a na []
  have lkb := kept_len b nb []
  change (keptV a na).length ≤ _ at lka
  change (keptV b nb).length ≤ _ at lkb
  simp only [List.length_nil, Nat.zero_add] at lka lkb
  unfold rpairV
  simp only
  obtain ⟨ka, eka⟩ : ∃ k, k = keptV a na := ⟨_, rfl⟩
  obtain ⟨kb, ekb⟩ : ∃ k, k = keptV b nb := ⟨_, rfl⟩
  rw [← eka] at h1 lka
  rw [← ekb] at h2 lkb
  rw [← eka, ← ekb] at hkb ⊢
  obtain ⟨us, hus⟩ : ∃ u, u = ka ++ kb := ⟨_, rfl⟩
  rw [← hus] at hkb ⊢
  have hul : us.length = ka.length + kb.length := by rw [hus]; simp
  have hka : ka.length ≤ 1034834473170 := by omega
  have hkb1 : kb.length ≤ 1034834473170 := by omega
  have n1 := w_number a na us C hC0 (by omega) hkb ha (by omega) (by omega)
  obtain ⟨c1, c2⟩ := num_bound a C hC0 na us [] hkb
  change (∀ x ∈ (numF a na us).1, x ≤ C + (na.length : Nat)) at c1
  change (numF a na us).1.length ≤ us.length + na.length at c2
  obtain ⟨r1, hr1⟩ : ∃ r, r = numF a na us := ⟨_, rfl⟩
  rw [← hr1] at n1 c1 c2 ⊢
  have n2 := w_number b nb r1.1 (C + (na.length : Nat)) (by omega) (by omega) c1 hb (by omega) (by omega)
  obtain ⟨d1, d2⟩ := num_bound b (C + (na.length : Nat)) (by omega) nb r1.1 [] c1
  change (numF b nb r1.1).1.length ≤ r1.1.length + nb.length at d2
  obtain ⟨r2, hr2⟩ : ∃ r, r = numF b nb r1.1 := ⟨_, rfl⟩
  rw [← hr2] at n2 d2 ⊢
  obtain ⟨u1, la⟩ := r1
  obtain ⟨u2, lb⟩ := r2
  simp only at n1 n2 c2 d2 ⊢
  clear c1 d1 hr1 hr2
  refine Spec0.walk Try.func22 rfl rfl ?_
  refine W.sxP hm hF 22 2 1000 20 [.u 22 1 2 (AV.sl 0 0 (List.length ka)) [AObj.row 1 (List.flatMap numC ka)], .c 22 1 5 (AV.im 1 (List.flatMap numC kb)), .x 22 1 6 (Xt.ap (List.length kb) (List.length ka + List.length kb) (List.flatMap numC kb) (List.flatMap numC us))] [List.length kb * 1 = List.length (List.flatMap numC kb), 0 < 1, List.all (List.flatMap numC kb) cellAV = true, List.flatMap numC kb = List.flatMap numC kb, 0 + List.length ka * 1 = List.length (List.flatMap numC ka), (List.length ka + List.length kb) * 8 ≤ 140737488355328 ∨ 8 = 1 ∧ List.length ka + List.length kb ≤ 200000000000000, List.length ka + List.length kb = List.length ka + List.length kb, List.drop 0 (List.flatMap numC ka) ++ List.flatMap numC kb = List.flatMap numC us, Spec0 Try.prog 34 [KL b, NL nb] (AV.im 1 (List.flatMap numC kb)), SL.Spec Try.prog 34 [AV.im 2 (List.flatMap keyC a), AV.im 1 (List.flatMap nmC na)] [] (is (AV.sl 0 0 (List.length ka)) [AObj.row 1 (List.flatMap numC ka)]), List.length ([] : List AObj) ≤ List.length [AObj.row 1 (List.flatMap numC ka)]] [(0, KL a), (1, KL b), (2, NL na), (3, NL nb), (4, I .i64 most), (13, .sl 1 0 (ka.length + kb.length))] [AObj.dead, AObj.row 1 (List.flatMap numC us)] (by kernel_rfl) ⟨(by exact Eq.symm (fm_len (c := (numC)) (fun _ => rfl) _)), (by omega), (by exact fm_one (c := numC) (fun _ => rfl) _), (by first | (subst hus; simp) | omega | decide | simp), (by rw [fm_len (c := numC) (e := 1) (fun _ => rfl)]; omega), (by omega), (by omega), (by first | (subst hus; simp) | omega | decide | simp), h2, (by assumption), (by simp <;> omega), trivial⟩ ?_
  rw [← hul]
  clear h1 h2
  refine W.fzK [1] [(0, KL a), (1, KL b), (2, NL na), (3, NL nb), (4, I .i64 most), (13, IL us)] ⟨.keep, .keep, .keep, .keep, .keep, .fm (c := numC) (e := 1) (o := 1) (n := us.length) (fun _ => rfl) (fun _ => rfl) rfl rfl rfl, trivial⟩ ?_
  have h1 := n1
  have h2 := n2
  refine W.sxP hm hF 22 3 1000 20 [.c 22 2 3 (AV.tup [AV.im 2 (List.flatMap keyC la), AV.im 1 (List.flatMap numC u1)]), .c 22 3 3 (AV.tup [AV.im 2 (List.flatMap keyC lb), AV.im 1 (List.flatMap numC u2)])] [Spec0 Try.prog 35 [KL b, NL nb, IL u1] (AV.tup [AV.im 2 (List.flatMap keyC lb), AV.im 1 (List.flatMap numC u2)]), Spec0 Try.prog 35 [KL a, NL na, IL us] (AV.tup [AV.im 2 (List.flatMap keyC la), AV.im 1 (List.flatMap numC u1)])] [(4, I .i64 most), (13, IL u2), (14, KL la), (15, KL lb), (16, B true)] [.dead, .dead] (by kernel_rfl) ⟨h2, h1, trivial⟩ ?_
  obtain ⟨us, e2⟩ : ∃ u, u = u2 := ⟨_, rfl⟩
  rw [← e2] at d2 ⊢
  clear e2 n1 n2 h1 h2 hkb
  have hl0 : us.length ≤ 4611686018427387 := by omega
  refine W.seq ?_
  refine W.seq ?_
  refine W.sx hm hF 22 1000 20 [] [] .normal [(4, I .i64 most), (13, IL us), (14, KL la), (15, KL lb), (16, B true), (17, I .i64 0)] [.dead, .dead] (by kernel_rfl) trivial (fun σ h => W.weaken h ?_)
  refine W.block ?_
  refine W.loop (fun i : Nat => ⟨tbl [(4, I .i64 most), (13, IL us), (14, KL la), (15, KL lb), (16, B (allLe most (us.take i))), (17, I .i64 ((i : Nat) : Int))], [.dead, .dead]⟩) (fun i => i ≤ us.length) (fun i => us.length - i) 0 (Nat.zero_le _) (Le.refl _) ?_
  intro i hi
  by_cases hlt : i < us.length
  · obtain ⟨x, hget⟩ : ∃ x, us[i]? = some x := ⟨_, List.getElem?_eq_getElem hlt⟩
    have hX := all_next most hget
    cases hok : allLe most (us.take i) with
    | true =>
      rw [hok, Bool.true_and] at hX
      by_cases hx : x ≤ most
      · rw [decide_eq_true hx] at hX
        exact W.sx hm hF 22 1000 20 [.n 22 6 2 (List.length us), .b 22 6 3 true, .j 22 8 4 (List.length us) i, .l 22 8 5 (I .i64 x), .b 22 8 7 true, .x 22 7 1 (Xt.na (i + 1))] [i + 1 < cap IntKind.i64, i + 1 = i + 1, decide (x ≤ most) = true, (List.flatMap numC us)[i * 1]? = some (I .i64 x), List.length us * 1 = List.length (List.flatMap numC us), 0 < 1, (↑i : Int) = (↑i : Int), i < List.length us, decide ((↑i : Int) < (↑(List.length us) : Int)) = true, List.length us * 1 = List.length (List.flatMap numC us), 0 < 1] .normal [(4, I .i64 most), (13, IL us), (14, KL la), (15, KL lb), (16, B true), (17, I .i64 ((i + 1 : Nat) : Int))] [.dead, .dead] (by kernel_rfl) ⟨(by simp [cap] <;> omega), (by rfl), (by simp <;> omega), (by have := fm_cell (c := (numC)) (k := 0) (fun _ => rfl) _ (by assumption) (by decide) rfl; rw [Nat.add_zero] at this; exact this), (by exact Eq.symm (fm_len (c := (numC)) (fun _ => rfl) _)), (by omega), (by rfl), (by assumption), (by simp <;> omega), (by exact Eq.symm (fm_len (c := (numC)) (fun _ => rfl) _)), (by omega), trivial⟩ (fun σ h => ⟨i + 1, hlt, by omega, by rw [hX]; exact h⟩)
      · rw [decide_eq_false hx] at hX
        exact W.sx hm hF 22 1000 20 [.n 22 6 2 (List.length us), .b 22 6 3 true, .j 22 8 4 (List.length us) i, .l 22 8 5 (I .i64 x), .b 22 8 7 false, .x 22 7 1 (Xt.na (i + 1))] [i + 1 < cap IntKind.i64, i + 1 = i + 1, decide (x ≤ most) = false, (List.flatMap numC us)[i * 1]? = some (I .i64 x), List.length us * 1 = List.length (List.flatMap numC us), 0 < 1, (↑i : Int) = (↑i : Int), i < List.length us, decide ((↑i : Int) < (↑(List.length us) : Int)) = true, List.length us * 1 = List.length (List.flatMap numC us), 0 < 1] .normal [(4, I .i64 most), (13, IL us), (14, KL la), (15, KL lb), (16, B false), (17, I .i64 ((i + 1 : Nat) : Int))] [.dead, .dead] (by kernel_rfl) ⟨(by simp [cap] <;> omega), (by rfl), (by simp <;> omega), (by have := fm_cell (c := (numC)) (k := 0) (fun _ => rfl) _ (by assumption) (by decide) rfl; rw [Nat.add_zero] at this; exact this), (by exact Eq.symm (fm_len (c := (numC)) (fun _ => rfl) _)), (by omega), (by rfl), (by assumption), (by simp <;> omega), (by exact Eq.symm (fm_len (c := (numC)) (fun _ => rfl) _)), (by omega), trivial⟩ (fun σ h => ⟨i + 1, hlt, by omega, by rw [hX]; exact h⟩)
    | false =>
      rw [hok, Bool.false_and] at hX
      exact W.sx hm hF 22 1000 20 [.n 22 6 2 (List.length us), .b 22 6 3 true, .x 22 7 1 (Xt.na (i + 1))] [i + 1 < cap IntKind.i64, i + 1 = i + 1, decide ((↑i : Int) < (↑(List.length us) : Int)) = true, List.length us * 1 = List.length (List.flatMap numC us), 0 < 1] .normal [(4, I .i64 most), (13, IL us), (14, KL la), (15, KL lb), (16, B false), (17, I .i64 ((i + 1 : Nat) : Int))] [.dead, .dead] (by kernel_rfl) ⟨(by simp [cap] <;> omega), (by rfl), (by simp <;> omega), (by exact Eq.symm (fm_len (c := (numC)) (fun _ => rfl) _)), (by omega), trivial⟩ (fun σ h => ⟨i + 1, hlt, by omega, by rw [hX]; exact h⟩)
  · have hbb : decide (((i : Nat) : Int) < (us.length : Nat)) = false := decide_eq_false (by omega)
    rw [List.take_of_length_le (by omega)]
    generalize allLe most us = ok
    refine W.sx hm hF 22 1000 20 [.n 22 6 2 us.length, .b 22 6 3 false] [decide (((i : Nat) : Int) < (us.length : Nat)) = false, us.length * 1 = (us.flatMap numC).length, 0 < 1] (.exit 0) [(14, KL la), (15, KL lb), (16, B ok)] [.dead, .dead] (by kernel_rfl) ⟨hbb, Eq.symm (fm_len (c := numC) (fun _ => rfl) _), by decide, trivial⟩ (fun σ h => W.weaken h ?_)
    exact W.sxR hm hF 22 1000 20 [] [] [.tmp 10, .tmp 11, .tmp 12] .ret (.tup [KL la, KL lb, B ok]) (by kernel_rfl) trivial (fun σ xs h1 h2 => retK.mk (.inl rfl) h1 h2)

end Go.Proofs.Ytlfedjannhceaaa
