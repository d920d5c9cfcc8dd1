/-
  The reference: right, Check.
-/
import Derived.Test.YtlfedjannhceaaaRPU2
set_option linter.unusedVariables false
set_option linter.unusedSimpArgs false
set_option maxRecDepth 100000
set_option maxHeartbeats 1000000
namespace Go.Proofs.Ytlfedjannhceaaa
open Go Go.SL Go.Proofs
theorem leq_less (x y : ByteArray) : leqS x y = !Op.bytesLess y.toList x.toList := by
  unfold leqS
  cases h : Op.bytesLess x.toList y.toList
  · rw [Bool.false_or]
    cases g : Op.bytesLess y.toList x.toList
    · have h1 : ¬ ltB x y := by unfold ltB; rw [h]; decide
      have h2 : ¬ ltB y x := by unfold ltB; rw [g]; decide
      cases e : (x.toList == y.toList)
      · exact absurd (ltB_of h1 e) h2
      · rfl
    · cases e : (x.toList == y.toList)
      · rfl
      · have := toEq e; subst this; exact absurd g (ltB_irr x)
  · rw [Bool.true_or]
    cases g : Op.bytesLess y.toList x.toList
    · rfl
    · exact absurd (ltB_trans h g) (ltB_irr x)
theorem rightV_iff {most : Int} {a b : List Key} : rightV most a b = true ↔ risV a = true ∧ risV b = true ∧ (∀ k ∈ a ++ b, 1 ≤ k.num ∧ k.num ≤ most) ∧ ((a ++ b).map (·.num)).Nodup := by
  constructor
  · intro h
    have h1 := rightV_num h
    have h2 := rightV_nodup h
    unfold rightV at h
    simp only [Bool.and_eq_true] at h
    refine ⟨h.1, ?_, fun k hk => (List.mem_append.1 hk).elim (h1.1 k) (h1.2 k), h2⟩
    have h3 := h.2
    cases e : chkL most [] a with
    | none => rw [e] at h3; simp at h3
    | some hs => rw [e] at h3; simp only [Bool.and_eq_true] at h3; exact h3.1
  · rintro ⟨h1, h2, h3, h4⟩
    rw [List.map_append, List.nodup_append] at h4
    unfold rightV
    rw [h1, chkL_of a [] (fun k hk => h3 k (List.mem_append.2 (.inl hk))) h4.1 (by simp), Bool.true_and]
    simp only [List.nil_append]
    rw [h2, chkL_of b (a.map (·.num)) (fun k hk => h3 k (List.mem_append.2 (.inr hk))) h4.2.1 (fun k hk hm => h4.2.2 _ hm _ (List.mem_map_of_mem hk) rfl)]
    rfl
theorem rightV_not {most : Int} {a b : List Key} (h : ¬ (risV a = true ∧ risV b = true ∧ (∀ k ∈ a ++ b, 1 ≤ k.num ∧ k.num ≤ most) ∧ ((a ++ b).map (·.num)).Nodup)) : rightV most a b = false := by
  cases e : rightV most a b
  · rfl
  · exact absurd (rightV_iff.1 e) h
theorem apart_at {l : List Key} (hn : (l.map (·.num)).Nodup) {i j : Nat} {x y : Key} (hj : j < i) (hy : l[j]? = some y) (hx : l[i]? = some x) : (y.num == x.num) = false := by
  have hi1 : i < (l.map (·.num)).length := by
    rcases Nat.lt_or_ge i l.length with g | g
    · simpa using g
    · rw [List.getElem?_eq_none g] at hx; simp at hx
  have hj1 : j < (l.map (·.num)).length := by omega
  have e1 : (l.map (·.num))[i]? = some x.num := by rw [List.getElem?_map, hx]; rfl
  have e2 : (l.map (·.num))[j]? = some y.num := by rw [List.getElem?_map, hy]; rfl
  rw [List.getElem?_eq_getElem hi1] at e1
  rw [List.getElem?_eq_getElem hj1] at e2
  have := List.pairwise_iff_getElem.1 hn j i hj1 hi1 hj
  rw [Option.some.inj e1, Option.some.inj e2] at this
  simpa using this
theorem q_next {l : List Key} {j : Nat} {y : Key} {m : Int} (hq : ∀ q z, q < j → l[q]? = some z → z.num ≠ m) (hy : l[j]? = some y) (he : y.num ≠ m) : ∀ q z, q < j + 1 → l[q]? = some z → z.num ≠ m := by
  intro q z h hz
  rcases Nat.lt_or_ge q j with g | g
  · exact hq q z g hz
  · have : q = j := by omega
    subst this
    rw [hy] at hz
    injection hz with hz
    subst hz; exact he
/-- Numbers of the first i are right. -/
def okTo (most : Int) (l : List Key) (i : Nat) : Prop := ∀ j k, j < i → l[j]? = some k → (1 ≤ k.num ∧ k.num ≤ most) ∧ ∀ q y, q < j → l[q]? = some y → y.num ≠ k.num
theorem okTo_end {most : Int} {l : List Key} (h : okTo most l l.length) : (∀ k ∈ l, 1 ≤ k.num ∧ k.num ≤ most) ∧ (l.map (·.num)).Nodup := by
  constructor
  · intro k hk
    obtain ⟨j, hj⟩ := List.mem_iff_getElem?.1 hk
    have : j < l.length := by
      rcases Nat.lt_or_ge j l.length with g | g
      · exact g
      · rw [List.getElem?_eq_none g] at hj; simp at hj
    exact (h j k this hj).1
  · unfold List.Nodup
    rw [List.pairwise_iff_getElem]
    intro i j hi hj hij e
    simp only [List.getElem_map] at e
    simp only [List.length_map] at hi hj
    exact (h j _ hj (List.getElem?_eq_getElem hj)).2 i _ hij (List.getElem?_eq_getElem hi) e
theorem rck_1 (a b c d : List Key) (h1 : Spec0 Try.prog 18 [KL a, KL b, I .i64 16777215] (B false)) : Spec0 Try.prog 9 [.agg [KL a, KL b, KL c, KL d]] (I .i64 (Int.ofNat 190)) := sx0 hm hF 1000 20 [.c 9 1 4 (B false)] [Spec0 Try.prog 18 [KL a, KL b, I IntKind.i64 16777215] (B false)] (by kernel_rfl) ⟨h1, trivial⟩
theorem rck_2 (a b c d : List Key) (h1 : Spec0 Try.prog 18 [KL a, KL b, I .i64 16777215] (B true))(h2 : Spec0 Try.prog 18 [KL c, KL d, I .i64 65535] (B false)) : Spec0 Try.prog 9 [.agg [KL a, KL b, KL c, KL d]] (I .i64 (Int.ofNat 190)) := sx0 hm hF 1000 20 [.c 9 1 4 (B true), .c 9 1 11 (B false)] [Spec0 Try.prog 18 [KL c, KL d, I IntKind.i64 65535] (B false), Spec0 Try.prog 18 [KL a, KL b, I IntKind.i64 16777215] (B true)] (by kernel_rfl) ⟨h2, h1, trivial⟩
theorem rck_3 (a b c d : List Key) (h1 : Spec0 Try.prog 18 [KL a, KL b, I .i64 16777215] (B true))(h2 : Spec0 Try.prog 18 [KL c, KL d, I .i64 65535] (B true)) : Spec0 Try.prog 9 [.agg [KL a, KL b, KL c, KL d]] (I .i64 (Int.ofNat 0)) := sx0 hm hF 1000 20 [.c 9 1 4 (B true), .c 9 1 11 (B true)] [Spec0 Try.prog 18 [KL c, KL d, I IntKind.i64 65535] (B true), Spec0 Try.prog 18 [KL a, KL b, I IntKind.i64 16777215] (B true)] (by kernel_rfl) ⟨h2, h1, trivial⟩
theorem w_rright (most : Int) (a b : List Key) (ha : a.length ≤ 1048576) (hb : b.length ≤ 1048576) : Spec0 Try.prog 18 [KL a, KL b, I .i64 most] (B (rightV most a b)) := by
  refine Spec0.walk Try.func18 rfl rfl ?_
  refine W.sxP hm hF 18 1 1000 20 [] [] [(0, KL a), (1, KL b), (2, I .i64 most)] [] (by kernel_rfl) trivial ?_
  refine W.seq ?_
  refine W.seq ?_
  refine W.sx hm hF 18 1000 20 [] [] .normal [(0, KL a), (1, KL b), (2, I .i64 most), (7, I .i64 0)] [] (by kernel_rfl) trivial (fun σ h => W.weaken h ?_)
  refine W.block ?_
  refine W.loop (fun i : Nat => ⟨tbl [(0, KL a), (1, KL b), (2, I .i64 most), (7, I .i64 ((i : Nat) : Int))], []⟩) (fun i => i ≤ a.length ∧ risV a = risP (prevK a i) (a.drop i)) (fun i => a.length - i) 0 ⟨Nat.zero_le _, rfl⟩ (Le.refl _) ?_
  rintro i ⟨hi, hra⟩
  by_cases hlt : i < a.length
  · obtain ⟨k, hget⟩ : ∃ k, a[i]? = some k := ⟨_, List.getElem?_eq_getElem hlt⟩
    have hl0 : a.length ≤ 4611686018427387 := by omega
    by_cases h0 : i = 0
    · exact W.sx hm hF 18 1000 20 [.n 18 2 2 (List.length a), .b 18 2 3 true, .b 18 4 1 false, .x 18 3 1 (Xt.na (i + 1))] [i + 1 < cap IntKind.i64, i + 1 = i + 1, decide ((↑i : Int) > 0) = false, decide ((↑i : Int) < (↑(List.length a) : Int)) = true, List.length a * 2 = List.length (List.flatMap keyC a), 0 < 2] .normal [(0, KL a), (1, KL b), (2, I .i64 most), (7, I .i64 ((i + 1 : Nat) : Int))] [] (by kernel_rfl) ⟨(by simp [cap] <;> omega), (by rfl), (by simp <;> omega), (by simp <;> omega), (by exact Eq.symm (fm_len (c := (keyC)) (fun _ => rfl) _)), (by omega), trivial⟩ (fun σ h => ⟨i + 1, ⟨hlt, risP_next hget hra (by unfold prevK; rw [if_pos h0])⟩, by omega, h⟩)
    · have hi0 : 0 < i := by omega
      obtain ⟨p, hgp⟩ : ∃ p, a[i - 1]? = some p := ⟨_, List.getElem?_eq_getElem (by omega)⟩
      have hpk : prevK a i = some p := by unfold prevK; rw [if_neg h0, hgp]
      cases hle : Op.bytesLess p.name.toList k.name.toList with
      | true => exact W.sx hm hF 18 1000 20 [.n 18 2 2 (List.length a), .b 18 2 3 true, .b 18 4 1 true, .z 18 4 5 (↑(i - 1) : Int), .j 18 4 6 (List.length a) (i - 1), .l 18 4 8 (S p.name), .j 18 4 11 (List.length a) i, .l 18 4 13 (S k.name), .b 18 4 14 false, .x 18 3 1 (Xt.na (i + 1))] [i + 1 < cap IntKind.i64, i + 1 = i + 1, (!Op.bytesLess (ByteArray.toList p.name) (ByteArray.toList k.name)) = false, (List.flatMap keyC a)[i * 2 + 0]? = some (S k.name), List.length a * 2 = List.length (List.flatMap keyC a), 0 < 2, (↑i : Int) = (↑i : Int), i < List.length a, (List.flatMap keyC a)[(i - 1) * 2 + 0]? = some (S p.name), List.length a * 2 = List.length (List.flatMap keyC a), 0 < 2, (↑(i - 1) : Int) = (↑(i - 1) : Int), i - 1 < List.length a, IntKind.wrap IntKind.i64 ((↑i : Int) - 1) = (↑(i - 1) : Int), decide ((↑i : Int) > 0) = true, decide ((↑i : Int) < (↑(List.length a) : Int)) = true, List.length a * 2 = List.length (List.flatMap keyC a), 0 < 2] .normal [(0, KL a), (1, KL b), (2, I .i64 most), (7, I .i64 ((i + 1 : Nat) : Int))] [] (by kernel_rfl) ⟨(by simp [cap] <;> omega), (by rfl), (by simp <;> omega), (by exact fm_cell0 (by assumption)), (by exact Eq.symm (fm_len (c := (keyC)) (fun _ => rfl) _)), (by omega), (by rfl), (by assumption), (by exact fm_cell0 (by assumption)), (by exact Eq.symm (fm_len (c := (keyC)) (fun _ => rfl) _)), (by omega), (by rfl), (by omega), (by rw [IntWalk.i64_in _ (by omega)]; omega), (by simp <;> omega), (by simp <;> omega), (by exact Eq.symm (fm_len (c := (keyC)) (fun _ => rfl) _)), (by omega), trivial⟩ (fun σ h => ⟨i + 1, ⟨hlt, risP_next hget hra (by rw [hpk]; simp only [leq_less, hle]; rfl)⟩, by omega, h⟩)
      | false =>
        have hv : risV a = false := by
          rw [hra, drop_get hget, hpk]
          show (!leqS k.name p.name && _) = false
          rw [leq_less, hle]; rfl
        rw [rightV_not (fun h => by rw [hv] at h; exact absurd h.1 (by decide))]
        exact W.sxR hm hF 18 1000 20 [.n 18 2 2 (List.length a), .b 18 2 3 true, .b 18 4 1 true, .z 18 4 5 (↑(i - 1) : Int), .j 18 4 6 (List.length a) (i - 1), .l 18 4 8 (S p.name), .j 18 4 11 (List.length a) i, .l 18 4 13 (S k.name), .b 18 4 14 true] [(!Op.bytesLess (ByteArray.toList p.name) (ByteArray.toList k.name)) = true, (List.flatMap keyC a)[i * 2 + 0]? = some (S k.name), List.length a * 2 = List.length (List.flatMap keyC a), 0 < 2, (↑i : Int) = (↑i : Int), i < List.length a, (List.flatMap keyC a)[(i - 1) * 2 + 0]? = some (S p.name), List.length a * 2 = List.length (List.flatMap keyC a), 0 < 2, (↑(i - 1) : Int) = (↑(i - 1) : Int), i - 1 < List.length a, IntKind.wrap IntKind.i64 ((↑i : Int) - 1) = (↑(i - 1) : Int), decide ((↑i : Int) > 0) = true, decide ((↑i : Int) < (↑(List.length a) : Int)) = true, List.length a * 2 = List.length (List.flatMap keyC a), 0 < 2] [.tmp 6] .ret (B false) (by kernel_rfl) ⟨(by simp <;> omega), (by exact fm_cell0 (by assumption)), (by exact Eq.symm (fm_len (c := (keyC)) (fun _ => rfl) _)), (by omega), (by rfl), (by assumption), (by exact fm_cell0 (by assumption)), (by exact Eq.symm (fm_len (c := (keyC)) (fun _ => rfl) _)), (by omega), (by rfl), (by omega), (by rw [IntWalk.i64_in _ (by omega)]; omega), (by simp <;> omega), (by simp <;> omega), (by exact Eq.symm (fm_len (c := (keyC)) (fun _ => rfl) _)), (by omega), trivial⟩ (fun σ xs h1 h2 => retK.mk (.inl rfl) h1 h2)
  have hbb : decide (((i : Nat) : Int) < (a.length : Nat)) = false := decide_eq_false (by omega)
  have hva : risV a = true := by
    rw [hra, List.drop_eq_nil_of_le (by omega)]
    cases prevK a i <;> rfl
  clear hra
  refine W.sx hm hF 18 1000 20 [.n 18 2 2 a.length, .b 18 2 3 false] [decide (((i : Nat) : Int) < (a.length : Nat)) = false, a.length * 2 = (a.flatMap keyC).length, 0 < 2] (.exit 0) [(0, KL a), (1, KL b), (2, I .i64 most)] [] (by kernel_rfl) ⟨hbb, Eq.symm (fm_len (c := keyC) (fun _ => rfl) _), by decide, trivial⟩ (fun σ h => W.weaken h ?_)
  refine W.seq ?_
  refine W.seq ?_
  refine W.sx hm hF 18 1000 20 [] [] .normal [(0, KL a), (1, KL b), (2, I .i64 most), (8, I .i64 0)] [] (by kernel_rfl) trivial (fun σ h => W.weaken h ?_)
  refine W.block ?_
  refine W.loop (fun i : Nat => ⟨tbl [(0, KL a), (1, KL b), (2, I .i64 most), (8, I .i64 ((i : Nat) : Int))], []⟩) (fun i => i ≤ b.length ∧ risV b = risP (prevK b i) (b.drop i)) (fun i => b.length - i) 0 ⟨Nat.zero_le _, rfl⟩ (Le.refl _) ?_
  rintro i ⟨hi, hra⟩
  by_cases hlt : i < b.length
  · obtain ⟨k, hget⟩ : ∃ k, b[i]? = some k := ⟨_, List.getElem?_eq_getElem hlt⟩
    have hl0 : b.length ≤ 4611686018427387 := by omega
    by_cases h0 : i = 0
    · exact W.sx hm hF 18 1000 20 [.n 18 7 2 (List.length b), .b 18 7 3 true, .b 18 9 1 false, .x 18 8 1 (Xt.na (i + 1))] [i + 1 < cap IntKind.i64, i + 1 = i + 1, decide ((↑i : Int) > 0) = false, decide ((↑i : Int) < (↑(List.length b) : Int)) = true, List.length b * 2 = List.length (List.flatMap keyC b), 0 < 2] .normal [(0, KL a), (1, KL b), (2, I .i64 most), (8, I .i64 ((i + 1 : Nat) : Int))] [] (by kernel_rfl) ⟨(by simp [cap] <;> omega), (by rfl), (by simp <;> omega), (by simp <;> omega), (by exact Eq.symm (fm_len (c := (keyC)) (fun _ => rfl) _)), (by omega), trivial⟩ (fun σ h => ⟨i + 1, ⟨hlt, risP_next hget hra (by unfold prevK; rw [if_pos h0])⟩, by omega, h⟩)
    · have hi0 : 0 < i := by omega
      obtain ⟨p, hgp⟩ : ∃ p, b[i - 1]? = some p := ⟨_, List.getElem?_eq_getElem (by omega)⟩
      have hpk : prevK b i = some p := by unfold prevK; rw [if_neg h0, hgp]
      cases hle : Op.bytesLess p.name.toList k.name.toList with
      | true => exact W.sx hm hF 18 1000 20 [.n 18 7 2 (List.length b), .b 18 7 3 true, .b 18 9 1 true, .z 18 9 5 (↑(i - 1) : Int), .j 18 9 6 (List.length b) (i - 1), .l 18 9 8 (S p.name), .j 18 9 11 (List.length b) i, .l 18 9 13 (S k.name), .b 18 9 14 false, .x 18 8 1 (Xt.na (i + 1))] [i + 1 < cap IntKind.i64, i + 1 = i + 1, (!Op.bytesLess (ByteArray.toList p.name) (ByteArray.toList k.name)) = false, (List.flatMap keyC b)[i * 2 + 0]? = some (S k.name), List.length b * 2 = List.length (List.flatMap keyC b), 0 < 2, (↑i : Int) = (↑i : Int), i < List.length b, (List.flatMap keyC b)[(i - 1) * 2 + 0]? = some (S p.name), List.length b * 2 = List.length (List.flatMap keyC b), 0 < 2, (↑(i - 1) : Int) = (↑(i - 1) : Int), i - 1 < List.length b, IntKind.wrap IntKind.i64 ((↑i : Int) - 1) = (↑(i - 1) : Int), decide ((↑i : Int) > 0) = true, decide ((↑i : Int) < (↑(List.length b) : Int)) = true, List.length b * 2 = List.length (List.flatMap keyC b), 0 < 2] .normal [(0, KL a), (1, KL b), (2, I .i64 most), (8, I .i64 ((i + 1 : Nat) : Int))] [] (by kernel_rfl) ⟨(by simp [cap] <;> omega), (by rfl), (by simp <;> omega), (by exact fm_cell0 (by assumption)), (by exact Eq.symm (fm_len (c := (keyC)) (fun _ => rfl) _)), (by omega), (by rfl), (by assumption), (by exact fm_cell0 (by assumption)), (by exact Eq.symm (fm_len (c := (keyC)) (fun _ => rfl) _)), (by omega), (by rfl), (by omega), (by rw [IntWalk.i64_in _ (by omega)]; omega), (by simp <;> omega), (by simp <;> omega), (by exact Eq.symm (fm_len (c := (keyC)) (fun _ => rfl) _)), (by omega), trivial⟩ (fun σ h => ⟨i + 1, ⟨hlt, risP_next hget hra (by rw [hpk]; simp only [leq_less, hle]; rfl)⟩, by omega, h⟩)
      | false =>
        have hv : risV b = false := by
          rw [hra, drop_get hget, hpk]
          show (!leqS k.name p.name && _) = false
          rw [leq_less, hle]; rfl
        rw [rightV_not (fun h => by rw [hv] at h; exact absurd h.2.1 (by decide))]
        exact W.sxR hm hF 18 1000 20 [.n 18 7 2 (List.length b), .b 18 7 3 true, .b 18 9 1 true, .z 18 9 5 (↑(i - 1) : Int), .j 18 9 6 (List.length b) (i - 1), .l 18 9 8 (S p.name), .j 18 9 11 (List.length b) i, .l 18 9 13 (S k.name), .b 18 9 14 true] [(!Op.bytesLess (ByteArray.toList p.name) (ByteArray.toList k.name)) = true, (List.flatMap keyC b)[i * 2 + 0]? = some (S k.name), List.length b * 2 = List.length (List.flatMap keyC b), 0 < 2, (↑i : Int) = (↑i : Int), i < List.length b, (List.flatMap keyC b)[(i - 1) * 2 + 0]? = some (S p.name), List.length b * 2 = List.length (List.flatMap keyC b), 0 < 2, (↑(i - 1) : Int) = (↑(i - 1) : Int), i - 1 < List.length b, IntKind.wrap IntKind.i64 ((↑i : Int) - 1) = (↑(i - 1) : Int), decide ((↑i : Int) > 0) = true, decide ((↑i : Int) < (↑(List.length b) : Int)) = true, List.length b * 2 = List.length (List.flatMap keyC b), 0 < 2] [.tmp 6] .ret (B false) (by kernel_rfl) ⟨(by simp <;> omega), (by exact fm_cell0 (by assumption)), (by exact Eq.symm (fm_len (c := (keyC)) (fun _ => rfl) _)), (by omega), (by rfl), (by assumption), (by exact fm_cell0 (by assumption)), (by exact Eq.symm (fm_len (c := (keyC)) (fun _ => rfl) _)), (by omega), (by rfl), (by omega), (by rw [IntWalk.i64_in _ (by omega)]; omega), (by simp <;> omega), (by simp <;> omega), (by exact Eq.symm (fm_len (c := (keyC)) (fun _ => rfl) _)), (by omega), trivial⟩ (fun σ xs h1 h2 => retK.mk (.inl rfl) h1 h2)
  have hbb : decide (((i : Nat) : Int) < (b.length : Nat)) = false := decide_eq_false (by omega)
  have hvb : risV b = true := by
    rw [hra, List.drop_eq_nil_of_le (by omega)]
    cases prevK b i <;> rfl
  clear hra
  refine W.sx hm hF 18 1000 20 [.n 18 7 2 b.length, .b 18 7 3 false] [decide (((i : Nat) : Int) < (b.length : Nat)) = false, b.length * 2 = (b.flatMap keyC).length, 0 < 2] (.exit 2) [(0, KL a), (1, KL b), (2, I .i64 most)] [] (by kernel_rfl) ⟨hbb, Eq.symm (fm_len (c := keyC) (fun _ => rfl) _), by decide, trivial⟩ (fun σ h => W.weaken h ?_)
  obtain ⟨ab, hab⟩ : ∃ l, l = a ++ b := ⟨_, rfl⟩
  have hll : ab.length = a.length + b.length := by rw [hab]; simp
  have ha' : a.length ≤ 5864062014634 := by omega
  have hb' : b.length ≤ 5864062014634 := by omega
  have hla : (a.length + b.length) * 24 ≤ 140737488355328 := by omega
  refine W.seq ?_
  refine W.sx hm hF 18 1000 20 [.x 18 11 2 (Xt.ap (List.length a) (List.length a) (List.flatMap keyC a) (List.flatMap keyC a)), .x 18 11 4 (Xt.ap (List.length b) (List.length a + List.length b) (List.flatMap keyC b) (List.flatMap keyC ab))] [List.length b * 2 = List.length (List.flatMap keyC b), 0 < 2, List.all (List.flatMap keyC b) cellAV = true, List.flatMap keyC b = List.flatMap keyC b, 0 + List.length a * 2 = List.length (List.flatMap keyC a), (List.length a + List.length b) * 24 ≤ 140737488355328 ∨ 24 = 1 ∧ List.length a + List.length b ≤ 200000000000000, List.length a + List.length b = List.length a + List.length b, List.drop 0 (List.flatMap keyC a) ++ List.flatMap keyC b = List.flatMap keyC ab, List.length a * 2 = List.length (List.flatMap keyC a), 0 < 2, List.all (List.flatMap keyC a) cellAV = true, List.flatMap keyC a = List.flatMap keyC a, 0 = 0, List.length a * 24 ≤ 140737488355328 ∨ 24 = 1 ∧ List.length a ≤ 200000000000000, 0 + List.length a = List.length a, List.drop 0 [] ++ List.flatMap keyC a = List.flatMap keyC a] .normal [(2, I .i64 most), (9, .sl 2 0 (a.length + b.length))] [AObj.dead, AObj.dead, AObj.row 2 (List.flatMap keyC ab)] (by kernel_rfl) ⟨(by exact Eq.symm (fm_len (c := (keyC)) (fun _ => rfl) _)), (by omega), (by exact fm_one (c := keyC) (fun _ => rfl) _), (by first | (subst hab; simp) | omega | decide | simp), (by rw [fm_len (c := keyC) (e := 2) (fun _ => rfl)]; omega), (by omega), (by omega), (by first | (subst hab; simp) | omega | decide | simp), (by exact Eq.symm (fm_len (c := (keyC)) (fun _ => rfl) _)), (by omega), (by exact fm_one (c := keyC) (fun _ => rfl) _), (by first | (subst hab; simp) | omega | decide | simp), (by omega), (by omega), (by omega), (by first | (subst hab; simp) | omega | decide | simp), trivial⟩ (fun σ h => W.weaken h ?_)
  rw [← hll]
  refine W.fzK [2] [(2, I .i64 most), (9, KL ab)] ⟨.keep, .fm (c := keyC) (e := 2) (o := 2) (n := ab.length) (fun _ => rfl) (fun _ => rfl) rfl rfl rfl, trivial⟩ ?_
  have hR : rightV most a b = true ↔ (∀ k ∈ ab, 1 ≤ k.num ∧ k.num ≤ most) ∧ (ab.map (·.num)).Nodup := by rw [rightV_iff, hab]; simp only [hva, hvb, true_and]
  have hR0 : ¬ ((∀ k ∈ ab, 1 ≤ k.num ∧ k.num ≤ most) ∧ (ab.map (·.num)).Nodup) → rightV most a b = false := fun g => by
    cases e : rightV most a b
    · rfl
    · exact absurd (hR.1 e) g
  have hl0 : ab.length ≤ 4611686018427387 := by omega
  generalize rightV most a b = R at hR hR0
  clear hab hva hvb ha' hb' hla hll ha hb
  obtain ⟨l, hl⟩ : ∃ l, l = ab := ⟨_, rfl⟩
  rw [← hl] at hR hR0 hl0 ⊢
  clear hl
  refine W.seq ?_
  refine W.seq ?_
  refine W.sx hm hF 18 1000 20 [] [] .normal [(2, I .i64 most), (9, KL l), (10, I .i64 0)] [.dead, .dead, .dead] (by kernel_rfl) trivial (fun σ h => W.weaken h ?_)
  refine W.block ?_
  refine W.loop (fun i : Nat => ⟨tbl [(2, I .i64 most), (9, KL l), (10, I .i64 ((i : Nat) : Int))], [.dead, .dead, .dead]⟩) (fun i => i ≤ l.length ∧ okTo most l i) (fun i => l.length - i) 0 ⟨Nat.zero_le _, fun j k hj => by omega⟩ (Le.refl _) ?_
  rintro i ⟨hi, hok⟩
  by_cases hlt : i < l.length
  · obtain ⟨k, hget⟩ : ∃ k, l[i]? = some k := ⟨_, List.getElem?_eq_getElem hlt⟩
    have hmem := List.mem_of_getElem? hget
    refine W.sxP hm hF 18 1 1000 20 [.n 18 13 2 (List.length l), .b 18 13 3 true] [decide ((↑i : Int) < (↑(List.length l) : Int)) = true, List.length l * 2 = List.length (List.flatMap keyC l), 0 < 2] [(2, I .i64 most), (9, KL l), (10, I .i64 ((i : Nat) : Int))] [.dead, .dead, .dead] (by kernel_rfl) ⟨(by simp <;> omega), (by exact Eq.symm (fm_len (c := (keyC)) (fun _ => rfl) _)), (by omega), trivial⟩ ?_
    refine W.seq ?_
    refine W.block ?_
    by_cases h1 : k.num < 1
    · rw [hR0 (fun g => by have := g.1 k hmem; omega)]
      have h := h1
      exact W.sxR hm hF 18 1000 20 [.j 18 15 2 (List.length l) i, .l 18 15 4 (I .i64 k.num), .b 18 15 5 true] [decide (k.num < 1) = true, (List.flatMap keyC l)[i * 2 + 1]? = some (I .i64 k.num), List.length l * 2 = List.length (List.flatMap keyC l), 0 < 2, (↑i : Int) = (↑i : Int), i < List.length l] [.tmp 6] .ret (B false) (by kernel_rfl) ⟨(by simp <;> omega), (by exact fm_cell (c := (keyC)) (fun _ => rfl) _ (by assumption) (by decide) rfl), (by exact Eq.symm (fm_len (c := (keyC)) (fun _ => rfl) _)), (by omega), (by rfl), (by assumption), trivial⟩ (fun σ xs h1 h2 => retK.mk (.inl rfl) h1 h2)
    by_cases h2 : k.num > most
    · rw [hR0 (fun g => by have := g.1 k hmem; omega)]
      have h := h2
      exact W.sxR hm hF 18 1000 20 [.j 18 15 2 (List.length l) i, .l 18 15 4 (I .i64 k.num), .b 18 15 5 false, .j 18 15 9 (List.length l) i, .l 18 15 11 (I .i64 k.num), .b 18 15 13 true] [decide (k.num > most) = true, (List.flatMap keyC l)[i * 2 + 1]? = some (I .i64 k.num), List.length l * 2 = List.length (List.flatMap keyC l), 0 < 2, (↑i : Int) = (↑i : Int), i < List.length l, decide (k.num < 1) = false, (List.flatMap keyC l)[i * 2 + 1]? = some (I .i64 k.num), List.length l * 2 = List.length (List.flatMap keyC l), 0 < 2, (↑i : Int) = (↑i : Int), i < List.length l] [.tmp 6] .ret (B false) (by kernel_rfl) ⟨(by simp <;> omega), (by exact fm_cell (c := (keyC)) (fun _ => rfl) _ (by assumption) (by decide) rfl), (by exact Eq.symm (fm_len (c := (keyC)) (fun _ => rfl) _)), (by omega), (by rfl), (by assumption), (by simp <;> omega), (by exact fm_cell (c := (keyC)) (fun _ => rfl) _ (by assumption) (by decide) rfl), (by exact Eq.symm (fm_len (c := (keyC)) (fun _ => rfl) _)), (by omega), (by rfl), (by assumption), trivial⟩ (fun σ xs h1 h2 => retK.mk (.inl rfl) h1 h2)
    refine W.sxP hm hF 18 2 1000 20 [.j 18 15 2 (List.length l) i, .l 18 15 4 (I .i64 k.num), .b 18 15 5 false, .j 18 15 9 (List.length l) i, .l 18 15 11 (I .i64 k.num), .b 18 15 13 false] [decide (k.num > most) = false, (List.flatMap keyC l)[i * 2 + 1]? = some (I .i64 k.num), List.length l * 2 = List.length (List.flatMap keyC l), 0 < 2, (↑i : Int) = (↑i : Int), i < List.length l, decide (k.num < 1) = false, (List.flatMap keyC l)[i * 2 + 1]? = some (I .i64 k.num), List.length l * 2 = List.length (List.flatMap keyC l), 0 < 2, (↑i : Int) = (↑i : Int), i < List.length l] [(2, I .i64 most), (9, KL l), (10, I .i64 ((i : Nat) : Int)), (11, I .i64 0)] [.dead, .dead, .dead] (by kernel_rfl) ⟨(by simp <;> omega), (by exact fm_cell (c := (keyC)) (fun _ => rfl) _ (by assumption) (by decide) rfl), (by exact Eq.symm (fm_len (c := (keyC)) (fun _ => rfl) _)), (by omega), (by rfl), (by assumption), (by simp <;> omega), (by exact fm_cell (c := (keyC)) (fun _ => rfl) _ (by assumption) (by decide) rfl), (by exact Eq.symm (fm_len (c := (keyC)) (fun _ => rfl) _)), (by omega), (by rfl), (by assumption), trivial⟩ ?_
    refine W.block ?_
    refine W.loop (fun j : Nat => ⟨tbl [(2, I .i64 most), (9, KL l), (10, I .i64 ((i : Nat) : Int)), (11, I .i64 ((j : Nat) : Int))], [.dead, .dead, .dead]⟩) (fun j => j ≤ i ∧ ∀ q y, q < j → l[q]? = some y → y.num ≠ k.num) (fun j => i - j) 0 ⟨Nat.zero_le _, fun q y hq => by omega⟩ (Le.refl _) ?_
    rintro j ⟨hji, hq⟩
    by_cases hj : j < i
    · have hjl : j < l.length := by omega
      obtain ⟨y, hy⟩ : ∃ y, l[j]? = some y := ⟨_, List.getElem?_eq_getElem hjl⟩
      cases he : (y.num == k.num) with
      | true =>
        rw [hR0 (fun g => by have := apart_at g.2 hj hy hget; rw [he] at this; exact absurd this (by decide))]
        exact W.sxR hm hF 18 1000 20 [.b 18 18 2 true, .j 18 20 2 (List.length l) j, .l 18 20 4 (I .i64 y.num), .j 18 20 7 (List.length l) i, .l 18 20 9 (I .i64 k.num), .b 18 20 10 true] [(y.num == k.num) = true, (List.flatMap keyC l)[i * 2 + 1]? = some (I .i64 k.num), List.length l * 2 = List.length (List.flatMap keyC l), 0 < 2, (↑i : Int) = (↑i : Int), i < List.length l, (List.flatMap keyC l)[j * 2 + 1]? = some (I .i64 y.num), List.length l * 2 = List.length (List.flatMap keyC l), 0 < 2, (↑j : Int) = (↑j : Int), j < List.length l, decide ((↑j : Int) < (↑i : Int)) = true] [.tmp 6] .ret (B false) (by kernel_rfl) ⟨(by assumption), (by exact fm_cell (c := (keyC)) (fun _ => rfl) _ (by assumption) (by decide) rfl), (by exact Eq.symm (fm_len (c := (keyC)) (fun _ => rfl) _)), (by omega), (by rfl), (by assumption), (by exact fm_cell (c := (keyC)) (fun _ => rfl) _ (by assumption) (by decide) rfl), (by exact Eq.symm (fm_len (c := (keyC)) (fun _ => rfl) _)), (by omega), (by rfl), (by assumption), (by simp <;> omega), trivial⟩ (fun σ xs h1 h2 => retK.mk (.inl rfl) h1 h2)
      | false => exact W.sx hm hF 18 1000 20 [.b 18 18 2 true, .j 18 20 2 (List.length l) j, .l 18 20 4 (I .i64 y.num), .j 18 20 7 (List.length l) i, .l 18 20 9 (I .i64 k.num), .b 18 20 10 false, .x 18 19 1 (Xt.na (j + 1))] [j + 1 < cap IntKind.i64, j + 1 = j + 1, (y.num == k.num) = false, (List.flatMap keyC l)[i * 2 + 1]? = some (I .i64 k.num), List.length l * 2 = List.length (List.flatMap keyC l), 0 < 2, (↑i : Int) = (↑i : Int), i < List.length l, (List.flatMap keyC l)[j * 2 + 1]? = some (I .i64 y.num), List.length l * 2 = List.length (List.flatMap keyC l), 0 < 2, (↑j : Int) = (↑j : Int), j < List.length l, decide ((↑j : Int) < (↑i : Int)) = true] .normal [(2, I .i64 most), (9, KL l), (10, I .i64 ((i : Nat) : Int)), (11, I .i64 ((j + 1 : Nat) : Int))] [.dead, .dead, .dead] (by kernel_rfl) ⟨(by simp [cap] <;> omega), (by rfl), (by assumption), (by exact fm_cell (c := (keyC)) (fun _ => rfl) _ (by assumption) (by decide) rfl), (by exact Eq.symm (fm_len (c := (keyC)) (fun _ => rfl) _)), (by omega), (by rfl), (by assumption), (by exact fm_cell (c := (keyC)) (fun _ => rfl) _ (by assumption) (by decide) rfl), (by exact Eq.symm (fm_len (c := (keyC)) (fun _ => rfl) _)), (by omega), (by rfl), (by assumption), (by simp <;> omega), trivial⟩ (fun σ h => ⟨j + 1, ⟨hj, q_next hq hy (by simpa using he)⟩, by omega, h⟩)
    · refine W.sx hm hF 18 1000 20 [.b 18 18 2 false] [decide ((↑j : Int) < (↑i : Int)) = false] (.exit 6) [(2, I .i64 most), (9, KL l), (10, I .i64 ((i : Nat) : Int))] [.dead, .dead, .dead] (by kernel_rfl) ⟨(by simp <;> omega), trivial⟩ (fun σ h => W.weaken h ?_)
      refine W.sx hm hF 18 1000 20 [.z 18 14 1 ((i + 1 : Nat) : Int)] [IntKind.i64.wrap (((i : Nat) : Int) + 1) = ((i + 1 : Nat) : Int)] .normal [(2, I .i64 most), (9, KL l), (10, I .i64 ((i + 1 : Nat) : Int))] [.dead, .dead, .dead] (by kernel_rfl) ⟨i64_n i (by omega), trivial⟩ (fun σ h => ⟨i + 1, ⟨hlt, ?_⟩, by omega, h⟩)
      intro j' k' hj' hk'
      rcases Nat.lt_or_ge j' i with g | g
      · exact hok j' k' g hk'
      · have : j' = i := by omega
        subst this
        rw [hget] at hk'
        injection hk' with hk'
        subst hk'
        exact ⟨by omega, fun q y hq0 hy => hq q y (by omega) hy⟩
  have hbb : decide (((i : Nat) : Int) < (l.length : Nat)) = false := decide_eq_false (by omega)
  have hi' : i = l.length := by omega
  rw [hR.2 (okTo_end (hi' ▸ hok))]
  refine W.sx hm hF 18 1000 20 [.n 18 13 2 l.length, .b 18 13 3 false] [decide (((i : Nat) : Int) < (l.length : Nat)) = false, l.length * 2 = (l.flatMap keyC).length, 0 < 2] (.exit 4) [(2, I .i64 most)] [.dead, .dead, .dead] (by kernel_rfl) ⟨hbb, Eq.symm (fm_len (c := keyC) (fun _ => rfl) _), by decide, trivial⟩ (fun σ h => W.weaken h ?_)
  exact W.sxR hm hF 18 1000 20 [] [] [.tmp 6] .ret (B true) (by kernel_rfl) trivial (fun σ xs h1 h2 => retK.mk (.inl rfl) h1 h2)
theorem w_rCheck (a b c d : List Key) (ha : a.length ≤ 1048576) (hb : b.length ≤ 1048576) (hc : c.length ≤ 1048576) (hd : d.length ≤ 1048576) : Spec0 Try.prog 9 [.agg [KL a, KL b, KL c, KL d]] (I .i64 (if checkV a b c d = true then 0 else 190)) := by
  have h1 := w_rright 16777215 a b ha hb
  have h2 := w_rright 65535 c d hc hd
  unfold checkV
  cases e1 : rightV 16777215 a b
  · rw [e1] at h1; exact rck_1 a b c d h1
  · rw [e1] at h1
    cases e2 : rightV 65535 c d
    · rw [e2] at h2; exact rck_2 a b c d h1 h2
    · rw [e2] at h2; exact rck_3 a b c d h1 h2

end Go.Proofs.Ytlfedjannhceaaa
