/-
  The plain law: numbers of new rows are apart; too many rows are needed to run out of them.
-/
import Derived.Test.YtlfedjannhceaaaKVb
set_option linter.unusedVariables false
set_option linter.unusedSimpArgs false
set_option maxRecDepth 100000
namespace Go.Proofs.Ytlfedjannhceaaa
open Go Go.SL Go.Proofs
theorem nfree_not (hs : List Int) : ∀ n : Int, nfree hs n ∉ hs := by
  intro n
  generalize hm : cntN hs n = m
  induction m using Nat.strongRecOn generalizing n with
  | _ m ih =>
    by_cases hi : n ∈ hs
    · rw [nfree_in hi]; exact ih (cntN hs (n + 1)) (hm ▸ cntN_lt hi) (n + 1) rfl
    · rw [nfree_out hi]; exact hi
theorem giveL_names : ∀ (l : List Key) (hs : List Int) (nx : Int), (giveL hs nx l).2.2.map (·.name) = l.map (·.name)
  | [], _, _ => rfl
  | k :: l, hs, nx => by
    unfold giveL
    split <;> simp [giveL_names l]
theorem giveL_sub : ∀ (l : List Key) (hs : List Int) (nx : Int), ∀ a ∈ hs, a ∈ (giveL hs nx l).1
  | [], _, _, a, h => h
  | k :: l, hs, nx, a, h => by
    unfold giveL
    split
    · exact giveL_sub l hs nx a h
    · exact giveL_sub l _ _ a (List.mem_append.2 (.inl h))
/-- Numbers given to keys that have none are apart, and new. -/
theorem giveL_new : ∀ (l : List Key) (hs : List Int) (nx : Int), (∀ k ∈ l, ¬ k.num > 0) → ((giveL hs nx l).2.2.map (·.num)).Nodup ∧ ∀ n ∈ (giveL hs nx l).2.2.map (·.num), n ∉ hs ∧ n ∈ (giveL hs nx l).1
  | [], _, _, _ => by simp [giveL]
  | k :: l, hs, nx, h => by
    have hk := h k (by simp)
    have ih := giveL_new l (hs ++ [nfree hs nx]) (nfree hs nx) (fun k hk => h k (by simp [hk]))
    unfold giveL
    rw [if_neg hk]
    simp only [List.map_cons, List.nodup_cons, List.mem_cons]
    refine ⟨⟨fun hm => ?_, ih.1⟩, fun n hn => ?_⟩
    · exact (ih.2 _ hm).1 (by simp)
    · rcases hn with rfl | hn
      · exact ⟨nfree_not hs nx, giveL_sub l _ _ _ (by simp)⟩
      · have := ih.2 n hn
        exact ⟨fun h' => this.1 (List.mem_append.2 (.inl h')), this.2⟩
theorem giveL_top : ∀ (l : List Key) (hs : List Int) (nx C : Int), (∀ a ∈ hs, a ≤ C) → nx ≤ C + 1 → (giveL hs nx l).2.1 ≤ max nx (C + (l.length : Nat))
  | [], hs, nx, C, h, h1 => by simp only [giveL]; omega
  | k :: l, hs, nx, C, h, h1 => by
    unfold giveL
    split
    · have := giveL_top l hs nx C h h1
      simp only [List.length_cons]; omega
    · obtain ⟨n1, n2⟩ := nfree_le h h1
      have := giveL_top l (hs ++ [nfree hs nx]) (nfree hs nx) (C + 1) (fun a ha => by
        rcases List.mem_append.1 ha with ha | ha
        · have := h a ha; omega
        · simp only [List.mem_singleton] at ha; omega) (by omega)
      simp only [List.length_cons]; omega
theorem stay_zero (kind : Int) : ∀ (rows : List Rw) (x : List Int × List Key), (∀ k ∈ x.2, k.num = 0) → ∀ k ∈ (rows.foldl (stayStep [] kind) x).2, k.num = 0
  | [], x, h => h
  | r :: rows, x, h => by
    rw [List.foldl_cons]
    refine stay_zero kind rows _ ?_
    unfold stayStep
    split
    · exact h
    · intro k hk
      rcases List.mem_append.1 hk with hk | hk
      · exact h k hk
      · simp only [List.mem_singleton] at hk; subst hk; rfl
theorem stay_count (old : List Key) (kind : Int) : ∀ (rows : List Rw) (x : List Int × List Key), (rows.foldl (stayStep old kind) x).2.length ≤ x.2.length + (rows.filter fun r => r.kind == kind).length
  | [], x => by simp
  | r :: rows, x => by
    rw [List.foldl_cons]
    refine Nat.le_trans (stay_count old kind rows _) ?_
    unfold stayStep
    split
    · have : (rows.filter fun r => r.kind == kind).length ≤ ((r :: rows).filter fun r => r.kind == kind).length := by
        rw [List.filter_cons]; split <;> simp
      omega
    · rename_i hn
      simp only [not_or] at hn
      have hk : (r.kind == kind) = true := by
        have := hn.1; simp at this; simp [this]
      rw [List.filter_cons, if_pos hk]
      simp only [List.length_append, List.length_cons, List.length_nil]; omega
theorem two_kinds {ka kb : Int} (h : ka ≠ kb) : ∀ rows : List Rw, (rows.filter fun r => r.kind == ka).length + (rows.filter fun r => r.kind == kb).length ≤ rows.length
  | [] => by simp
  | r :: rows => by
    have ih := two_kinds h rows
    simp only [List.filter_cons]
    by_cases h1 : r.kind = ka
    · have h2 : ¬ r.kind = kb := fun e => h (h1 ▸ e)
      simp only [h1, beq_self_eq_true, if_true, List.length_cons]
      rw [if_neg (by simpa using h)]
      omega
    · rw [if_neg (by simpa using h1)]
      by_cases h2 : r.kind = kb
      · simp only [h2, beq_self_eq_true, if_true, List.length_cons]; omega
      · rw [if_neg (by simpa using h2)]; simp only [List.length_cons]; omega
theorem sortK_zero {l : List Key} (h : ∀ k ∈ l, k.num = 0) : ∀ k ∈ sortK l, ¬ k.num > 0 := fun k hk => by
  rw [h k ((sortK_perm l).mem_iff.1 hk)]; decide
theorem apart_pair {ka kb : Int} {rows : List Rw} {most : Int} {u1 u2 : List Key} (h : pairV [] [] ka kb rows most = some (u1, u2)) :
    ((u1 ++ u2).map (·.num)).Nodup ∧ (u1.map (·.name)).Nodup ∧ u1.length ≤ rows.length ∧ u2.length ≤ rows.length := by
  unfold pairV at h
  simp only at h
  split at h
  · simp only [Option.some.injEq, Prod.mk.injEq] at h
    obtain ⟨rfl, rfl⟩ := h
    have z1 := sortK_zero (stay_zero ka rows ([], []) (by simp))
    have z2 := sortK_zero (stay_zero kb rows ((stayF [] ka [] rows).1, []) (by simp))
    change ∀ k ∈ sortK (stayF [] ka [] rows).2, _ at z1
    change ∀ k ∈ sortK (stayF [] kb (stayF [] ka [] rows).1 rows).2, _ at z2
    have a1 := giveL_new (sortK (stayF [] ka [] rows).2) (stayF [] kb (stayF [] ka [] rows).1 rows).1 1 z1
    have a2 := giveL_new (sortK (stayF [] kb (stayF [] ka [] rows).1 rows).2) (giveL (stayF [] kb (stayF [] ka [] rows).1 rows).1 1 (sortK (stayF [] ka [] rows).2)).1 (giveL (stayF [] kb (stayF [] ka [] rows).1 rows).1 1 (sortK (stayF [] ka [] rows).2)).2.1 z2
    refine ⟨?_, ?_, ?_, ?_⟩
    · rw [List.map_append, List.nodup_append]
      refine ⟨a1.1, a2.1, fun a ha b hb hab => ?_⟩
      subst hab
      exact (a2.2 a hb).1 (a1.2 a ha).2
    · rw [giveL_names]
      exact ((sortK_perm _).map (·.name)).nodup_iff.2 (stay_names [] ka rows ([], []) (by simp))
    · rw [giveL_len, (sortK_perm _).length_eq]
      have := stay_len [] ka rows ([], [])
      simpa [stayF] using this
    · rw [giveL_len, (sortK_perm _).length_eq]
      have := stay_len [] kb rows ((stayF [] ka [] rows).1, [])
      simpa [stayF] using this
  · simp at h
theorem apart_none {ka kb : Int} {rows : List Rw} {most : Int} (hk : ka ≠ kb) (hm : 1 ≤ most) (h : pairV [] [] ka kb rows most = none) : most < (rows.length : Nat) := by
  unfold pairV at h
  simp only at h
  split at h
  · simp at h
  · rename_i hn
    have c1 := stay_count [] ka rows ([], [])
    have c2 := stay_count [] kb rows ((stayF [] ka [] rows).1, [])
    have tk := two_kinds hk rows
    change (stayF [] ka [] rows).2.length ≤ _ at c1
    change (stayF [] kb (stayF [] ka [] rows).1 rows).2.length ≤ _ at c2
    have b1 := stay_le [] ka 0 (by decide) (by simp) rows ([], []) (by simp)
    have b2 := stay_le [] kb 0 (by decide) (by simp) rows ((stayF [] ka [] rows).1, []) b1
    change ∀ a ∈ (stayF [] kb (stayF [] ka [] rows).1 rows).1, _ at b2
    obtain ⟨x1, e1⟩ : ∃ x, x = stayF [] ka [] rows := ⟨_, rfl⟩
    rw [← e1] at hn c1 c2 b2
    obtain ⟨x2, e2⟩ : ∃ x, x = stayF [] kb x1.1 rows := ⟨_, rfl⟩
    rw [← e2] at hn c2 b2
    have t1 := giveL_top (sortK x1.2) x2.1 1 0 b2 (by decide)
    have g1 := giveL_le (sortK x1.2) x2.1 1 0 b2 (by decide) (by decide)
    have t2 := giveL_top (sortK x2.2) (giveL x2.1 1 (sortK x1.2)).1 (giveL x2.1 1 (sortK x1.2)).2.1 (0 + ((sortK x1.2).length : Nat)) g1.1 g1.2.2
    have l1 : (sortK x1.2).length = x1.2.length := (sortK_perm _).length_eq
    have l2 : (sortK x2.2).length = x2.2.length := (sortK_perm _).length_eq
    simp only [List.length_nil, Nat.zero_add] at c1 c2
    omega
theorem baEq {a b : ByteArray} (h : (a == b) = true) : a = b := by
  rw [beq_toListBytes] at h
  have e : a.toList = b.toList := by simpa using h
  have : a.data.toList = b.data.toList := by rw [← Lib.toList_data, ← Lib.toList_data]; exact e
  have h3 := Array.toList_inj.1 this
  cases a; cases b
  simp only at h3
  rw [h3]
/-- A key's number tells a name whose number is that. -/
theorem name_find {l : List Key} (hn : (l.map (·.name)).Nodup) {i : Nat} {k : Key} (hk : l[i]? = some k) : (nameV l k.num).2 = true ∧ findV l (nameV l k.num).1 = (k.num, true) := by
  unfold nameV
  cases hf : fi (fun a : Key => a.num == k.num) l 0 with
  | none =>
    have := fi_none hf k (List.mem_of_getElem? hk)
    simp at this
  | some j =>
    obtain ⟨_, h2, b, h3, h4⟩ := fi_some hf
    simp only [Nat.sub_zero] at h3
    have h4' : b.num = k.num := by simpa using h4
    simp only [h3, Option.map_some, Option.getD_some, true_and]
    unfold findV
    cases hg : fi (fun a : Key => a.name == b.name) l 0 with
    | none =>
      have := fi_none hg b (List.mem_of_getElem? h3)
      simp [bself] at this
    | some q =>
      obtain ⟨_, q2, c, q3, q4⟩ := fi_some hg
      simp only [Nat.sub_zero] at q3
      have q4' : c.name = b.name := baEq q4
      simp only [q3, Option.map_some, Option.getD_some, Prod.mk.injEq, and_true]
      have hq : q = j := by
        have hq1 : q < (l.map (·.name)).length := by simp; omega
        have hj1 : j < (l.map (·.name)).length := by simp; omega
        have e1 : (l.map (·.name))[q]? = some c.name := by rw [List.getElem?_map, q3]; rfl
        have e2 : (l.map (·.name))[j]? = some b.name := by rw [List.getElem?_map, h3]; rfl
        rw [List.getElem?_eq_getElem hq1] at e1
        rw [List.getElem?_eq_getElem hj1] at e2
        have e3 : (l.map (·.name))[q] = (l.map (·.name))[j] := by rw [Option.some.inj e1, Option.some.inj e2, q4']
        have hpw := List.pairwise_iff_getElem.1 hn
        rcases Nat.lt_trichotomy q j with g | g | g
        · exact absurd e3 (hpw _ _ hq1 hj1 g)
        · exact g
        · exact absurd e3.symm (hpw _ _ hj1 hq1 g)
      subst hq
      rw [h3] at q3
      injection q3 with q3
      rw [← q3, h4']
end Go.Proofs.Ytlfedjannhceaaa
