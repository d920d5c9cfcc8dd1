/-
  Update: what it answers.
-/
import Derived.Test.YtlfedjannhceaaaKUU2
set_option linter.unusedVariables false
set_option linter.unusedSimpArgs false
set_option maxRecDepth 100000
set_option maxHeartbeats 1000000
namespace Go.Proofs.Ytlfedjannhceaaa
open Go Go.SL Go.Proofs
theorem findV_le (l : List Key) (x : ByteArray) (C : Int) (h0 : 0 ≤ C) (h : ∀ k ∈ l, k.num ≤ C) : (findV l x).1 ≤ C := by
  unfold findV
  cases hf : fi (fun a : Key => a.name == x) l 0 with
  | none => exact h0
  | some i =>
    obtain ⟨_, _, k, h3, _⟩ := fi_some hf
    simp only [Nat.sub_zero] at h3
    simp only [h3, Option.map_some, Option.getD_some]
    exact h k (List.mem_of_getElem? h3)
theorem stay_le (old : List Key) (kind : Int) (C : Int) (h0 : 0 ≤ C) (h : ∀ k ∈ old, k.num ≤ C) : ∀ (rows : List Rw) (x : List Int × List Key), (∀ a ∈ x.1, a ≤ C) → ∀ a ∈ (rows.foldl (stayStep old kind) x).1, a ≤ C
  | [], x, hx => hx
  | r :: rows, x, hx => by
    rw [List.foldl_cons]
    refine stay_le old kind C h0 h rows _ ?_
    unfold stayStep
    split
    · exact hx
    · intro a ha
      simp only [hadAdd] at ha
      split at ha
      · exact hx a ha
      · rcases List.mem_append.1 ha with ha | ha
        · exact hx a ha
        · simp only [List.mem_singleton] at ha; subst ha; exact findV_le old _ C h0 h
theorem stay_len (old : List Key) (kind : Int) : ∀ (rows : List Rw) (x : List Int × List Key), (rows.foldl (stayStep old kind) x).2.length ≤ x.2.length + rows.length
  | [], x => Nat.le_refl _
  | r :: rows, x => by
    rw [List.foldl_cons]
    refine Nat.le_trans (stay_len old kind rows _) ?_
    unfold stayStep
    split
    · simp only [List.length_cons]; omega
    · simp only [List.length_append, List.length_cons, List.length_nil]; omega
theorem chkL_num {most : Int} : ∀ {l : List Key} {hs hs' : List Int}, chkL most hs l = some hs' → ∀ k ∈ l, 1 ≤ k.num ∧ k.num ≤ most
  | [], _, _, _ => by simp
  | k :: l, hs, hs', h => by
    unfold chkL at h
    split at h
    · simp at h
    · rename_i hn
      intro a ha
      rcases List.mem_cons.1 ha with rfl | ha
      · simp only [not_or] at hn; omega
      · exact chkL_num h a ha
theorem rightV_num {most : Int} {a b : List Key} (h : rightV most a b = true) : (∀ k ∈ a, 1 ≤ k.num ∧ k.num ≤ most) ∧ ∀ k ∈ b, 1 ≤ k.num ∧ k.num ≤ most := by
  unfold rightV at h
  simp only [Bool.and_eq_true] at h
  obtain ⟨_, h⟩ := h
  cases ha : chkL most [] a with
  | none => rw [ha] at h; simp at h
  | some hs =>
    rw [ha] at h
    simp only [Bool.and_eq_true] at h
    refine ⟨chkL_num ha, ?_⟩
    cases hb : chkL most hs b with
    | none => rw [hb] at h; simp at h
    | some hs2 => exact chkL_num hb
theorem nfree_le {hs : List Int} {C : Int} (h : ∀ a ∈ hs, a ≤ C) : ∀ {n : Int}, n ≤ C + 1 → n ≤ nfree hs n ∧ nfree hs n ≤ C + 1 := by
  intro n
  generalize hm : cntN hs n = m
  induction m using Nat.strongRecOn generalizing n with
  | _ m ih =>
    intro hn
    by_cases hi : n ∈ hs
    · rw [nfree_in hi]
      have := h n hi
      have h2 := ih (cntN hs (n + 1)) (hm ▸ cntN_lt hi) rfl (by omega)
      omega
    · rw [nfree_out hi]; omega
theorem giveL_le : ∀ (l : List Key) (hs : List Int) (nx C : Int), (∀ a ∈ hs, a ≤ C) → 0 ≤ nx → nx ≤ C + 1 → (∀ a ∈ (giveL hs nx l).1, a ≤ C + (l.length : Nat)) ∧ 0 ≤ (giveL hs nx l).2.1 ∧ (giveL hs nx l).2.1 ≤ C + (l.length : Nat) + 1
  | [], hs, nx, C, h, h0, h1 => by simp [giveL]; exact ⟨h, h0, h1⟩
  | k :: l, hs, nx, C, h, h0, h1 => by
    unfold giveL
    split
    · have := giveL_le l hs nx C h h0 h1
      refine ⟨fun a ha => ?_, this.2.1, ?_⟩
      · have := this.1 a ha; simp; omega
      · have := this.2.2; simp only [List.length_cons]; omega
    · obtain ⟨n1, n2⟩ := nfree_le h h1
      have := giveL_le l (hs ++ [nfree hs nx]) (nfree hs nx) (C + 1) (fun a ha => by
        rcases List.mem_append.1 ha with ha | ha
        · have := h a ha; omega
        · simp only [List.mem_singleton] at ha; omega) (by omega) (by omega)
      refine ⟨fun a ha => ?_, this.2.1, ?_⟩
      · have := this.1 a ha; simp only [List.length_cons]; omega
      · have := this.2.2; simp only [List.length_cons]; omega
/-- What is given to the keys of two kinds of rows that share their numbers. -/
def pairV (a b : List Key) (ka kb : Int) (rows : List Rw) (most : Int) : Option (List Key × List Key) :=
  let x1 := stayF a ka [] rows
  let x2 := stayF b kb x1.1 rows
  let g1 := giveL x2.1 1 (sortK x1.2)
  let g2 := giveL g1.1 g1.2.1 (sortK x2.2)
  if g1.2.1 ≤ most ∧ g2.2.1 ≤ most then some (g1.2.2, g2.2.2) else none
def updR (a b c d : List Key) (rows : List Rw) : Option (List Key × List Key × List Key × List Key) :=
  if checkV a b c d = true then match pairV a b 1 3 rows 16777215, pairV c d 2 4 rows 65535 with
    | some (u1, u2), some (u3, u4) => some (u1, u2, u3, u4)
    | _, _ => none
  else none
theorem had_row (hs : List Int) (n : Nat) : rowLt n (hadO hs) = true := by simp only [rowLt, hadC_no, Bool.true_or]
/-- What must come of an Update. -/
def UpdOk (a b c d : List Key) (rows : List Rw) : Prop := match updR a b c d rows with
  | some (u1, u2, u3, u4) => Spec0 Try.prog 10 [.agg [KL a, KL b, KL c, KL d], RL rows] (.tup [.agg [KL u1, KL u2, KL u3, KL u4], I .i64 0])
  | none => Spec0 Try.prog 10 [.agg [KL a, KL b, KL c, KL d], RL rows] (.tup [.agg [.nil, .nil, .nil, .nil], I .i64 190])
theorem w_Update (a b c d : List Key) (rows : List Rw) (ha : a.length ≤ 4611686018427387) (hb : b.length ≤ 4611686018427387) (hc : c.length ≤ 4611686018427387) (hd : d.length ≤ 4611686018427387) (hl0 : rows.length ≤ 1034834473170) : UpdOk a b c d rows := by
  have hck := w_Check a b c d ha hb hc hd
  unfold UpdOk updR
  cases hcv : checkV a b c d
  · rw [hcv] at hck
    exact up_bad a b c d rows hck
  rw [hcv] at hck
  simp only [if_true] at hck ⊢
  unfold checkV at hcv
  simp only [Bool.and_eq_true] at hcv
  obtain ⟨na, nb⟩ := rightV_num hcv.1
  obtain ⟨nc, nd⟩ := rightV_num hcv.2
  unfold pairV
  simp only
  have le1 := stay_le a 1 16777215 (by decide) (fun k hk => (na k hk).2) rows ([], []) (by simp)
  have le2 := stay_le b 3 16777215 (by decide) (fun k hk => (nb k hk).2) rows ((stayF a 1 [] rows).1, []) le1
  have le3 := stay_le c 2 16777215 (by decide) (fun k hk => by have := (nc k hk).2; omega) rows ([], []) (by simp)
  have le4 := stay_le d 4 16777215 (by decide) (fun k hk => by have := (nd k hk).2; omega) rows ((stayF c 2 [] rows).1, []) le3
  have len1 := stay_len a 1 rows ([], [])
  have len2 := stay_len b 3 rows ((stayF a 1 [] rows).1, [])
  have len3 := stay_len c 2 rows ([], [])
  have len4 := stay_len d 4 rows ((stayF c 2 [] rows).1, [])
  have t1 := stay_at (hp := [.row 1 [KL a, KL b, KL c, KL d], .row 1 [.nil, .nil, .nil, .nil], hadO [], .row 1 [.mp 2, I .i64 1, I .i64 16777215], hadO [], .row 1 [.mp 4, I .i64 1, I .i64 65535]]) (m := 2) (p := 3) a rows 1 1 16777215 [] hl0 ha rfl rfl (by decide)
  change (∀ x ∈ (stayF a 1 [] rows).1, _) at le1
  change (∀ x ∈ (stayF b 3 (stayF a 1 [] rows).1 rows).1, _) at le2
  change (∀ x ∈ (stayF c 2 [] rows).1, _) at le3
  change (∀ x ∈ (stayF d 4 (stayF c 2 [] rows).1 rows).1, _) at le4
  change (stayF a 1 [] rows).2.length ≤ _ at len1
  change (stayF b 3 (stayF a 1 [] rows).1 rows).2.length ≤ _ at len2
  change (stayF c 2 [] rows).2.length ≤ _ at len3
  change (stayF d 4 (stayF c 2 [] rows).1 rows).2.length ≤ _ at len4
  obtain ⟨x1, hx1⟩ : ∃ x, x = stayF a 1 [] rows := ⟨_, rfl⟩
  rw [← hx1] at t1 le1 le2 len1 len2 ⊢
  have t2 := stay_at (hp := [.row 1 [KL a, KL b, KL c, KL d], .row 1 [.nil, .nil, .nil, .nil], hadO x1.1, .row 1 [.mp 2, I .i64 1, I .i64 16777215], hadO [], .row 1 [.mp 4, I .i64 1, I .i64 65535], .row 2 ((sortK x1.2).flatMap keyC)]) (m := 2) (p := 3) b rows 3 1 16777215 x1.1 hl0 hb rfl rfl (by decide)
  obtain ⟨x2, hx2⟩ : ∃ x, x = stayF b 3 x1.1 rows := ⟨_, rfl⟩
  rw [← hx2] at t2 le2 len2 ⊢
  have t3 := stay_at (hp := [.row 1 [KL a, KL b, KL c, KL d], .row 1 [.nil, .nil, .nil, .nil], hadO x2.1, .row 1 [.mp 2, I .i64 1, I .i64 16777215], hadO [], .row 1 [.mp 4, I .i64 1, I .i64 65535], .row 2 ((sortK x1.2).flatMap keyC), .row 2 ((sortK x2.2).flatMap keyC)]) (m := 4) (p := 5) c rows 2 1 65535 [] hl0 hc rfl rfl (by decide)
  obtain ⟨x3, hx3⟩ : ∃ x, x = stayF c 2 [] rows := ⟨_, rfl⟩
  rw [← hx3] at t3 le3 le4 len3 len4 ⊢
  have t4 := stay_at (hp := [.row 1 [KL a, KL b, KL c, KL d], .row 1 [.nil, .nil, .nil, .nil], hadO x2.1, .row 1 [.mp 2, I .i64 1, I .i64 16777215], hadO x3.1, .row 1 [.mp 4, I .i64 1, I .i64 65535], .row 2 ((sortK x1.2).flatMap keyC), .row 2 ((sortK x2.2).flatMap keyC), .row 2 ((sortK x3.2).flatMap keyC)]) (m := 4) (p := 5) d rows 4 1 65535 x3.1 hl0 hd rfl rfl (by decide)
  obtain ⟨x4, hx4⟩ : ∃ x, x = stayF d 4 x3.1 rows := ⟨_, rfl⟩
  rw [← hx4] at t4 le4 len4 ⊢
  have sl : ∀ l : List Key, (sortK l).length = l.length := fun l => (sortK_perm l).length_eq
  obtain ⟨s1, hs1⟩ : ∃ x, x = sortK x1.2 := ⟨_, rfl⟩
  obtain ⟨s2, hs2⟩ : ∃ x, x = sortK x2.2 := ⟨_, rfl⟩
  obtain ⟨s3, hs3⟩ : ∃ x, x = sortK x3.2 := ⟨_, rfl⟩
  obtain ⟨s4, hs4⟩ : ∃ x, x = sortK x4.2 := ⟨_, rfl⟩
  have n1 : s1.length ≤ rows.length := by rw [hs1, sl]; simpa using len1
  have n2 : s2.length ≤ rows.length := by rw [hs2, sl]; simpa using len2
  have n3 : s3.length ≤ rows.length := by rw [hs3, sl]; simpa using len3
  have n4 : s4.length ≤ rows.length := by rw [hs4, sl]; simpa using len4
  rw [← hs1] at t1 t2 t3 t4 ⊢
  rw [← hs2] at t2 t3 t4 ⊢
  rw [← hs3] at t3 t4 ⊢
  rw [← hs4] at t4 ⊢
  have g1 := give_at (hp := [.row 1 [KL a, KL b, KL c, KL d], .row 1 [.nil, .nil, .nil, .nil], hadO x2.1, .row 1 [.mp 2, I .i64 1, I .i64 16777215], hadO x4.1, .row 1 [.mp 4, I .i64 1, I .i64 65535], .row 2 (s1.flatMap keyC), .row 2 (s2.flatMap keyC), .row 2 (s3.flatMap keyC), .row 2 (s4.flatMap keyC), .row 1 [.sl 6 0 s1.length, .sl 7 0 s2.length, .sl 8 0 s3.length, .sl 9 0 s4.length]]) (m := 2) (p := 3) (q := 6) s1 x2.1 1 16777215 16777215 (by decide) le2 (by decide) (by decide) (by omega) rfl rfl rfl (by decide) (by decide) (by decide)
  have b1 := giveL_le s1 x2.1 1 16777215 le2 (by decide) (by decide)
  have l1 := giveL_len s1 x2.1 1
  obtain ⟨y1, hy1⟩ : ∃ y, y = giveL x2.1 1 s1 := ⟨_, rfl⟩
  rw [← hy1] at g1 b1 l1 ⊢
  have g2 := give_at (hp := [.row 1 [KL a, KL b, KL c, KL d], .row 1 [.nil, .nil, .nil, .nil], hadO y1.1, .row 1 [.mp 2, I .i64 y1.2.1, I .i64 16777215], hadO x4.1, .row 1 [.mp 4, I .i64 1, I .i64 65535], .row 2 (y1.2.2.flatMap keyC), .row 2 (s2.flatMap keyC), .row 2 (s3.flatMap keyC), .row 2 (s4.flatMap keyC), .row 1 [.sl 6 0 s1.length, .sl 7 0 s2.length, .sl 8 0 s3.length, .sl 9 0 s4.length]]) (m := 2) (p := 3) (q := 7) s2 y1.1 y1.2.1 16777215 (16777215 + (s1.length : Nat)) (by omega) b1.1 b1.2.1 b1.2.2 (by omega) rfl rfl rfl (by decide) (by decide) (by decide)
  have l2 := giveL_len s2 y1.1 y1.2.1
  obtain ⟨y2, hy2⟩ : ∃ y, y = giveL y1.1 y1.2.1 s2 := ⟨_, rfl⟩
  rw [← hy2] at g2 l2 ⊢
  have g3 := give_at (hp := [.row 1 [KL a, KL b, KL c, KL d], .row 1 [.nil, .nil, .nil, .nil], hadO y2.1, .row 1 [.mp 2, I .i64 y2.2.1, I .i64 16777215], hadO x4.1, .row 1 [.mp 4, I .i64 1, I .i64 65535], .row 2 (y1.2.2.flatMap keyC), .row 2 (y2.2.2.flatMap keyC), .row 2 (s3.flatMap keyC), .row 2 (s4.flatMap keyC), .row 1 [.sl 6 0 s1.length, .sl 7 0 s2.length, .sl 8 0 s3.length, .sl 9 0 s4.length]]) (m := 4) (p := 5) (q := 8) s3 x4.1 1 65535 16777215 (by decide) le4 (by decide) (by decide) (by omega) rfl rfl rfl (by decide) (by decide) (by decide)
  have b3 := giveL_le s3 x4.1 1 16777215 le4 (by decide) (by decide)
  have l3 := giveL_len s3 x4.1 1
  obtain ⟨y3, hy3⟩ : ∃ y, y = giveL x4.1 1 s3 := ⟨_, rfl⟩
  rw [← hy3] at g3 b3 l3 ⊢
  have g4 := give_at (hp := [.row 1 [KL a, KL b, KL c, KL d], .row 1 [.nil, .nil, .nil, .nil], hadO y2.1, .row 1 [.mp 2, I .i64 y2.2.1, I .i64 16777215], hadO y3.1, .row 1 [.mp 4, I .i64 y3.2.1, I .i64 65535], .row 2 (y1.2.2.flatMap keyC), .row 2 (y2.2.2.flatMap keyC), .row 2 (y3.2.2.flatMap keyC), .row 2 (s4.flatMap keyC), .row 1 [.sl 6 0 s1.length, .sl 7 0 s2.length, .sl 8 0 s3.length, .sl 9 0 s4.length]]) (m := 4) (p := 5) (q := 9) s4 y3.1 y3.2.1 65535 (16777215 + (s3.length : Nat)) (by omega) b3.1 b3.2.1 b3.2.2 (by omega) rfl rfl rfl (by decide) (by decide) (by decide)
  have l4 := giveL_len s4 y3.1 y3.2.1
  obtain ⟨y4, hy4⟩ : ∃ y, y = giveL y3.1 y3.2.1 s4 := ⟨_, rfl⟩
  rw [← hy4] at g4 l4 ⊢
  by_cases c1 : y1.2.1 ≤ 16777215
  · rw [decide_eq_true c1] at g1
    by_cases c2 : y2.2.1 ≤ 16777215
    · rw [decide_eq_true c2] at g2
      rw [if_pos ⟨c1, c2⟩]
      by_cases c3 : y3.2.1 ≤ 65535
      · rw [decide_eq_true c3] at g3
        by_cases c4 : y4.2.1 ≤ 65535
        · rw [decide_eq_true c4] at g4
          rw [if_pos ⟨c3, c4⟩]
          exact up_5 a b c d rows hck _ _ _ _ (had_row _) (had_row _) (had_row _) (had_row _) s1 s2 s3 s4 _ _ _ _ _ _ _ _ _ _ _ _ t1 t2 t3 t4 g1 g2 g3 g4 l1 l2 l3 l4
        · rw [decide_eq_false c4] at g4
          rw [if_neg (fun h => c4 h.2)]
          exact up_4 a b c d rows hck _ _ _ _ (had_row _) (had_row _) (had_row _) (had_row _) s1 s2 s3 s4 _ _ _ _ _ _ _ _ _ _ _ _ t1 t2 t3 t4 g1 g2 g3 g4
      · rw [decide_eq_false c3] at g3
        rw [if_neg (fun h => c3 h.1)]
        exact up_3 a b c d rows hck _ _ _ _ (had_row _) (had_row _) (had_row _) (had_row _) s1 s2 s3 s4 _ _ _ (hadO []) _ _ _ (hadO []) _ _ _ [] t1 t2 t3 t4 g1 g2 g3
    · rw [decide_eq_false c2] at g2
      rw [if_neg (fun h => c2 h.2)]
      exact up_2 a b c d rows hck _ _ _ _ (had_row _) (had_row _) (had_row _) (had_row _) s1 s2 s3 s4 _ _ (hadO []) (hadO []) _ _ (hadO []) (hadO []) _ _ [] [] t1 t2 t3 t4 g1 g2
  · rw [decide_eq_false c1] at g1
    rw [if_neg (fun h => c1 h.1)]
    exact up_1 a b c d rows hck _ _ _ _ (had_row _) (had_row _) (had_row _) (had_row _) s1 s2 s3 s4 _ (hadO []) (hadO []) (hadO []) _ (hadO []) (hadO []) (hadO []) _ [] [] [] t1 t2 t3 t4 g1
end Go.Proofs.Ytlfedjannhceaaa
