/-
  The plain law of KeysStay: what was updated is right, once more it is the same, a name that stays keeps its number.
-/
import Derived.Test.YtlfedjannhceaaaAPc
set_option linter.unusedVariables false
set_option linter.unusedSimpArgs false
set_option maxRecDepth 100000
namespace Go.Proofs.Ytlfedjannhceaaa
open Go Go.SL Go.Proofs
def posN (l : List Key) : List Int := (l.filter fun k => decide (k.num > 0)).map (·.num)
theorem posN_cons_pos {k : Key} {l : List Key} (h : k.num > 0) : posN (k :: l) = k.num :: posN l := by
  unfold posN; rw [List.filter_cons, if_pos (by simpa using h)]; rfl
theorem posN_cons_neg {k : Key} {l : List Key} (h : ¬ k.num > 0) : posN (k :: l) = posN l := by
  unfold posN; rw [List.filter_cons, if_neg (by simpa using h)]

theorem nfree_ge (hs : List Int) : ∀ n : Int, n ≤ nfree hs n := by
  intro n
  generalize hm : cntN hs n = m
  induction m using Nat.strongRecOn generalizing n with
  | _ m ih =>
    by_cases hi : n ∈ hs
    · rw [nfree_in hi]
      have := ih (cntN hs (n + 1)) (hm ▸ cntN_lt hi) (n + 1) rfl
      omega
    · rw [nfree_out hi]; omega
theorem giveL_next : ∀ (l : List Key) (hs : List Int) (nx : Int), nx ≤ (giveL hs nx l).2.1
  | [], _, _ => Int.le_refl _
  | k :: l, hs, nx => by
    unfold giveL
    split
    · exact giveL_next l hs nx
    · exact Int.le_trans (nfree_ge hs nx) (giveL_next l _ _)
/-- What is given: apart, among what is had, new or as it was. -/
theorem giveL_all : ∀ (l : List Key) (hs : List Int) (nx : Int), (∀ n ∈ posN l, n ∈ hs) → (posN l).Nodup →
    ((giveL hs nx l).2.2.map (·.num)).Nodup ∧ ∀ n ∈ (giveL hs nx l).2.2.map (·.num), n ∈ (giveL hs nx l).1 ∧ (n ∈ posN l ∨ n ∉ hs ∧ nx ≤ n ∧ n ≤ (giveL hs nx l).2.1)
  | [], _, _, _, _ => by simp [giveL]
  | k :: l, hs, nx, h, hn => by
    by_cases hk : k.num > 0
    · rw [posN_cons_pos hk] at h hn ⊢
      have ih := giveL_all l hs nx (fun n hn' => h n (by simp [hn'])) (List.nodup_cons.1 hn).2
      unfold giveL
      rw [if_pos hk]
      simp only [List.map_cons, List.nodup_cons, List.mem_cons]
      refine ⟨⟨fun hm => ?_, ih.1⟩, fun n hm => ?_⟩
      · rcases (ih.2 _ hm).2 with h1 | h1
        · exact (List.nodup_cons.1 hn).1 h1
        · exact h1.1 (h _ (by simp))
      · rcases hm with rfl | hm
        · exact ⟨giveL_sub l _ _ _ (h _ (by simp)), .inl (.inl rfl)⟩
        · have := ih.2 n hm
          exact ⟨this.1, this.2.elim (fun h => .inl (.inr h)) .inr⟩
    · rw [posN_cons_neg hk] at h hn ⊢
      have ih := giveL_all l (hs ++ [nfree hs nx]) (nfree hs nx) (fun n hn' => List.mem_append.2 (.inl (h n hn'))) hn
      unfold giveL
      rw [if_neg hk]
      simp only [List.map_cons, List.nodup_cons, List.mem_cons]
      have hge := nfree_ge hs nx
      refine ⟨⟨fun hm => ?_, ih.1⟩, fun n hm => ?_⟩
      · rcases (ih.2 _ hm).2 with h1 | h1
        · exact nfree_not hs nx (h _ h1)
        · exact h1.1 (by simp)
      · rcases hm with rfl | hm
        · exact ⟨giveL_sub l _ _ _ (by simp), .inr ⟨nfree_not hs nx, hge, giveL_next l _ _⟩⟩
        · have := ih.2 n hm
          refine ⟨this.1, this.2.elim .inl fun h1 => .inr ⟨fun h' => h1.1 (List.mem_append.2 (.inl h')), by omega, h1.2.2⟩⟩
/-- Numbers that are there stay. -/
theorem giveL_keep : ∀ (l : List Key) (hs : List Int) (nx : Int) (i : Nat) (k : Key), (giveL hs nx l).2.2[i]? = some k → ∃ s, l[i]? = some s ∧ k.name = s.name ∧ (s.num > 0 → k.num = s.num)
  | [], _, _, i, k, h => by simp [giveL] at h
  | a :: l, hs, nx, i, k, h => by
    unfold giveL at h
    split at h
    · cases i with
      | zero => simp only [List.getElem?_cons_zero, Option.some.injEq] at h; subst h; exact ⟨_, rfl, rfl, fun _ => rfl⟩
      | succ i => simpa using giveL_keep l _ _ i k (by simpa using h)
    · rename_i hn
      cases i with
      | zero => simp only [List.getElem?_cons_zero, Option.some.injEq] at h; subst h; exact ⟨_, rfl, rfl, fun h => absurd h hn⟩
      | succ i => simpa using giveL_keep l _ _ i k (by simpa using h)
theorem giveL_same : ∀ (l : List Key) (hs : List Int) (nx : Int), (∀ k ∈ l, k.num > 0) → giveL hs nx l = (hs, nx, l)
  | [], _, _, _ => rfl
  | k :: l, hs, nx, h => by
    unfold giveL
    rw [if_pos (h k (by simp)), giveL_same l hs nx fun k hk => h k (by simp [hk])]
/-- What a kind's keys are before they are sorted: their names do not depend on the old ones. -/
def nmStep (kind : Int) (x : List ByteArray) (r : Rw) : List ByteArray := if (r.kind != kind) = true ∨ (x.any fun a => a == r.name) = true then x else x ++ [r.name]
theorem stay_nm (old : List Key) (kind : Int) : ∀ (rows : List Rw) (x : List Int × List Key), (rows.foldl (stayStep old kind) x).2.map (·.name) = rows.foldl (nmStep kind) (x.2.map (·.name))
  | [], _ => rfl
  | r :: rows, x => by
    rw [List.foldl_cons, List.foldl_cons, stay_nm old kind rows]
    congr 1
    unfold stayStep nmStep
    have e : ((x.2.map (·.name)).any fun a => a == r.name) = (x.2.any fun a => a.name == r.name) := by rw [List.any_map]; rfl
    rw [e]
    split <;> simp
theorem stay_val (old : List Key) (kind : Int) : ∀ (rows : List Rw) (x : List Int × List Key), (∀ k ∈ x.2, k.num = (findV old k.name).1 ∧ k.num ∈ x.1) → ∀ k ∈ (rows.foldl (stayStep old kind) x).2, k.num = (findV old k.name).1 ∧ k.num ∈ (rows.foldl (stayStep old kind) x).1
  | [], _, h => h
  | r :: rows, x, h => by
    rw [List.foldl_cons]
    refine stay_val old kind rows _ ?_
    unfold stayStep
    split
    · exact h
    · intro k hk
      simp only [hadAdd]
      rcases List.mem_append.1 hk with hk | hk
      · refine ⟨(h k hk).1, ?_⟩
        split
        · exact (h k hk).2
        · exact List.mem_append.2 (.inl (h k hk).2)
      · simp only [List.mem_singleton] at hk
        subst hk
        refine ⟨rfl, ?_⟩
        split
        · rename_i hm; exact hm
        · simp
theorem stay_sub (old : List Key) (kind : Int) : ∀ (rows : List Rw) (x : List Int × List Key), ∀ a ∈ x.1, a ∈ (rows.foldl (stayStep old kind) x).1
  | [], _, a, h => h
  | r :: rows, x, a, h => by
    rw [List.foldl_cons]
    refine stay_sub old kind rows _ a ?_
    unfold stayStep
    split
    · exact h
    · simp only [hadAdd]
      split
      · exact h
      · exact List.mem_append.2 (.inl h)
theorem map_inj {α β : Type} {f : α → β} : ∀ {l : List α}, (l.map f).Nodup → ∀ {a b : α}, a ∈ l → b ∈ l → f a = f b → a = b
  | [], _, a, b, h, _, _ => by simp at h
  | c :: l, hn, a, b, ha, hb, e => by
    simp only [List.map_cons, List.nodup_cons, List.mem_map, not_exists, not_and] at hn
    rcases List.mem_cons.1 ha with h1 | ha2 <;> rcases List.mem_cons.1 hb with h2 | hb2
    · rw [h1, h2]
    · rw [h1] at e; exact absurd e.symm (hn.1 b hb2)
    · rw [h2] at e; exact absurd e (hn.1 a ha2)
    · exact map_inj hn.2 ha2 hb2 e
theorem findV_pos {l : List Key} {x : ByteArray} (h : (findV l x).1 > 0) : ∃ k ∈ l, k.name = x ∧ k.num = (findV l x).1 := by
  unfold findV at h ⊢
  cases hf : fi (fun a : Key => a.name == x) l 0 with
  | none => rw [hf] at h; simp at h
  | some i =>
    obtain ⟨_, _, k, h3, h4⟩ := fi_some hf
    simp only [Nat.sub_zero] at h3
    refine ⟨k, List.mem_of_getElem? h3, baEq h4, ?_⟩
    simp only [h3, Option.map_some, Option.getD_some]
theorem findV_mem {l : List Key} (hn : (l.map (·.name)).Nodup) {k : Key} (hk : k ∈ l) : findV l k.name = (k.num, true) := by
  unfold findV
  cases hf : fi (fun a : Key => a.name == k.name) l 0 with
  | none =>
    have := fi_none hf k hk
    simp [bself] at this
  | some i =>
    obtain ⟨_, _, b, h3, h4⟩ := fi_some hf
    simp only [Nat.sub_zero] at h3
    have : b = k := map_inj hn (List.mem_of_getElem? h3) hk (baEq h4)
    simp only [h3, Option.map_some, Option.getD_some, this]
theorem posN_mem {l : List Key} {n : Int} (h : n ∈ posN l) : ∃ k ∈ l, k.num > 0 ∧ k.num = n := by
  unfold posN at h
  obtain ⟨k, hk, e⟩ := List.mem_map.1 h
  have := List.mem_filter.1 hk
  exact ⟨k, this.1, by simpa using this.2, e⟩
theorem posN_nodup {old : List Key} (ho : (old.map (·.num)).Nodup) : ∀ {l : List Key}, (l.map (·.name)).Nodup → (∀ k ∈ l, k.num = (findV old k.name).1) → (posN l).Nodup
  | [], _, _ => by simp [posN]
  | k :: l, hn, hv => by
    have ih := posN_nodup ho (l := l) (List.nodup_cons.1 (by simpa using hn)).2 fun k hk => hv k (by simp [hk])
    by_cases hk : k.num > 0
    · rw [posN_cons_pos hk, List.nodup_cons]
      refine ⟨fun hm => ?_, ih⟩
      obtain ⟨k2, h1, h2, h3⟩ := posN_mem hm
      have e1 := hv k (by simp)
      have e2 := hv k2 (by simp [h1])
      obtain ⟨q, q1, q2, q3⟩ := findV_pos (l := old) (x := k.name) (by omega)
      obtain ⟨p, p1, p2, p3⟩ := findV_pos (l := old) (x := k2.name) (by omega)
      have : q = p := map_inj ho q1 p1 (by omega)
      have e3 : k.name = k2.name := by rw [← q2, ← p2, this]
      simp only [List.map_cons, List.nodup_cons] at hn
      exact hn.1 (by rw [e3]; exact List.mem_map_of_mem h1)
    · rw [posN_cons_neg hk]; exact ih
theorem posN_perm {l l' : List Key} (h : l.Perm l') : (posN l).Perm (posN l') := by unfold posN; exact (h.filter _).map _
theorem risP_of : ∀ {l : List Key} {p : Option Key}, l.Pairwise (fun a b => leN a b = true) → (l.map (·.name)).Nodup → (∀ q, p = some q → ∀ k ∈ l, leN q k = true ∧ q.name ≠ k.name) → risP p l = true
  | [], p, _, _, _ => by cases p <;> rfl
  | k :: l, p, hs, hn, hp => by
    have h1 : risP (some k) l = true := risP_of (List.pairwise_cons.1 hs).2 (List.nodup_cons.1 (by simpa using hn)).2 fun q e b hb => by
      injection e with e; subst e
      refine ⟨(List.pairwise_cons.1 hs).1 b hb, fun e => ?_⟩
      simp only [List.map_cons, List.nodup_cons] at hn
      exact hn.1 (by rw [e]; exact List.mem_map_of_mem hb)
    cases p with
    | none => show (true && risP (some k) l) = true; rw [h1]; rfl
    | some q =>
      show ((!leqS k.name q.name) && risP (some k) l) = true
      rw [h1]
      obtain ⟨h2, h3⟩ := hp q rfl k (by simp)
      have h4 : leqS k.name q.name = false := by
        unfold leqS
        unfold leN ltN at h2
        have h5 : Op.bytesLess k.name.toList q.name.toList = false := by simpa using h2
        rw [h5, Bool.false_or, ← beq_toListBytes]
        cases hb : (k.name == q.name)
        · rfl
        · exact absurd (baEq hb).symm h3
      rw [h4]; rfl
theorem risV_of {l : List Key} (hs : l.Pairwise fun a b => leN a b = true) (hn : (l.map (·.name)).Nodup) : risV l = true := risP_of hs hn (fun q e => by simp at e)
theorem chkL_of {most : Int} : ∀ (l : List Key) (hs : List Int), (∀ k ∈ l, 1 ≤ k.num ∧ k.num ≤ most) → (l.map (·.num)).Nodup → (∀ k ∈ l, k.num ∉ hs) → chkL most hs l = some (hs ++ l.map (·.num))
  | [], hs, _, _, _ => by simp [chkL]
  | k :: l, hs, h1, h2, h3 => by
    have a1 := h1 k (by simp)
    have a3 := h3 k (by simp)
    unfold chkL
    rw [if_neg (by simp only [not_or]; exact ⟨by omega, by omega, a3⟩)]
    simp only [List.map_cons, List.nodup_cons] at h2
    rw [chkL_of l (hs ++ [k.num]) (fun k hk => h1 k (by simp [hk])) h2.2 (fun b hb hm => by
      rcases List.mem_append.1 hm with hm | hm
      · exact h3 b (by simp [hb]) hm
      · simp only [List.mem_singleton] at hm
        exact h2.1 (by rw [← hm]; exact List.mem_map_of_mem hb))]
    simp
theorem rightV_of {most : Int} {a b : List Key} (sa : a.Pairwise fun a b => leN a b = true) (sb : b.Pairwise fun a b => leN a b = true) (na : (a.map (·.name)).Nodup) (nb : (b.map (·.name)).Nodup) (ha : ∀ k ∈ a, 1 ≤ k.num ∧ k.num ≤ most) (hb : ∀ k ∈ b, 1 ≤ k.num ∧ k.num ≤ most) (hn : ((a ++ b).map (·.num)).Nodup) : rightV most a b = true := by
  rw [List.map_append, List.nodup_append] at hn
  unfold rightV
  rw [risV_of sa na, chkL_of a [] ha hn.1 (by simp), Bool.true_and]
  simp only [List.nil_append]
  rw [risV_of sb nb, chkL_of b (a.map (·.num)) hb hn.2.1 (fun k hk hm => hn.2.2 _ hm _ (List.mem_map_of_mem hk) rfl)]
  rfl
/-- What is known of a pair of lists behind an Update. -/
theorem pair_facts {a b : List Key} {ka kb : Int} {rows : List Rw} {most : Int} {u1 u2 : List Key} (h : pairV a b ka kb rows most = some (u1, u2)) (hab : ((a ++ b).map (·.num)).Nodup) (ha : ∀ k ∈ a, 1 ≤ k.num ∧ k.num ≤ most) (hb : ∀ k ∈ b, 1 ≤ k.num ∧ k.num ≤ most) :
    ((u1 ++ u2).map (·.num)).Nodup ∧ (∀ k ∈ u1, 1 ≤ k.num ∧ k.num ≤ most) ∧ (∀ k ∈ u2, 1 ≤ k.num ∧ k.num ≤ most) ∧
    (∃ hs nx, u1 = (giveL hs nx (sortK (stayF a ka [] rows).2)).2.2) ∧ (∃ hs nx, u2 = (giveL hs nx (sortK (stayF b kb (stayF a ka [] rows).1 rows).2)).2.2) := by
  unfold pairV at h
  simp only at h
  split at h
  · rename_i hm
    simp only [Option.some.injEq, Prod.mk.injEq] at h
    obtain ⟨e1, e2⟩ := h
    rw [List.map_append, List.nodup_append] at hab
    have v1 := stay_val a ka rows ([], []) (by simp)
    have v2 := stay_val b kb rows ((stayF a ka [] rows).1, []) (by simp)
    have n1 := stay_names a ka rows ([], []) (by simp)
    have n2 := stay_names b kb rows ((stayF a ka [] rows).1, []) (by simp)
    have sub := stay_sub b kb rows ((stayF a ka [] rows).1, [])
    change (∀ k ∈ (stayF a ka [] rows).2, k.num = (findV a k.name).1 ∧ k.num ∈ (stayF a ka [] rows).1) at v1
    change (∀ k ∈ (stayF b kb (stayF a ka [] rows).1 rows).2, k.num = (findV b k.name).1 ∧ k.num ∈ (stayF b kb (stayF a ka [] rows).1 rows).1) at v2
    change ((stayF a ka [] rows).2.map (·.name)).Nodup at n1
    change ((stayF b kb (stayF a ka [] rows).1 rows).2.map (·.name)).Nodup at n2
    change (∀ x ∈ (stayF a ka [] rows).1, x ∈ (stayF b kb (stayF a ka [] rows).1 rows).1) at sub
    obtain ⟨x1, hx1⟩ : ∃ x, x = stayF a ka [] rows := ⟨_, rfl⟩
    rw [← hx1] at v1 v2 n1 n2 sub hm e1 e2 ⊢
    obtain ⟨x2, hx2⟩ : ∃ x, x = stayF b kb x1.1 rows := ⟨_, rfl⟩
    rw [← hx2] at v2 n2 sub hm e1 e2 ⊢
    have p1 := posN_perm (sortK_perm x1.2)
    have p2 := posN_perm (sortK_perm x2.2)
    have q1 : (posN (sortK x1.2)).Nodup := p1.nodup_iff.2 (posN_nodup hab.1 n1 fun k hk => (v1 k hk).1)
    have q2 : (posN (sortK x2.2)).Nodup := p2.nodup_iff.2 (posN_nodup hab.2.1 n2 fun k hk => (v2 k hk).1)
    -- where the numbers that are there come from
    have f1 : ∀ n ∈ posN (sortK x1.2), n ∈ x2.1 ∧ ∃ k ∈ a, k.num = n := fun n hn => by
      obtain ⟨k, g1, g2, g3⟩ := posN_mem (p1.mem_iff.1 hn)
      obtain ⟨q, h1, h2, h3⟩ := findV_pos (l := a) (x := k.name) (by have := (v1 k g1).1; omega)
      exact ⟨sub _ (by rw [← g3]; exact (v1 k g1).2), q, h1, by have := (v1 k g1).1; omega⟩
    have f2 : ∀ n ∈ posN (sortK x2.2), n ∈ x2.1 ∧ ∃ k ∈ b, k.num = n := fun n hn => by
      obtain ⟨k, g1, g2, g3⟩ := posN_mem (p2.mem_iff.1 hn)
      obtain ⟨q, h1, h2, h3⟩ := findV_pos (l := b) (x := k.name) (by have := (v2 k g1).1; omega)
      exact ⟨by rw [← g3]; exact (v2 k g1).2, q, h1, by have := (v2 k g1).1; omega⟩
    have g1 := giveL_all (sortK x1.2) x2.1 1 (fun n hn => (f1 n hn).1) q1
    have gs := giveL_sub (sortK x1.2) x2.1 1
    have gn := giveL_next (sortK x1.2) x2.1 1
    obtain ⟨y1, hy1⟩ : ∃ y, y = giveL x2.1 1 (sortK x1.2) := ⟨_, rfl⟩
    rw [← hy1] at g1 gs gn hm e1 e2
    have g2 := giveL_all (sortK x2.2) y1.1 y1.2.1 (fun n hn => gs _ (f2 n hn).1) q2
    obtain ⟨y2, hy2⟩ : ∃ y, y = giveL y1.1 y1.2.1 (sortK x2.2) := ⟨_, rfl⟩
    rw [← hy2] at g2 hm e2
    subst e1; subst e2
    refine ⟨?_, fun k hk => ?_, fun k hk => ?_, ⟨_, _, by rw [hy1]⟩, ⟨_, _, by rw [hy2]⟩⟩
    · rw [List.map_append, List.nodup_append]
      refine ⟨g1.1, g2.1, fun m hm1 n hm2 e => ?_⟩
      subst e
      rcases (g2.2 m hm2).2 with h1 | h1
      · obtain ⟨w1, k, w2, w3⟩ := f2 m h1
        rcases (g1.2 m hm1).2 with h2 | h2
        · obtain ⟨_, q, z2, z3⟩ := f1 m h2
          exact hab.2.2 q.num (List.mem_map_of_mem z2) k.num (List.mem_map_of_mem w2) (by omega)
        · exact h2.1 w1
      · exact h1.1 (g1.2 m hm1).1
    · rcases (g1.2 k.num (List.mem_map_of_mem hk)).2 with h1 | h1
      · obtain ⟨_, q, z2, z3⟩ := f1 _ h1
        have := ha q z2; omega
      · omega
    · rcases (g2.2 k.num (List.mem_map_of_mem hk)).2 with h1 | h1
      · obtain ⟨_, q, z2, z3⟩ := f2 _ h1
        have := hb q z2; omega
      · omega
  · simp at h
def leB (a b : ByteArray) : Prop := (!Op.bytesLess b.toList a.toList) = true
theorem leN_names {l : List Key} : l.Pairwise (fun a b => leN a b = true) ↔ (l.map (·.name)).Pairwise leB := by rw [List.pairwise_map]; rfl
theorem given_names {old : List Key} {kind : Int} {hs0 hs : List Int} {nx : Int} {rows : List Rw} {u : List Key} (hu : u = (giveL hs nx (sortK (stayF old kind hs0 rows).2)).2.2) :
    u.map (·.name) = (sortK (stayF old kind hs0 rows).2).map (·.name) ∧ (u.Pairwise fun a b => leN a b = true) ∧ (u.map (·.name)).Nodup := by
  have e : u.map (·.name) = (sortK (stayF old kind hs0 rows).2).map (·.name) := by rw [hu, giveL_names]
  refine ⟨e, ?_, ?_⟩
  · rw [leN_names, e, ← leN_names]; exact sortK_sorted _
  · rw [e]; exact ((sortK_perm _).map (·.name)).nodup_iff.2 (stay_names old kind rows (hs0, []) (by simp))
/-- Once more: the same. -/
theorem again_one {old : List Key} {kind : Int} {hs0 hs hs1 : List Int} {nx : Int} {rows : List Rw} {u : List Key} (hu : u = (giveL hs nx (sortK (stayF old kind hs0 rows).2)).2.2) : sortK (stayF u kind hs1 rows).2 = u := by
  obtain ⟨e1, e2, e3⟩ := given_names hu
  have n2 := stay_names u kind rows (hs1, []) (by simp)
  change ((stayF u kind hs1 rows).2.map (·.name)).Nodup at n2
  have v2 := stay_val u kind rows (hs1, []) (by simp)
  change (∀ k ∈ (stayF u kind hs1 rows).2, k.num = (findV u k.name).1 ∧ k.num ∈ (stayF u kind hs1 rows).1) at v2
  have nm : (stayF u kind hs1 rows).2.map (·.name) = (stayF old kind hs0 rows).2.map (·.name) := by
    have h1 := stay_nm u kind rows (hs1, [])
    have h2 := stay_nm old kind rows (hs0, [])
    exact h1.trans h2.symm
  let f : ByteArray → Key := fun x => ⟨x, (findV u x).1⟩
  have o1 : (stayF u kind hs1 rows).2 = ((stayF u kind hs1 rows).2.map (·.name)).map f := by
    rw [List.map_map]
    conv => lhs; rw [← List.map_id (stayF u kind hs1 rows).2]
    apply List.map_congr_left
    intro k hk
    show k = ⟨k.name, (findV u k.name).1⟩
    rw [← (v2 k hk).1]
  have o2 : u = (u.map (·.name)).map f := by
    rw [List.map_map]
    conv => lhs; rw [← List.map_id u]
    apply List.map_congr_left
    intro k hk
    show k = ⟨k.name, (findV u k.name).1⟩
    rw [findV_mem e3 hk]
  have hp : u.Perm (stayF u kind hs1 rows).2 := by
    rw [o1, nm]
    conv => lhs; rw [o2, e1]
    exact ((sortK_perm _).map (·.name)).map f
  exact (sortK_only n2 hp (e2.imp fun {a b} h => by rw [ltN_cmp]; unfold leN at h; simpa using h)).symm
theorem pair_again {a b : List Key} {ka kb : Int} {rows : List Rw} {most : Int} {u1 u2 : List Key} (hm : 1 ≤ most) (h : pairV a b ka kb rows most = some (u1, u2)) (hab : ((a ++ b).map (·.num)).Nodup) (ha : ∀ k ∈ a, 1 ≤ k.num ∧ k.num ≤ most) (hb : ∀ k ∈ b, 1 ≤ k.num ∧ k.num ≤ most) :
    pairV u1 u2 ka kb rows most = some (u1, u2) ∧ rightV most u1 u2 = true := by
  obtain ⟨f1, f2, f3, ⟨hs1, nx1, f4⟩, ⟨hs2, nx2, f5⟩⟩ := pair_facts h hab ha hb
  constructor
  · unfold pairV
    simp only
    rw [again_one f4, again_one f5, giveL_same _ _ _ (fun k hk => by have := f2 k hk; omega), giveL_same _ _ _ (fun k hk => by have := f3 k hk; omega)]
    simp only
    rw [if_pos ⟨hm, hm⟩]
  · obtain ⟨_, a2, a3⟩ := given_names f4
    obtain ⟨_, b2, b3⟩ := given_names f5
    exact rightV_of a2 b2 a3 b3 f2 f3 f1
/-- A name that stays keeps its number. -/
theorem keep_num {u : List Key} {kind : Int} {hs0 hs : List Int} {nx : Int} {rows : List Rw} {c : List Key} (hu : ∀ k ∈ u, 1 ≤ k.num) (hc : c = (giveL hs nx (sortK (stayF u kind hs0 rows).2)).2.2) {i : Nat} {k : Key} (hk : c[i]? = some k) (hf : (findV u k.name).2 = true) : (findV u k.name).1 = k.num := by
  rw [hc] at hk
  obtain ⟨s, h1, h2, h3⟩ := giveL_keep _ _ _ _ _ hk
  have hs : s ∈ (stayF u kind hs0 rows).2 := (sortK_perm _).mem_iff.1 (List.mem_of_getElem? h1)
  have v := stay_val u kind rows (hs0, []) (by simp)
  have hv := (v s hs).1
  rw [← h2] at hv
  have hpos : (findV u k.name).1 > 0 := by
    unfold findV at hf ⊢
    cases hg : fi (fun a : Key => a.name == k.name) u 0 with
    | none => rw [hg] at hf; simp at hf
    | some j =>
      obtain ⟨_, _, q, q1, _⟩ := fi_some hg
      simp only [Nat.sub_zero] at q1
      simp only [q1, Option.map_some, Option.getD_some]
      have := hu q (List.mem_of_getElem? q1); omega
  rw [h3 (by omega)]; omega
theorem rightV_nodup {most : Int} {a b : List Key} (h : rightV most a b = true) : ((a ++ b).map (·.num)).Nodup := by
  have key : ∀ (l : List Key) (hs hs' : List Int), chkL most hs l = some hs' → hs.Nodup → hs' = hs ++ l.map (·.num) ∧ hs'.Nodup := by
    intro l
    induction l with
    | nil => intro hs hs' h hn; simp only [chkL, Option.some.injEq] at h; subst h; simp [hn]
    | cons k l ih =>
      intro hs hs' h hn
      unfold chkL at h
      split at h
      · simp at h
      · rename_i hh
        simp only [not_or] at hh
        obtain ⟨e, n⟩ := ih (hs ++ [k.num]) hs' h (by
          rw [List.nodup_append]
          refine ⟨hn, by simp, fun a ha b hb e => ?_⟩
          simp only [List.mem_singleton] at hb
          subst hb; subst e
          exact hh.2.2 ha)
        exact ⟨by rw [e]; simp, n⟩
  unfold rightV at h
  simp only [Bool.and_eq_true] at h
  obtain ⟨_, h⟩ := h
  cases ha : chkL most [] a with
  | none => rw [ha] at h; simp at h
  | some hs =>
    rw [ha] at h
    simp only [Bool.and_eq_true] at h
    obtain ⟨e1, n1⟩ := key a [] hs ha (by simp)
    cases hb : chkL most hs b with
    | none => rw [hb] at h; simp at h
    | some hs2 =>
      obtain ⟨e2, n2⟩ := key b hs hs2 hb n1
      rw [e2, e1] at n2
      rw [List.map_append]
      simpa using n2
end Go.Proofs.Ytlfedjannhceaaa
