/-
  The plain law of KeysUpdates: the reference's pair of lists is the program's.
-/
import Derived.Test.YtlfedjannhceaaaASU2
import Derived.Test.YtlfedjannhceaaaRCU2
import Derived.Test.YtlfedjannhceaaaRNU2
set_option linter.unusedVariables false
set_option linter.unusedSimpArgs false
set_option maxRecDepth 100000
namespace Go.Proofs.Ytlfedjannhceaaa
open Go Go.SL Go.Proofs
theorem nfree_below (hs : List Int) : ∀ (n j : Int), n ≤ j → j < nfree hs n → j ∈ hs := by
  intro n
  generalize hm : cntN hs n = m
  induction m using Nat.strongRecOn generalizing n with
  | _ m ih =>
    intro j h1 h2
    by_cases hi : n ∈ hs
    · rw [nfree_in hi] at h2
      by_cases e : n = j
      · rw [← e]; exact hi
      · exact ih (cntN hs (n + 1)) (hm ▸ cntN_lt hi) (n + 1) rfl j (by omega) h2
    · rw [nfree_out hi] at h2; omega
theorem nfree_is {hs : List Int} {n m : Int} (h1 : n ≤ m) (h2 : ∀ j, n ≤ j → j < m → j ∈ hs) (h3 : m ∉ hs) : nfree hs n = m := by
  have a := nfree_ge hs n
  have b := nfree_not hs n
  have c := nfree_below hs n
  rcases Int.lt_trichotomy (nfree hs n) m with g | g | g
  · exact absurd (h2 _ a g) b
  · exact g
  · exact absurd (c m h1 g) h3
theorem nfree_same {hs us : List Int} {n : Int} (h : ∀ j, n ≤ j → (j ∈ hs ↔ j ∈ us)) : nfree hs n = nfree us n :=
  nfree_is (nfree_ge us n) (fun j h1 h2 => (h j h1).2 (nfree_below us n j h1 h2)) (fun h1 => nfree_not us n ((h _ (nfree_ge us n)).1 h1))
/-- What the program has of numbers against what the reference has. -/
structure NumR (most : Int) (hs : List Int) (nx : Int) (us : List Int) : Prop where
  mem : ∀ j, 1 ≤ j → (j ∈ hs ↔ j ∈ us)
  free : ∀ j, 1 ≤ j → j < nx → j ∈ hs
  pos : 1 ≤ nx
  ok : (∀ u ∈ us, u ≤ most) ↔ nx ≤ most
theorem NumR.eq {most : Int} {hs us : List Int} {nx : Int} (h : NumR most hs nx us) : nfree us 1 = nfree hs nx := by
  rw [← nfree_same h.mem]
  refine nfree_is (by have := nfree_ge hs nx; have := h.pos; omega) (fun j h1 h2 => ?_) (nfree_not hs nx)
  by_cases hj : j < nx
  · exact h.free j h1 hj
  · exact nfree_below hs nx j (by omega) h2
theorem NumR.next {most : Int} {hs us : List Int} {nx : Int} (h : NumR most hs nx us) : NumR most (hs ++ [nfree hs nx]) (nfree hs nx) (us ++ [nfree us 1]) := by
  have e := h.eq
  have g := nfree_ge hs nx
  have p := h.pos
  refine ⟨fun j hj => ?_, fun j h1 h2 => ?_, by omega, ?_⟩
  · rw [e]; simp only [List.mem_append, List.mem_singleton, h.mem j hj]
  · refine List.mem_append.2 (.inl ?_)
    by_cases hj : j < nx
    · exact h.free j h1 hj
    · exact nfree_below hs nx j (by omega) h2
  · rw [e]
    constructor
    · intro hu; exact hu _ (by simp)
    · intro hn u hu
      rcases List.mem_append.1 hu with hu | hu
      · exact (h.ok.2 (by omega)) u hu
      · simp only [List.mem_singleton] at hu; omega
theorem give_num (a : List Key) (most : Int) : ∀ (x : List ByteArray) (hs us : List Int) (nx : Int) (out : List Key), (∀ n ∈ x, ((findV a n).2 = true ↔ (findV a n).1 > 0)) → NumR most hs nx us →
    (x.foldl (numStep a) (us, out)).2 = out ++ (giveL hs nx (x.map fun n => (⟨n, (findV a n).1⟩ : Key))).2.2 ∧
    NumR most (giveL hs nx (x.map fun n => (⟨n, (findV a n).1⟩ : Key))).1 (giveL hs nx (x.map fun n => (⟨n, (findV a n).1⟩ : Key))).2.1 (x.foldl (numStep a) (us, out)).1
  | [], hs, us, nx, out, _, h => ⟨by simp [giveL], h⟩
  | n :: x, hs, us, nx, out, hf, h => by
    have hn := hf n (by simp)
    have hx : ∀ m ∈ x, ((findV a m).2 = true ↔ (findV a m).1 > 0) := fun m hm => hf m (by simp [hm])
    rw [List.foldl_cons, List.map_cons]
    by_cases hc : (findV a n).2 = true
    · have e : numStep a (us, out) n = (us, out ++ [⟨n, (findV a n).1⟩]) := by unfold numStep; rw [if_pos hc]
      rw [e]
      have ih := give_num a most x hs us nx (out ++ [⟨n, (findV a n).1⟩]) hx h
      unfold giveL
      rw [if_pos (hn.1 hc)]
      refine ⟨?_, ih.2⟩
      rw [ih.1]; simp
    · have e : numStep a (us, out) n = (us ++ [nfree us 1], out ++ [⟨n, nfree us 1⟩]) := by unfold numStep; rw [if_neg hc]
      rw [e]
      have ih := give_num a most x (hs ++ [nfree hs nx]) (us ++ [nfree us 1]) (nfree hs nx) (out ++ [⟨n, nfree us 1⟩]) hx h.next
      unfold giveL
      rw [if_neg (fun g => hc (hn.2 g))]
      refine ⟨?_, ih.2⟩
      rw [ih.1, h.eq]; simp
-- names, rising
def ltB (a b : ByteArray) : Prop := Op.bytesLess a.toList b.toList = true
theorem ltB_lt {a b : ByteArray} : ltB a b ↔ a.toList < b.toList := by unfold ltB; rw [bytesLess_eq]; simp
theorem ltB_trans {a b c : ByteArray} (h1 : ltB a b) (h2 : ltB b c) : ltB a c := by rw [ltB_lt] at *; exact List.lt_trans h1 h2
theorem ltB_irr (a : ByteArray) : ¬ ltB a a := by rw [ltB_lt]; exact List.lt_irrefl _
theorem ltB_of {a b : ByteArray} (h1 : ¬ ltB a b) (h2 : (a.toList == b.toList) = false) : ltB b a := by
  rw [ltB_lt] at *
  have h3 := List.not_lt.1 h1
  rcases List.le_iff_lt_or_eq.1 h3 with h | h
  · exact h
  · rw [h] at h2; simp at h2
theorem toEq {a b : ByteArray} (h : (a.toList == b.toList) = true) : a = b := baEq (by rw [beq_toListBytes]; exact h)
theorem insV_nil (x : ByteArray) : insV x [] = [x] := rfl
theorem insV_cons (x y : ByteArray) (l : List ByteArray) : insV x (y :: l) = if Op.bytesLess y.toList x.toList = true then y :: insV x l else if (y.toList == x.toList) = true then y :: l else x :: y :: l := by
  by_cases h : Op.bytesLess y.toList x.toList = true
  · rw [if_pos h]
    have e : insAt x (y :: l) = insAt x l + 1 := by rw [insAt, if_pos h]
    unfold insV
    rw [e, List.getElem?_cons_succ]
    cases hg : l[insAt x l]? with
    | none => simp
    | some z =>
      simp only
      split <;> simp
  · rw [if_neg h]
    have e : insAt x (y :: l) = 0 := by rw [insAt, if_neg h]
    unfold insV
    rw [e]
    simp
theorem insV_mem (x z : ByteArray) : ∀ l, z ∈ insV x l ↔ z = x ∨ z ∈ l
  | [] => by rw [insV_nil]; simp
  | y :: l => by
    rw [insV_cons]
    split
    · simp only [List.mem_cons, insV_mem x z l]
      constructor
      · rintro (h | h | h) <;> simp [h]
      · rintro (h | h | h) <;> simp [h]
    · split
      · rename_i h
        have := toEq h
        subst this
        simp only [List.mem_cons]
        constructor
        · intro h; exact .inr h
        · rintro (h | h)
          · exact .inl h
          · exact h
      · simp only [List.mem_cons]
theorem insV_sorted (x : ByteArray) : ∀ l, l.Pairwise ltB → (insV x l).Pairwise ltB
  | [], _ => by rw [insV_nil]; simp
  | y :: l, h => by
    rw [insV_cons]
    have h1 := List.pairwise_cons.1 h
    split
    · rename_i hb
      refine List.pairwise_cons.2 ⟨fun z hz => ?_, insV_sorted x l h1.2⟩
      rcases (insV_mem x z l).1 hz with rfl | hz
      · exact hb
      · exact h1.1 z hz
    · split
      · exact h
      · rename_i hb he
        have hxy : ltB x y := ltB_of hb (by simpa using he)
        refine List.pairwise_cons.2 ⟨fun z hz => ?_, h⟩
        rcases List.mem_cons.1 hz with rfl | hz
        · exact hxy
        · exact ltB_trans hxy (h1.1 z hz)
theorem names_sorted (kind : Int) : ∀ (rows : List Rw) (l : List ByteArray), l.Pairwise ltB → (rows.foldl (nmIns kind) l).Pairwise ltB
  | [], _, h => h
  | r :: rows, l, h => by
    rw [List.foldl_cons]
    refine names_sorted kind rows _ ?_
    unfold nmIns
    split
    · exact h
    · exact insV_sorted _ _ h
theorem names_mem (kind : Int) (z : ByteArray) : ∀ (rows : List Rw) (l : List ByteArray), z ∈ rows.foldl (nmIns kind) l ↔ z ∈ l ∨ ∃ r ∈ rows, r.kind = kind ∧ r.name = z
  | [], _ => by simp
  | r :: rows, l => by
    rw [List.foldl_cons, names_mem kind z rows]
    unfold nmIns
    split
    · rename_i h
      have hk : r.kind ≠ kind := by simpa using h
      simp [hk]
    · rename_i h
      have hk : r.kind = kind := by simpa using h
      rw [insV_mem]
      simp only [List.mem_cons, exists_eq_or_imp, hk, true_and]
      constructor
      · rintro ((h | h) | h)
        · exact .inr (.inl h.symm)
        · exact .inl h
        · exact .inr (.inr h)
      · rintro (h | h | h)
        · exact .inl (.inr h)
        · exact .inl (.inl h.symm)
        · exact .inr h
theorem nm_mem (kind : Int) (z : ByteArray) : ∀ (rows : List Rw) (l : List ByteArray), z ∈ rows.foldl (nmStep kind) l ↔ z ∈ l ∨ ∃ r ∈ rows, r.kind = kind ∧ r.name = z
  | [], _ => by simp
  | r :: rows, l => by
    rw [List.foldl_cons, nm_mem kind z rows]
    unfold nmStep
    by_cases hk : r.kind = kind
    · have hk' : ¬ (r.kind != kind) = true := by simpa using hk
      simp only [List.mem_cons, exists_eq_or_imp, hk, true_and]
      by_cases ha : (l.any fun a => a == r.name) = true
      · rw [if_pos (.inr ha)]
        obtain ⟨a, h1, h2⟩ := List.any_eq_true.1 ha
        have h3 : a = r.name := baEq h2
        constructor
        · rintro (h | h)
          · exact .inl h
          · exact .inr (.inr h)
        · rintro (h | h | h)
          · exact .inl h
          · exact .inl (by rw [← h, ← h3]; exact h1)
          · exact .inr h
      · rw [if_neg (by rintro (h | h); (simp [hk] at h); exact ha h)]
        simp only [List.mem_append, List.mem_singleton]
        constructor
        · rintro ((h | h) | h)
          · exact .inl h
          · exact .inr (.inl h.symm)
          · exact .inr (.inr h)
        · rintro (h | h | h)
          · exact .inl (.inl h)
          · exact .inl (.inr h.symm)
          · exact .inr h
    · rw [if_pos (.inl (by simpa using hk))]
      simp [hk]
theorem ltB_nodup : ∀ {l : List ByteArray}, l.Pairwise ltB → l.Nodup := fun {l} h => h.imp fun {a b} h e => by subst e; exact ltB_irr _ h
theorem stay_sorted (old : List Key) (kind : Int) (hs : List Int) (rows : List Rw) : sortK (stayF old kind hs rows).2 = (namesV rows kind).map fun n => (⟨n, (findV old n).1⟩ : Key) := by
  have n2 := stay_names old kind rows (hs, []) (by simp)
  have v2 := stay_val old kind rows (hs, []) (by simp)
  have nm := stay_nm old kind rows (hs, [])
  change ((stayF old kind hs rows).2.map (·.name)).Nodup at n2
  change (∀ k ∈ (stayF old kind hs rows).2, k.num = (findV old k.name).1 ∧ k.num ∈ (stayF old kind hs rows).1) at v2
  change (stayF old kind hs rows).2.map (·.name) = rows.foldl (nmStep kind) [] at nm
  have so := names_sorted kind rows [] (by simp)
  change (namesV rows kind).Pairwise ltB at so
  have o1 : (stayF old kind hs rows).2 = ((stayF old kind hs rows).2.map (·.name)).map fun n => (⟨n, (findV old n).1⟩ : Key) := by
    rw [List.map_map]
    conv => lhs; rw [← List.map_id (stayF old kind hs rows).2]
    apply List.map_congr_left
    intro k hk
    show k = ⟨k.name, (findV old k.name).1⟩
    rw [← (v2 k hk).1]
  refine (sortK_only n2 ?_ ?_).symm
  · rw [o1]
    refine List.Perm.map _ ?_
    refine (List.perm_ext_iff_of_nodup (ltB_nodup so) n2).2 fun z => ?_
    rw [nm, nm_mem]
    unfold namesV
    rw [names_mem]
  · rw [List.pairwise_map]
    refine so.imp fun {a b} h => ?_
    rw [ltN_cmp, ltN_false]
    exact List.le_of_lt (ltB_lt.1 h)
theorem had_mem (old : List Key) (kind : Int) (m : Int) : ∀ (rows : List Rw) (x : List Int × List Key), m ∈ (rows.foldl (stayStep old kind) x).1 → m ∈ x.1 ∨ ∃ r ∈ rows, r.kind = kind ∧ (findV old r.name).1 = m
  | [], x, h => .inl h
  | r :: rows, x, h => by
    rw [List.foldl_cons] at h
    rcases had_mem old kind m rows _ h with h | ⟨q, h1, h2⟩
    · unfold stayStep at h
      split at h
      · exact .inl h
      · rename_i hn
        simp only [not_or] at hn
        have hk : r.kind = kind := by have := hn.1; simpa using this
        simp only [hadAdd] at h
        split at h
        · exact .inl h
        · rcases List.mem_append.1 h with h | h
          · exact .inl h
          · simp only [List.mem_singleton] at h
            exact .inr ⟨r, by simp, hk, h.symm⟩
    · exact .inr ⟨q, by simp [h1], h2⟩
theorem had_iff (old : List Key) (kind : Int) (m : Int) (hs : List Int) (rows : List Rw) : m ∈ (stayF old kind hs rows).1 ↔ m ∈ hs ∨ ∃ n ∈ namesV rows kind, (findV old n).1 = m := by
  constructor
  · intro h
    rcases had_mem old kind m rows (hs, []) h with h | ⟨r, h1, h2, h3⟩
    · exact .inl h
    · refine .inr ⟨r.name, ?_, h3⟩
      unfold namesV
      rw [names_mem]
      exact .inr ⟨r, h1, h2, rfl⟩
  · rintro (h | ⟨n, h1, h2⟩)
    · exact stay_sub old kind rows (hs, []) m h
    · have v2 := stay_val old kind rows (hs, []) (by simp)
      change (∀ k ∈ (stayF old kind hs rows).2, k.num = (findV old k.name).1 ∧ k.num ∈ (stayF old kind hs rows).1) at v2
      have hk : (⟨n, (findV old n).1⟩ : Key) ∈ sortK (stayF old kind hs rows).2 := by rw [stay_sorted]; exact List.mem_map_of_mem h1
      have := (v2 _ ((sortK_perm _).mem_iff.1 hk)).2
      rw [← h2]; exact this
theorem kept_iff (old : List Key) (m : Int) : ∀ (x : List ByteArray) (out : List Int), m ∈ x.foldl (keptStep old) out ↔ m ∈ out ∨ ∃ n ∈ x, (findV old n).2 = true ∧ (findV old n).1 = m
  | [], out => by simp
  | n :: x, out => by
    rw [List.foldl_cons, kept_iff old m x]
    unfold keptStep
    by_cases h : (findV old n).2 = true
    · rw [if_pos h]
      constructor
      · rintro (g | ⟨q, g1, g2⟩)
        · rcases List.mem_append.1 g with g | g
          · exact .inl g
          · exact .inr ⟨n, by simp, h, (List.mem_singleton.1 g).symm⟩
        · exact .inr ⟨q, List.mem_cons_of_mem _ g1, g2⟩
      · rintro (g | ⟨q, g1, g2, g3⟩)
        · exact .inl (List.mem_append.2 (.inl g))
        · rcases List.mem_cons.1 g1 with e | g1
          · subst e; exact .inl (List.mem_append.2 (.inr (by rw [g3]; simp)))
          · exact .inr ⟨q, g1, g2, g3⟩
    · rw [if_neg h]
      constructor
      · rintro (g | ⟨q, g1, g2⟩)
        · exact .inl g
        · exact .inr ⟨q, List.mem_cons_of_mem _ g1, g2⟩
      · rintro (g | ⟨q, g1, g2, g3⟩)
        · exact .inl g
        · rcases List.mem_cons.1 g1 with e | g1
          · subst e; exact absurd g2 h
          · exact .inr ⟨q, g1, g2, g3⟩
theorem find_is {l : List Key} (h : ∀ k ∈ l, 1 ≤ k.num) (x : ByteArray) : (findV l x).2 = true ↔ (findV l x).1 > 0 := by
  unfold findV
  cases hf : fi (fun a : Key => a.name == x) l 0 with
  | none => simp
  | some i =>
    obtain ⟨_, _, k, h3, _⟩ := fi_some hf
    simp only [Nat.sub_zero] at h3
    have := h k (List.mem_of_getElem? h3)
    simp only [h3, Option.map_some, Option.getD_some, true_iff]
    omega
/-- The reference's pair of lists. -/
def rpairV (a b : List Key) (x y : List ByteArray) : List Key × List Key × List Int :=
  let n1 := numF a x (keptV a x ++ keptV b y)
  let n2 := numF b y n1.1
  (n1.2, n2.2, n2.1)
theorem rpair_is {a b : List Key} {ka kb most : Int} {rows : List Rw} (hm : 1 ≤ most) (ha : ∀ k ∈ a, 1 ≤ k.num ∧ k.num ≤ most) (hb : ∀ k ∈ b, 1 ≤ k.num ∧ k.num ≤ most) :
    pairV a b ka kb rows most = if (∀ u ∈ (rpairV a b (namesV rows ka) (namesV rows kb)).2.2, u ≤ most) then some ((rpairV a b (namesV rows ka) (namesV rows kb)).1, (rpairV a b (namesV rows ka) (namesV rows kb)).2.1) else none := by
  obtain ⟨x, hx⟩ : ∃ x, x = namesV rows ka := ⟨_, rfl⟩
  obtain ⟨y, hy⟩ : ∃ y, y = namesV rows kb := ⟨_, rfl⟩
  have fa := find_is (l := a) fun k hk => (ha k hk).1
  have fb := find_is (l := b) fun k hk => (hb k hk).1
  have h0 : NumR most (stayF b kb (stayF a ka [] rows).1 rows).1 1 (keptV a x ++ keptV b y) := by
    refine ⟨fun j hj => ?_, fun j h1 h2 => by omega, Int.le_refl _, ⟨fun _ => hm, fun _ u hu => ?_⟩⟩
    · rw [had_iff, had_iff, ← hx, ← hy, List.mem_append]
      unfold keptV
      rw [kept_iff, kept_iff]
      simp only [List.not_mem_nil, false_or]
      refine or_congr ⟨?_, ?_⟩ ⟨?_, ?_⟩
      · rintro ⟨n, h1, h2⟩; exact ⟨n, h1, (fa n).2 (by omega), h2⟩
      · rintro ⟨n, h1, _, h2⟩; exact ⟨n, h1, h2⟩
      · rintro ⟨n, h1, h2⟩; exact ⟨n, h1, (fb n).2 (by omega), h2⟩
      · rintro ⟨n, h1, _, h2⟩; exact ⟨n, h1, h2⟩
    · rw [List.mem_append] at hu
      unfold keptV at hu
      rw [kept_iff, kept_iff] at hu
      simp only [List.not_mem_nil, false_or] at hu
      rcases hu with ⟨n, _, _, e⟩ | ⟨n, _, _, e⟩
      · rw [← e]; exact findV_le a n most (by omega) fun k hk => (ha k hk).2
      · rw [← e]; exact findV_le b n most (by omega) fun k hk => (hb k hk).2
  unfold pairV rpairV numF
  simp only
  rw [stay_sorted, stay_sorted, ← hx, ← hy]
  obtain ⟨hs, hhs⟩ : ∃ h, h = (stayF b kb (stayF a ka [] rows).1 rows).1 := ⟨_, rfl⟩
  rw [← hhs] at h0 ⊢
  obtain ⟨us, hus⟩ : ∃ h, h = keptV a x ++ keptV b y := ⟨_, rfl⟩
  rw [← hus] at h0 ⊢
  obtain ⟨e1, r1⟩ := give_num a most x hs us 1 [] (fun n _ => fa n) h0
  rw [List.nil_append] at e1
  have le1 := giveL_next (y.map fun n => (⟨n, (findV b n).1⟩ : Key)) (giveL hs 1 (x.map fun n => (⟨n, (findV a n).1⟩ : Key))).1 (giveL hs 1 (x.map fun n => (⟨n, (findV a n).1⟩ : Key))).2.1
  obtain ⟨e2, r2⟩ := give_num b most y _ _ _ [] (fun n _ => fb n) r1
  rw [List.nil_append] at e2
  rw [e1, e2]
  obtain ⟨g1, hg1⟩ : ∃ g, g = giveL hs 1 (x.map fun n => (⟨n, (findV a n).1⟩ : Key)) := ⟨_, rfl⟩
  rw [← hg1] at r2 le1 ⊢
  obtain ⟨g2, hg2⟩ : ∃ g, g = giveL g1.1 g1.2.1 (y.map fun n => (⟨n, (findV b n).1⟩ : Key)) := ⟨_, rfl⟩
  rw [← hg2] at r2 le1 ⊢
  by_cases hc : g2.2.1 ≤ most
  · rw [if_pos ⟨by omega, hc⟩, if_pos (r2.ok.2 hc)]
  · rw [if_neg (fun h => hc h.2), if_neg (fun h => hc (r2.ok.1 h))]
end Go.Proofs.Ytlfedjannhceaaa
