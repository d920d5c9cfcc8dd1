/-
  The plain law of KeysStay: what was updated is right, once more it is the same, a name that stays keeps its number.
-/
import Derived.Test.YtlfedjannhceaaaAPU2
set_option linter.unusedVariables false
set_option linter.unusedSimpArgs false
set_option maxRecDepth 100000
namespace Go.Proofs.Ytlfedjannhceaaa
open Go Go.SL Go.Proofs
theorem nfree_ge (hs : List Int) : ∀ n : Int, n ≤ nfree hs n := by
  intro n
  generalize hm : cntN hs n = m
  induction m using Nat.strongRecOn generalizing n with
  | _ m ih =>
    by_cases hi : n ∈ hs
    · rw [nfree_in hi]
      have := ih (cntN hs (n + 1)) (hm ▸ cntN_lt hi) (n + 1) rfl
      omega
    · rw [nfree_out hi]; omega
theorem giveL_next : ∀ (l : List Key) (hs : List Int) (nx : Int), nx ≤ (giveL hs nx l).2.1
  | [], _, _ => Int.le_refl _
  | k :: l, hs, nx => by
    unfold giveL
    split
    · exact giveL_next l hs nx
    · exact Int.le_trans (nfree_ge hs nx) (giveL_next l _ _)
/-- What a kind's keys are before they are sorted: their names do not depend on the old ones. -/
def nmStep (kind : Int) (x : List ByteArray) (r : Rw) : List ByteArray := if (r.kind != kind) = true ∨ (x.any fun a => a == r.name) = true then x else x ++ [r.name]
theorem stay_nm (old : List Key) (kind : Int) : ∀ (rows : List Rw) (x : List Int × List Key), (rows.foldl (stayStep old kind) x).2.map (·.name) = rows.foldl (nmStep kind) (x.2.map (·.name))
  | [], _ => rfl
  | r :: rows, x => by
    rw [List.foldl_cons, List.foldl_cons, stay_nm old kind rows]
    congr 1
    unfold stayStep nmStep
    have e : ((x.2.map (·.name)).any fun a => a == r.name) = (x.2.any fun a => a.name == r.name) := by rw [List.any_map]; rfl
    rw [e]
    split <;> simp
theorem stay_val (old : List Key) (kind : Int) : ∀ (rows : List Rw) (x : List Int × List Key), (∀ k ∈ x.2, k.num = (findV old k.name).1 ∧ k.num ∈ x.1) → ∀ k ∈ (rows.foldl (stayStep old kind) x).2, k.num = (findV old k.name).1 ∧ k.num ∈ (rows.foldl (stayStep old kind) x).1
  | [], _, h => h
  | r :: rows, x, h => by
    rw [List.foldl_cons]
    refine stay_val old kind rows _ ?_
    unfold stayStep
    split
    · exact h
    · intro k hk
      simp only [hadAdd]
      rcases List.mem_append.1 hk with hk | hk
      · refine ⟨(h k hk).1, ?_⟩
        split
        · exact (h k hk).2
        · exact List.mem_append.2 (.inl (h k hk).2)
      · simp only [List.mem_singleton] at hk
        subst hk
        refine ⟨rfl, ?_⟩
        split
        · rename_i hm; exact hm
        · simp
theorem stay_sub (old : List Key) (kind : Int) : ∀ (rows : List Rw) (x : List Int × List Key), ∀ a ∈ x.1, a ∈ (rows.foldl (stayStep old kind) x).1
  | [], _, a, h => h
  | r :: rows, x, a, h => by
    rw [List.foldl_cons]
    refine stay_sub old kind rows _ a ?_
    unfold stayStep
    split
    · exact h
    · simp only [hadAdd]
      split
      · exact h
      · exact List.mem_append.2 (.inl h)
theorem chkL_of {most : Int} : ∀ (l : List Key) (hs : List Int), (∀ k ∈ l, 1 ≤ k.num ∧ k.num ≤ most) → (l.map (·.num)).Nodup → (∀ k ∈ l, k.num ∉ hs) → chkL most hs l = some (hs ++ l.map (·.num))
  | [], hs, _, _, _ => by simp [chkL]
  | k :: l, hs, h1, h2, h3 => by
    have a1 := h1 k (by simp)
    have a3 := h3 k (by simp)
    unfold chkL
    rw [if_neg (by simp only [not_or]; exact ⟨by omega, by omega, a3⟩)]
    simp only [List.map_cons, List.nodup_cons] at h2
    rw [chkL_of l (hs ++ [k.num]) (fun k hk => h1 k (by simp [hk])) h2.2 (fun b hb hm => by
      rcases List.mem_append.1 hm with hm | hm
      · exact h3 b (by simp [hb]) hm
      · simp only [List.mem_singleton] at hm
        exact h2.1 (by rw [← hm]; exact List.mem_map_of_mem hb))]
    simp
theorem rightV_nodup {most : Int} {a b : List Key} (h : rightV most a b = true) : ((a ++ b).map (·.num)).Nodup := by
  have key : ∀ (l : List Key) (hs hs' : List Int), chkL most hs l = some hs' → hs.Nodup → hs' = hs ++ l.map (·.num) ∧ hs'.Nodup := by
    intro l
    induction l with
    | nil => intro hs hs' h hn; simp only [chkL, Option.some.injEq] at h; subst h; simp [hn]
    | cons k l ih =>
      intro hs hs' h hn
      unfold chkL at h
      split at h
      · simp at h
      · rename_i hh
        simp only [not_or] at hh
        obtain ⟨e, n⟩ := ih (hs ++ [k.num]) hs' h (by
          rw [List.nodup_append]
          refine ⟨hn, by simp, fun a ha b hb e => ?_⟩
          simp only [List.mem_singleton] at hb
          subst hb; subst e
          exact hh.2.2 ha)
        exact ⟨by rw [e]; simp, n⟩
  unfold rightV at h
  simp only [Bool.and_eq_true] at h
  obtain ⟨_, h⟩ := h
  cases ha : chkL most [] a with
  | none => rw [ha] at h; simp at h
  | some hs =>
    rw [ha] at h
    simp only [Bool.and_eq_true] at h
    obtain ⟨e1, n1⟩ := key a [] hs ha (by simp)
    cases hb : chkL most hs b with
    | none => rw [hb] at h; simp at h
    | some hs2 =>
      obtain ⟨e2, n2⟩ := key b hs hs2 hb n1
      rw [e2, e1] at n2
      rw [List.map_append]
      simpa using n2
end Go.Proofs.Ytlfedjannhceaaa
