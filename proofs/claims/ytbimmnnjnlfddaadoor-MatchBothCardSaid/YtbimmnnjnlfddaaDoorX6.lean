/-
  The reference's Implies, and Whole of both.
-/
import Derived.Test.YtbimmnnjnlfddaaDoorX5
import Derived.Test.YtbimmnnjnlfddaaDoorSlAa
set_option linter.unusedVariables false
set_option linter.unusedSimpArgs false
set_option maxRecDepth 100000
set_option maxHeartbeats 1000000
namespace Go.Proofs.YtbimmnnjnlfddaaDoor
open Go Go.SL Go.Proofs
def rimp1 (a : List Term) (t : Term) : Bool := !(uandn t.m (tmF a t.f).m != 0) && !(uand (tmF a t.f).v t.m != t.v)
def rimpV (a b : List Term) : Bool := chk 0 a && chk 0 b && b.all (rimp1 a)
theorem all_no {α : Type} {p : α → Bool} {w : List α} {i : Nat} {a : α} (hi : w[i]? = some a) (h : p a = false) : w.all p = false := by
  rw [List.all_eq_false]
  exact ⟨a, List.mem_of_getElem? hi, by simpa using h⟩
theorem all_take {α : Type} {p : α → Bool} {w : List α} {i : Nat} {a : α} (h : (w.take i).all p = true) (hi : w[i]? = some a) : (w.take (i + 1)).all p = p a := by
  rw [List.take_add_one, hi, List.all_append, h]; simp
theorem chk_mem : ∀ {l : List Term} {a : Int}, 0 ≤ a → chk a l = true → ∀ t ∈ l, a < t.f ∧ t.f ≤ 28
  | [], _, _, _, t, h => absurd h (by simp)
  | u :: l, a, h0, hc, t, h => by
    simp only [chk, Bool.and_eq_true, Bool.not_eq_true'] at hc
    have hb : ¬ _ := fun h => by rw [bad_or.2 h] at hc; exact absurd hc.1 (by simp)
    rcases List.mem_cons.1 h with rfl | h
    · omega
    · have := chk_mem (by omega) hc.2 t h; omega
theorem mrg_len : ∀ {a b r : List Term}, mrg a b = some r → r.length ≤ a.length + b.length
  | [], b, r, h => by rw [mrg] at h; injection h with h; subst h; simp
  | t :: a, [], r, h => by rw [mrg_nilR] at h; injection h with h; subst h; simp
  | t :: a, u :: b, r, h => by
    rw [mrg] at h
    split at h
    · obtain ⟨s, h1, rfl⟩ := Option.map_eq_some_iff.1 h
      have := mrg_len h1
      simp only [List.length_cons] at this ⊢; omega
    · split at h
      · obtain ⟨s, h1, rfl⟩ := Option.map_eq_some_iff.1 h
        have := mrg_len h1
        simp only [List.length_cons] at this ⊢; omega
      · split at h
        · simp at h
        · obtain ⟨s, h1, rfl⟩ := Option.map_eq_some_iff.1 h
          have := mrg_len h1
          simp only [List.length_cons] at this ⊢; omega
termination_by a b => a.length + b.length
theorem andV_len (a b : List Term) : (andV a b).1.length ≤ 56 := by
  unfold andV
  cases h : chk 0 a && chk 0 b
  · exact Nat.zero_le _
  · have h0 := Bool.and_eq_true_iff.1 h
    have la := chk_len a 0 (by decide) (by decide) h0.1
    have lb := chk_len b 0 (by decide) (by decide) h0.2
    simp only [cond_true]
    split
    · rename_i r hr; have := mrg_len hr; simp only; omega
    · exact Nat.zero_le _
theorem rgo_len (a b : List Term) : ∀ {n k : Nat} {r : List Term}, rgo a b n k = some r → r.length ≤ n
  | 0, k, r, h => by simp only [rgo, Option.some.injEq] at h; subst h; exact Nat.zero_le _
  | n + 1, k, r, h => by
    simp only [rgo] at h
    cases h1 : clash (tmF a k) (tmF b k)
    · rw [h1] at h
      cases h2 : uor (tmF a k).m (tmF b k).m != 0
      · rw [h2] at h
        have := rgo_len a b (n := n) h; omega
      · rw [h2] at h
        simp only [cond_false, cond_true] at h
        obtain ⟨s, h3, rfl⟩ := Option.map_eq_some_iff.1 h
        have := rgo_len a b h3
        simp only [List.length_cons]; omega
    · rw [h1] at h; simp at h
theorem randV_len (a b : List Term) : (randV a b).1.length ≤ 28 := by
  unfold randV
  cases h : chk 0 a && chk 0 b
  · exact Nat.zero_le _
  · simp only [cond_true]
    split
    · rename_i r hr; exact rgo_len a b hr
    · exact Nat.zero_le _
theorem w_needZ (x : Int) (h1 : 1 ≤ x) (h2 : x ≤ 28) : Spec0 Tryd.prog 19 [I .i64 x] (TL (needs x.toNat)) := by
  obtain ⟨k, rfl⟩ := Int.eq_ofNat_of_zero_le (show 0 ≤ x by omega)
  exact w_need k (by omega) (by omega)
theorem w_rneedZ (x : Int) (h1 : 1 ≤ x) (h2 : x ≤ 28) : Spec0 Tryd.prog 21 [I .i64 x] (TL (needs x.toNat)) := by
  obtain ⟨k, rfl⟩ := Int.eq_ofNat_of_zero_le (show 0 ≤ x by omega)
  exact w_rneed k (by omega) (by omega)
theorem need_len (k : Nat) : (needs k).length ≤ 2 := by unfold needs; split <;> decide
theorem w_RImp (a b : List Term) (hla : a.length ≤ 140737488351232) (hlb : b.length ≤ 140737488351232) : Spec0 Tryd.prog 14 [TL a, TL b] (B (rimpV a b)) := by
  have hca := w_RCheck a hla
  have hcb := w_RCheck b hlb
  refine Spec0.walk Tryd.func14 rfl rfl ?_
  by_cases hab : chk 0 a && chk 0 b
  · have h0 := Bool.and_eq_true_iff.1 hab
    have ea : okC a = 0 := by unfold okC; rw [h0.1]; rfl
    have eb : okC b = 0 := by unfold okC; rw [h0.2]; rfl
    rw [ea] at hca
    rw [eb] at hcb
    have eR : rimpV a b = b.all (rimp1 a) := by unfold rimpV; rw [hab]; rfl
    rw [eR]
    refine W.sxP hm hF 14 2 1000 20 [.c 14 1 1 (I .i64 0), .c 14 1 5 (I .i64 0)] [_, _] [(0, TL a), (1, TL b)] [] (by kernel_rfl) ⟨hcb, hca, trivial⟩ ?_
    refine W.seq ?_
    refine W.seq ?_
    refine W.sx hm hF 14 1000 20 [] [] .normal [(0, TL a), (1, TL b), (5, I .i64 0)] [] (by kernel_rfl) trivial (fun σ h => W.weaken h ?_)
    refine W.block ?_
    refine W.loopD 0 (fun i : Nat => ⟨tbl [(0, TL a), (1, TL b), (5, I .i64 (i : Nat))], []⟩) (fun i => i ≤ b.length ∧ (b.take i).all (rimp1 a) = true) (fun i => b.length - i) 0 ⟨Nat.zero_le _, by simp⟩ rfl (Le.refl _) ?_
    rintro i ⟨hi, ha⟩
    by_cases hlt : i < b.length
    · have hb : decide (((i : Nat) : Int) < (b.length : Nat)) = true := decide_eq_true (by omega)
      obtain ⟨t, hget⟩ : ∃ t, b[i]? = some t := ⟨_, List.getElem?_eq_getElem hlt⟩
      cases q1 : uandn t.m (tmF a t.f).m != 0
      · cases q2 : uand (tmF a t.f).v t.m != t.v
        · exact W.sx hm hF 14 1000 20 [.n 14 4 2 b.length, .b 14 4 3 true, .j 14 6 3 b.length i, .l 14 6 5 (I .i64 t.f), .c 14 6 6 (.agg (tC (tmF a t.f))), .j 14 7 2 b.length i, .l 14 7 4 (I .u64 t.m), .b 14 7 8 false, .j 14 7 14 b.length i, .l 14 7 16 (I .u64 t.m), .j 14 7 20 b.length i, .l 14 7 22 (I .u64 t.v), .b 14 7 23 false, .z 14 5 1 ((i + 1 : Nat) : Int)] [IntKind.i64.wrap (((i : Nat) : Int) + 1) = ((i + 1 : Nat) : Int), (uand (tmF a t.f).v t.m != t.v) = false, (b.flatMap tC)[i * 3 + 1]? = some (I .u64 t.v), b.length * 3 = (b.flatMap tC).length, 0 < 3, ((i : Nat) : Int) = (i : Int), i < b.length, (b.flatMap tC)[i * 3 + 2]? = some (I .u64 t.m), b.length * 3 = (b.flatMap tC).length, 0 < 3, ((i : Nat) : Int) = (i : Int), i < b.length, (uandn t.m (tmF a t.f).m != 0) = false, (b.flatMap tC)[i * 3 + 2]? = some (I .u64 t.m), b.length * 3 = (b.flatMap tC).length, 0 < 3, ((i : Nat) : Int) = (i : Int), i < b.length, Spec0 Tryd.prog 23 [TL a, I .i64 t.f] (.agg (tC (tmF a t.f))), (b.flatMap tC)[i * 3 + 0]? = some (I .i64 t.f), b.length * 3 = (b.flatMap tC).length, 0 < 3, ((i : Nat) : Int) = (i : Int), i < b.length, (decide (((i : Nat) : Int) < (b.length : Nat))) = true, b.length * 3 = (b.flatMap tC).length, 0 < 3] .normal [(0, TL a), (1, TL b), (5, I .i64 (i + 1 : Nat))] [.row 1 (tC (tmF a t.f))] (by kernel_rfl) ⟨i64_n i (by omega), q2, fm_cell tC_len b hget (by decide) rfl, (fm_len tC_len b).symm, by decide, rfl, hlt, fm_cell tC_len b hget (by decide) rfl, (fm_len tC_len b).symm, by decide, rfl, hlt, q1, fm_cell tC_len b hget (by decide) rfl, (fm_len tC_len b).symm, by decide, rfl, hlt, w_term a t.f hla, fm_cell tC_len b hget (by decide) rfl, (fm_len tC_len b).symm, by decide, rfl, hlt, hb, (fm_len tC_len b).symm, by decide, trivial⟩ (fun σ h => ⟨i + 1, ⟨hlt, by rw [all_take ha hget]; simp only [rimp1, q1, q2]; rfl⟩, by omega, LeD.mk rfl rfl h⟩)
        · rw [all_no hget (by simp only [rimp1, q1, q2]; rfl)]
          exact W.sxR hm hF 14 1000 20 [.n 14 4 2 b.length, .b 14 4 3 true, .j 14 6 3 b.length i, .l 14 6 5 (I .i64 t.f), .c 14 6 6 (.agg (tC (tmF a t.f))), .j 14 7 2 b.length i, .l 14 7 4 (I .u64 t.m), .b 14 7 8 false, .j 14 7 14 b.length i, .l 14 7 16 (I .u64 t.m), .j 14 7 20 b.length i, .l 14 7 22 (I .u64 t.v), .b 14 7 23 true] [(uand (tmF a t.f).v t.m != t.v) = true, (b.flatMap tC)[i * 3 + 1]? = some (I .u64 t.v), b.length * 3 = (b.flatMap tC).length, 0 < 3, ((i : Nat) : Int) = (i : Int), i < b.length, (b.flatMap tC)[i * 3 + 2]? = some (I .u64 t.m), b.length * 3 = (b.flatMap tC).length, 0 < 3, ((i : Nat) : Int) = (i : Int), i < b.length, (uandn t.m (tmF a t.f).m != 0) = false, (b.flatMap tC)[i * 3 + 2]? = some (I .u64 t.m), b.length * 3 = (b.flatMap tC).length, 0 < 3, ((i : Nat) : Int) = (i : Int), i < b.length, Spec0 Tryd.prog 23 [TL a, I .i64 t.f] (.agg (tC (tmF a t.f))), (b.flatMap tC)[i * 3 + 0]? = some (I .i64 t.f), b.length * 3 = (b.flatMap tC).length, 0 < 3, ((i : Nat) : Int) = (i : Int), i < b.length, (decide (((i : Nat) : Int) < (b.length : Nat))) = true, b.length * 3 = (b.flatMap tC).length, 0 < 3] [.tmp 4] .ret (B false) (by kernel_rfl) ⟨q2, fm_cell tC_len b hget (by decide) rfl, (fm_len tC_len b).symm, by decide, rfl, hlt, fm_cell tC_len b hget (by decide) rfl, (fm_len tC_len b).symm, by decide, rfl, hlt, q1, fm_cell tC_len b hget (by decide) rfl, (fm_len tC_len b).symm, by decide, rfl, hlt, w_term a t.f hla, fm_cell tC_len b hget (by decide) rfl, (fm_len tC_len b).symm, by decide, rfl, hlt, hb, (fm_len tC_len b).symm, by decide, trivial⟩ (fun σ xs h1 h2 => retK.mk (.inl rfl) h1 h2)
      · rw [all_no hget (by simp only [rimp1, q1]; rfl)]
        exact W.sxR hm hF 14 1000 20 [.n 14 4 2 b.length, .b 14 4 3 true, .j 14 6 3 b.length i, .l 14 6 5 (I .i64 t.f), .c 14 6 6 (.agg (tC (tmF a t.f))), .j 14 7 2 b.length i, .l 14 7 4 (I .u64 t.m), .b 14 7 8 true] [(uandn t.m (tmF a t.f).m != 0) = true, (b.flatMap tC)[i * 3 + 2]? = some (I .u64 t.m), b.length * 3 = (b.flatMap tC).length, 0 < 3, ((i : Nat) : Int) = (i : Int), i < b.length, Spec0 Tryd.prog 23 [TL a, I .i64 t.f] (.agg (tC (tmF a t.f))), (b.flatMap tC)[i * 3 + 0]? = some (I .i64 t.f), b.length * 3 = (b.flatMap tC).length, 0 < 3, ((i : Nat) : Int) = (i : Int), i < b.length, (decide (((i : Nat) : Int) < (b.length : Nat))) = true, b.length * 3 = (b.flatMap tC).length, 0 < 3] [.tmp 4] .ret (B false) (by kernel_rfl) ⟨q1, fm_cell tC_len b hget (by decide) rfl, (fm_len tC_len b).symm, by decide, rfl, hlt, w_term a t.f hla, fm_cell tC_len b hget (by decide) rfl, (fm_len tC_len b).symm, by decide, rfl, hlt, hb, (fm_len tC_len b).symm, by decide, trivial⟩ (fun σ xs h1 h2 => retK.mk (.inl rfl) h1 h2)
    · have hb : decide (((i : Nat) : Int) < (b.length : Nat)) = false := decide_eq_false (by omega)
      have hall : b.all (rimp1 a) = true := by rw [show i = b.length by omega, List.take_length] at ha; exact ha
      rw [hall]
      refine W.sx hm hF 14 1000 20 [.n 14 4 2 b.length, .b 14 4 3 false] [decide (((i : Nat) : Int) < (b.length : Nat)) = false, b.length * 3 = (b.flatMap tC).length, 0 < 3] (.exit 0) [] [] (by kernel_rfl) ⟨hb, (fm_len tC_len b).symm, by decide, trivial⟩ (fun σ h => W.weaken h ?_)
      exact W.sxR hm hF 14 1000 20 [] [] [.tmp 4] .ret (B true) (by kernel_rfl) trivial (fun σ xs h1 h2 => retK.mk (.inl rfl) h1 h2)
  · have hv : rimpV a b = false := by unfold rimpV; rw [Bool.eq_false_iff.2 hab]; rfl
    rw [hv]
    cases h1 : chk 0 a
    · have ea : okC a = 90 := by unfold okC; rw [h1]; rfl
      rw [ea] at hca
      exact W.sxR hm hF 14 1000 20 [.c 14 1 1 (I .i64 90)] [_] [.tmp 4] .ret (B false) (by kernel_rfl) ⟨hca, trivial⟩ (fun σ xs h1 h2 => retK.mk (.inl rfl) h1 h2)
    · have h2 : chk 0 b = false := by simpa [h1] using hab
      have ea : okC a = 0 := by unfold okC; rw [h1]; rfl
      have eb : okC b = 90 := by unfold okC; rw [h2]; rfl
      rw [ea] at hca
      rw [eb] at hcb
      exact W.sxR hm hF 14 1000 20 [.c 14 1 1 (I .i64 0), .c 14 1 5 (I .i64 90)] [_, _] [.tmp 4] .ret (B false) (by kernel_rfl) ⟨hcb, hca, trivial⟩ (fun σ xs h1 h2 => retK.mk (.inl rfl) h1 h2)
def wGo : List Term → List Term → List Term × Bool × Int
  | out, [] => (out, true, 0)
  | out, t :: l => cond (andV out (needs t.f.toNat)).2.1 (wGo (andV out (needs t.f.toNat)).1 l) ([], false, (andV out (needs t.f.toNat)).2.2)
def wholeV (l : List Term) : List Term × Bool × Int := cond (chk 0 l) (wGo l l) ([], false, 90)
def rwGo : List Term → List Term → List Term × Bool × Int
  | out, [] => (out, true, 0)
  | out, t :: l => cond (randV out (needs t.f.toNat)).2.1 (rwGo (randV out (needs t.f.toNat)).1 l) ([], false, 0)
def rwholeV (l : List Term) : List Term × Bool × Int := cond (chk 0 l) (rwGo l l) ([], false, 90)
theorem andV_ok {a b : List Term} (h : (andV a b).2.1 = true) : (andV a b).2.2 = 0 := by
  revert h
  unfold andV
  cases chk 0 a && chk 0 b
  · intro h; simp at h
  · simp only [cond_true]; split <;> intro h <;> first | rfl | simp at h
theorem le_at {out : Env} {hp : List AObj} {σ : SS} {i : Nat} {x : AV} (h : Le ⟨tbl out, hp⟩ σ) (hx : tbl out i = x) (hn : x ≠ .any) : σ.env i = x := by
  rcases h.2 i with h1 | h1
  · exact absurd (hx.symm.trans h1) hn
  · exact h1.symm.trans hx
theorem randV_ok {a b : List Term} (h : (randV a b).2.1 = true) : (randV a b).2.2 = 0 := by
  revert h
  unfold randV
  cases chk 0 a && chk 0 b
  · intro h; simp at h
  · simp only [cond_true]; split <;> intro h <;> first | rfl | simp at h
theorem w_Whole (l : List Term) (hl0 : l.length ≤ 5864062014805) : Spec0 Tryd.prog 7 [TL l] (R3 (wholeV l)) := by
  have hc := w_Check l (by omega)
  refine Spec0.walk Tryd.func7 rfl rfl ?_
  by_cases hk : chk 0 l = true
  · have ea : okC l = 0 := by unfold okC; rw [hk]; rfl
    rw [ea] at hc
    have eR : wholeV l = wGo l l := by unfold wholeV; rw [hk]; rfl
    rw [eR]
    refine W.sxP hm hF 7 2 1000 20 [.c 7 1 1 (I .i64 0)] [_] [(0, TL l)] [] (by kernel_rfl) ⟨hc, trivial⟩ ?_
    refine W.seq ?_
    refine W.frzAll [(0, TL l), (6, TL l)] (W.sx hm hF 7 1000 20 [.p 7 4 2 l.length l.length (l.flatMap tC) (l.flatMap tC)] [l.length * 3 = (l.flatMap tC).length, 0 < 3, (l.flatMap tC).all cellAV = true, l.flatMap tC = l.flatMap tC, 0 + 0 * 3 = ([] : List AV).length, l.length * 24 ≤ 140737488355328, 0 + l.length = l.length, ([] : List AV).drop 0 ++ l.flatMap tC = l.flatMap tC] .normal [(0, TL l), (6, .sl 1 0 l.length)] [.dead, .row 3 (l.flatMap tC)] (by kernel_rfl) ⟨(fm_len tC_len l).symm, by decide, fm_one tC_one l, rfl, rfl, by omega, Nat.zero_add _, rfl, trivial⟩ (fun σ h => ⟨rfl, by rw [le_at (x := TL l) h rfl (fun h => AV.noConfusion h)]; exact .keep rfl, by rw [le_at (x := .sl 1 0 l.length) h rfl (fun h => AV.noConfusion h)]; exact Fz.row (by rw [← h.1]; rfl) (Nat.zero_le _) (fm_len tC_len l) (fm_no tC_no l), trivial⟩)) ?_
    refine W.seq ?_
    refine W.seq ?_
    refine W.sx hm hF 7 1000 20 [.n 7 5 1 l.length] [l.length * 3 = (l.flatMap tC).length, 0 < 3] .normal [(6, TL l), (20, TL l), (21, I .i64 (l.length : Nat)), (22, I .i64 0)] [] (by kernel_rfl) ⟨(fm_len tC_len l).symm, by decide, trivial⟩ (fun σ h => W.weaken h ?_)
    refine W.block ?_
    refine W.loopD 0 (fun x : Nat × List Term => ⟨tbl [(6, TL x.2), (20, TL l), (21, I .i64 (l.length : Nat)), (22, I .i64 (x.1 : Nat))], []⟩) (fun x => x.1 ≤ l.length ∧ x.2.length ≤ 5864062014805 ∧ wGo l l = wGo x.2 (l.drop x.1)) (fun x => l.length - x.1) (0, l) ⟨Nat.zero_le _, hl0, rfl⟩ rfl (Le.refl _) ?_
    rintro ⟨i, out⟩ ⟨hi, hl1, ha⟩
    simp only at hi hl1 ha
    by_cases hlt : i < l.length
    · have hb : decide (((i : Nat) : Int) < (l.length : Nat)) = true := decide_eq_true (by omega)
      obtain ⟨t, hget⟩ : ∃ t, l[i]? = some t := ⟨_, List.getElem?_eq_getElem hlt⟩
      have hf := chk_mem (by decide) hk t (List.mem_of_getElem? hget)
      have hneed := w_needZ t.f (by omega) (by omega)
      have hnl := need_len t.f.toNat
      have hand := w_And out (needs t.f.toNat) (by omega) (by omega)
      rw [drop_get hget, wGo] at ha
      have hlen := andV_len out (needs t.f.toNat)
      have hok := @andV_ok out (needs t.f.toNat)
      generalize (andV out (needs t.f.toNat)) = v at ha hand hlen hok
      obtain ⟨r, ok, er⟩ := v
      simp only at ha hlen hok
      cases ok
      · rw [ha]
        simp only [cond_false]
        exact W.sx hm hF 7 1000 20 [.b 7 6 0 true, .j 7 7 0 l.length i, .l 7 7 1 (.agg (tC t)), .c 7 8 3 (TL (needs t.f.toNat)), .c 7 8 4 (.tup [TL r, B false, I .i64 er])] [Spec0 Tryd.prog 12 [TL out, TL (needs t.f.toNat)] (.tup [TL r, B false, I .i64 er]), Spec0 Tryd.prog 19 [I .i64 t.f] (TL (needs t.f.toNat)), ((l.flatMap tC).drop (i * 3)).take 3 = tC t, i * 3 + 3 ≤ (l.flatMap tC).length, l.length * 3 = (l.flatMap tC).length, 0 < 3, ((i : Nat) : Int) = (i : Int), i < l.length, (decide (((i : Nat) : Int) < (l.length : Nat))) = true] .ret [(2, .nil), (3, B false), (4, I .i64 er)] [.row 1 (tC t)] (by kernel_rfl) ⟨hand, hneed, fm_at tC_len l hget, fm_bound tC_len l hlt, (fm_len tC_len l).symm, by decide, rfl, hlt, hb, trivial⟩ (fun σ h => retK.fzN (.inl rfl) h rfl (.keep rfl) (fun _ _ _ _ => nil_im3))
      · have he := hok rfl
        subst he
        simp only [cond_true] at ha
        exact W.sx hm hF 7 1000 20 [.b 7 6 0 true, .j 7 7 0 l.length i, .l 7 7 1 (.agg (tC t)), .c 7 8 3 (TL (needs t.f.toNat)), .c 7 8 4 (.tup [TL r, B true, I .i64 0]), .z 7 12 0 ((i + 1 : Nat) : Int)] [IntKind.i64.wrap (((i : Nat) : Int) + 1) = ((i + 1 : Nat) : Int), Spec0 Tryd.prog 12 [TL out, TL (needs t.f.toNat)] (.tup [TL r, B true, I .i64 0]), Spec0 Tryd.prog 19 [I .i64 t.f] (TL (needs t.f.toNat)), ((l.flatMap tC).drop (i * 3)).take 3 = tC t, i * 3 + 3 ≤ (l.flatMap tC).length, l.length * 3 = (l.flatMap tC).length, 0 < 3, ((i : Nat) : Int) = (i : Int), i < l.length, (decide (((i : Nat) : Int) < (l.length : Nat))) = true] .normal [(6, TL r), (20, TL l), (21, I .i64 (l.length : Nat)), (22, I .i64 (i + 1 : Nat))] [.row 1 (tC t)] (by kernel_rfl) ⟨i64_n i (by omega), hand, hneed, fm_at tC_len l hget, fm_bound tC_len l hlt, (fm_len tC_len l).symm, by decide, rfl, hlt, hb, trivial⟩ (fun σ h => ⟨(i + 1, r), ⟨hlt, by simp only; omega, ha⟩, by simp only; omega, LeD.mk rfl rfl h⟩)
    · have hb : decide (((i : Nat) : Int) < (l.length : Nat)) = false := decide_eq_false (by omega)
      refine W.sx hm hF 7 1000 20 [.b 7 6 0 false] [(decide (((i : Nat) : Int) < (l.length : Nat))) = false] (.exit 0) [(6, TL out)] [] (by kernel_rfl) ⟨hb, trivial⟩ (fun σ h => W.weaken h ?_)
      rw [ha, show i = l.length by omega, List.drop_length, wGo]
      exact W.sx hm hF 7 1000 20 [] [] .ret [(2, TL out), (3, B true), (4, I .i64 0)] [] (by kernel_rfl) trivial (fun σ h => retK.fz (.inl rfl) h rfl (.keep rfl))
  · have hk' := Bool.eq_false_iff.2 hk
    have ea : okC l = 90 := by unfold okC; rw [hk']; rfl
    rw [ea] at hc
    have hv : wholeV l = ([], false, 90) := by unfold wholeV; rw [hk']; rfl
    rw [hv]
    exact W.sx hm hF 7 1000 20 [.c 7 1 1 (I .i64 90)] [_] .ret [(2, .nil), (3, B false), (4, I .i64 90)] [] (by kernel_rfl) ⟨hc, trivial⟩ (fun σ h => by exact retK.fzN (.inl rfl) h rfl (.keep rfl) (fun _ _ _ _ => nil_im3))
theorem w_RWhole (l : List Term) (hl0 : l.length ≤ 5864062014805) : Spec0 Tryd.prog 8 [TL l] (R3 (rwholeV l)) := by
  have hc := w_RCheck l (by omega)
  refine Spec0.walk Tryd.func8 rfl rfl ?_
  by_cases hk : chk 0 l = true
  · have ea : okC l = 0 := by unfold okC; rw [hk]; rfl
    rw [ea] at hc
    have eR : rwholeV l = rwGo l l := by unfold rwholeV; rw [hk]; rfl
    rw [eR]
    refine W.sxP hm hF 8 2 1000 20 [.c 8 1 1 (I .i64 0)] [_] [(0, TL l)] [] (by kernel_rfl) ⟨hc, trivial⟩ ?_
    refine W.seq ?_
    refine W.frzAll [(0, TL l), (6, TL l)] (W.sx hm hF 8 1000 20 [.p 8 4 2 l.length l.length (l.flatMap tC) (l.flatMap tC)] [l.length * 3 = (l.flatMap tC).length, 0 < 3, (l.flatMap tC).all cellAV = true, l.flatMap tC = l.flatMap tC, 0 + 0 * 3 = ([] : List AV).length, l.length * 24 ≤ 140737488355328, 0 + l.length = l.length, ([] : List AV).drop 0 ++ l.flatMap tC = l.flatMap tC] .normal [(0, TL l), (6, .sl 1 0 l.length)] [.dead, .row 3 (l.flatMap tC)] (by kernel_rfl) ⟨(fm_len tC_len l).symm, by decide, fm_one tC_one l, rfl, rfl, by omega, Nat.zero_add _, rfl, trivial⟩ (fun σ h => ⟨rfl, by rw [le_at (x := TL l) h rfl (fun h => AV.noConfusion h)]; exact .keep rfl, by rw [le_at (x := .sl 1 0 l.length) h rfl (fun h => AV.noConfusion h)]; exact Fz.row (by rw [← h.1]; rfl) (Nat.zero_le _) (fm_len tC_len l) (fm_no tC_no l), trivial⟩)) ?_
    refine W.seq ?_
    refine W.seq ?_
    refine W.sx hm hF 8 1000 20 [] [] .normal [(0, TL l), (6, TL l), (7, I .i64 0)] [] (by kernel_rfl) trivial (fun σ h => W.weaken h ?_)
    refine W.block ?_
    refine W.loopD 0 (fun x : Nat × List Term => ⟨tbl [(0, TL l), (6, TL x.2), (7, I .i64 (x.1 : Nat))], []⟩) (fun x => x.1 ≤ l.length ∧ x.2.length ≤ 5864062014805 ∧ rwGo l l = rwGo x.2 (l.drop x.1)) (fun x => l.length - x.1) (0, l) ⟨Nat.zero_le _, hl0, rfl⟩ rfl (Le.refl _) ?_
    rintro ⟨i, out⟩ ⟨hi, hl1, ha⟩
    simp only at hi hl1 ha
    by_cases hlt : i < l.length
    · have hb : decide (((i : Nat) : Int) < (l.length : Nat)) = true := decide_eq_true (by omega)
      obtain ⟨t, hget⟩ : ∃ t, l[i]? = some t := ⟨_, List.getElem?_eq_getElem hlt⟩
      have hf := chk_mem (by decide) hk t (List.mem_of_getElem? hget)
      have hneed := w_rneedZ t.f (by omega) (by omega)
      have hnl := need_len t.f.toNat
      have hand := w_RAnd out (needs t.f.toNat) (by omega) (by omega)
      rw [drop_get hget, rwGo] at ha
      have hlen := randV_len out (needs t.f.toNat)
      have hok := @randV_ok out (needs t.f.toNat)
      generalize (randV out (needs t.f.toNat)) = v at ha hand hlen hok
      obtain ⟨r, ok, er⟩ := v
      simp only at ha hlen hok
      cases ok
      · rw [ha]
        simp only [cond_false]
        exact W.sx hm hF 8 1000 20 [.n 8 6 2 l.length, .b 8 6 3 true, .j 8 8 3 l.length i, .l 8 8 5 (I .i64 t.f), .c 8 8 6 (TL (needs t.f.toNat)), .c 8 8 7 (.tup [TL r, B false, I .i64 er])] [Spec0 Tryd.prog 13 [TL out, TL (needs t.f.toNat)] (.tup [TL r, B false, I .i64 er]), Spec0 Tryd.prog 21 [I .i64 t.f] (TL (needs t.f.toNat)), (l.flatMap tC)[i * 3 + 0]? = some (I .i64 t.f), l.length * 3 = (l.flatMap tC).length, 0 < 3, ((i : Nat) : Int) = (i : Int), i < l.length, (decide (((i : Nat) : Int) < (l.length : Nat))) = true, l.length * 3 = (l.flatMap tC).length, 0 < 3] .ret [(2, .nil), (3, B false), (4, I .i64 0)] [] (by kernel_rfl) ⟨hand, hneed, fm_cell tC_len l hget (by decide) rfl, (fm_len tC_len l).symm, by decide, rfl, hlt, hb, (fm_len tC_len l).symm, by decide, trivial⟩ (fun σ h => retK.fzN (.inl rfl) h rfl (.keep rfl) (fun _ _ _ _ => nil_im3))
      · have he := hok rfl
        subst he
        simp only [cond_true] at ha
        exact W.sx hm hF 8 1000 20 [.n 8 6 2 l.length, .b 8 6 3 true, .j 8 8 3 l.length i, .l 8 8 5 (I .i64 t.f), .c 8 8 6 (TL (needs t.f.toNat)), .c 8 8 7 (.tup [TL r, B true, I .i64 0]), .z 8 7 1 ((i + 1 : Nat) : Int)] [IntKind.i64.wrap (((i : Nat) : Int) + 1) = ((i + 1 : Nat) : Int), Spec0 Tryd.prog 13 [TL out, TL (needs t.f.toNat)] (.tup [TL r, B true, I .i64 0]), Spec0 Tryd.prog 21 [I .i64 t.f] (TL (needs t.f.toNat)), (l.flatMap tC)[i * 3 + 0]? = some (I .i64 t.f), l.length * 3 = (l.flatMap tC).length, 0 < 3, ((i : Nat) : Int) = (i : Int), i < l.length, (decide (((i : Nat) : Int) < (l.length : Nat))) = true, l.length * 3 = (l.flatMap tC).length, 0 < 3] .normal [(0, TL l), (6, TL r), (7, I .i64 (i + 1 : Nat))] [] (by kernel_rfl) ⟨i64_n i (by omega), hand, hneed, fm_cell tC_len l hget (by decide) rfl, (fm_len tC_len l).symm, by decide, rfl, hlt, hb, (fm_len tC_len l).symm, by decide, trivial⟩ (fun σ h => ⟨(i + 1, r), ⟨hlt, by simp only; omega, ha⟩, by simp only; omega, LeD.mk rfl rfl h⟩)
    · have hb : decide (((i : Nat) : Int) < (l.length : Nat)) = false := decide_eq_false (by omega)
      refine W.sx hm hF 8 1000 20 [.n 8 6 2 l.length, .b 8 6 3 false] [(decide (((i : Nat) : Int) < (l.length : Nat))) = false, l.length * 3 = (l.flatMap tC).length, 0 < 3] (.exit 0) [(6, TL out)] [] (by kernel_rfl) ⟨hb, (fm_len tC_len l).symm, by decide, trivial⟩ (fun σ h => W.weaken h ?_)
      rw [ha, show i = l.length by omega, List.drop_length, rwGo]
      exact W.sx hm hF 8 1000 20 [] [] .ret [(2, TL out), (3, B true), (4, I .i64 0)] [] (by kernel_rfl) trivial (fun σ h => retK.fz (.inl rfl) h rfl (.keep rfl))
  · have hk' := Bool.eq_false_iff.2 hk
    have ea : okC l = 90 := by unfold okC; rw [hk']; rfl
    rw [ea] at hc
    have hv : rwholeV l = ([], false, 90) := by unfold rwholeV; rw [hk']; rfl
    rw [hv]
    exact W.sx hm hF 8 1000 20 [.c 8 1 1 (I .i64 90)] [_] .ret [(2, .nil), (3, B false), (4, I .i64 90)] [] (by kernel_rfl) ⟨hc, trivial⟩ (fun σ h => by exact retK.fzN (.inl rfl) h rfl (.keep rfl) (fun _ _ _ _ => nil_im3))
end Go.Proofs.YtbimmnnjnlfddaaDoor
