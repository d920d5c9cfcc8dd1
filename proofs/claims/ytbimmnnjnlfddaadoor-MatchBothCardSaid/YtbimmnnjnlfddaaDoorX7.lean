/-
  Terms by their fields: the program's And and Implies are the reference's.
-/
import Derived.Test.YtbimmnnjnlfddaaDoorX6
set_option linter.unusedVariables false
set_option linter.unusedSimpArgs false
set_option maxRecDepth 100000
set_option maxHeartbeats 1000000
namespace Go.Proofs.YtbimmnnjnlfddaaDoor
open Go Go.SL Go.Proofs
structure Term.ok (t : Term) : Prop where
  v0 : 0 ≤ t.v
  v1 : t.v < 18446744073709551616
  m0 : 0 ≤ t.m
  m1 : t.m < 18446744073709551616
theorem u64w (x : BitVec 64) : IntKind.u64.wrap (x.toNat : Int) = (x.toNat : Int) := IntWalk.u64_in _ (by have := x.isLt; omega)
theorem ofI {x : Int} (h0 : 0 ≤ x) (h1 : x < 18446744073709551616) : ((BitVec.ofInt 64 x).toNat : Int) = x := by
  rw [BitVec.toNat_ofInt]
  have : x % ((2 ^ 64 : Nat) : Int) = x := Int.emod_eq_of_lt h0 (by simpa using h1)
  rw [this]; omega
abbrev bv (x : Int) : BitVec 64 := BitVec.ofInt 64 x
theorem bv_nat (x : BitVec 64) : bv (x.toNat : Int) = x := by
  apply BitVec.eq_of_toNat_eq
  exact Int.ofNat_inj.1 (ofI (x := (x.toNat : Int)) (by omega) (by have := x.isLt; omega))
theorem bv_and (x y : Int) : bv (uand x y) = bv x &&& bv y := by unfold uand; rw [u64w, bv_nat]
theorem bv_or (x y : Int) : bv (uor x y) = bv x ||| bv y := by unfold uor; rw [u64w, bv_nat]
theorem bv_xor (x y : Int) : bv (uxor x y) = bv x ^^^ bv y := by unfold uxor; rw [u64w, bv_nat]
theorem bv_andn (x y : Int) : bv (uandn x y) = bv x &&& ~~~ bv y := by unfold uandn; rw [u64w, bv_nat]
/-- A number of 64 bits. -/
def U (x : Int) : Prop := 0 ≤ x ∧ x < 18446744073709551616
theorem u_and (x y : Int) : U (uand x y) := by unfold uand; rw [u64w]; have := (bv x &&& bv y).isLt; exact ⟨by omega, by simp only [bv] at this; omega⟩
theorem u_or (x y : Int) : U (uor x y) := by unfold uor; rw [u64w]; have := (bv x ||| bv y).isLt; exact ⟨by omega, by simp only [bv] at this; omega⟩
theorem u_xor (x y : Int) : U (uxor x y) := by unfold uxor; rw [u64w]; have := (bv x ^^^ bv y).isLt; exact ⟨by omega, by simp only [bv] at this; omega⟩
theorem u_andn (x y : Int) : U (uandn x y) := by unfold uandn; rw [u64w]; have := (bv x &&& ~~~ bv y).isLt; exact ⟨by omega, by simp only [bv] at this; omega⟩
theorem u_inj {x y : Int} (hx : U x) (hy : U y) (h : bv x = bv y) : x = y := by rw [← ofI hx.1 hx.2, ← ofI hy.1 hy.2]; exact congrArg (fun z : BitVec 64 => (z.toNat : Int)) h
theorem u_eq {x y : Int} (hx : U x) (hy : U y) : x = y ↔ bv x = bv y := ⟨fun h => by rw [h], u_inj hx hy⟩
theorem u0 : U 0 := ⟨by decide, by decide⟩
theorem bv0 : bv 0 = 0#64 := rfl
theorem uor_0 {x : Int} (h : U x) : uor x 0 = x := u_inj (u_or _ _) h (by rw [bv_or, bv0]; simp)
theorem uor_0l {x : Int} (h : U x) : uor 0 x = x := u_inj (u_or _ _) h (by rw [bv_or, bv0]; simp)
theorem uand_0 (x : Int) : uand x 0 = 0 := u_inj (u_and _ _) u0 (by rw [bv_and, bv0]; simp)
theorem uand_0l (x : Int) : uand 0 x = 0 := u_inj (u_and _ _) u0 (by rw [bv_and, bv0]; simp)
theorem uandn_0 {x : Int} (h : U x) : uandn x 0 = x := u_inj (u_andn _ _) h (by rw [bv_andn, bv0]; rw [show ~~~(0#64) = BitVec.allOnes 64 by decide]; exact BitVec.and_allOnes)
theorem uor_ne {x y : Int} (hx : U x) (h : x ≠ 0) : uor x y ≠ 0 := by
  intro h1
  rw [u_eq (u_or _ _) u0, bv_or, bv0] at h1
  apply h
  rw [u_eq hx u0, bv0]
  rw [BitVec.or_eq_zero_iff] at h1
  exact h1.1
theorem uor_comm (x y : Int) : uor x y = uor y x := u_inj (u_or _ _) (u_or _ _) (by rw [bv_or, bv_or, BitVec.or_comm])

/-- Terms of 64 bits. -/
def UL (l : List Term) : Prop := ∀ t ∈ l, U t.v ∧ U t.m
theorem tmF_ne {t : Term} {l : List Term} {f : Int} (h : t.f ≠ f) : tmF (t :: l) f = tmF l f := by
  unfold tmF; rw [List.find?_cons, nb h]
theorem tmF_eq {t : Term} {l : List Term} : tmF (t :: l) t.f = t := by
  unfold tmF; rw [List.find?_cons, beq_self_eq_true]; rfl
theorem tmF_nil (f : Int) : tmF [] f = ⟨f, 0, 0⟩ := rfl
theorem chk_cons {a : Int} {t : Term} {l : List Term} (h : chk a (t :: l) = true) : a < t.f ∧ t.f ≤ 28 ∧ t.m ≠ 0 ∧ t.m ≤ allI t.f.toNat ∧ uandn t.v t.m = 0 ∧ chk t.f l = true := by
  simp only [chk, Bool.and_eq_true, Bool.not_eq_true'] at h
  have hb : ¬ _ := fun h' => by rw [bad_or.2 h'] at h; exact absurd h.1 (by simp)
  exact ⟨by omega, by omega, by omega, by omega, by omega, h.2⟩
theorem chk_mk {a : Int} {t : Term} {l : List Term} (h1 : a < t.f) (h2 : t.f ≤ 28) (h3 : t.m ≠ 0) (h4 : t.m ≤ allI t.f.toNat) (h5 : uandn t.v t.m = 0) (h : chk t.f l = true) : chk a (t :: l) = true := by
  simp only [chk, h, Bool.and_true, Bool.not_eq_true']
  rw [Bool.eq_false_iff]; intro hb; have := bad_or.1 hb; omega
theorem chk_up {a b : Int} {l : List Term} (h : chk a l = true) (hb : ∀ t ∈ l.head?, b < t.f) : chk b l = true := by
  cases l with
  | nil => rfl
  | cons t l =>
    obtain ⟨h1, h2, h3, h4, h5, h6⟩ := chk_cons h
    exact chk_mk (hb t rfl) h2 h3 h4 h5 h6
theorem tmF_low {l : List Term} {a f : Int} (h : chk a l = true) (h0 : 0 ≤ a) (hf : f ≤ a) : tmF l f = ⟨f, 0, 0⟩ := by
  induction l generalizing a with
  | nil => rfl
  | cons t l ih =>
    obtain ⟨h1, _, _, _, _, h6⟩ := chk_cons h
    rw [tmF_ne (by omega)]
    exact ih h6 (by omega) (by omega)
theorem rgo_congr {a a' b b' : List Term} : ∀ {n k : Nat}, (∀ j : Nat, k ≤ j → tmF a j = tmF a' j ∧ tmF b j = tmF b' j) → rgo a b n k = rgo a' b' n k
  | 0, k, _ => rfl
  | n + 1, k, h => by
    have h0 := h k (Nat.le_refl _)
    simp only [rgo]
    rw [h0.1, h0.2, rgo_congr (n := n) (k := k + 1) fun j hj => h j (by omega)]
theorem clash_r (t : Term) (f : Int) : clash t ⟨f, 0, 0⟩ = false := by unfold clash; simp only [uand_0]; rfl
theorem clash_l (t : Term) (f : Int) : clash ⟨f, 0, 0⟩ t = false := by unfold clash; simp only [uand_0, uand_0l]; rfl
theorem UL.tail {t : Term} {l : List Term} (h : UL (t :: l)) : UL l := fun u hu => h u (List.mem_cons_of_mem _ hu)
theorem hd_cases (k : Nat) (l : List Term) (h : chk ((k : Int) - 1) l = true) (hk : 1 ≤ k) (hu : UL l) :
    (chk k l = true ∧ tmF l k = ⟨k, 0, 0⟩) ∨ ∃ t l', l = t :: l' ∧ t.f = k ∧ t.m ≠ 0 ∧ U t.v ∧ U t.m ∧ chk k l' = true ∧ UL l' ∧ tmF l k = t ∧ ∀ j : Nat, k + 1 ≤ j → tmF l j = tmF l' j := by
  cases l with
  | nil => exact .inl ⟨rfl, rfl⟩
  | cons t l =>
    obtain ⟨h1, h2, h3, h4, h5, h6⟩ := chk_cons h
    by_cases hf : t.f = k
    · refine .inr ⟨t, l, rfl, hf, h3, (hu t List.mem_cons_self).1, (hu t List.mem_cons_self).2, hf ▸ h6, hu.tail, ?_, fun j hj => tmF_ne (by omega)⟩
      rw [← hf]; exact tmF_eq
    · have hc : chk k (t :: l) = true := chk_up h fun u hu => by simp only [List.head?_cons, Option.mem_def, Option.some.injEq] at hu; subst hu; omega
      exact .inl ⟨hc, tmF_low hc (by omega) (Int.le_refl _)⟩
theorem mk2_r {t : Term} {f : Int} (h1 : U t.v) (h2 : U t.m) : mk2 t ⟨f, 0, 0⟩ = t := by unfold mk2; rw [uor_0 h1, uor_0 h2]
theorem mk2_l {t : Term} {f : Int} (h : t.f = f) (h1 : U t.v) (h2 : U t.m) : mk2 ⟨f, 0, 0⟩ t = t := by unfold mk2; rw [uor_0l h1, uor_0l h2, ← h]
theorem mrg_consL {t : Term} {a b : List Term} (h : ∀ u ∈ b.head?, t.f < u.f) : mrg (t :: a) b = (mrg a b).map (t :: ·) := by
  cases b with
  | nil => rw [mrg_nilR, mrg_nilR]; rfl
  | cons u b => rw [mrg, if_pos (h u rfl)]
theorem mrg_consR {u : Term} {a b : List Term} (h : ∀ t ∈ a.head?, u.f < t.f) : mrg a (u :: b) = (mrg a b).map (u :: ·) := by
  cases a with
  | nil => rw [mrg, mrg]; rfl
  | cons t a => have := h t rfl; rw [mrg, if_neg (by omega), if_pos this]
theorem chk_hd {a : Int} {l : List Term} (h : chk a l = true) : ∀ t ∈ l.head?, a < t.f := by
  cases l with
  | nil => intro t ht; simp at ht
  | cons u l => intro t ht; simp only [List.head?_cons, Option.mem_def, Option.some.injEq] at ht; subst ht; exact (chk_cons h).1
/-- The two make the same. -/
theorem mrg_rgo : ∀ (n k : Nat), k + n = 29 → 1 ≤ k → ∀ (a b : List Term), chk ((k : Int) - 1) a = true → chk ((k : Int) - 1) b = true → UL a → UL b → mrg a b = rgo a b n k
  | 0, k, hk, h1, a, b, ha, hb, ua, ub => by
    have e : k = 29 := by omega
    subst e
    have e1 : a = [] := by
      cases a with
      | nil => rfl
      | cons t a => have := chk_cons ha; omega
    have e2 : b = [] := by
      cases b with
      | nil => rfl
      | cons t b => have := chk_cons hb; omega
    rw [e1, e2, mrg]; rfl
  | n + 1, k, hk, h1, a, b, ha, hb, ua, ub => by
    have ek : ((k + 1 : Nat) : Int) - 1 = k := by omega
    have ih := mrg_rgo n (k + 1) (by omega) (by omega)
    rw [ek] at ih
    simp only [rgo]
    rcases hd_cases k a ha h1 ua with ⟨ca, ta⟩ | ⟨t, a', rfl, tf, tm, tv, tu, ca, ua', ta, ja⟩
    · rcases hd_cases k b hb h1 ub with ⟨cb, tb⟩ | ⟨u, b', rfl, uf, um, uv, uu, cb, ub', tb, jb⟩
      · rw [ta, tb, clash_r]
        simp only [uor_0 u0, cond_false, bne_self_eq_false]
        exact ih a b ca cb ua ub
      · rw [ta, tb, clash_l]
        simp only [uor_0l uu, cond_false]
        rw [show (u.m != 0) = true by simpa using um, mk2_l uf uv uu, mrg_consR fun t ht => by rw [uf]; exact chk_hd ca t ht, ih a b' ca cb ua ub']
        simp only [cond_true]
        rw [rgo_congr (a := a) (a' := a) (b := b') (b' := u :: b') fun j hj => ⟨rfl, (jb j hj).symm⟩]
    · rcases hd_cases k b hb h1 ub with ⟨cb, tb⟩ | ⟨u, b', rfl, uf, um, uv, uu, cb, ub', tb, jb⟩
      · rw [ta, tb, clash_r]
        simp only [uor_0 tu, cond_false]
        rw [show (t.m != 0) = true by simpa using tm, mk2_r tv tu, mrg_consL fun u hu => by rw [tf]; exact chk_hd cb u hu, ih a' b ca cb ua' ub]
        simp only [cond_true]
        rw [rgo_congr (a := a') (a' := t :: a') (b := b) (b' := b) fun j hj => ⟨(ja j hj).symm, rfl⟩]
      · rw [ta, tb, mrg, if_neg (by omega), if_neg (by omega)]
        cases hc : clash t u
        · simp only [cond_false, Bool.false_eq_true, if_false]
          rw [show (uor t.m u.m != 0) = true by simpa using uor_ne tu tm, ih a' b' ca cb ua' ub']
          simp only [cond_true]
          rw [rgo_congr (a := a') (a' := t :: a') (b := b') (b' := u :: b') fun j hj => ⟨(ja j hj).symm, (jb j hj).symm⟩]
        · rfl
theorem andV_r {a b : List Term} (ua : UL a) (ub : UL b) : andV a b = randV a b := by
  unfold andV randV
  cases h : chk 0 a && chk 0 b
  · rfl
  · have h0 := Bool.and_eq_true_iff.1 h
    rw [mrg_rgo 28 1 rfl (Nat.le_refl _) a b h0.1 h0.2 ua ub]; rfl
/-- What follows of what is the same. -/
theorem drop_low {a0 : Int} : ∀ {a : List Term} {f : Int}, chk a0 a = true → 0 ≤ a0 → (∀ g : Int, f ≤ g → tmF (a.dropWhile fun x => decide (x.f < f)) g = tmF a g) ∧ ((a.dropWhile fun x => decide (x.f < f)) = [] ∨ ∃ x l, (a.dropWhile fun x => decide (x.f < f)) = x :: l ∧ f ≤ x.f ∧ chk a0 (x :: l) = true)
  | [], f, _, _ => ⟨fun _ _ => rfl, .inl rfl⟩
  | x :: a, f, h, h0 => by
    obtain ⟨h1, h2, h3, h4, h5, h6⟩ := chk_cons h
    by_cases hx : x.f < f
    · rw [List.dropWhile_cons, if_pos (by simpa using hx)]
      obtain ⟨k1, k2⟩ := drop_low (f := f) h6 (by omega)
      refine ⟨fun g hg => by rw [k1 g hg, tmF_ne (by omega)], ?_⟩
      rcases k2 with k2 | ⟨y, l, k2, k3, k4⟩
      · exact .inl k2
      · exact .inr ⟨y, l, k2, k3, chk_up k4 fun t ht => by have := chk_hd k4 t ht; omega⟩
    · rw [List.dropWhile_cons, if_neg (by simpa using hx)]
      exact ⟨fun _ _ => rfl, .inr ⟨x, a, rfl, by omega, h⟩⟩
theorem imp_r : ∀ {b : List Term} {a : List Term} {a0 b0 : Int}, chk a0 a = true → 0 ≤ a0 → chk b0 b = true → 0 ≤ b0 → UL b → impGo a b = b.all (rimp1 a)
  | [], a, _, _, _, _, _, _, _ => rfl
  | t :: b, a, a0, b0, ha, h0, hb, k0, ub => by
    obtain ⟨h1, h2, h3, h4, h5, h6⟩ := chk_cons hb
    obtain ⟨d1, d2⟩ := drop_low (f := t.f) ha h0
    rw [impGo, List.all_cons]
    have hc : chk a0 (a.dropWhile fun x => decide (x.f < t.f)) = true := by
      rcases d2 with d2 | ⟨x, l, d2, d3, d4⟩
      · rw [d2]; rfl
      · rw [d2]; exact d4
    have ih := imp_r (b := b) (a := a.dropWhile fun x => decide (x.f < t.f)) hc h0 h6 (by omega) ub.tail
    have e2 : b.all (rimp1 (a.dropWhile fun x => decide (x.f < t.f))) = b.all (rimp1 a) := by
      rw [Bool.eq_iff_iff, List.all_eq_true, List.all_eq_true]
      have key : ∀ u ∈ b, rimp1 (a.dropWhile fun x => decide (x.f < t.f)) u = rimp1 a u := fun u hu => by
        have := chk_mem (by omega) h6 u hu
        unfold rimp1; rw [d1 u.f (by omega)]
      exact ⟨fun h u hu => by rw [← key u hu]; exact h u hu, fun h u hu => by rw [key u hu]; exact h u hu⟩
    rw [ih, e2]
    congr 1
    have e3 := d1 t.f (Int.le_refl _)
    unfold rimp1
    rw [← e3]
    rcases d2 with d2 | ⟨x, l, d2, d3, d4⟩
    · rw [d2, tmF_nil]
      simp only [imp1, uandn_0 (ub t List.mem_cons_self).2]
      rw [show (t.m != 0) = true by simpa using h3]; rfl
    · rw [d2]
      by_cases hx : x.f = t.f
      · rw [← hx, tmF_eq]
        simp only [imp1, hx, bne_self_eq_false, Bool.not_false, Bool.true_and]
      · rw [tmF_ne hx, tmF_low (chk_cons d4).2.2.2.2.2 (by have := (chk_cons d4).1; omega) (by omega)]
        simp only [imp1, uandn_0 (ub t List.mem_cons_self).2]
        rw [show (x.f != t.f) = true by simpa using hx, show (t.m != 0) = true by simpa using h3]; rfl
theorem impV_r {a b : List Term} (ub : UL b) : impV a b = rimpV a b := by
  unfold impV rimpV
  cases h : chk 0 a && chk 0 b
  · rfl
  · have h0 := Bool.and_eq_true_iff.1 h
    rw [imp_r h0.1 (by decide) h0.2 (by decide) ub]
theorem meetV_r {a b : List Term} (ua : UL a) (ub : UL b) : meetV a b = (randV a b).2.1 := by
  unfold meetV
  rw [andV_r ua ub]
  cases h : (randV a b).2.1
  · rfl
  · rw [randV_ok h]; rfl

end Go.Proofs.YtbimmnnjnlfddaaDoor
