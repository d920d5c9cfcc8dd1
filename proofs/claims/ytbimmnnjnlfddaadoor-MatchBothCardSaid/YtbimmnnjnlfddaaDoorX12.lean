/-
  Terms by their fields: what And, Implies and Satisfies say, bit by bit.
-/
import Derived.Test.YtbimmnnjnlfddaaDoorX7
set_option linter.unusedVariables false
set_option linter.unusedSimpArgs false
set_option maxRecDepth 100000
set_option maxHeartbeats 1000000
namespace Go.Proofs.YtbimmnnjnlfddaaDoor
open Go Go.SL Go.Proofs
theorem u_zero {x : Int} (h : U x) : x = 0 ↔ ∀ i, i < 64 → (bv x).getLsbD i = false := by
  rw [u_eq h u0, bv0]
  refine ⟨fun h i _ => by rw [h]; simp, fun h => BitVec.eq_of_getLsbD_eq fun i hi => by rw [h i hi]; simp⟩
theorem u_bits {x y : Int} (hx : U x) (hy : U y) : x = y ↔ ∀ i, i < 64 → (bv x).getLsbD i = (bv y).getLsbD i := by
  rw [u_eq hx hy]
  exact ⟨fun h i _ => by rw [h], fun h => BitVec.eq_of_getLsbD_eq h⟩
abbrev vb (t : Term) (i : Nat) : Bool := (bv t.v).getLsbD i
abbrev mb (t : Term) (i : Nat) : Bool := (bv t.m).getLsbD i
/-- A value within its mask. -/
structure Wt (t : Term) : Prop where
  v : U t.v
  m : U t.m
  s : ∀ i, i < 64 → (vb t i && !mb t i) = false
theorem andn_0 {x y : Int} : uandn x y = 0 ↔ ∀ i, i < 64 → ((bv x).getLsbD i && !(bv y).getLsbD i) = false := by
  rw [u_zero (u_andn _ _), bv_andn]
  constructor <;> intro h i hi <;> have := h i hi <;> simpa [hi] using this
theorem Wt.mk' {t : Term} (h1 : U t.v) (h2 : U t.m) (h : uandn t.v t.m = 0) : Wt t := ⟨h1, h2, andn_0.1 h⟩
theorem Wt.n {t : Term} (h : Wt t) : uandn t.v t.m = 0 := andn_0.2 h.s
theorem clash_f {x y : Term} : clash x y = false ↔ ∀ i, i < 64 → ((vb x i ^^ vb y i) && mb x i && mb y i) = false := by
  unfold clash
  rw [bne_eq_false_iff_eq, u_zero (u_and _ _), bv_and, bv_and, bv_xor]
  constructor <;> intro h i hi <;> have := h i hi <;> simpa using this
theorem vb_mk2 {x y : Term} {i : Nat} : vb (mk2 x y) i = (vb x i || vb y i) := by unfold vb mk2; rw [bv_or, BitVec.getLsbD_or]
theorem mb_mk2 {x y : Term} {i : Nat} : mb (mk2 x y) i = (mb x i || mb y i) := by unfold mb mk2; rw [bv_or, BitVec.getLsbD_or]
theorem mk2_wt {x y : Term} (hx : Wt x) (hy : Wt y) : Wt (mk2 x y) := ⟨u_or _ _, u_or _ _, fun i hi => by
  have h1 := hx.s i hi
  have h2 := hy.s i hi
  rw [vb_mk2, mb_mk2]
  revert h1 h2
  generalize vb x i = a; generalize mb x i = b; generalize vb y i = c; generalize mb y i = d
  revert a b c d; decide⟩
theorem z_wt (f : Int) : Wt ⟨f, 0, 0⟩ := ⟨u0, u0, fun i _ => by simp [vb, mb, bv0]⟩
theorem t_eq {x y : Term} (hx : Wt x) (hy : Wt y) (hf : x.f = y.f) (h : ∀ i, i < 64 → vb x i = vb y i ∧ mb x i = mb y i) : x = y := by
  obtain ⟨f, v, m⟩ := x
  obtain ⟨g, w, n⟩ := y
  simp only at hf
  subst hf
  have h1 : v = w := (u_bits hx.v hy.v).2 fun i hi => (h i hi).1
  have h2 : m = n := (u_bits hx.m hy.m).2 fun i hi => (h i hi).2
  rw [h1, h2]
/-- Does one want all that another wants? -/
def impF (x y : Term) : Prop := ∀ i, i < 64 → (mb y i && !mb x i) = false ∧ (vb x i && mb y i) = vb y i
theorem impF_iff {x y : Term} (hy : Wt y) : impF x y ↔ uandn y.m x.m = 0 ∧ uand x.v y.m = y.v := by
  rw [andn_0, u_bits (u_and _ _) hy.v, bv_and]
  exact ⟨fun h => ⟨fun i hi => (h i hi).1, fun i hi => by rw [BitVec.getLsbD_and]; exact (h i hi).2⟩, fun h i hi => ⟨h.1 i hi, by have := h.2 i hi; rwa [BitVec.getLsbD_and] at this⟩⟩
theorem impF_trans {x y z : Term} (h1 : impF x y) (h2 : impF y z) : impF x z := fun i hi => by
  have k1 := h1 i hi
  have k2 := h2 i hi
  revert k1 k2
  generalize vb x i = a; generalize mb x i = b; generalize vb y i = c; generalize mb y i = d; generalize vb z i = e; generalize mb z i = f
  revert a b c d e f; decide
theorem impF_anti {x y : Term} (hx : Wt x) (hy : Wt y) (hf : x.f = y.f) (h1 : impF x y) (h2 : impF y x) : x = y := t_eq hx hy hf fun i hi => by
  have k1 := h1 i hi
  have k2 := h2 i hi
  have k3 := hx.s i hi
  have k4 := hy.s i hi
  revert k1 k2 k3 k4
  generalize vb x i = a; generalize mb x i = b; generalize vb y i = c; generalize mb y i = d
  revert a b c d; decide
theorem impF_l {x y : Term} (hx : Wt x) (hy : Wt y) (h : clash x y = false) : impF (mk2 x y) x := fun i hi => by
  have k1 := clash_f.1 h i hi
  have k3 := hx.s i hi
  have k4 := hy.s i hi
  rw [vb_mk2, mb_mk2]
  revert k1 k3 k4
  generalize vb x i = a; generalize mb x i = b; generalize vb y i = c; generalize mb y i = d
  revert a b c d; decide
theorem impF_z (x : Term) (f : Int) : impF x ⟨f, 0, 0⟩ := fun i _ => by simp [vb, mb, bv0]
theorem mk2_comm {x y : Term} (hx : Wt x) (hy : Wt y) (hf : x.f = y.f) : mk2 x y = mk2 y x := t_eq (mk2_wt hx hy) (mk2_wt hy hx) hf fun i hi => by
  rw [vb_mk2, mb_mk2, vb_mk2, mb_mk2, Bool.or_comm, Bool.or_comm (mb x i)]; exact ⟨rfl, rfl⟩
theorem mk2_assoc {x y z : Term} (hx : Wt x) (hy : Wt y) (hz : Wt z) : mk2 (mk2 x y) z = mk2 x (mk2 y z) := t_eq (mk2_wt (mk2_wt hx hy) hz) (mk2_wt hx (mk2_wt hy hz)) rfl fun i hi => by
  rw [vb_mk2, mb_mk2, vb_mk2, mb_mk2, vb_mk2, mb_mk2, vb_mk2, mb_mk2, Bool.or_assoc, Bool.or_assoc]; exact ⟨rfl, rfl⟩
theorem clash_comm (x y : Term) : clash x y = clash y x := by
  have key : ∀ x y : Term, clash x y = false → clash y x = false := fun x y h => clash_f.2 fun i hi => by
    have k1 := clash_f.1 h i hi
    revert k1
    generalize vb x i = a; generalize mb x i = b; generalize vb y i = c; generalize mb y i = d
    revert a b c d; decide
  cases h : clash x y
  · exact (key x y h).symm
  · cases h2 : clash y x
    · rw [key y x h2] at h; exact absurd h (by simp)
    · rfl
theorem clash_mk {x y z : Term} (hx : Wt x) (hy : Wt y) (hz : Wt z) (h : clash x y = false) : clash (mk2 x y) z = false ↔ clash x z = false ∧ clash y z = false := by
  rw [clash_f, clash_f, clash_f]
  have key : ∀ i, i < 64 → (((vb (mk2 x y) i ^^ vb z i) && mb (mk2 x y) i && mb z i) = false ↔ ((vb x i ^^ vb z i) && mb x i && mb z i) = false ∧ ((vb y i ^^ vb z i) && mb y i && mb z i) = false) := fun i hi => by
    have k1 := clash_f.1 h i hi
    have k2 := hx.s i hi
    have k3 := hy.s i hi
    have k4 := hz.s i hi
    rw [vb_mk2, mb_mk2]
    revert k1 k2 k3 k4
    generalize vb x i = a; generalize mb x i = b; generalize vb y i = c; generalize mb y i = d; generalize vb z i = e; generalize mb z i = f
    revert a b c d e f; decide
  exact ⟨fun h => ⟨fun i hi => ((key i hi).1 (h i hi)).1, fun i hi => ((key i hi).1 (h i hi)).2⟩, fun h i hi => (key i hi).2 ⟨h.1 i hi, h.2 i hi⟩⟩
theorem mk2_imp {x y : Term} (hx : Wt x) (hy : Wt y) (h : impF x y) : mk2 x y = x := t_eq (mk2_wt hx hy) hx rfl fun i hi => by
  have k1 := h i hi
  have k2 := hx.s i hi
  rw [vb_mk2, mb_mk2]
  revert k1 k2
  generalize vb x i = a; generalize mb x i = b; generalize vb y i = c; generalize mb y i = d
  revert a b c d; decide
theorem imp_clash {x y : Term} (h : impF x y) : clash x y = false := clash_f.2 fun i hi => by
  have k1 := h i hi
  revert k1
  generalize vb x i = a; generalize mb x i = b; generalize vb y i = c; generalize mb y i = d
  revert a b c d; decide
/-- Lists in form, as functions of the field. -/
theorem chk_wt {l : List Term} {a : Int} (h : chk a l = true) (hu : UL l) : ∀ t ∈ l, Wt t ∧ t.m ≠ 0 ∧ a < t.f ∧ t.f ≤ 28 := by
  induction l generalizing a with
  | nil => intro t ht; simp at ht
  | cons u l ih =>
    obtain ⟨h1, h2, h3, h4, h5, h6⟩ := chk_cons h
    intro t ht
    rcases List.mem_cons.1 ht with rfl | ht
    · exact ⟨.mk' (hu t List.mem_cons_self).1 (hu t List.mem_cons_self).2 h5, h3, h1, h2⟩
    · have := ih h6 hu.tail t ht; exact ⟨this.1, this.2.1, by omega, this.2.2.2⟩
theorem tmF_mem {l : List Term} {f : Int} (h : (tmF l f).m ≠ 0) : tmF l f ∈ l := by
  unfold tmF at h ⊢
  cases hf : l.find? (fun t => t.f == f) with
  | none => rw [hf] at h; simp at h
  | some t => exact List.mem_of_find?_eq_some hf
theorem tmF_wt {l : List Term} {a : Int} (h : chk a l = true) (hu : UL l) (f : Int) : Wt (tmF l f) := by
  unfold tmF
  cases hf : l.find? (fun t => t.f == f) with
  | none => exact z_wt f
  | some t => exact (chk_wt h hu t (List.mem_of_find?_eq_some hf)).1
theorem chk_low {l : List Term} {a : Int} (h : chk a l = true) : ∀ t ∈ l, a < t.f := by
  induction l generalizing a with
  | nil => intro t ht; simp at ht
  | cons u l ih =>
    obtain ⟨h1, h2, h3, h4, h5, h6⟩ := chk_cons h
    intro t ht
    rcases List.mem_cons.1 ht with rfl | ht
    · exact h1
    · have := ih h6 t ht; omega
theorem mem_tmF {l : List Term} {a : Int} (h : chk a l = true) : ∀ t ∈ l, tmF l t.f = t := by
  induction l generalizing a with
  | nil => intro t ht; simp at ht
  | cons u l ih =>
    obtain ⟨h1, h2, h3, h4, h5, h6⟩ := chk_cons h
    intro t ht
    by_cases hf : u.f = t.f
    · rcases List.mem_cons.1 ht with rfl | ht
      · exact tmF_eq
      · exact absurd hf (by have := (chk_low h6 t ht); omega)
    · rw [tmF_ne hf]
      rcases List.mem_cons.1 ht with rfl | ht
      · exact absurd rfl hf
      · exact ih h6 t ht
theorem canon : ∀ {x y : List Term} {c : Int}, 0 ≤ c → chk c x = true → chk c y = true → (∀ f, tmF x f = tmF y f) → x = y
  | [], [], _, _, _, _, _ => rfl
  | [], t :: y, c, _, _, h, e => by
    have h1 := e t.f
    rw [tmF_eq, tmF_nil] at h1
    exact absurd (by rw [← h1]) (chk_cons h).2.2.1
  | t :: x, [], c, _, h, _, e => by
    have h1 := e t.f
    rw [tmF_eq, tmF_nil] at h1
    exact absurd (by rw [h1]) (chk_cons h).2.2.1
  | t :: x, u :: y, c, h0, hx, hy, e => by
    obtain ⟨x1, x2, x3, x4, x5, x6⟩ := chk_cons hx
    obtain ⟨y1, y2, y3, y4, y5, y6⟩ := chk_cons hy
    rcases Int.lt_trichotomy t.f u.f with hf | hf | hf
    · have h1 := e t.f
      rw [tmF_eq, tmF_ne (by omega), tmF_low y6 (by omega) (by omega)] at h1
      exact absurd (by rw [h1]) x3
    · have h1 := e t.f
      rw [tmF_eq, hf, tmF_eq] at h1
      subst h1
      congr 1
      refine canon (c := t.f) (by omega) x6 y6 fun f => ?_
      by_cases hl : f ≤ t.f
      · rw [tmF_low x6 (by omega) hl, tmF_low y6 (by omega) hl]
      · have := e f
        rwa [tmF_ne (by omega), tmF_ne (by omega)] at this
    · have h1 := e u.f
      rw [tmF_eq, tmF_ne (by omega), tmF_low x6 (by omega) (by omega)] at h1
      exact absurd (by rw [← h1]) y3
theorem uor_le {k : Nat} {x y : Int} (hx : 0 ≤ x) (hy : 0 ≤ y) (hk : k ≤ 64) (h1 : x ≤ 2 ^ k - 1) (h2 : y ≤ 2 ^ k - 1) : uor x y ≤ 2 ^ k - 1 := by
  obtain ⟨a, rfl⟩ := Int.eq_ofNat_of_zero_le hx
  obtain ⟨b, rfl⟩ := Int.eq_ofNat_of_zero_le hy
  have p : (2 : Int) ^ k = ((2 ^ k : Nat) : Int) := by simp
  rw [p] at h1 h2 ⊢
  have p0 : 0 < 2 ^ k := Nat.two_pow_pos k
  have p1 : 2 ^ k ≤ 2 ^ 64 := Nat.pow_le_pow_right (by decide) hk
  have ha : a < 2 ^ k := by omega
  have hb : b < 2 ^ k := by omega
  have hor : a ||| b < 2 ^ k := Nat.or_lt_two_pow ha hb
  unfold uor
  rw [u64w]
  have e1 : (BitVec.ofInt 64 (a : Int)) = BitVec.ofNat 64 a := by simp
  have e2 : (BitVec.ofInt 64 (b : Int)) = BitVec.ofNat 64 b := by simp
  rw [e1, e2, BitVec.toNat_or, BitVec.toNat_ofNat, BitVec.toNat_ofNat, Nat.mod_eq_of_lt (by omega), Nat.mod_eq_of_lt (by omega)]
  omega
theorem allI_pow : ∀ k : Nat, 1 ≤ k → k ≤ 28 → ∃ n : Nat, n ≤ 64 ∧ allI k = 2 ^ n - 1
  | 1, _, _ => ⟨48, by decide, by decide⟩
  | 2, _, _ => ⟨48, by decide, by decide⟩
  | 3, _, _ => ⟨16, by decide, by decide⟩
  | 4, _, _ => ⟨17, by decide, by decide⟩
  | 5, _, _ => ⟨16, by decide, by decide⟩
  | 6, _, _ => ⟨48, by decide, by decide⟩
  | 7, _, _ => ⟨32, by decide, by decide⟩
  | 8, _, _ => ⟨48, by decide, by decide⟩
  | 9, _, _ => ⟨32, by decide, by decide⟩
  | 10, _, _ => ⟨32, by decide, by decide⟩
  | 11, _, _ => ⟨32, by decide, by decide⟩
  | 12, _, _ => ⟨8, by decide, by decide⟩
  | 13, _, _ => ⟨8, by decide, by decide⟩
  | 14, _, _ => ⟨8, by decide, by decide⟩
  | 15, _, _ => ⟨16, by decide, by decide⟩
  | 16, _, _ => ⟨8, by decide, by decide⟩
  | 17, _, _ => ⟨8, by decide, by decide⟩
  | 18, _, _ => ⟨16, by decide, by decide⟩
  | 19, _, _ => ⟨16, by decide, by decide⟩
  | 20, _, _ => ⟨12, by decide, by decide⟩
  | 21, _, _ => ⟨8, by decide, by decide⟩
  | 22, _, _ => ⟨24, by decide, by decide⟩
  | 23, _, _ => ⟨16, by decide, by decide⟩
  | 24, _, _ => ⟨16, by decide, by decide⟩
  | 25, _, _ => ⟨32, by decide, by decide⟩
  | 26, _, _ => ⟨32, by decide, by decide⟩
  | 27, _, _ => ⟨32, by decide, by decide⟩
  | 28, _, _ => ⟨32, by decide, by decide⟩
  | 0, h, _ => absurd h (by decide)
  | k + 29, _, h => absurd h (by omega)
theorem chk_mk2 {a : Int} {t u : Term} (ht : Wt t) (hu : Wt u) (h1 : a < t.f) (h2 : t.f ≤ 28) (h0 : 1 ≤ t.f) (h3 : t.m ≠ 0) (h4 : t.m ≤ allI t.f.toNat) (h5 : u.m ≤ allI t.f.toNat) {l : List Term} (h : chk t.f l = true) : chk a (mk2 t u :: l) = true := by
  obtain ⟨n, n1, n2⟩ := allI_pow t.f.toNat (by omega) (by omega)
  refine chk_mk (t := mk2 t u) h1 h2 (uor_ne ht.m h3) ?_ (mk2_wt ht hu).n h
  show uor t.m u.m ≤ allI t.f.toNat
  rw [n2] at h4 h5 ⊢
  exact uor_le ht.m.1 hu.m.1 n1 h4 h5
theorem UL.cons {t : Term} {l : List Term} (h1 : U t.v ∧ U t.m) (h : UL l) : UL (t :: l) := fun u hu => by
  rcases List.mem_cons.1 hu with rfl | hu
  · exact h1
  · exact h u hu
/-- What And makes, field by field. -/
theorem mrg_tm : ∀ {a b r : List Term} {c : Int}, 0 ≤ c → chk c a = true → chk c b = true → UL a → UL b → mrg a b = some r → chk c r = true ∧ UL r ∧ ∀ f, tmF r f = mk2 (tmF a f) (tmF b f)
  | [], b, r, c, h0, ha, hb, ua, ub, h => by
    rw [mrg] at h; injection h with h; subst h
    refine ⟨hb, ub, fun f => ?_⟩
    have := tmF_wt hb ub f
    rw [tmF_nil, mk2_l (tmF_f b f) this.v this.m]
  | t :: a, [], r, c, h0, ha, hb, ua, ub, h => by
    rw [mrg_nilR] at h; injection h with h; subst h
    refine ⟨ha, ua, fun f => ?_⟩
    have := tmF_wt ha ua f
    rw [tmF_nil, mk2_r this.v this.m]
  | t :: a, u :: b, r, c, h0, ha, hb, ua, ub, h => by
    obtain ⟨x1, x2, x3, x4, x5, x6⟩ := chk_cons ha
    obtain ⟨y1, y2, y3, y4, y5, y6⟩ := chk_cons hb
    have wt := chk_wt ha ua t List.mem_cons_self
    have wu := chk_wt hb ub u List.mem_cons_self
    rw [mrg] at h
    split at h
    · rename_i hlt
      obtain ⟨s, h1, rfl⟩ := Option.map_eq_some_iff.1 h
      obtain ⟨k1, k2, k3⟩ := mrg_tm (c := t.f) (by omega) x6 (chk_up hb fun v hv => by simp only [List.head?_cons, Option.mem_def, Option.some.injEq] at hv; subst hv; omega) ua.tail ub h1
      refine ⟨chk_mk x1 x2 x3 x4 x5 k1, UL.cons ⟨wt.1.v, wt.1.m⟩ k2, fun f => ?_⟩
      by_cases hf : t.f = f
      · subst hf
        rw [tmF_eq, tmF_eq, tmF_ne (by omega), tmF_low y6 (by omega) (by omega), mk2_r wt.1.v wt.1.m]
      · rw [tmF_ne hf, tmF_ne hf, k3]
    · rename_i hlt
      split at h
      · rename_i hgt
        obtain ⟨s, h1, rfl⟩ := Option.map_eq_some_iff.1 h
        obtain ⟨k1, k2, k3⟩ := mrg_tm (c := u.f) (by omega) (chk_up ha fun v hv => by simp only [List.head?_cons, Option.mem_def, Option.some.injEq] at hv; subst hv; omega) y6 ua ub.tail h1
        refine ⟨chk_mk y1 y2 y3 y4 y5 k1, UL.cons ⟨wu.1.v, wu.1.m⟩ k2, fun f => ?_⟩
        by_cases hf : u.f = f
        · subst hf
          rw [tmF_eq, tmF_eq, tmF_ne (by omega), tmF_low x6 (by omega) (by omega), mk2_l rfl wu.1.v wu.1.m]
        · rw [tmF_ne hf, tmF_ne hf, k3]
      · rename_i hgt
        split at h
        · simp at h
        · obtain ⟨s, h1, rfl⟩ := Option.map_eq_some_iff.1 h
          have ef : t.f = u.f := by omega
          obtain ⟨k1, k2, k3⟩ := mrg_tm (c := t.f) (by omega) x6 (ef ▸ y6) ua.tail ub.tail h1
          refine ⟨chk_mk2 wt.1 wu.1 x1 x2 (by omega) x3 x4 (ef ▸ y4) k1, UL.cons ⟨u_or _ _, u_or _ _⟩ k2, fun f => ?_⟩
          by_cases hf : t.f = f
          · subst hf
            have e1 : tmF (mk2 t u :: s) t.f = mk2 t u := tmF_eq (t := mk2 t u)
            rw [e1, tmF_eq, ef, tmF_eq]
          · rw [tmF_ne (t := mk2 t u) hf, tmF_ne hf, tmF_ne (by omega), k3]
termination_by a b => a.length + b.length
theorem mrg_cl : ∀ {a b : List Term} {c : Int}, 0 ≤ c → chk c a = true → chk c b = true → (mrg a b = none ↔ ∃ f, clash (tmF a f) (tmF b f) = true)
  | [], b, c, h0, ha, hb => by
    rw [mrg]
    refine ⟨fun h => by simp at h, fun ⟨f, h⟩ => ?_⟩
    rw [tmF_nil, clash_l] at h; simp at h
  | t :: a, [], c, h0, ha, hb => by
    rw [mrg_nilR]
    refine ⟨fun h => by simp at h, fun ⟨f, h⟩ => ?_⟩
    rw [tmF_nil, clash_r] at h; simp at h
  | t :: a, u :: b, c, h0, ha, hb => by
    obtain ⟨x1, x2, x3, x4, x5, x6⟩ := chk_cons ha
    obtain ⟨y1, y2, y3, y4, y5, y6⟩ := chk_cons hb
    rw [mrg]
    split
    · rename_i hlt
      rw [Option.map_eq_none_iff, mrg_cl (c := t.f) (by omega) x6 (chk_up hb fun v hv => by simp only [List.head?_cons, Option.mem_def, Option.some.injEq] at hv; subst hv; omega)]
      refine ⟨fun ⟨f, h⟩ => ⟨f, ?_⟩, fun ⟨f, h⟩ => ⟨f, ?_⟩⟩
      · by_cases hf : t.f = f
        · subst hf
          rw [tmF_low x6 (by omega) (Int.le_refl _), clash_l] at h; simp at h
        · rw [tmF_ne hf]; exact h
      · by_cases hf : t.f = f
        · subst hf
          rw [tmF_ne (t := u) (by omega), tmF_low y6 (by omega) (by omega), clash_r] at h; simp at h
        · rw [tmF_ne hf] at h; exact h
    · rename_i hlt
      split
      · rename_i hgt
        rw [Option.map_eq_none_iff, mrg_cl (c := u.f) (by omega) (chk_up ha fun v hv => by simp only [List.head?_cons, Option.mem_def, Option.some.injEq] at hv; subst hv; omega) y6]
        refine ⟨fun ⟨f, h⟩ => ⟨f, ?_⟩, fun ⟨f, h⟩ => ⟨f, ?_⟩⟩
        · by_cases hf : u.f = f
          · subst hf
            rw [tmF_low y6 (by omega) (Int.le_refl _), clash_r] at h; simp at h
          · rw [tmF_ne (t := u) hf]; exact h
        · by_cases hf : u.f = f
          · subst hf
            rw [tmF_ne (t := t) (by omega), tmF_low x6 (by omega) (by omega), clash_l] at h; simp at h
          · rw [tmF_ne (t := u) hf] at h; exact h
      · rename_i hgt
        have ef : t.f = u.f := by omega
        split
        · rename_i hc
          refine ⟨fun _ => ⟨t.f, ?_⟩, fun _ => rfl⟩
          rw [tmF_eq, ef, tmF_eq]; exact hc
        · rename_i hc
          rw [Option.map_eq_none_iff, mrg_cl (c := t.f) (by omega) x6 (ef ▸ y6)]
          refine ⟨fun ⟨f, h⟩ => ⟨f, ?_⟩, fun ⟨f, h⟩ => ⟨f, ?_⟩⟩
          · by_cases hf : t.f = f
            · subst hf
              rw [tmF_low x6 (by omega) (Int.le_refl _), clash_l] at h; simp at h
            · rw [tmF_ne hf, tmF_ne (t := u) (by omega)]; exact h
          · by_cases hf : t.f = f
            · subst hf
              rw [tmF_eq] at h
              have : tmF (u :: b) t.f = u := by rw [ef]; exact tmF_eq
              rw [this] at h; exact absurd h hc
            · rw [tmF_ne hf, tmF_ne (t := u) (by omega)] at h; exact h
termination_by a b => a.length + b.length
/-- In form, of 64 bits. -/
structure Fm (l : List Term) : Prop where
  c : chk 0 l = true
  u : UL l
theorem Fm.wt {l : List Term} (h : Fm l) (f : Int) : Wt (tmF l f) := tmF_wt h.c h.u f
theorem Fm.nil : Fm [] := ⟨rfl, fun t h => absurd h (by simp)⟩
theorem Fm.eq {x y : List Term} (hx : Fm x) (hy : Fm y) (h : ∀ f, tmF x f = tmF y f) : x = y := canon (Int.le_refl 0) hx.c hy.c h
theorem Fm.mg {a b r : List Term} (ha : Fm a) (hb : Fm b) (h : mrg a b = some r) : Fm r ∧ ∀ f, tmF r f = mk2 (tmF a f) (tmF b f) := by
  have := mrg_tm (Int.le_refl 0) ha.c hb.c ha.u hb.u h
  exact ⟨⟨this.1, this.2.1⟩, this.2.2⟩
theorem Fm.nn {a b : List Term} (ha : Fm a) (hb : Fm b) : mrg a b = none ↔ ∃ f, clash (tmF a f) (tmF b f) = true := mrg_cl (Int.le_refl 0) ha.c hb.c
theorem Fm.sm {a b r : List Term} (ha : Fm a) (hb : Fm b) (h : mrg a b = some r) (f : Int) : clash (tmF a f) (tmF b f) = false := by
  cases hc : clash (tmF a f) (tmF b f)
  · rfl
  · rw [(ha.nn hb).2 ⟨f, hc⟩] at h; simp at h
theorem mrg_comm {a b : List Term} (ha : Fm a) (hb : Fm b) : mrg a b = mrg b a := by
  cases h1 : mrg a b with
  | none =>
    obtain ⟨f, hf⟩ := (ha.nn hb).1 h1
    exact ((hb.nn ha).2 ⟨f, by rw [clash_comm]; exact hf⟩).symm
  | some x =>
    cases h2 : mrg b a with
    | none =>
      obtain ⟨f, hf⟩ := (hb.nn ha).1 h2
      rw [clash_comm, ha.sm hb h1 f] at hf; simp at hf
    | some y =>
      obtain ⟨k1, k2⟩ := ha.mg hb h1
      obtain ⟨k3, k4⟩ := hb.mg ha h2
      rw [k1.eq k3 fun f => by rw [k2, k4]; exact mk2_comm (ha.wt f) (hb.wt f) (by rw [tmF_f, tmF_f])]
theorem mrg_assoc {a b c x z : List Term} (ha : Fm a) (hb : Fm b) (hc : Fm c) (h1 : mrg a b = some x) (h2 : mrg b c = some z) : mrg x c = mrg a z := by
  obtain ⟨k1, k2⟩ := ha.mg hb h1
  obtain ⟨k3, k4⟩ := hb.mg hc h2
  have e1 : ∀ f, clash (tmF x f) (tmF c f) = clash (tmF a f) (tmF z f) := fun f => by
    have c1 := ha.sm hb h1 f
    have c2 := hb.sm hc h2 f
    have h3 := clash_mk (ha.wt f) (hb.wt f) (hc.wt f) c1
    have h4 := clash_mk (hb.wt f) (hc.wt f) (ha.wt f) c2
    rw [← k2] at h3
    rw [← k4, clash_comm, clash_comm (tmF b f), clash_comm (tmF c f) (tmF a f)] at h4
    cases g1 : clash (tmF x f) (tmF c f)
    · exact (h4.2 ⟨c1, (h3.1 g1).1⟩).symm
    · cases g2 : clash (tmF a f) (tmF z f)
      · rw [h3.2 ⟨(h4.1 g2).2, c2⟩] at g1; simp at g1
      · rfl
  cases g1 : mrg x c with
  | none =>
    obtain ⟨f, hf⟩ := (k1.nn hc).1 g1
    exact ((ha.nn k3).2 ⟨f, by rw [← e1]; exact hf⟩).symm
  | some u =>
    cases g2 : mrg a z with
    | none =>
      obtain ⟨f, hf⟩ := (ha.nn k3).1 g2
      rw [← e1, k1.sm hc g1 f] at hf; simp at hf
    | some v =>
      obtain ⟨j1, j2⟩ := k1.mg hc g1
      obtain ⟨j3, j4⟩ := ha.mg k3 g2
      rw [j1.eq j3 fun f => by rw [j2, j4, k2, k4]; exact mk2_assoc (ha.wt f) (hb.wt f) (hc.wt f)]
/-- Does a list want all that another one wants? -/
def Imp (a b : List Term) : Prop := ∀ f, impF (tmF a f) (tmF b f)
theorem Imp.trans {a b c : List Term} (h : Imp a b) (h' : Imp b c) : Imp a c := fun f => impF_trans (h f) (h' f)
theorem Imp.refl (a : List Term) (ha : Fm a) : Imp a a := fun f => (impF_iff (ha.wt f)).2 ⟨by rw [andn_0]; intro i _; simp, by
  rw [u_bits (u_and _ _) (ha.wt f).v, bv_and]
  intro i hi
  have : ((bv (tmF a f).v).getLsbD i && !(bv (tmF a f).m).getLsbD i) = false := (ha.wt f).s i hi
  rw [BitVec.getLsbD_and]
  revert this
  generalize (bv (tmF a f).v).getLsbD i = p; generalize (bv (tmF a f).m).getLsbD i = q
  revert p q; decide⟩
theorem Imp.anti {a b : List Term} (ha : Fm a) (hb : Fm b) (h : Imp a b) (h' : Imp b a) : a = b := ha.eq hb fun f => impF_anti (ha.wt f) (hb.wt f) (by rw [tmF_f, tmF_f]) (h f) (h' f)
theorem imp_mrg {a b r : List Term} (ha : Fm a) (hb : Fm b) (h : mrg a b = some r) : Imp r a ∧ Imp r b := by
  obtain ⟨k1, k2⟩ := ha.mg hb h
  refine ⟨fun f => by rw [k2]; exact impF_l (ha.wt f) (hb.wt f) (ha.sm hb h f), fun f => ?_⟩
  rw [k2, mk2_comm (ha.wt f) (hb.wt f) (by rw [tmF_f, tmF_f])]
  exact impF_l (hb.wt f) (ha.wt f) (by rw [clash_comm]; exact ha.sm hb h f)
theorem mrg_imp {a b : List Term} (ha : Fm a) (hb : Fm b) (h : Imp a b) : mrg a b = some a := by
  cases h1 : mrg a b with
  | none =>
    obtain ⟨f, hf⟩ := (ha.nn hb).1 h1
    rw [imp_clash (h f)] at hf; simp at hf
  | some r =>
    obtain ⟨k1, k2⟩ := ha.mg hb h1
    rw [k1.eq ha fun f => by rw [k2]; exact mk2_imp (ha.wt f) (hb.wt f) (h f)]
theorem impV_iff {a b : List Term} (ub : UL b) : impV a b = true ↔ chk 0 a = true ∧ chk 0 b = true ∧ Imp a b := by
  rw [impV_r ub]
  unfold rimpV
  rw [Bool.and_eq_true, Bool.and_eq_true, and_assoc]
  refine and_congr_right fun h1 => and_congr_right fun h2 => ?_
  rw [List.all_eq_true]
  constructor
  · intro h f
    by_cases hm : (tmF b f).m = 0
    · have hw := tmF_wt h2 ub f
      have hv : (tmF b f).v = 0 := by
        rw [u_zero hw.v]
        intro i hi
        have h3 := hw.s i hi
        have h4 : mb (tmF b f) i = false := by unfold mb; rw [hm, bv0]; simp
        rw [h4] at h3; simpa using h3
      have : tmF b f = ⟨f, 0, 0⟩ := by
        have hf := tmF_f b f
        revert hm hv hf
        generalize tmF b f = t
        obtain ⟨p, q, r⟩ := t
        simp only
        rintro rfl rfl rfl; rfl
      rw [this]; exact impF_z _ _
    · have hmem := tmF_mem hm
      have := h _ hmem
      unfold rimp1 at this
      rw [tmF_f] at this
      simp only [Bool.and_eq_true, Bool.not_eq_true', bne_eq_false_iff_eq] at this
      exact (impF_iff (tmF_wt h2 ub f)).2 this
  · intro h t ht
    have h3 := h t.f
    rw [mem_tmF h2 t ht, impF_iff (chk_wt h2 ub t ht).1] at h3
    unfold rimp1
    simp only [Bool.and_eq_true, Bool.not_eq_true', bne_eq_false_iff_eq]
    exact h3
theorem andV_fm {a b : List Term} (ha : Fm a) (hb : Fm b) : andV a b = andO (mrg a b) := by
  unfold andV; rw [ha.c, hb.c]; rfl
theorem andV_x {a b : List Term} (h : (chk 0 a && chk 0 b) = false) : andV a b = ([], false, 90) := by
  unfold andV; rw [h]; rfl
/-- The needs of fields. -/
theorem need_fm : ∀ k : Nat, Fm (needs k) := fun k => by
  have h : ∀ k : Nat, k ≤ 28 → chk 0 (needs k) = true ∧ ∀ t ∈ needs k, U t.v ∧ U t.m := by
    have : ∀ k : Fin 29, chk 0 (needs k) = true ∧ ∀ t ∈ needs k, (0 ≤ t.v ∧ t.v < 18446744073709551616) ∧ (0 ≤ t.m ∧ t.m < 18446744073709551616) := by decide
    exact fun k hk => this ⟨k, by omega⟩
  by_cases hk : k ≤ 28
  · exact ⟨(h k hk).1, (h k hk).2⟩
  · have : needs k = [] := by unfold needs; split <;> first | omega | rfl
    rw [this]; exact Fm.nil
theorem need_f (k : Nat) (f : Int) (h : (tmF (needs k) f).m ≠ 0) : (f = 3 ∨ f = 12) ∧ (f = 12 → Imp (needs k) (needs 12)) := by
  have h3 : ∀ k : Fin 29, ∀ t ∈ needs k, (t.f = 3 ∨ t.f = 12) ∧ (t.f = 12 → impV (needs k) (needs 12) = true) := by decide
  by_cases hk : k ≤ 28
  · have := h3 ⟨k, by omega⟩ _ (tmF_mem h)
    rw [tmF_f] at this
    exact ⟨this.1, fun hf => ((impV_iff (need_fm 12).u).1 (this.2 hf)).2.2⟩
  · have : needs k = [] := by unfold needs; split <;> first | omega | rfl
    rw [this, tmF_nil] at h; simp at h
/-- A match with all its needs. -/
theorem wGo_ok : ∀ {l out x : List Term} {e : Int}, Fm out → wGo out l = (x, true, e) →
    e = 0 ∧ Fm x ∧ Imp x out ∧ (∀ t ∈ l, Imp x (needs t.f.toNat)) ∧ ∀ f, (tmF x f).m ≠ 0 → (tmF out f).m ≠ 0 ∨ ∃ t ∈ l, (tmF (needs t.f.toNat) f).m ≠ 0
  | [], out, x, e, ho, h => by
    rw [wGo] at h
    injection h with h1 h2
    injection h2 with h2 h3
    subst h1; subst h3
    exact ⟨rfl, ho, Imp.refl _ ho, fun t ht => absurd ht (by simp), fun f hf => .inl hf⟩
  | t :: l, out, x, e, ho, h => by
    rw [wGo] at h
    have hn := need_fm t.f.toNat
    rw [andV_fm ho hn] at h
    cases hm : mrg out (needs t.f.toNat) with
    | none => rw [hm] at h; simp [andO] at h
    | some r =>
      rw [hm] at h
      simp only [andO, cond_true] at h
      obtain ⟨k1, k2⟩ := ho.mg hn hm
      obtain ⟨i1, i2⟩ := imp_mrg ho hn hm
      obtain ⟨j1, j2, j3, j4, j5⟩ := wGo_ok k1 h
      refine ⟨j1, j2, j3.trans i1, fun u hu => ?_, fun f hf => ?_⟩
      · rcases List.mem_cons.1 hu with rfl | hu
        · exact j3.trans i2
        · exact j4 u hu
      · rcases j5 f hf with h5 | ⟨u, hu, h5⟩
        · by_cases h6 : (tmF out f).m = 0
          · refine .inr ⟨t, List.mem_cons_self, fun h7 => h5 ?_⟩
            rw [k2]; unfold mk2; rw [h6, h7]; rfl
          · exact .inl h6
        · exact .inr ⟨u, List.mem_cons_of_mem _ hu, h5⟩
theorem wGo_fix : ∀ {l x : List Term}, Fm x → (∀ t ∈ l, Imp x (needs t.f.toNat)) → wGo x l = (x, true, 0)
  | [], x, _, _ => rfl
  | t :: l, x, hx, h => by
    rw [wGo, andV_fm hx (need_fm _), mrg_imp hx (need_fm _) (h t List.mem_cons_self)]
    exact wGo_fix hx fun u hu => h u (List.mem_cons_of_mem _ hu)
theorem rwGo_eq : ∀ {l out : List Term}, Fm out → wGo out l = rwGo out l
  | [], _, _ => rfl
  | t :: l, out, ho => by
    have hn := need_fm t.f.toNat
    rw [wGo, rwGo, ← andV_r ho.u hn.u, andV_fm ho hn]
    cases hm : mrg out (needs t.f.toNat) with
    | none => rfl
    | some r =>
      simp only [andO, cond_true]
      exact rwGo_eq (ho.mg hn hm).1
theorem whole_r {l : List Term} (hu : UL l) : wholeV l = rwholeV l := by
  unfold wholeV rwholeV
  cases h : chk 0 l
  · rfl
  · exact rwGo_eq ⟨h, hu⟩
theorem whole_ok {l x : List Term} {e : Int} (hu : UL l) (h : wholeV l = (x, true, e)) : e = 0 ∧ wholeV x = (x, true, 0) ∧ impV x l = true := by
  unfold wholeV at h
  cases hc : chk 0 l
  · rw [hc] at h; simp at h
  · rw [hc] at h
    have hl : Fm l := ⟨hc, hu⟩
    obtain ⟨j1, j2, j3, j4, j5⟩ := wGo_ok hl h
    refine ⟨j1, ?_, (impV_iff hu).2 ⟨j2.c, hc, j3⟩⟩
    unfold wholeV
    rw [j2.c]
    refine wGo_fix j2 fun t ht => ?_
    have ht' := mem_tmF j2.c t ht
    have hm : (tmF x t.f).m ≠ 0 := by rw [ht']; exact (chk_wt j2.c j2.u t ht).2.1
    rcases j5 t.f hm with h6 | ⟨u, hu, h6⟩
    · have := j4 _ (tmF_mem h6)
      rwa [tmF_f] at this
    · obtain ⟨h7, h8⟩ := need_f _ _ h6
      rcases h7 with h7 | h7
      · rw [h7]; exact fun f => impF_z _ f
      · rw [h7]; exact (j4 u hu).trans (h8 h7)
/-- Is a match satisfied by what fields have? E: whether a field is there. -/
def satT (V E : Int → Int) (t : Term) : Bool := !(E t.f != 0) && !(uand (V t.f) t.m != t.v)
def satL (V E : Int → Int) (l : List Term) : Bool := l.all (satT V E)
def satF (V E : Int → Int) (t : Term) : Prop := t.m ≠ 0 → E t.f = 0 ∧ ∀ i, i < 64 → ((bv (V t.f)).getLsbD i && mb t i) = vb t i
theorem satT_iff {V E : Int → Int} {t : Term} (h : Wt t) : satT V E t = true ↔ E t.f = 0 ∧ ∀ i, i < 64 → ((bv (V t.f)).getLsbD i && mb t i) = vb t i := by
  unfold satT
  simp only [Bool.and_eq_true, Bool.not_eq_true', bne_eq_false_iff_eq]
  refine and_congr_right fun _ => ?_
  rw [u_bits (u_and _ _) h.v, bv_and]
  constructor <;> intro h i hi <;> have := h i hi <;> rw [BitVec.getLsbD_and] at * <;> exact this
theorem satL_iff {V E : Int → Int} {l : List Term} (h : Fm l) : satL V E l = true ↔ ∀ f, satF V E (tmF l f) := by
  unfold satL
  rw [List.all_eq_true]
  constructor
  · intro hs f hm
    have := hs _ (tmF_mem hm)
    rwa [satT_iff (h.wt f)] at this
  · intro hs t ht
    have h3 := hs t.f
    rw [mem_tmF h.c t ht] at h3
    have h4 := chk_wt h.c h.u t ht
    exact (satT_iff h4.1).2 (h3 h4.2.1)
theorem m_zero {t : Term} (h : Wt t) (hm : t.m = 0) {i : Nat} (hi : i < 64) : mb t i = false ∧ vb t i = false := by
  have h4 : mb t i = false := by unfold mb; rw [hm, bv0]; simp
  have h3 := h.s i hi
  rw [h4] at h3
  exact ⟨h4, by simpa using h3⟩
theorem uor_z {x y : Int} (hx : U x) (hy : U y) : uor x y = 0 ↔ x = 0 ∧ y = 0 := by
  constructor
  · intro h
    refine ⟨?_, ?_⟩
    · by_cases h1 : x = 0
      · exact h1
      · exact absurd h (uor_ne hx h1)
    · by_cases h1 : y = 0
      · exact h1
      · rw [uor_comm] at h; exact absurd h (uor_ne hy h1)
  · rintro ⟨rfl, rfl⟩; rfl
theorem satF_mk {V E : Int → Int} {x y : Term} (hx : Wt x) (hy : Wt y) (hf : x.f = y.f) (hc : clash x y = false) : satF V E (mk2 x y) ↔ satF V E x ∧ satF V E y := by
  have em : (mk2 x y).m = uor x.m y.m := rfl
  have ef : (mk2 x y).f = x.f := rfl
  unfold satF
  rw [em, ef, ← hf]
  constructor
  · intro h
    refine ⟨fun hm => ?_, fun hm => ?_⟩
    · obtain ⟨h1, h2⟩ := h fun h => hm ((uor_z hx.m hy.m).1 h).1
      refine ⟨h1, fun i hi => ?_⟩
      have k1 := clash_f.1 hc i hi
      have k2 := hx.s i hi
      have k3 := hy.s i hi
      have k4 := h2 i hi
      rw [vb_mk2, mb_mk2] at k4
      revert k1 k2 k3 k4
      generalize vb x i = a; generalize mb x i = b; generalize vb y i = c; generalize mb y i = d; generalize (bv (V x.f)).getLsbD i = e
      revert a b c d e; decide
    · obtain ⟨h1, h2⟩ := h fun h => hm ((uor_z hx.m hy.m).1 h).2
      refine ⟨h1, fun i hi => ?_⟩
      have k1 := clash_f.1 hc i hi
      have k2 := hx.s i hi
      have k3 := hy.s i hi
      have k4 := h2 i hi
      rw [vb_mk2, mb_mk2] at k4
      revert k1 k2 k3 k4
      generalize vb x i = a; generalize mb x i = b; generalize vb y i = c; generalize mb y i = d; generalize (bv (V x.f)).getLsbD i = e
      revert a b c d e; decide
  · rintro ⟨h1, h2⟩ hm
    have he : E x.f = 0 := by
      by_cases h3 : x.m = 0
      · refine (h2 fun h4 => hm ((uor_z hx.m hy.m).2 ⟨h3, h4⟩)).1
      · exact (h1 h3).1
    refine ⟨he, fun i hi => ?_⟩
    have k1 : ((bv (V x.f)).getLsbD i && mb x i) = vb x i := by
      by_cases h3 : x.m = 0
      · rw [(m_zero hx h3 hi).1, (m_zero hx h3 hi).2]; simp
      · exact (h1 h3).2 i hi
    have k2 : ((bv (V x.f)).getLsbD i && mb y i) = vb y i := by
      by_cases h3 : y.m = 0
      · rw [(m_zero hy h3 hi).1, (m_zero hy h3 hi).2]; simp
      · exact (h2 h3).2 i hi
    rw [vb_mk2, mb_mk2, ← k1, ← k2, ← Bool.and_or_distrib_left]
theorem satF_cl {V E : Int → Int} {x y : Term} (hx : Wt x) (hy : Wt y) (hf : x.f = y.f) (h1 : satF V E x) (h2 : satF V E y) : clash x y = false := clash_f.2 fun i hi => by
  have k1 : ((bv (V x.f)).getLsbD i && mb x i) = vb x i := by
    by_cases h3 : x.m = 0
    · rw [(m_zero hx h3 hi).1, (m_zero hx h3 hi).2]; simp
    · exact (h1 h3).2 i hi
  have k2 : ((bv (V x.f)).getLsbD i && mb y i) = vb y i := by
    by_cases h3 : y.m = 0
    · rw [(m_zero hy h3 hi).1, (m_zero hy h3 hi).2]; simp
    · rw [hf]; exact (h2 h3).2 i hi
  revert k1 k2
  generalize vb x i = a; generalize mb x i = b; generalize vb y i = c; generalize mb y i = d; generalize (bv (V x.f)).getLsbD i = e
  revert a b c d e; decide
theorem satF_imp {V E : Int → Int} {x y : Term} (hx : Wt x) (hy : Wt y) (hf : x.f = y.f) (h : impF x y) (h1 : satF V E x) : satF V E y := by
  intro hm
  have hxm : x.m ≠ 0 := by
    intro h0
    apply hm
    rw [u_zero hy.m]
    intro i hi
    have h3 := (h i hi).1
    rw [(m_zero hx h0 hi).1] at h3
    simpa using h3
  obtain ⟨k1, k2⟩ := h1 hxm
  rw [← hf]
  refine ⟨k1, fun i hi => ?_⟩
  have k3 := k2 i hi
  have k4 := h i hi
  revert k3 k4
  generalize vb x i = a; generalize mb x i = b; generalize vb y i = c; generalize mb y i = d; generalize (bv (V x.f)).getLsbD i = e
  revert a b c d e; decide
theorem sat_both {V E : Int → Int} {a b x : List Term} (ha : Fm a) (hb : Fm b) (h : mrg a b = some x) : satL V E x = (satL V E a && satL V E b) := by
  obtain ⟨k1, k2⟩ := ha.mg hb h
  rw [Bool.eq_iff_iff, Bool.and_eq_true, satL_iff k1, satL_iff ha, satL_iff hb]
  have key : ∀ f, satF V E (tmF x f) ↔ satF V E (tmF a f) ∧ satF V E (tmF b f) := fun f => by
    rw [k2]; exact satF_mk (ha.wt f) (hb.wt f) (by rw [tmF_f, tmF_f]) (ha.sm hb h f)
  exact ⟨fun h => ⟨fun f => ((key f).1 (h f)).1, fun f => ((key f).1 (h f)).2⟩, fun h f => (key f).2 ⟨h.1 f, h.2 f⟩⟩
theorem sat_none {V E : Int → Int} {a b : List Term} (ha : Fm a) (hb : Fm b) (h : mrg a b = none) : (satL V E a && satL V E b) = false := by
  rw [Bool.eq_false_iff]
  intro h1
  rw [Bool.and_eq_true, satL_iff ha, satL_iff hb] at h1
  obtain ⟨f, hf⟩ := (ha.nn hb).1 h
  rw [satF_cl (ha.wt f) (hb.wt f) (by rw [tmF_f, tmF_f]) (h1.1 f) (h1.2 f)] at hf
  simp at hf
theorem sat_imp {V E : Int → Int} {a b : List Term} (ha : Fm a) (hb : Fm b) (h : Imp a b) (h1 : satL V E a = true) : satL V E b = true := by
  rw [satL_iff ha] at h1
  rw [satL_iff hb]
  exact fun f => satF_imp (ha.wt f) (hb.wt f) (by rw [tmF_f, tmF_f]) (h f) (h1 f)

end Go.Proofs.YtbimmnnjnlfddaaDoor
