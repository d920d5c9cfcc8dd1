/-
  And, as the program makes it.
-/
import Derived.Test.YtbimmnnjnlfddaaDoorX2
set_option linter.unusedVariables false
set_option linter.unusedSimpArgs false
set_option maxRecDepth 100000
set_option maxHeartbeats 1000000
namespace Go.Proofs.YtbimmnnjnlfddaaDoor
open Go Go.SL Go.Proofs
/-- Do two terms of one field deny each other? -/
def clash (x y : Term) : Bool := uand (uand (uxor x.v y.v) x.m) y.m != 0
def mk2 (x y : Term) : Term := ⟨x.f, uor x.v y.v, uor x.m y.m⟩
/-- What And makes. -/
def mrg : List Term → List Term → Option (List Term)
  | [], b => some b
  | a, [] => some a
  | t :: a, u :: b => if t.f < u.f then (mrg a (u :: b)).map (t :: ·) else if t.f > u.f then (mrg (t :: a) b).map (u :: ·) else if clash t u then none else (mrg a b).map (mk2 t u :: ·)
termination_by a b => a.length + b.length
def andV (a b : List Term) : List Term × Bool × Int := cond (chk 0 a && chk 0 b) (match mrg a b with | some r => (r, true, 0) | none => ([], false, 0)) ([], false, 90)
abbrev R3 (x : List Term × Bool × Int) : AV := .tup [TL x.1, B x.2.1, I .i64 x.2.2]
theorem chk_len : ∀ (l : List Term) (a : Int), 0 ≤ a → a ≤ 28 → chk a l = true → (l.length : Int) + a ≤ 28
  | [], a, _, h, _ => by simpa using h
  | t :: l, a, h0, h, hc => by
    simp only [chk, Bool.and_eq_true, Bool.not_eq_true'] at hc
    have hb : ¬ _ := fun h => by rw [bad_or.2 h] at hc; exact absurd hc.1 (by simp)
    have := chk_len l t.f (by omega) (by omega) hc.2
    simp only [List.length_cons]
    omega
theorem mrg_none {a b out : List Term} {t u : Term} (ha : a[0]? = some t) (hb : b[0]? = some u) (h1 : ¬ t.f < u.f) (h2 : ¬ t.f > u.f) (hc : clash t u = true) : (mrg a b).map (out ++ ·) = none := by
  match a, b, ha, hb with
  | t' :: a, u' :: b, ha, hb =>
    simp only [List.getElem?_cons_zero, Option.some.injEq] at ha hb
    subst ha; subst hb
    rw [mrg, if_neg h1, if_neg h2, if_pos hc]; rfl
theorem omap {α : Type} {x : Option (List α)} {out : List α} {t : α} : (x.map (t :: ·)).map (out ++ ·) = x.map ((out ++ [t]) ++ ·) := by
  cases x <;> simp
theorem mrg_lt {a b out : List Term} {t u : Term} (ha : a[0]? = some t) (hb : b[0]? = some u) (h1 : t.f < u.f) : (mrg a b).map (out ++ ·) = (mrg (a.drop 1) b).map ((out ++ [t]) ++ ·) := by
  match a, b, ha, hb with
  | t' :: a, u' :: b, ha, hb =>
    simp only [List.getElem?_cons_zero, Option.some.injEq] at ha hb
    subst ha; subst hb
    rw [mrg, if_pos h1, omap]; rfl
theorem mrg_gt {a b out : List Term} {t u : Term} (ha : a[0]? = some t) (hb : b[0]? = some u) (h1 : ¬ t.f < u.f) (h2 : t.f > u.f) : (mrg a b).map (out ++ ·) = (mrg a (b.drop 1)).map ((out ++ [u]) ++ ·) := by
  match a, b, ha, hb with
  | t' :: a, u' :: b, ha, hb =>
    simp only [List.getElem?_cons_zero, Option.some.injEq] at ha hb
    subst ha; subst hb
    rw [mrg, if_neg h1, if_pos h2, omap]; rfl
theorem mrg_eq {a b out : List Term} {t u : Term} (ha : a[0]? = some t) (hb : b[0]? = some u) (h1 : ¬ t.f < u.f) (h2 : ¬ t.f > u.f) (hc : clash t u = false) : (mrg a b).map (out ++ ·) = (mrg (a.drop 1) (b.drop 1)).map ((out ++ [mk2 t u]) ++ ·) := by
  match a, b, ha, hb with
  | t' :: a, u' :: b, ha, hb =>
    simp only [List.getElem?_cons_zero, Option.some.injEq] at ha hb
    subst ha; subst hb
    rw [mrg, if_neg h1, if_neg h2, if_neg (by simp [hc]), omap]; rfl
theorem mrg_nilR (a : List Term) : mrg a [] = some a := by cases a <;> simp [mrg]
theorem fm_tail {a : List Term} (h : 0 < a.length) : ((a.flatMap tC).drop (1 * 3)).take ((a.length - 1) * 3) = (a.drop 1).flatMap tC := by
  rw [fm_drop tC_len, List.take_of_length_le]
  rw [fm_len tC_len, List.length_drop]; exact Nat.le_refl _
theorem fm_app (out b : List Term) : (out.flatMap tC).drop 0 ++ b.flatMap tC = (out ++ b).flatMap tC := by rw [List.drop_zero, List.flatMap_append]
theorem fm_app1 (out : List Term) (t : Term) : (out.flatMap tC).drop 0 ++ tC t = (out ++ [t]).flatMap tC := by rw [List.drop_zero, List.flatMap_append]; simp
theorem rk (out : List Term) {k : Nat} (l : List AObj) (h : l.all (rowLt k) = true) : (AObj.row 3 (out.flatMap tC) :: l).all (rowLt k) = true := by
  rw [List.all_cons, h]
  simp only [rowLt, fm_no tC_no, Bool.true_or, Bool.and_self]
theorem Fz.tl {hp : List AObj} {o k : Nat} {r : List Term} {x y : AV} (ho : hp[o]? = some (AObj.row 3 (r.flatMap tC))) (hk : r.length = k) (hx : noOwn x = true) (hy : noOwn y = true) : Fz 0 hp (.tup [.sl o 0 k, x, y]) (.tup [TL r, x, y]) :=
  .tup (.cons (Fz.row ho (Nat.zero_le _) (by rw [fm_len tC_len, hk]) (fm_no tC_no r)) (.cons (.keep hx) (.cons (.keep hy) .nil)))
def ST (x : List Term × List Term × List Term) : SS := ⟨tbl [(0, TL x.1), (1, TL x.2.1), (7, .sl 0 0 x.2.2.length)], [.row 3 (x.2.2.flatMap tC)]⟩
def andO (R : Option (List Term)) : List Term × Bool × Int := match R with | some r => (r, true, 0) | none => ([], false, 0)
theorem w_And (a b : List Term) (hla : a.length ≤ 140737488351232) (hlb : b.length ≤ 140737488351232) : Spec0 Tryd.prog 12 [TL a, TL b] (R3 (andV a b)) := by
  have hca := w_Check a hla
  have hcb := w_Check b hlb
  refine Spec0.walk Tryd.func12 rfl rfl ?_
  refine W.sxP hm hF 12 1 1000 20 [] [] [(0, TL a), (1, TL b)] [] (by kernel_rfl) trivial ?_
  by_cases hab : chk 0 a && chk 0 b
  · have h0 := Bool.and_eq_true_iff.1 hab
    have la := chk_len a 0 (by decide) (by decide) h0.1
    have lb := chk_len b 0 (by decide) (by decide) h0.2
    have ea : okC a = 0 := by unfold okC; rw [h0.1]; rfl
    have eb : okC b = 0 := by unfold okC; rw [h0.2]; rfl
    rw [ea] at hca
    rw [eb] at hcb
    have eR : andV a b = andO (mrg a b) := by unfold andV; rw [hab]; rfl
    rw [eR]
    generalize hR : mrg a b = R
    refine W.scopeM1 ST (fun x : List Term × List Term × List Term => x.1.length ≤ 28 ∧ x.2.1.length ≤ 28 ∧ x.2.2.length + x.1.length + x.2.1.length ≤ 56 ∧ (mrg x.1 x.2.1).map (x.2.2 ++ ·) = R) (fun x => x.1.length + x.2.1.length) 0 rfl rfl ?_ ?_
    · clear hla hlb hca hcb hab h0 la lb ea eb eR hR
      rintro ⟨a, b, out⟩ ⟨la, lb, lo, hr⟩
      simp only at la lb lo hr
      unfold ST
      simp only
      cases za : ((a.length : Nat) : Int) == 0
      · have ha0 : 0 < a.length := by have : ((a.length : Nat) : Int) ≠ 0 := by simpa using za
                                      omega
        cases zb : ((b.length : Nat) : Int) == 0
        · have hb0 : 0 < b.length := by have : ((b.length : Nat) : Int) ≠ 0 := by simpa using zb
                                        omega
          obtain ⟨t, ht⟩ : ∃ t, a[0]? = some t := ⟨_, List.getElem?_eq_getElem ha0⟩
          obtain ⟨u, hu⟩ : ∃ u, b[0]? = some u := ⟨_, List.getElem?_eq_getElem hb0⟩
          cases g1 : decide (t.f < u.f)
          · have k1 := of_decide_eq_false g1
            cases g2 : decide (t.f > u.f)
            · have k2 := of_decide_eq_false g2
              have ef : t.f = u.f := by omega
              cases g3 : uand (uand (uxor t.v u.v) t.m) u.m != 0
              · exact W.sx hm hF 12 1000 20 [.n 12 4 1 a.length, .b 12 4 2 false, .n 12 6 1 b.length, .b 12 6 2 false, .j 12 8 1 a.length 0, .l 12 8 3 (I .i64 t.f), .j 12 8 5 b.length 0, .l 12 8 7 (I .i64 u.f), .b 12 8 8 false, .j 12 10 1 a.length 0, .l 12 10 3 (I .i64 t.f), .j 12 10 5 b.length 0, .l 12 10 7 (I .i64 u.f), .b 12 10 8 false, .j 12 12 1 a.length 0, .l 12 12 2 (.agg (tC t)), .j 12 12 4 b.length 0, .l 12 12 5 (.agg (tC u)), .r 12 12 8, .r 12 12 9, .b 12 13 11 false, .p 12 15 15 1 (out ++ [mk2 t u]).length (tC (mk2 t u)) ((out ++ [mk2 t u]).flatMap tC), .t 12 16 1 a.length 1 a.length ((a.drop 1).flatMap tC), .t 12 16 3 b.length 1 b.length ((b.drop 1).flatMap tC)] [(1 : Int) = ((1 : Nat) : Int), b.length = b.length, b.length * 3 = (b.flatMap tC).length, 0 < 3, 1 ≤ b.length, b.length ≤ b.length, ((b.flatMap tC).drop (1 * 3)).take ((b.length - 1) * 3) = (b.drop 1).flatMap tC, (1 : Int) = ((1 : Nat) : Int), a.length = a.length, a.length * 3 = (a.flatMap tC).length, 0 < 3, 1 ≤ a.length, a.length ≤ a.length, ((a.flatMap tC).drop (1 * 3)).take ((a.length - 1) * 3) = (a.drop 1).flatMap tC, 1 = 1, tC (mk2 t u) = tC (mk2 t u), 0 + out.length * 3 = (out.flatMap tC).length, (out ++ [mk2 t u]).length * 24 ≤ 140737488355328, out.length + 1 = (out ++ [mk2 t u]).length, (out.flatMap tC).drop 0 ++ tC (mk2 t u) = (out ++ [mk2 t u]).flatMap tC, (uand (uand (uxor t.v u.v) t.m) u.m != 0) = false, (AObj.row 3 (out.flatMap tC) :: [AObj.row 1 (tC t), AObj.row 1 [I .i64 0, I .u64 0, I .u64 0]]).all (rowLt 3) = true, (AObj.row 3 (out.flatMap tC) :: [AObj.row 1 [I .i64 0, I .u64 0, I .u64 0], AObj.row 1 [I .i64 0, I .u64 0, I .u64 0]]).all (rowLt 3) = true, ((b.flatMap tC).drop (0 * 3)).take 3 = tC u, 0 * 3 + 3 ≤ (b.flatMap tC).length, b.length * 3 = (b.flatMap tC).length, 0 < 3, (0 : Int) = ((0 : Nat) : Int), 0 < b.length, ((a.flatMap tC).drop (0 * 3)).take 3 = tC t, 0 * 3 + 3 ≤ (a.flatMap tC).length, a.length * 3 = (a.flatMap tC).length, 0 < 3, (0 : Int) = ((0 : Nat) : Int), 0 < a.length, (decide (t.f > u.f)) = false, (b.flatMap tC)[0 * 3 + 0]? = some (I .i64 u.f), b.length * 3 = (b.flatMap tC).length, 0 < 3, (0 : Int) = ((0 : Nat) : Int), 0 < b.length, (a.flatMap tC)[0 * 3 + 0]? = some (I .i64 t.f), a.length * 3 = (a.flatMap tC).length, 0 < 3, (0 : Int) = ((0 : Nat) : Int), 0 < a.length, (decide (t.f < u.f)) = false, (b.flatMap tC)[0 * 3 + 0]? = some (I .i64 u.f), b.length * 3 = (b.flatMap tC).length, 0 < 3, (0 : Int) = ((0 : Nat) : Int), 0 < b.length, (a.flatMap tC)[0 * 3 + 0]? = some (I .i64 t.f), a.length * 3 = (a.flatMap tC).length, 0 < 3, (0 : Int) = ((0 : Nat) : Int), 0 < a.length, (((b.length : Nat) : Int) == 0) = false, b.length * 3 = (b.flatMap tC).length, 0 < 3, (((a.length : Nat) : Int) == 0) = false, a.length * 3 = (a.flatMap tC).length, 0 < 3] (.goto 0) [(0, TL (a.drop 1)), (1, TL (b.drop 1)), (7, .sl 4 0 (out ++ [mk2 t u]).length)] [.dead, .row 1 (tC t), .row 1 (tC u), .row 3 (tC (mk2 t u)), .row 3 ((out ++ [mk2 t u]).flatMap tC)] (by kernel_rfl) ⟨rfl, rfl, (fm_len tC_len b).symm, by decide, hb0, Nat.le_refl _, fm_tail hb0, rfl, rfl, (fm_len tC_len a).symm, by decide, ha0, Nat.le_refl _, fm_tail ha0, rfl, rfl, by rw [fm_len tC_len]; omega, by rw [List.length_append, List.length_singleton]; omega, by simp, fm_app1 out (mk2 t u), g3, rk out _ rfl, rk out _ rfl, fm_at tC_len b hu, fm_bound tC_len b hb0, (fm_len tC_len b).symm, by decide, rfl, hb0, fm_at tC_len a ht, fm_bound tC_len a ha0, (fm_len tC_len a).symm, by decide, rfl, ha0, g2, fm_cell tC_len b hu (by decide) rfl, (fm_len tC_len b).symm, by decide, rfl, hb0, fm_cell tC_len a ht (by decide) rfl, (fm_len tC_len a).symm, by decide, rfl, ha0, g1, fm_cell tC_len b hu (by decide) rfl, (fm_len tC_len b).symm, by decide, rfl, hb0, fm_cell tC_len a ht (by decide) rfl, (fm_len tC_len a).symm, by decide, rfl, ha0, zb, (fm_len tC_len b).symm, by decide, za, (fm_len tC_len a).symm, by decide, trivial⟩ (fun σ h => ⟨rfl, (a.drop 1, b.drop 1, out ++ [mk2 t u]), [4], ⟨by simp only [List.length_drop]; omega, by simp only [List.length_drop]; omega, by simp only [List.length_drop, List.length_append, List.length_cons, List.length_nil]; omega, (mrg_eq ht hu k1 k2 g3).symm.trans hr⟩, by simp only [List.length_drop]; omega, LeM.mk' (out := [(0, TL (a.drop 1)), (1, TL (b.drop 1)), (7, .sl 4 0 (out ++ [mk2 t u]).length)]) (hp := [.dead, .row 1 (tC t), .row 1 (tC u), .row 3 (tC (mk2 t u)), .row 3 ((out ++ [mk2 t u]).flatMap tC)]) rfl rfl (by simp) (by decide) (by intro r hr; rw [List.mem_singleton] at hr; subst hr; exact fm_no tC_no _) h⟩)
              · rw [mrg_none ht hu k1 k2 g3] at hr
                subst hr
                exact W.sx hm hF 12 1000 20 [.n 12 4 1 a.length, .b 12 4 2 false, .n 12 6 1 b.length, .b 12 6 2 false, .j 12 8 1 a.length 0, .l 12 8 3 (I .i64 t.f), .j 12 8 5 b.length 0, .l 12 8 7 (I .i64 u.f), .b 12 8 8 false, .j 12 10 1 a.length 0, .l 12 10 3 (I .i64 t.f), .j 12 10 5 b.length 0, .l 12 10 7 (I .i64 u.f), .b 12 10 8 false, .j 12 12 1 a.length 0, .l 12 12 2 (.agg (tC t)), .j 12 12 4 b.length 0, .l 12 12 5 (.agg (tC u)), .r 12 12 8, .r 12 12 9, .b 12 13 11 true] [(uand (uand (uxor t.v u.v) t.m) u.m != 0) = true, (AObj.row 3 (out.flatMap tC) :: [AObj.row 1 (tC t), AObj.row 1 [I .i64 0, I .u64 0, I .u64 0]]).all (rowLt 3) = true, (AObj.row 3 (out.flatMap tC) :: [AObj.row 1 [I .i64 0, I .u64 0, I .u64 0], AObj.row 1 [I .i64 0, I .u64 0, I .u64 0]]).all (rowLt 3) = true, ((b.flatMap tC).drop (0 * 3)).take 3 = tC u, 0 * 3 + 3 ≤ (b.flatMap tC).length, b.length * 3 = (b.flatMap tC).length, 0 < 3, (0 : Int) = ((0 : Nat) : Int), 0 < b.length, ((a.flatMap tC).drop (0 * 3)).take 3 = tC t, 0 * 3 + 3 ≤ (a.flatMap tC).length, a.length * 3 = (a.flatMap tC).length, 0 < 3, (0 : Int) = ((0 : Nat) : Int), 0 < a.length, (decide (t.f > u.f)) = false, (b.flatMap tC)[0 * 3 + 0]? = some (I .i64 u.f), b.length * 3 = (b.flatMap tC).length, 0 < 3, (0 : Int) = ((0 : Nat) : Int), 0 < b.length, (a.flatMap tC)[0 * 3 + 0]? = some (I .i64 t.f), a.length * 3 = (a.flatMap tC).length, 0 < 3, (0 : Int) = ((0 : Nat) : Int), 0 < a.length, (decide (t.f < u.f)) = false, (b.flatMap tC)[0 * 3 + 0]? = some (I .i64 u.f), b.length * 3 = (b.flatMap tC).length, 0 < 3, (0 : Int) = ((0 : Nat) : Int), 0 < b.length, (a.flatMap tC)[0 * 3 + 0]? = some (I .i64 t.f), a.length * 3 = (a.flatMap tC).length, 0 < 3, (0 : Int) = ((0 : Nat) : Int), 0 < a.length, (((b.length : Nat) : Int) == 0) = false, b.length * 3 = (b.flatMap tC).length, 0 < 3, (((a.length : Nat) : Int) == 0) = false, a.length * 3 = (a.flatMap tC).length, 0 < 3] .ret [(4, .nil), (5, B false), (6, I .i64 0)] [.row 3 (out.flatMap tC), .row 1 (tC t), .row 1 (tC u)] (by kernel_rfl) ⟨g3, rk out _ rfl, rk out _ rfl, fm_at tC_len b hu, fm_bound tC_len b hb0, (fm_len tC_len b).symm, by decide, rfl, hb0, fm_at tC_len a ht, fm_bound tC_len a ha0, (fm_len tC_len a).symm, by decide, rfl, ha0, g2, fm_cell tC_len b hu (by decide) rfl, (fm_len tC_len b).symm, by decide, rfl, hb0, fm_cell tC_len a ht (by decide) rfl, (fm_len tC_len a).symm, by decide, rfl, ha0, g1, fm_cell tC_len b hu (by decide) rfl, (fm_len tC_len b).symm, by decide, rfl, hb0, fm_cell tC_len a ht (by decide) rfl, (fm_len tC_len a).symm, by decide, rfl, ha0, zb, (fm_len tC_len b).symm, by decide, za, (fm_len tC_len a).symm, by decide, trivial⟩ (fun σ h => retK.fzN (.inl rfl) h rfl (.keep rfl) (fun _ _ _ _ => nil_im3))
            · have k2 := of_decide_eq_true g2
              exact W.sx hm hF 12 1000 20 [.n 12 4 1 a.length, .b 12 4 2 false, .n 12 6 1 b.length, .b 12 6 2 false, .j 12 8 1 a.length 0, .l 12 8 3 (I .i64 t.f), .j 12 8 5 b.length 0, .l 12 8 7 (I .i64 u.f), .b 12 8 8 false, .j 12 10 1 a.length 0, .l 12 10 3 (I .i64 t.f), .j 12 10 5 b.length 0, .l 12 10 7 (I .i64 u.f), .b 12 10 8 true, .j 12 11 2 b.length 0, .l 12 11 3 (.agg (tC u)), .p 12 11 5 1 (out ++ [u]).length (tC (u)) ((out ++ [u]).flatMap tC), .r 12 11 5, .t 12 11 7 b.length 1 b.length ((b.drop 1).flatMap tC)] [(1 : Int) = ((1 : Nat) : Int), b.length = b.length, b.length * 3 = (b.flatMap tC).length, 0 < 3, 1 ≤ b.length, b.length ≤ b.length, ((b.flatMap tC).drop (1 * 3)).take ((b.length - 1) * 3) = (b.drop 1).flatMap tC, (AObj.row 3 (out.flatMap tC) :: [AObj.row 3 (tC u)]).all (rowLt 2) = true, 1 = 1, tC (u) = tC (u), 0 + out.length * 3 = (out.flatMap tC).length, (out ++ [u]).length * 24 ≤ 140737488355328, out.length + 1 = (out ++ [u]).length, (out.flatMap tC).drop 0 ++ tC (u) = (out ++ [u]).flatMap tC, ((b.flatMap tC).drop (0 * 3)).take 3 = tC u, 0 * 3 + 3 ≤ (b.flatMap tC).length, b.length * 3 = (b.flatMap tC).length, 0 < 3, (0 : Int) = ((0 : Nat) : Int), 0 < b.length, (decide (t.f > u.f)) = true, (b.flatMap tC)[0 * 3 + 0]? = some (I .i64 u.f), b.length * 3 = (b.flatMap tC).length, 0 < 3, (0 : Int) = ((0 : Nat) : Int), 0 < b.length, (a.flatMap tC)[0 * 3 + 0]? = some (I .i64 t.f), a.length * 3 = (a.flatMap tC).length, 0 < 3, (0 : Int) = ((0 : Nat) : Int), 0 < a.length, (decide (t.f < u.f)) = false, (b.flatMap tC)[0 * 3 + 0]? = some (I .i64 u.f), b.length * 3 = (b.flatMap tC).length, 0 < 3, (0 : Int) = ((0 : Nat) : Int), 0 < b.length, (a.flatMap tC)[0 * 3 + 0]? = some (I .i64 t.f), a.length * 3 = (a.flatMap tC).length, 0 < 3, (0 : Int) = ((0 : Nat) : Int), 0 < a.length, (((b.length : Nat) : Int) == 0) = false, b.length * 3 = (b.flatMap tC).length, 0 < 3, (((a.length : Nat) : Int) == 0) = false, a.length * 3 = (a.flatMap tC).length, 0 < 3] (.goto 0) [(0, TL a), (1, TL (b.drop 1)), (7, .sl 2 0 (out ++ [u]).length)] [.dead, .row 3 (tC u), .row 3 ((out ++ [u]).flatMap tC)] (by kernel_rfl) ⟨rfl, rfl, (fm_len tC_len b).symm, by decide, hb0, Nat.le_refl _, fm_tail hb0, rk out _ rfl, rfl, rfl, by rw [fm_len tC_len]; omega, by rw [List.length_append, List.length_singleton]; omega, by simp, fm_app1 out (u), fm_at tC_len b hu, fm_bound tC_len b hb0, (fm_len tC_len b).symm, by decide, rfl, hb0, g2, fm_cell tC_len b hu (by decide) rfl, (fm_len tC_len b).symm, by decide, rfl, hb0, fm_cell tC_len a ht (by decide) rfl, (fm_len tC_len a).symm, by decide, rfl, ha0, g1, fm_cell tC_len b hu (by decide) rfl, (fm_len tC_len b).symm, by decide, rfl, hb0, fm_cell tC_len a ht (by decide) rfl, (fm_len tC_len a).symm, by decide, rfl, ha0, zb, (fm_len tC_len b).symm, by decide, za, (fm_len tC_len a).symm, by decide, trivial⟩ (fun σ h => ⟨rfl, (a, b.drop 1, out ++ [u]), [2], ⟨la, by simp only [List.length_drop]; omega, by simp only [List.length_drop, List.length_append, List.length_cons, List.length_nil]; omega, (mrg_gt ht hu k1 k2).symm.trans hr⟩, by simp only [List.length_drop]; omega, LeM.mk' (out := [(0, TL a), (1, TL (b.drop 1)), (7, .sl 2 0 (out ++ [u]).length)]) (hp := [.dead, .row 3 (tC u), .row 3 ((out ++ [u]).flatMap tC)]) rfl rfl (by simp) (by decide) (by intro r hr; rw [List.mem_singleton] at hr; subst hr; exact fm_no tC_no _) h⟩)
          · have k1 := of_decide_eq_true g1
            exact W.sx hm hF 12 1000 20 [.n 12 4 1 a.length, .b 12 4 2 false, .n 12 6 1 b.length, .b 12 6 2 false, .j 12 8 1 a.length 0, .l 12 8 3 (I .i64 t.f), .j 12 8 5 b.length 0, .l 12 8 7 (I .i64 u.f), .b 12 8 8 true, .j 12 9 2 a.length 0, .l 12 9 3 (.agg (tC t)), .p 12 9 5 1 (out ++ [t]).length (tC (t)) ((out ++ [t]).flatMap tC), .r 12 9 5, .t 12 9 7 a.length 1 a.length ((a.drop 1).flatMap tC)] [(1 : Int) = ((1 : Nat) : Int), a.length = a.length, a.length * 3 = (a.flatMap tC).length, 0 < 3, 1 ≤ a.length, a.length ≤ a.length, ((a.flatMap tC).drop (1 * 3)).take ((a.length - 1) * 3) = (a.drop 1).flatMap tC, (AObj.row 3 (out.flatMap tC) :: [AObj.row 3 (tC t)]).all (rowLt 2) = true, 1 = 1, tC (t) = tC (t), 0 + out.length * 3 = (out.flatMap tC).length, (out ++ [t]).length * 24 ≤ 140737488355328, out.length + 1 = (out ++ [t]).length, (out.flatMap tC).drop 0 ++ tC (t) = (out ++ [t]).flatMap tC, ((a.flatMap tC).drop (0 * 3)).take 3 = tC t, 0 * 3 + 3 ≤ (a.flatMap tC).length, a.length * 3 = (a.flatMap tC).length, 0 < 3, (0 : Int) = ((0 : Nat) : Int), 0 < a.length, (decide (t.f < u.f)) = true, (b.flatMap tC)[0 * 3 + 0]? = some (I .i64 u.f), b.length * 3 = (b.flatMap tC).length, 0 < 3, (0 : Int) = ((0 : Nat) : Int), 0 < b.length, (a.flatMap tC)[0 * 3 + 0]? = some (I .i64 t.f), a.length * 3 = (a.flatMap tC).length, 0 < 3, (0 : Int) = ((0 : Nat) : Int), 0 < a.length, (((b.length : Nat) : Int) == 0) = false, b.length * 3 = (b.flatMap tC).length, 0 < 3, (((a.length : Nat) : Int) == 0) = false, a.length * 3 = (a.flatMap tC).length, 0 < 3] (.goto 0) [(0, TL (a.drop 1)), (1, TL b), (7, .sl 2 0 (out ++ [t]).length)] [.dead, .row 3 (tC t), .row 3 ((out ++ [t]).flatMap tC)] (by kernel_rfl) ⟨rfl, rfl, (fm_len tC_len a).symm, by decide, ha0, Nat.le_refl _, fm_tail ha0, rk out _ rfl, rfl, rfl, by rw [fm_len tC_len]; omega, by rw [List.length_append, List.length_singleton]; omega, by simp, fm_app1 out (t), fm_at tC_len a ht, fm_bound tC_len a ha0, (fm_len tC_len a).symm, by decide, rfl, ha0, g1, fm_cell tC_len b hu (by decide) rfl, (fm_len tC_len b).symm, by decide, rfl, hb0, fm_cell tC_len a ht (by decide) rfl, (fm_len tC_len a).symm, by decide, rfl, ha0, zb, (fm_len tC_len b).symm, by decide, za, (fm_len tC_len a).symm, by decide, trivial⟩ (fun σ h => ⟨rfl, (a.drop 1, b, out ++ [t]), [2], ⟨by simp only [List.length_drop]; omega, lb, by simp only [List.length_drop, List.length_append, List.length_cons, List.length_nil]; omega, (mrg_lt ht hu k1).symm.trans hr⟩, by simp only [List.length_drop]; omega, LeM.mk' (out := [(0, TL (a.drop 1)), (1, TL b), (7, .sl 2 0 (out ++ [t]).length)]) (hp := [.dead, .row 3 (tC t), .row 3 ((out ++ [t]).flatMap tC)]) rfl rfl (by simp) (by decide) (by intro r hr; rw [List.mem_singleton] at hr; subst hr; exact fm_no tC_no _) h⟩)
        · have eb : b = [] := List.eq_nil_of_length_eq_zero (by have : ((b.length : Nat) : Int) = 0 := by simpa using zb
                                                                omega)
          have hr' : R = some (out ++ a) := by rw [← hr, eb, mrg_nilR]; rfl
          subst hr'
          exact W.sx hm hF 12 1000 20 [.n 12 4 1 a.length, .b 12 4 2 false, .n 12 6 1 b.length, .b 12 6 2 true, .p 12 7 2 a.length (out.length + a.length) (a.flatMap tC) ((out ++ a).flatMap tC)] [a.length * 3 = (a.flatMap tC).length, 0 < 3, (a.flatMap tC).all cellAV = true, a.flatMap tC = a.flatMap tC, 0 + out.length * 3 = (out.flatMap tC).length, (out.length + a.length) * 24 ≤ 140737488355328, out.length + a.length = out.length + a.length, (out.flatMap tC).drop 0 ++ a.flatMap tC = (out ++ a).flatMap tC, (((b.length : Nat) : Int) == 0) = true, b.length * 3 = (b.flatMap tC).length, 0 < 3, (((a.length : Nat) : Int) == 0) = false, a.length * 3 = (a.flatMap tC).length, 0 < 3] .ret [(4, .sl 1 0 (out.length + a.length)), (5, B true), (6, I .i64 0)] [.dead, .row 3 ((out ++ a).flatMap tC)] (by kernel_rfl) ⟨(fm_len tC_len a).symm, by decide, fm_one tC_one a, rfl, by rw [fm_len tC_len]; omega, by omega, rfl, fm_app out a, zb, (fm_len tC_len b).symm, by decide, za, (fm_len tC_len a).symm, by decide, trivial⟩ (fun σ h => retK.fz (.inl rfl) h rfl (Fz.tl rfl List.length_append rfl rfl))
      · have ea : a = [] := List.eq_nil_of_length_eq_zero (by have : ((a.length : Nat) : Int) = 0 := by simpa using za
                                                              omega)
        have hr' : R = some (out ++ b) := by rw [← hr, ea, mrg]; rfl
        subst hr'
        exact W.sx hm hF 12 1000 20 [.n 12 4 1 a.length, .b 12 4 2 true, .p 12 5 2 b.length (out.length + b.length) (b.flatMap tC) ((out ++ b).flatMap tC)] [b.length * 3 = (b.flatMap tC).length, 0 < 3, (b.flatMap tC).all cellAV = true, b.flatMap tC = b.flatMap tC, 0 + out.length * 3 = (out.flatMap tC).length, (out.length + b.length) * 24 ≤ 140737488355328, out.length + b.length = out.length + b.length, (out.flatMap tC).drop 0 ++ b.flatMap tC = (out ++ b).flatMap tC, (((a.length : Nat) : Int) == 0) = true, a.length * 3 = (a.flatMap tC).length, 0 < 3] .ret [(4, .sl 1 0 (out.length + b.length)), (5, B true), (6, I .i64 0)] [.dead, .row 3 ((out ++ b).flatMap tC)] (by kernel_rfl) ⟨(fm_len tC_len b).symm, by decide, fm_one tC_one b, rfl, by rw [fm_len tC_len]; omega, by omega, rfl, fm_app out b, za, (fm_len tC_len a).symm, by decide, trivial⟩ (fun σ h => retK.fz (.inl rfl) h rfl (Fz.tl rfl List.length_append rfl rfl))
    · intro K' h1 h2
      refine W.sxP hm hF 12 3 1000 20 [.c 12 2 1 (I .i64 0), .c 12 2 5 (I .i64 0)] [_, _] [(0, TL a), (1, TL b), (7, .nil)] [] (by kernel_rfl) ⟨hcb, hca, trivial⟩ ?_
      refine W.nilRow 3 rfl ?_
      exact h1 (a, b, []) ⟨by simp only; omega, by simp only; omega, by simp only [List.length_nil]; omega, by simp only [List.nil_append, Option.map_id']; exact hR⟩
  · have hv : andV a b = ([], false, 90) := by unfold andV; rw [Bool.eq_false_iff.2 hab]; rfl
    rw [hv]
    cases h1 : chk 0 a
    · have ea : okC a = 90 := by unfold okC; rw [h1]; rfl
      rw [ea] at hca
      exact W.sx hm hF 12 1000 20 [.c 12 2 1 (I .i64 90)] [_] .ret [(4, .nil), (5, B false), (6, I .i64 90)] [] (by kernel_rfl) ⟨hca, trivial⟩ (fun σ h => by exact retK.fzN (.inl rfl) h rfl (.keep rfl) (fun _ _ _ _ => nil_im3))
    · have h2 : chk 0 b = false := by simpa [h1] using hab
      have ea : okC a = 0 := by unfold okC; rw [h1]; rfl
      have eb : okC b = 90 := by unfold okC; rw [h2]; rfl
      rw [ea] at hca
      rw [eb] at hcb
      exact W.sx hm hF 12 1000 20 [.c 12 2 1 (I .i64 0), .c 12 2 5 (I .i64 90)] [_, _] .ret [(4, .nil), (5, B false), (6, I .i64 90)] [] (by kernel_rfl) ⟨hcb, hca, trivial⟩ (fun σ h => by exact retK.fzN (.inl rfl) h rfl (.keep rfl) (fun _ _ _ _ => nil_im3))
end Go.Proofs.YtbimmnnjnlfddaaDoor
