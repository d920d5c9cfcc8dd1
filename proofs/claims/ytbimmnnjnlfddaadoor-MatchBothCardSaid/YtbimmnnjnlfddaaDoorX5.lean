/-
  Meet, same, and the program's Implies.
-/
import Derived.Test.YtbimmnnjnlfddaaDoorX4
set_option linter.unusedVariables false
set_option linter.unusedSimpArgs false
set_option maxRecDepth 100000
set_option maxHeartbeats 1000000
namespace Go.Proofs.YtbimmnnjnlfddaaDoor
open Go Go.SL Go.Proofs
def meetV (a b : List Term) : Bool := (andV a b).2.1 && (andV a b).2.2 == 0
theorem w_Meet (a b : List Term) (hla : a.length ≤ 140737488351232) (hlb : b.length ≤ 140737488351232) : Spec0 Tryd.prog 15 [TL a, TL b] (B (meetV a b)) := by
  have h := w_And a b hla hlb
  unfold meetV
  cases h1 : (andV a b).2.1
  · exact sx0 hm hF 1000 20 [.c 15 1 2 (R3 (andV a b)), .b 15 2 1 false] [(andV a b).2.1 = false, Spec0 Tryd.prog 12 [TL a, TL b] (R3 (andV a b))] (by kernel_rfl) ⟨h1, h, trivial⟩
  · exact sx0 hm hF 1000 20 [.c 15 1 2 (R3 (andV a b)), .b 15 2 1 true] [(andV a b).2.1 = true, Spec0 Tryd.prog 12 [TL a, TL b] (R3 (andV a b))] (by kernel_rfl) ⟨h1, h, trivial⟩
theorem w_RMeet (a b : List Term) (hla : a.length ≤ 140737488351232) (hlb : b.length ≤ 140737488351232) : Spec0 Tryd.prog 16 [TL a, TL b] (B (randV a b).2.1) :=
  sx0 hm hF 1000 20 [.c 16 1 2 (R3 (randV a b))] [Spec0 Tryd.prog 13 [TL a, TL b] (R3 (randV a b))] (by kernel_rfl) ⟨w_RAnd a b hla hlb, trivial⟩
theorem w_same (l : List Term) (hl0 : l.length ≤ 140737488351232) : Spec0 Tryd.prog 10 [TL l, TL l] (B true) := by
  refine Spec0.walk Tryd.func10 rfl rfl ?_
  refine W.sxP hm hF 10 2 1000 20 [.n 10 1 1 l.length, .n 10 1 3 l.length, .b 10 1 4 false] [(((l.length : Nat) : Int) != ((l.length : Nat) : Int)) = false, l.length * 3 = (l.flatMap tC).length, 0 < 3, l.length * 3 = (l.flatMap tC).length, 0 < 3] [(0, TL l), (1, TL l)] [] (by kernel_rfl) ⟨by simp, (fm_len tC_len l).symm, by decide, (fm_len tC_len l).symm, by decide, trivial⟩ ?_
  refine W.seq ?_
  refine W.seq ?_
  refine W.sx hm hF 10 1000 20 [] [] .normal [(0, TL l), (1, TL l), (5, I .i64 0)] [] (by kernel_rfl) trivial (fun σ h => W.weaken h ?_)
  refine W.block ?_
  refine W.loop (fun i : Nat => ⟨tbl [(0, TL l), (1, TL l), (5, I .i64 (i : Nat))], []⟩) (fun i => i ≤ l.length) (fun i => l.length - i) 0 (Nat.zero_le _) (Le.refl _) ?_
  intro i hi
  by_cases hlt : i < l.length
  · have hb : decide (((i : Nat) : Int) < (l.length : Nat)) = true := decide_eq_true (by omega)
    obtain ⟨t, hget⟩ : ∃ t, l[i]? = some t := ⟨_, List.getElem?_eq_getElem hlt⟩
    exact W.sx hm hF 10 1000 20 [.n 10 4 2 l.length, .b 10 4 3 true, .j 10 6 2 l.length i, .l 10 6 3 (.agg (tC t)), .j 10 6 6 l.length i, .l 10 6 7 (.agg (tC t)), .b 10 6 8 false, .z 10 5 1 ((i + 1 : Nat) : Int)] [IntKind.i64.wrap (((i : Nat) : Int) + 1) = ((i + 1 : Nat) : Int), (!(t.f == t.f && (t.v == t.v && (t.m == t.m && true)))) = false, ((l.flatMap tC).drop (i * 3)).take 3 = tC t, i * 3 + 3 ≤ (l.flatMap tC).length, l.length * 3 = (l.flatMap tC).length, 0 < 3, ((i : Nat) : Int) = (i : Int), i < l.length, ((l.flatMap tC).drop (i * 3)).take 3 = tC t, i * 3 + 3 ≤ (l.flatMap tC).length, l.length * 3 = (l.flatMap tC).length, 0 < 3, ((i : Nat) : Int) = (i : Int), i < l.length, (decide (((i : Nat) : Int) < (l.length : Nat))) = true, l.length * 3 = (l.flatMap tC).length, 0 < 3] .normal [(0, TL l), (1, TL l), (5, I .i64 (i + 1 : Nat))] [] (by kernel_rfl) ⟨i64_n i (by omega), by simp, fm_at tC_len l hget, fm_bound tC_len l hlt, (fm_len tC_len l).symm, by decide, rfl, hlt, fm_at tC_len l hget, fm_bound tC_len l hlt, (fm_len tC_len l).symm, by decide, rfl, hlt, hb, (fm_len tC_len l).symm, by decide, trivial⟩ (fun σ h => ⟨i + 1, hlt, by omega, h⟩)
  · have hb : decide (((i : Nat) : Int) < (l.length : Nat)) = false := decide_eq_false (by omega)
    refine W.sx hm hF 10 1000 20 [.n 10 4 2 l.length, .b 10 4 3 false] [decide (((i : Nat) : Int) < (l.length : Nat)) = false, l.length * 3 = (l.flatMap tC).length, 0 < 3] (.exit 0) [] [] (by kernel_rfl) ⟨hb, (fm_len tC_len l).symm, by decide, trivial⟩ (fun σ h => W.weaken h ?_)
    exact W.sxR hm hF 10 1000 20 [] [] [.tmp 4] .ret (B true) (by kernel_rfl) trivial (fun σ xs h1 h2 => retK.mk (.inl rfl) h1 h2)
def imp1 (a : List Term) (t : Term) : Bool := match a with
  | [] => false
  | x :: _ => !(x.f != t.f) && (!(uandn t.m x.m != 0) && !(uand x.v t.m != t.v))
def impGo : List Term → List Term → Bool
  | _, [] => true
  | a, t :: b => imp1 (a.dropWhile fun x => decide (x.f < t.f)) t && impGo (a.dropWhile fun x => decide (x.f < t.f)) b
def impV (a b : List Term) : Bool := chk 0 a && chk 0 b && impGo a b
theorem dropW {a : List Term} {x : Term} {f : Int} (h : a[0]? = some x) (hx : decide (x.f < f) = true) : (a.drop 1).dropWhile (fun x => decide (x.f < f)) = a.dropWhile (fun x => decide (x.f < f)) := by
  cases a with
  | nil => simp at h
  | cons y a =>
    simp only [List.getElem?_cons_zero, Option.some.injEq] at h
    subst h
    rw [List.dropWhile_cons, hx]; rfl
theorem dropW0 {a : List Term} {x : Term} {f : Int} (h : a[0]? = some x) (hx : decide (x.f < f) = false) : a.dropWhile (fun x => decide (x.f < f)) = a := by
  cases a with
  | nil => simp at h
  | cons y a =>
    simp only [List.getElem?_cons_zero, Option.some.injEq] at h
    subst h
    rw [List.dropWhile_cons, hx]; rfl
theorem imp_no {a0 b0 a b : List Term} {i : Nat} {t : Term} (h : impGo a0 b0 = impGo a (b.drop i)) (ht : b[i]? = some t) (h1 : imp1 (a.dropWhile fun x => decide (x.f < t.f)) t = false) : impGo a0 b0 = false := by
  rw [h, drop_get ht, impGo, h1]; rfl
theorem imp_go {a0 b0 a b : List Term} {i : Nat} {t : Term} (h : impGo a0 b0 = impGo a (b.drop i)) (ht : b[i]? = some t) (h1 : imp1 (a.dropWhile fun x => decide (x.f < t.f)) t = true) : impGo a0 b0 = impGo (a.dropWhile fun x => decide (x.f < t.f)) (b.drop (i + 1)) := by
  rw [h, drop_get ht, impGo, h1]; rfl
theorem imp1_c {a : List Term} {x t : Term} (h : a[0]? = some x) : imp1 a t = (!(x.f != t.f) && (!(uandn t.m x.m != 0) && !(uand x.v t.m != t.v))) := by
  cases a with
  | nil => simp at h
  | cons y a =>
    simp only [List.getElem?_cons_zero, Option.some.injEq] at h
    subst h
    rfl
theorem w_Imp (a0 b : List Term) (hla : a0.length ≤ 140737488351232) (hlb : b.length ≤ 140737488351232) : Spec0 Tryd.prog 11 [TL a0, TL b] (B (impV a0 b)) := by
  have hca := w_Check a0 hla
  have hcb := w_Check b hlb
  refine Spec0.walk Tryd.func11 rfl rfl ?_
  by_cases hab : chk 0 a0 && chk 0 b
  · have h0 := Bool.and_eq_true_iff.1 hab
    have ea : okC a0 = 0 := by unfold okC; rw [h0.1]; rfl
    have eb : okC b = 0 := by unfold okC; rw [h0.2]; rfl
    rw [ea] at hca
    rw [eb] at hcb
    have eR : impV a0 b = impGo a0 b := by unfold impV; rw [hab]; rfl
    rw [eR]
    refine W.sxP hm hF 11 2 1000 20 [.c 11 1 1 (I .i64 0), .c 11 1 5 (I .i64 0)] [_, _] [(0, TL a0), (1, TL b)] [] (by kernel_rfl) ⟨hcb, hca, trivial⟩ ?_
    refine W.seq ?_
    refine W.seq ?_
    refine W.sx hm hF 11 1000 20 [.n 11 3 1 b.length] [b.length * 3 = (b.flatMap tC).length, 0 < 3] .normal [(0, TL a0), (15, TL b), (16, I .i64 (b.length : Nat)), (17, I .i64 0)] [] (by kernel_rfl) ⟨(fm_len tC_len b).symm, by decide, trivial⟩ (fun σ h => W.weaken h ?_)
    refine W.block ?_
    refine W.loopD 0 (fun x : Nat × List Term => ⟨tbl [(0, TL x.2), (15, TL b), (16, I .i64 (b.length : Nat)), (17, I .i64 (x.1 : Nat))], []⟩) (fun x => x.1 ≤ b.length ∧ x.2.length ≤ 140737488351232 ∧ impGo a0 b = impGo x.2 (b.drop x.1)) (fun x => b.length - x.1) (0, a0) ⟨Nat.zero_le _, hla, rfl⟩ rfl (Le.refl _) ?_
    rintro ⟨i, a1⟩ ⟨hi, hl1, ha⟩
    simp only at hi hl1 ha
    by_cases hlt : i < b.length
    · have hb : decide (((i : Nat) : Int) < (b.length : Nat)) = true := decide_eq_true (by omega)
      obtain ⟨t, hget⟩ : ∃ t, b[i]? = some t := ⟨_, List.getElem?_eq_getElem hlt⟩
      refine W.sxP hm hF 11 2 1000 20 [.b 11 4 0 true] [decide (((i : Nat) : Int) < (b.length : Nat)) = true] [(0, TL a1), (15, TL b), (16, I .i64 (b.length : Nat)), (17, I .i64 (i : Nat))] [] (by kernel_rfl) ⟨hb, trivial⟩ ?_
      refine W.seq ?_
      refine W.block ?_
      refine W.sxP hm hF 11 1 1000 20 [.j 11 5 0 b.length i, .l 11 5 1 (.agg (tC t))] [((b.flatMap tC).drop (i * 3)).take 3 = tC t, i * 3 + 3 ≤ (b.flatMap tC).length, b.length * 3 = (b.flatMap tC).length, 0 < 3, ((i : Nat) : Int) = (i : Int), i < b.length] [(0, TL a1), (6, .ptr 0 0), (15, TL b), (16, I .i64 (b.length : Nat)), (17, I .i64 (i : Nat))] [.row 1 (tC t)] (by kernel_rfl) ⟨fm_at tC_len b hget, fm_bound tC_len b hlt, (fm_len tC_len b).symm, by decide, rfl, hlt, trivial⟩ ?_
      refine W.seq ?_
      refine W.block ?_
      refine W.loop (fun a : List Term => ⟨tbl [(0, TL a), (6, .ptr 0 0), (15, TL b), (16, I .i64 (b.length : Nat)), (17, I .i64 (i : Nat))], [.row 1 (tC t)]⟩) (fun a => a.length ≤ 140737488351232 ∧ a.dropWhile (fun x => decide (x.f < t.f)) = a1.dropWhile (fun x => decide (x.f < t.f))) (fun a => a.length) a1 ⟨hl1, rfl⟩ (Le.refl _) ?_
      rintro a ⟨hl2, hd⟩
      cases gz : decide (((a.length : Nat) : Int) > 0)
      · have gz' := of_decide_eq_false gz
        have an : a = [] := List.eq_nil_of_length_eq_zero (by omega)
        refine W.sx hm hF 11 1000 20 [.n 11 6 1 a.length, .b 11 6 2 false] [(decide (((a.length : Nat) : Int) > 0)) = false, a.length * 3 = (a.flatMap tC).length, 0 < 3] (.exit 2) [(0, TL a), (6, .ptr 0 0), (15, TL b), (16, I .i64 (b.length : Nat)), (17, I .i64 (i : Nat))] [.row 1 (tC t)] (by kernel_rfl) ⟨gz, (fm_len tC_len a).symm, by decide, trivial⟩ (fun σ h => W.weaken h ?_)
        rw [imp_no ha hget (by rw [← hd, an]; rfl)]
        have gz2 : (((a.length : Nat) : Int) == 0) = true := by rw [an]; rfl
        exact W.sxR hm hF 11 1000 20 [.n 11 8 1 a.length, .b 11 8 2 true] [(((a.length : Nat) : Int) == 0) = true, a.length * 3 = (a.flatMap tC).length, 0 < 3] [.tmp 4] .ret (B false) (by kernel_rfl) ⟨gz2, (fm_len tC_len a).symm, by decide, trivial⟩ (fun σ xs h1 h2 => retK.mk (.inl rfl) h1 h2)
      · have gz' := of_decide_eq_true gz
        have ha0 : 0 < a.length := by omega
        obtain ⟨x, hx⟩ : ∃ x, a[0]? = some x := ⟨_, List.getElem?_eq_getElem ha0⟩
        cases g1 : decide (x.f < t.f)
        · refine W.sx hm hF 11 1000 20 [.n 11 6 1 a.length, .b 11 6 2 true, .j 11 6 5 a.length 0, .l 11 6 7 (I .i64 x.f), .b 11 6 10 false] [(decide (x.f < t.f)) = false, (a.flatMap tC)[0 * 3 + 0]? = some (I .i64 x.f), a.length * 3 = (a.flatMap tC).length, 0 < 3, (0 : Int) = ((0 : Nat) : Int), 0 < a.length, (decide (((a.length : Nat) : Int) > 0)) = true, a.length * 3 = (a.flatMap tC).length, 0 < 3] (.exit 2) [(0, TL a), (6, .ptr 0 0), (15, TL b), (16, I .i64 (b.length : Nat)), (17, I .i64 (i : Nat))] [.row 1 (tC t)] (by kernel_rfl) ⟨g1, fm_cell tC_len a hx (by decide) rfl, (fm_len tC_len a).symm, by decide, rfl, ha0, gz, (fm_len tC_len a).symm, by decide, trivial⟩ (fun σ h => W.weaken h ?_)
          rw [dropW0 hx g1] at hd
          have gz2 : (((a.length : Nat) : Int) == 0) = false := nb (by omega)
          have hi1 := imp1_c (t := t) hx
          cases q1 : x.f != t.f
          · cases q2 : uandn t.m x.m != 0
            · cases q3 : uand x.v t.m != t.v
              · have hgo := imp_go ha hget (by rw [← hd, hi1, q1, q2, q3]; rfl)
                refine W.sx hm hF 11 1000 20 [.n 11 8 1 a.length, .b 11 8 2 false, .j 11 8 5 a.length 0, .l 11 8 7 (I .i64 x.f), .b 11 8 10 false, .j 11 8 16 a.length 0, .l 11 8 18 (I .u64 x.m), .b 11 8 20 false, .j 11 8 24 a.length 0, .l 11 8 26 (I .u64 x.v), .b 11 8 32 false] [(uand x.v t.m != t.v) = false, (a.flatMap tC)[0 * 3 + 1]? = some (I .u64 x.v), a.length * 3 = (a.flatMap tC).length, 0 < 3, (0 : Int) = ((0 : Nat) : Int), 0 < a.length, (uandn t.m x.m != 0) = false, (a.flatMap tC)[0 * 3 + 2]? = some (I .u64 x.m), a.length * 3 = (a.flatMap tC).length, 0 < 3, (0 : Int) = ((0 : Nat) : Int), 0 < a.length, (x.f != t.f) = false, (a.flatMap tC)[0 * 3 + 0]? = some (I .i64 x.f), a.length * 3 = (a.flatMap tC).length, 0 < 3, (0 : Int) = ((0 : Nat) : Int), 0 < a.length, (((a.length : Nat) : Int) == 0) = false, a.length * 3 = (a.flatMap tC).length, 0 < 3] .normal [(0, TL a), (6, .ptr 0 0), (15, TL b), (16, I .i64 (b.length : Nat)), (17, I .i64 (i : Nat))] [.row 1 (tC t)] (by kernel_rfl) ⟨q3, fm_cell tC_len a hx (by decide) rfl, (fm_len tC_len a).symm, by decide, rfl, ha0, q2, fm_cell tC_len a hx (by decide) rfl, (fm_len tC_len a).symm, by decide, rfl, ha0, q1, fm_cell tC_len a hx (by decide) rfl, (fm_len tC_len a).symm, by decide, rfl, ha0, gz2, (fm_len tC_len a).symm, by decide, trivial⟩ (fun σ h => W.weaken h ?_)
                exact W.sx hm hF 11 1000 20 [.z 11 10 0 ((i + 1 : Nat) : Int)] [IntKind.i64.wrap (((i : Nat) : Int) + 1) = ((i + 1 : Nat) : Int)] .normal [(0, TL a), (15, TL b), (16, I .i64 (b.length : Nat)), (17, I .i64 (i + 1 : Nat))] [.row 1 (tC t)] (by kernel_rfl) ⟨i64_n i (by omega), trivial⟩ (fun σ h => ⟨(i + 1, a), ⟨hlt, hl2, by rw [hgo, ← hd]⟩, by simp only; omega, LeD.mk rfl rfl h⟩)
              · rw [imp_no ha hget (by rw [← hd, hi1, q1, q2, q3]; rfl)]
                exact W.sxR hm hF 11 1000 20 [.n 11 8 1 a.length, .b 11 8 2 false, .j 11 8 5 a.length 0, .l 11 8 7 (I .i64 x.f), .b 11 8 10 false, .j 11 8 16 a.length 0, .l 11 8 18 (I .u64 x.m), .b 11 8 20 false, .j 11 8 24 a.length 0, .l 11 8 26 (I .u64 x.v), .b 11 8 32 true] [(uand x.v t.m != t.v) = true, (a.flatMap tC)[0 * 3 + 1]? = some (I .u64 x.v), a.length * 3 = (a.flatMap tC).length, 0 < 3, (0 : Int) = ((0 : Nat) : Int), 0 < a.length, (uandn t.m x.m != 0) = false, (a.flatMap tC)[0 * 3 + 2]? = some (I .u64 x.m), a.length * 3 = (a.flatMap tC).length, 0 < 3, (0 : Int) = ((0 : Nat) : Int), 0 < a.length, (x.f != t.f) = false, (a.flatMap tC)[0 * 3 + 0]? = some (I .i64 x.f), a.length * 3 = (a.flatMap tC).length, 0 < 3, (0 : Int) = ((0 : Nat) : Int), 0 < a.length, (((a.length : Nat) : Int) == 0) = false, a.length * 3 = (a.flatMap tC).length, 0 < 3] [.tmp 4] .ret (B false) (by kernel_rfl) ⟨q3, fm_cell tC_len a hx (by decide) rfl, (fm_len tC_len a).symm, by decide, rfl, ha0, q2, fm_cell tC_len a hx (by decide) rfl, (fm_len tC_len a).symm, by decide, rfl, ha0, q1, fm_cell tC_len a hx (by decide) rfl, (fm_len tC_len a).symm, by decide, rfl, ha0, gz2, (fm_len tC_len a).symm, by decide, trivial⟩ (fun σ xs h1 h2 => retK.mk (.inl rfl) h1 h2)
            · rw [imp_no ha hget (by rw [← hd, hi1, q1, q2]; rfl)]
              exact W.sxR hm hF 11 1000 20 [.n 11 8 1 a.length, .b 11 8 2 false, .j 11 8 5 a.length 0, .l 11 8 7 (I .i64 x.f), .b 11 8 10 false, .j 11 8 16 a.length 0, .l 11 8 18 (I .u64 x.m), .b 11 8 20 true] [(uandn t.m x.m != 0) = true, (a.flatMap tC)[0 * 3 + 2]? = some (I .u64 x.m), a.length * 3 = (a.flatMap tC).length, 0 < 3, (0 : Int) = ((0 : Nat) : Int), 0 < a.length, (x.f != t.f) = false, (a.flatMap tC)[0 * 3 + 0]? = some (I .i64 x.f), a.length * 3 = (a.flatMap tC).length, 0 < 3, (0 : Int) = ((0 : Nat) : Int), 0 < a.length, (((a.length : Nat) : Int) == 0) = false, a.length * 3 = (a.flatMap tC).length, 0 < 3] [.tmp 4] .ret (B false) (by kernel_rfl) ⟨q2, fm_cell tC_len a hx (by decide) rfl, (fm_len tC_len a).symm, by decide, rfl, ha0, q1, fm_cell tC_len a hx (by decide) rfl, (fm_len tC_len a).symm, by decide, rfl, ha0, gz2, (fm_len tC_len a).symm, by decide, trivial⟩ (fun σ xs h1 h2 => retK.mk (.inl rfl) h1 h2)
          · rw [imp_no ha hget (by rw [← hd, hi1, q1]; rfl)]
            exact W.sxR hm hF 11 1000 20 [.n 11 8 1 a.length, .b 11 8 2 false, .j 11 8 5 a.length 0, .l 11 8 7 (I .i64 x.f), .b 11 8 10 true] [(x.f != t.f) = true, (a.flatMap tC)[0 * 3 + 0]? = some (I .i64 x.f), a.length * 3 = (a.flatMap tC).length, 0 < 3, (0 : Int) = ((0 : Nat) : Int), 0 < a.length, (((a.length : Nat) : Int) == 0) = false, a.length * 3 = (a.flatMap tC).length, 0 < 3] [.tmp 4] .ret (B false) (by kernel_rfl) ⟨q1, fm_cell tC_len a hx (by decide) rfl, (fm_len tC_len a).symm, by decide, rfl, ha0, gz2, (fm_len tC_len a).symm, by decide, trivial⟩ (fun σ xs h1 h2 => retK.mk (.inl rfl) h1 h2)
        · exact W.sx hm hF 11 1000 20 [.n 11 6 1 a.length, .b 11 6 2 true, .j 11 6 5 a.length 0, .l 11 6 7 (I .i64 x.f), .b 11 6 10 true, .t 11 7 1 a.length 1 a.length ((a.drop 1).flatMap tC)] [(1 : Int) = ((1 : Nat) : Int), a.length = a.length, a.length * 3 = (a.flatMap tC).length, 0 < 3, 1 ≤ a.length, a.length ≤ a.length, ((a.flatMap tC).drop (1 * 3)).take ((a.length - 1) * 3) = (a.drop 1).flatMap tC, (decide (x.f < t.f)) = true, (a.flatMap tC)[0 * 3 + 0]? = some (I .i64 x.f), a.length * 3 = (a.flatMap tC).length, 0 < 3, (0 : Int) = ((0 : Nat) : Int), 0 < a.length, (decide (((a.length : Nat) : Int) > 0)) = true, a.length * 3 = (a.flatMap tC).length, 0 < 3] .normal [(0, TL (a.drop 1)), (6, .ptr 0 0), (15, TL b), (16, I .i64 (b.length : Nat)), (17, I .i64 (i : Nat))] [.row 1 (tC t)] (by kernel_rfl) ⟨rfl, rfl, (fm_len tC_len a).symm, by decide, ha0, Nat.le_refl _, fm_tail ha0, g1, fm_cell tC_len a hx (by decide) rfl, (fm_len tC_len a).symm, by decide, rfl, ha0, gz, (fm_len tC_len a).symm, by decide, trivial⟩ (fun σ h => ⟨a.drop 1, ⟨by simp only [List.length_drop]; omega, by rw [dropW hx g1, hd]⟩, by simp only [List.length_drop]; omega, h⟩)
    · have hb : decide (((i : Nat) : Int) < (b.length : Nat)) = false := decide_eq_false (by omega)
      refine W.sx hm hF 11 1000 20 [.b 11 4 0 false] [decide (((i : Nat) : Int) < (b.length : Nat)) = false] (.exit 0) [] [] (by kernel_rfl) ⟨hb, trivial⟩ (fun σ h => W.weaken h ?_)
      rw [ha, show i = b.length by omega, List.drop_length, impGo]
      exact W.sxR hm hF 11 1000 20 [] [] [.tmp 4] .ret (B true) (by kernel_rfl) trivial (fun σ xs h1 h2 => retK.mk (.inl rfl) h1 h2)
  · have hv : impV a0 b = false := by unfold impV; rw [Bool.eq_false_iff.2 hab]; rfl
    rw [hv]
    cases h1 : chk 0 a0
    · have ea : okC a0 = 90 := by unfold okC; rw [h1]; rfl
      rw [ea] at hca
      exact W.sxR hm hF 11 1000 20 [.c 11 1 1 (I .i64 90)] [_] [.tmp 4] .ret (B false) (by kernel_rfl) ⟨hca, trivial⟩ (fun σ xs h1 h2 => retK.mk (.inl rfl) h1 h2)
    · have h2 : chk 0 b = false := by simpa [h1] using hab
      have ea : okC a0 = 0 := by unfold okC; rw [h1]; rfl
      have eb : okC b = 90 := by unfold okC; rw [h2]; rfl
      rw [ea] at hca
      rw [eb] at hcb
      exact W.sxR hm hF 11 1000 20 [.c 11 1 1 (I .i64 0), .c 11 1 5 (I .i64 90)] [_, _] [.tmp 4] .ret (B false) (by kernel_rfl) ⟨hcb, hca, trivial⟩ (fun σ xs h1 h2 => retK.mk (.inl rfl) h1 h2)
end Go.Proofs.YtbimmnnjnlfddaaDoor
