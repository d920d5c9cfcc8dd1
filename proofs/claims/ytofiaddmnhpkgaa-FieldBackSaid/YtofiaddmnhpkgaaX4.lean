/-
  The law FieldApart: two fields of a State are set in either order.
-/
import Derived.Test.YtofiaddmnhpkgaaX3
set_option linter.unusedVariables false
set_option maxRecDepth 100000
set_option maxHeartbeats 2000000
namespace Go.Proofs.Ytofiaddmnhpkgaa
open Go Go.SL Go.Proofs

theorem w_lives : Spec0 Try.prog 7 [] (B true) := sx0 hm hF 1000 20 [] [] (by kernel_rfl) trivial
theorem ap0 (s : Stt) (f a g b : Int) (h0 : (f == g) = true) : Spec0 Try.prog 3 [.agg s.cells, I .i64 f, I .u64 a, I .i64 g, I .u64 b] (B true) := sx0 hm hF 1000 20 [.c 3 1 0 (B true), .b 3 3 2 true] [(f == g) = true, Spec0 Try.prog 7 [] (B true)] (by kernel_rfl) ⟨h0, w_lives, trivial⟩
theorem ap1 (s : Stt) (f a g b : Int) (h0 : (f == g) = false) (h1 : decide (f < 1) = true) : Spec0 Try.prog 3 [.agg s.cells, I .i64 f, I .u64 a, I .i64 g, I .u64 b] (B true) := sx0 hm hF 1000 20 [.c 3 1 0 (B true), .b 3 3 2 false, .b 3 3 5 true] [decide (f < 1) = true, (f == g) = false, Spec0 Try.prog 7 [] (B true)] (by kernel_rfl) ⟨h1, h0, w_lives, trivial⟩
theorem ap2 (s : Stt) (f a g b : Int) (h0 : (f == g) = false) (h1 : decide (f < 1) = false) (h2 : decide (f > 28) = true) : Spec0 Try.prog 3 [.agg s.cells, I .i64 f, I .u64 a, I .i64 g, I .u64 b] (B true) := sx0 hm hF 1000 20 [.c 3 1 0 (B true), .b 3 3 2 false, .b 3 3 5 false, .b 3 3 9 true] [decide (f > 28) = true, decide (f < 1) = false, (f == g) = false, Spec0 Try.prog 7 [] (B true)] (by kernel_rfl) ⟨h2, h1, h0, w_lives, trivial⟩
theorem ap3 (s : Stt) (f a g b : Int) (h0 : (f == g) = false) (h1 : decide (f < 1) = false) (h2 : decide (f > 28) = false) (h3 : decide (g < 1) = true) : Spec0 Try.prog 3 [.agg s.cells, I .i64 f, I .u64 a, I .i64 g, I .u64 b] (B true) := sx0 hm hF 1000 20 [.c 3 1 0 (B true), .b 3 3 2 false, .b 3 3 5 false, .b 3 3 9 false, .b 3 3 13 true] [decide (g < 1) = true, decide (f > 28) = false, decide (f < 1) = false, (f == g) = false, Spec0 Try.prog 7 [] (B true)] (by kernel_rfl) ⟨h3, h2, h1, h0, w_lives, trivial⟩
theorem ap4 (s : Stt) (f a g b : Int) (h0 : (f == g) = false) (h1 : decide (f < 1) = false) (h2 : decide (f > 28) = false) (h3 : decide (g < 1) = false) (h4 : decide (g > 28) = true) : Spec0 Try.prog 3 [.agg s.cells, I .i64 f, I .u64 a, I .i64 g, I .u64 b] (B true) := sx0 hm hF 1000 20 [.c 3 1 0 (B true), .b 3 3 2 false, .b 3 3 5 false, .b 3 3 9 false, .b 3 3 13 false, .b 3 3 17 true] [decide (g > 28) = true, decide (g < 1) = false, decide (f > 28) = false, decide (f < 1) = false, (f == g) = false, Spec0 Try.prog 7 [] (B true)] (by kernel_rfl) ⟨h4, h3, h2, h1, h0, w_lives, trivial⟩
@[reducible] def xmE (k : Nat) : Int := IntKind.u64.wrap (IntKind.u64.wrap (1 * 2 ^ min (Int.toNat (Int.ofNat (bN k))) IntKind.u64.bits) - 1)
theorem ap_e (s : Stt) (a b : Int) (k j : Nat) (p q : Stt × Int) (g0 : Spec0 Try.prog 7 [] (B true)) (g1 : (((k : Nat) : Int) == ((j : Nat) : Int)) = false) (g2 : decide (((k : Nat) : Int) < 1) = false) (g3 : decide (((k : Nat) : Int) > 28) = false) (g4 : decide (((j : Nat) : Int) < 1) = false) (g5 : decide (((j : Nat) : Int) > 28) = false) (g6 : Spec0 Try.prog 8 [I .i64 ((k : Nat) : Int)] (I .i64 (Int.ofNat (bN k)))) (g7 : Spec0 Try.prog 8 [I .i64 ((j : Nat) : Int)] (I .i64 (Int.ofNat (bN j)))) (g8 : Spec0 Try.prog 9 [.agg s.cells, I .i64 ((k : Nat) : Int), I .u64 (uand a (xmE k)), I .u64 (xmE k)] (.tup [.agg p.1.cells, I .i64 p.2])) (g9 : Spec0 Try.prog 9 [.agg s.cells, I .i64 ((j : Nat) : Int), I .u64 (uand b (xmE j)), I .u64 (xmE j)] (.tup [.agg q.1.cells, I .i64 q.2])) (g10 : (p.2 != 0) = true) : Spec0 Try.prog 3 [.agg s.cells, I .i64 ((k : Nat) : Int), I .u64 a, I .i64 ((j : Nat) : Int), I .u64 b] (B true) := sx0 hm hF 1000 20 [.c 3 1 0 (B true), .b 3 3 2 false, .b 3 3 5 false, .b 3 3 9 false, .b 3 3 13 false, .b 3 3 17 false, .c 3 5 1 (I .i64 (Int.ofNat (bN k))), .c 3 5 5 (I .i64 (Int.ofNat (bN j))), .c 3 6 6 (.tup [.agg p.1.cells, I .i64 p.2]), .c 3 7 6 (.tup [.agg q.1.cells, I .i64 q.2]), .b 3 8 1 true] [(p.2 != 0) = true, Spec0 Try.prog 9 [.agg s.cells, I .i64 ((j : Nat) : Int), I .u64 (uand b (xmE j)), I .u64 (xmE j)] (.tup [.agg q.1.cells, I .i64 q.2]), Spec0 Try.prog 9 [.agg s.cells, I .i64 ((k : Nat) : Int), I .u64 (uand a (xmE k)), I .u64 (xmE k)] (.tup [.agg p.1.cells, I .i64 p.2]), Spec0 Try.prog 8 [I .i64 ((j : Nat) : Int)] (I .i64 (Int.ofNat (bN j))), Spec0 Try.prog 8 [I .i64 ((k : Nat) : Int)] (I .i64 (Int.ofNat (bN k))), decide (((j : Nat) : Int) > 28) = false, decide (((j : Nat) : Int) < 1) = false, decide (((k : Nat) : Int) > 28) = false, decide (((k : Nat) : Int) < 1) = false, (((k : Nat) : Int) == ((j : Nat) : Int)) = false, Spec0 Try.prog 7 [] (B true)] (by kernel_rfl) ⟨g10, g9, g8, g7, g6, g5, g4, g3, g2, g1, g0, trivial⟩
theorem ap_h (s : Stt) (a b : Int) (k j : Nat) (p q : Stt × Int) (g0 : Spec0 Try.prog 7 [] (B true)) (g1 : (((k : Nat) : Int) == ((j : Nat) : Int)) = false) (g2 : decide (((k : Nat) : Int) < 1) = false) (g3 : decide (((k : Nat) : Int) > 28) = false) (g4 : decide (((j : Nat) : Int) < 1) = false) (g5 : decide (((j : Nat) : Int) > 28) = false) (g6 : Spec0 Try.prog 8 [I .i64 ((k : Nat) : Int)] (I .i64 (Int.ofNat (bN k)))) (g7 : Spec0 Try.prog 8 [I .i64 ((j : Nat) : Int)] (I .i64 (Int.ofNat (bN j)))) (g8 : Spec0 Try.prog 9 [.agg s.cells, I .i64 ((k : Nat) : Int), I .u64 (uand a (xmE k)), I .u64 (xmE k)] (.tup [.agg p.1.cells, I .i64 p.2])) (g9 : Spec0 Try.prog 9 [.agg s.cells, I .i64 ((j : Nat) : Int), I .u64 (uand b (xmE j)), I .u64 (xmE j)] (.tup [.agg q.1.cells, I .i64 q.2])) (g10 : (p.2 != 0) = false) (g11 : (q.2 != 0) = true) : Spec0 Try.prog 3 [.agg s.cells, I .i64 ((k : Nat) : Int), I .u64 a, I .i64 ((j : Nat) : Int), I .u64 b] (B true) := sx0 hm hF 1000 20 [.c 3 1 0 (B true), .b 3 3 2 false, .b 3 3 5 false, .b 3 3 9 false, .b 3 3 13 false, .b 3 3 17 false, .c 3 5 1 (I .i64 (Int.ofNat (bN k))), .c 3 5 5 (I .i64 (Int.ofNat (bN j))), .c 3 6 6 (.tup [.agg p.1.cells, I .i64 p.2]), .c 3 7 6 (.tup [.agg q.1.cells, I .i64 q.2]), .b 3 8 1 false, .b 3 8 4 true] [(q.2 != 0) = true, (p.2 != 0) = false, Spec0 Try.prog 9 [.agg s.cells, I .i64 ((j : Nat) : Int), I .u64 (uand b (xmE j)), I .u64 (xmE j)] (.tup [.agg q.1.cells, I .i64 q.2]), Spec0 Try.prog 9 [.agg s.cells, I .i64 ((k : Nat) : Int), I .u64 (uand a (xmE k)), I .u64 (xmE k)] (.tup [.agg p.1.cells, I .i64 p.2]), Spec0 Try.prog 8 [I .i64 ((j : Nat) : Int)] (I .i64 (Int.ofNat (bN j))), Spec0 Try.prog 8 [I .i64 ((k : Nat) : Int)] (I .i64 (Int.ofNat (bN k))), decide (((j : Nat) : Int) > 28) = false, decide (((j : Nat) : Int) < 1) = false, decide (((k : Nat) : Int) > 28) = false, decide (((k : Nat) : Int) < 1) = false, (((k : Nat) : Int) == ((j : Nat) : Int)) = false, Spec0 Try.prog 7 [] (B true)] (by kernel_rfl) ⟨g11, g10, g9, g8, g7, g6, g5, g4, g3, g2, g1, g0, trivial⟩
theorem ap_m (s : Stt) (a b : Int) (k j : Nat) (p q r t : Stt × Int) (g0 : Spec0 Try.prog 7 [] (B true)) (g1 : (((k : Nat) : Int) == ((j : Nat) : Int)) = false) (g2 : decide (((k : Nat) : Int) < 1) = false) (g3 : decide (((k : Nat) : Int) > 28) = false) (g4 : decide (((j : Nat) : Int) < 1) = false) (g5 : decide (((j : Nat) : Int) > 28) = false) (g6 : Spec0 Try.prog 8 [I .i64 ((k : Nat) : Int)] (I .i64 (Int.ofNat (bN k)))) (g7 : Spec0 Try.prog 8 [I .i64 ((j : Nat) : Int)] (I .i64 (Int.ofNat (bN j)))) (g8 : Spec0 Try.prog 9 [.agg s.cells, I .i64 ((k : Nat) : Int), I .u64 (uand a (xmE k)), I .u64 (xmE k)] (.tup [.agg p.1.cells, I .i64 p.2])) (g9 : Spec0 Try.prog 9 [.agg s.cells, I .i64 ((j : Nat) : Int), I .u64 (uand b (xmE j)), I .u64 (xmE j)] (.tup [.agg q.1.cells, I .i64 q.2])) (g10 : (p.2 != 0) = false) (g11 : (q.2 != 0) = false) (g12 : Spec0 Try.prog 9 [.agg p.1.cells, I .i64 ((j : Nat) : Int), I .u64 (uand b (xmE j)), I .u64 (xmE j)] (.tup [.agg r.1.cells, I .i64 r.2])) (g13 : Spec0 Try.prog 9 [.agg q.1.cells, I .i64 ((k : Nat) : Int), I .u64 (uand a (xmE k)), I .u64 (xmE k)] (.tup [.agg t.1.cells, I .i64 t.2])) (g14 : (r.2 == 0) = true) (g15 : (t.2 == 0) = true) (g16 : eqSt r.1 t.1 = true) : Spec0 Try.prog 3 [.agg s.cells, I .i64 ((k : Nat) : Int), I .u64 a, I .i64 ((j : Nat) : Int), I .u64 b] (B true) := sx0 hm hF 1000 20 [.c 3 1 0 (B true), .b 3 3 2 false, .b 3 3 5 false, .b 3 3 9 false, .b 3 3 13 false, .b 3 3 17 false, .c 3 5 1 (I .i64 (Int.ofNat (bN k))), .c 3 5 5 (I .i64 (Int.ofNat (bN j))), .c 3 6 6 (.tup [.agg p.1.cells, I .i64 p.2]), .c 3 7 6 (.tup [.agg q.1.cells, I .i64 q.2]), .b 3 8 1 false, .b 3 8 4 false, .c 3 10 6 (.tup [.agg r.1.cells, I .i64 r.2]), .c 3 11 6 (.tup [.agg t.1.cells, I .i64 t.2]), .b 3 12 1 true, .b 3 12 4 true, .b 3 12 9 true] [eqSt r.1 t.1 = true, (t.2 == 0) = true, (r.2 == 0) = true, Spec0 Try.prog 9 [.agg q.1.cells, I .i64 ((k : Nat) : Int), I .u64 (uand a (xmE k)), I .u64 (xmE k)] (.tup [.agg t.1.cells, I .i64 t.2]), Spec0 Try.prog 9 [.agg p.1.cells, I .i64 ((j : Nat) : Int), I .u64 (uand b (xmE j)), I .u64 (xmE j)] (.tup [.agg r.1.cells, I .i64 r.2]), (q.2 != 0) = false, (p.2 != 0) = false, Spec0 Try.prog 9 [.agg s.cells, I .i64 ((j : Nat) : Int), I .u64 (uand b (xmE j)), I .u64 (xmE j)] (.tup [.agg q.1.cells, I .i64 q.2]), Spec0 Try.prog 9 [.agg s.cells, I .i64 ((k : Nat) : Int), I .u64 (uand a (xmE k)), I .u64 (xmE k)] (.tup [.agg p.1.cells, I .i64 p.2]), Spec0 Try.prog 8 [I .i64 ((j : Nat) : Int)] (I .i64 (Int.ofNat (bN j))), Spec0 Try.prog 8 [I .i64 ((k : Nat) : Int)] (I .i64 (Int.ofNat (bN k))), decide (((j : Nat) : Int) > 28) = false, decide (((j : Nat) : Int) < 1) = false, decide (((k : Nat) : Int) > 28) = false, decide (((k : Nat) : Int) < 1) = false, (((k : Nat) : Int) == ((j : Nat) : Int)) = false, Spec0 Try.prog 7 [] (B true)] (by kernel_rfl) ⟨g16, g15, g14, g13, g12, g11, g10, g9, g8, g7, g6, g5, g4, g3, g2, g1, g0, trivial⟩
theorem setR_ok {s : Stt} {k : Nat} {v m : Int} (h : (setR s k v m).2 = 0) : fixd k = false ∧ decide (v > allI k) = false ∧ decide (m > allI k) = false ∧ hasF s k = true ∧ (setR s k v m).1 = putF s (nw (raw s k) (allI k) v m) k := by
  unfold setR at h ⊢
  cases h1 : fixd k
  · cases h2 : decide (v > allI k)
    · cases h3 : decide (m > allI k)
      · cases h4 : hasF s k
        · simp [h1, h2, h3, h4] at h
        · exact ⟨rfl, rfl, rfl, rfl, rfl⟩
      · simp [h1, h2, h3] at h
    · simp [h1, h2] at h
  · simp [h1] at h
theorem setR_go {s : Stt} {k : Nat} {v m : Int} (h1 : fixd k = false) (h2 : decide (v > allI k) = false) (h3 : decide (m > allI k) = false) (h4 : hasF s k = true) : setR s k v m = (putF s (nw (raw s k) (allI k) v m) k, 0) := by
  unfold setR; rw [h1, h2, h3, h4]; rfl
theorem apart {s : Stt} {k j : Nat} {v x u y : Int} (hk : k ≠ j) (h : (setR s k v x).2 = 0) (h' : (setR s j u y).2 = 0) :
    (setR (setR s k v x).1 j u y).2 = 0 ∧ (setR (setR s j u y).1 k v x).2 = 0 ∧ (setR (setR s k v x).1 j u y).1 = (setR (setR s j u y).1 k v x).1 := by
  obtain ⟨a1, a2, a3, a4, a5⟩ := setR_ok h
  obtain ⟨b1, b2, b3, b4, b5⟩ := setR_ok h'
  rw [a5, b5]
  rw [setR_go b1 b2 b3 (by rw [hasF_put]; exact b4), setR_go a1 a2 a3 (by rw [hasF_put]; exact a4)]
  refine ⟨rfl, rfl, ?_⟩
  show putF _ _ j = putF _ _ k
  rw [raw_put _ _ k j hk, raw_put _ _ j k (Ne.symm hk)]
  exact put_put s _ _ k j hk
theorem ne0 {x : Int} (h : x = 0) : (x != 0) = false := by subst h; rfl
theorem eq0 {x : Int} (h : x = 0) : (x == 0) = true := by subst h; rfl
theorem w_FieldApart (s : Stt) (f a g b : Int) : Spec0 Try.prog 3 [.agg s.cells, I .i64 f, I .u64 a, I .i64 g, I .u64 b] (B true) := by
  by_cases h0 : f = g
  · exact ap0 s f a g b (by simpa using h0)
  have h0' := nb h0
  by_cases h1 : f < 1
  · exact ap1 s f a g b h0' (by simpa using h1)
  have h1' : decide (f < 1) = false := by simpa using h1
  by_cases h2 : f > 28
  · exact ap2 s f a g b h0' h1' (by simpa using h2)
  have h2' : decide (f > 28) = false := by simpa using h2
  by_cases h3 : g < 1
  · exact ap3 s f a g b h0' h1' h2' (by simpa using h3)
  have h3' : decide (g < 1) = false := by simpa using h3
  by_cases h4 : g > 28
  · exact ap4 s f a g b h0' h1' h2' h3' (by simpa using h4)
  have h4' : decide (g > 28) = false := by simpa using h4
  obtain ⟨k, rfl⟩ := Int.eq_ofNat_of_zero_le (show 0 ≤ f by omega)
  obtain ⟨j, rfl⟩ := Int.eq_ofNat_of_zero_le (show 0 ≤ g by omega)
  have k1 : 1 ≤ k := by omega
  have k2 : k ≤ 28 := by omega
  have j1 : 1 ≤ j := by omega
  have j2 : j ≤ 28 := by omega
  have wk := w_Set s (uand a (xmE k)) (xmE k) k k1 k2
  have wj := w_Set s (uand b (xmE j)) (xmE j) j j1 j2
  by_cases he : (setR s k (uand a (xmE k)) (xmE k)).2 = 0
  · by_cases hh : (setR s j (uand b (xmE j)) (xmE j)).2 = 0
    · obtain ⟨q1, q2, q3⟩ := apart (show k ≠ j by omega) he hh
      exact ap_m s a b k j _ _ _ _ w_lives h0' h1' h2' h3' h4' (w_Bits k k1 k2) (w_Bits j j1 j2) wk wj (ne0 he) (ne0 hh) (w_Set _ _ _ j j1 j2) (w_Set _ _ _ k k1 k2) (eq0 q1) (eq0 q2) (by rw [q3]; exact eqSt_self _)
    · exact ap_h s a b k j _ _ w_lives h0' h1' h2' h3' h4' (w_Bits k k1 k2) (w_Bits j j1 j2) wk wj (ne0 he) (by simpa using hh)
  · exact ap_e s a b k j _ _ w_lives h0' h1' h2' h3' h4' (w_Bits k k1 k2) (w_Bits j j1 j2) wk wj (by simpa using he)
end Go.Proofs.Ytofiaddmnhpkgaa
