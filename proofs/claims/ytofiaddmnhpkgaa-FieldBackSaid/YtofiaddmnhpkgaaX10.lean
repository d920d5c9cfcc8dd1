/-
  The law FieldBack: what was set under a mask is read, and all other fields stay.
-/
import Derived.Test.YtofiaddmnhpkgaaX9
set_option linter.unusedVariables false
set_option linter.unusedSimpArgs false
set_option maxRecDepth 100000
set_option maxHeartbeats 1000000
namespace Go.Proofs.Ytofiaddmnhpkgaa
open Go Go.SL Go.Proofs

theorem w_livesB : Spec0 Try.prog 7 [] (B true) := sx0 hm hF 1000 20 [] [] (by kernel_rfl) trivial
theorem fb_err (s : Stt) (f v m : Int) (p : Stt × Int) (h : Spec0 Try.prog 9 [.agg s.cells, I .i64 f, I .u64 v, I .u64 m] (.tup [.agg p.1.cells, I .i64 p.2])) (h1 : (p.2 != 0) = true) (h2 : eqSt p.1 zS = true) : Spec0 Try.prog 4 [.agg s.cells, I .i64 f, I .u64 v, I .u64 m] (B true) :=
  sx0 hm hF 1000 20 [.c 4 1 4 (.tup [.agg p.1.cells, I .i64 p.2]), .c 4 2 0 (B true), .b 4 4 1 true, .b 4 5 2 true] [eqSt p.1 zS = true, (p.2 != 0) = true, Spec0 Try.prog 7 [] (B true), _] (by kernel_rfl) ⟨h2, h1, w_livesB, h, trivial⟩
@[reducible] def fbT (s t : Stt) (f : Int) (g : Nat) : SS := ⟨tbl [(1, I .i64 f), (4, .ptr 0 0), (8, B false), (9, .ptr 1 0), (15, I .i64 ((g : Nat) : Int))], [.row 1 s.cells, .row 1 t.cells]⟩
theorem i64_nat (n : Nat) (h : n < 100) : IntKind.i64.wrap ((n : Int) + 1) = ((n + 1 : Nat) : Int) := by
  rw [IntWalk.i64_in _ (by omega)]; rfl
theorem fb_main (s t : Stt) (k : Nat) (v m : Int) (k1 : 1 ≤ k) (k2 : k ≤ 28) (hg : ∀ g : Nat, 1 ≤ g → g ≤ 28 → g ≠ k → gV s g = gV t g ∧ gE s g = gE t g)
    (sc : List SL.Item) (cs : List Prop) (hc : allP cs)
    (hk : (yE [1, 4, 8, 9] (pieceP Try.prog ft 1000 20 96 4 9 ((Try.f4.body).getD .skip) (enumE 0 [.agg s.cells, I .i64 ((k : Nat) : Int), I .u64 v, I .u64 m]) [] sc), yC (pieceP Try.prog ft 1000 20 96 4 9 ((Try.f4.body).getD .skip) (enumE 0 [.agg s.cells, I .i64 ((k : Nat) : Int), I .u64 v, I .u64 m]) [] sc), yL (pieceP Try.prog ft 1000 20 96 4 9 ((Try.f4.body).getD .skip) (enumE 0 [.agg s.cells, I .i64 ((k : Nat) : Int), I .u64 v, I .u64 m]) [] sc)) = (some (.normal, [.row 1 s.cells, .row 1 t.cells], [I .i64 ((k : Nat) : Int), .ptr 0 0, B false, .ptr 1 0]), cs, yQ (pieceP Try.prog ft 1000 20 96 4 9 ((Try.f4.body).getD .skip) (enumE 0 [.agg s.cells, I .i64 ((k : Nat) : Int), I .u64 v, I .u64 m]) [] sc))) : Spec0 Try.prog 4 [.agg s.cells, I .i64 ((k : Nat) : Int), I .u64 v, I .u64 m] (B true) := by
  refine Spec0.walk Try.func4 rfl rfl ?_
  refine W.sxP hm hF 4 9 1000 20 sc cs [(1, I .i64 ((k : Nat) : Int)), (4, .ptr 0 0), (8, B false), (9, .ptr 1 0)] [.row 1 s.cells, .row 1 t.cells] hk hc ?_
  refine W.seq ?_
  refine W.seq ?_
  refine W.sx hm hF 4 1000 20 [] [] .normal [(1, I .i64 ((k : Nat) : Int)), (4, .ptr 0 0), (8, B false), (9, .ptr 1 0), (15, I .i64 1)] [.row 1 s.cells, .row 1 t.cells] (by kernel_rfl) trivial (fun σ hl => W.weaken hl ?_)
  refine W.block ?_
  refine W.loop (fun g : Nat => fbT s t ((k : Nat) : Int) g) (fun g => 1 ≤ g ∧ g ≤ 29) (fun g => 29 - g) 1 ⟨by omega, by omega⟩ (Le.refl _) ?_
  intro g hgr
  by_cases hl : g ≤ 28
  · have hle : decide (((g : Nat) : Int) ≤ 28) = true := decide_eq_true (by omega)
    by_cases he : g = k
    · have hne : (((g : Nat) : Int) != ((k : Nat) : Int)) = false := by subst he; simp
      exact W.sx hm hF 4 1000 20 [.b 4 14 1 true, .c 4 16 2 (.tup [I .u64 (gV s g), I .i64 (gE s g)]), .c 4 17 2 (.tup [I .u64 (gV t g), I .i64 (gE t g)]), .b 4 18 2 false, .z 4 15 1 ((g + 1 : Nat) : Int)]
        [IntKind.i64.wrap (((g : Nat) : Int) + 1) = ((g + 1 : Nat) : Int), (((g : Nat) : Int) != ((k : Nat) : Int)) = false, _, _, decide (((g : Nat) : Int) ≤ 28) = true] .normal [(1, I .i64 ((k : Nat) : Int)), (4, .ptr 0 0), (8, B false), (9, .ptr 1 0), (15, I .i64 ((g + 1 : Nat) : Int))] [.row 1 s.cells, .row 1 t.cells]
        (by kernel_rfl) ⟨i64_nat g (by omega), hne, w_Get t g (by omega) hl, w_Get s g (by omega) hl, hle, trivial⟩ (fun σ h => ⟨g + 1, ⟨by omega, by omega⟩, by omega, h⟩)
    · obtain ⟨q1, q2⟩ := hg g hgr.1 hl he
      have hne : (((g : Nat) : Int) != ((k : Nat) : Int)) = true := by simp; omega
      exact W.sx hm hF 4 1000 20 [.b 4 14 1 true, .c 4 16 2 (.tup [I .u64 (gV s g), I .i64 (gE s g)]), .c 4 17 2 (.tup [I .u64 (gV t g), I .i64 (gE t g)]), .b 4 18 2 true, .b 4 18 6 false, .b 4 18 10 false, .z 4 15 1 ((g + 1 : Nat) : Int)]
        [IntKind.i64.wrap (((g : Nat) : Int) + 1) = ((g + 1 : Nat) : Int), (gE s g != gE t g) = false, (gV s g != gV t g) = false, (((g : Nat) : Int) != ((k : Nat) : Int)) = true, _, _, decide (((g : Nat) : Int) ≤ 28) = true] .normal [(1, I .i64 ((k : Nat) : Int)), (4, .ptr 0 0), (8, B false), (9, .ptr 1 0), (15, I .i64 ((g + 1 : Nat) : Int))] [.row 1 s.cells, .row 1 t.cells]
        (by kernel_rfl) ⟨i64_nat g (by omega), by rw [q2]; simp, by rw [q1]; simp, hne, w_Get t g (by omega) hl, w_Get s g (by omega) hl, hle, trivial⟩ (fun σ h => ⟨g + 1, ⟨by omega, by omega⟩, by omega, h⟩)
  · have hle : decide (((g : Nat) : Int) ≤ 28) = false := decide_eq_false (by omega)
    exact W.sx hm hF 4 1000 20 [.b 4 14 1 false] [decide (((g : Nat) : Int) ≤ 28) = false] (.exit 0) [] [.row 1 s.cells, .row 1 t.cells] (by kernel_rfl) ⟨hle, trivial⟩
      (fun σ h => W.weaken h (W.sxR hm hF 4 1000 20 [] [] [.tmp 8] .ret (B true) (by kernel_rfl) trivial fun σ xs h1 h2 => retK.mk (.inl rfl) h1 h2))
theorem fb_go (s : Stt) (k : Nat) (v m : Int) (k1 : 1 ≤ k) (k2 : k ≤ 28) (hv : 0 ≤ v) (h : (setR s k v m).2 = 0) : Spec0 Try.prog 4 [.agg s.cells, I .i64 ((k : Nat) : Int), I .u64 v, I .u64 m] (B true) := by
  obtain ⟨a1, a2, a3, a4, a5⟩ := setR_ok h
  have hva : v ≤ allI k := by simpa using a2
  have w1 := w_Set s v m k k1 k2
  have w2 := w_Get s k k1 k2
  have w3 := w_Get (setR s k v m).1 k k1 k2
  have hg : ∀ g : Nat, 1 ≤ g → g ≤ 28 → g ≠ k → gV s g = gV (setR s k v m).1 g ∧ gE s g = gE (setR s k v m).1 g := by
    intro g _ _ hne
    rw [a5]; unfold gV gE
    rw [hasF_put, raw_put _ _ k g (Ne.symm hne)]
    exact ⟨rfl, rfl⟩
  have e1 : gE (setR s k v m).1 k = 0 := by unfold gE; rw [a5, hasF_put, a4]; rfl
  have e2 : gV s k = uand (raw s k) (allI k) := by unfold gV; rw [a4]; rfl
  have hV : gV (setR s k v m).1 k = uand (raw (putF s (nw (raw s k) (allI k) v m) k) k) (allI k) := by unfold gV; rw [a5, hasF_put, a4]; rfl
  have hw : uor (uandn (gV s k) m) (uand v m) = nw (raw s k) (allI k) v m := by rw [e2]; rfl
  by_cases h4 : k = 4
  · have hkk : (((k : Nat) : Int) == 4) = true := by subst h4; rfl
    have ht := get_tag (s := s) (r := raw s 4) (m := m) hv (by rw [← h4]; exact hva)
    rw [← h4] at ht
    by_cases hs : nw (raw s k) (allI k) v m < 65536
    · rw [if_pos hs] at ht
      refine fb_main s (setR s k v m).1 k v m k1 k2 hg [.c 4 1 4 (.tup [.agg (setR s k v m).1.cells, I .i64 (setR s k v m).2]), .c 4 2 0 (B true), .b 4 4 1 false, .c 4 6 2 (.tup [I .u64 (gV s k), I .i64 (gE s k)]), .c 4 7 2 (.tup [I .u64 (gV (setR s k v m).1 k), I .i64 (gE (setR s k v m).1 k)]), .b 4 9 1 true, .b 4 9 4 true, .b 4 11 1 false, .b 4 11 5 false]
        [(gV (setR s k v m).1 k != 0) = false, (gE (setR s k v m).1 k != 0) = false, decide (uor (uandn (gV s k) m) (uand v m) < 65536) = true, (((k : Nat) : Int) == 4) = true, _, _, ((setR s k v m).2 != 0) = false, Spec0 Try.prog 7 [] (B true), _] ⟨by rw [hV, ht]; rfl, ne0 e1, by rw [hw]; exact decide_eq_true hs, hkk, w3, w2, ne0 h, w_livesB, w1, trivial⟩ (by kernel_rfl)
    · rw [if_neg hs] at ht
      refine fb_main s (setR s k v m).1 k v m k1 k2 hg [.c 4 1 4 (.tup [.agg (setR s k v m).1.cells, I .i64 (setR s k v m).2]), .c 4 2 0 (B true), .b 4 4 1 false, .c 4 6 2 (.tup [I .u64 (gV s k), I .i64 (gE s k)]), .c 4 7 2 (.tup [I .u64 (gV (setR s k v m).1 k), I .i64 (gE (setR s k v m).1 k)]), .b 4 9 1 true, .b 4 9 4 false, .b 4 11 1 false, .b 4 11 5 false]
        [(gV (setR s k v m).1 k != uor (uandn (gV s k) m) (uand v m)) = false, (gE (setR s k v m).1 k != 0) = false, decide (uor (uandn (gV s k) m) (uand v m) < 65536) = false, (((k : Nat) : Int) == 4) = true, _, _, ((setR s k v m).2 != 0) = false, Spec0 Try.prog 7 [] (B true), _] ⟨by rw [hV, ht, hw]; simp, ne0 e1, by rw [hw]; exact decide_eq_false hs, hkk, w3, w2, ne0 h, w_livesB, w1, trivial⟩ (by kernel_rfl)
  · have hkk : (((k : Nat) : Int) == 4) = false := nb (by omega)
    have ht := get_self (s := s) (r := raw s k) (m := m) k2 h4 a1 hv hva
    refine fb_main s (setR s k v m).1 k v m k1 k2 hg [.c 4 1 4 (.tup [.agg (setR s k v m).1.cells, I .i64 (setR s k v m).2]), .c 4 2 0 (B true), .b 4 4 1 false, .c 4 6 2 (.tup [I .u64 (gV s k), I .i64 (gE s k)]), .c 4 7 2 (.tup [I .u64 (gV (setR s k v m).1 k), I .i64 (gE (setR s k v m).1 k)]), .b 4 9 1 false, .b 4 11 1 false, .b 4 11 5 false]
      [(gV (setR s k v m).1 k != uor (uandn (gV s k) m) (uand v m)) = false, (gE (setR s k v m).1 k != 0) = false, (((k : Nat) : Int) == 4) = false, _, _, ((setR s k v m).2 != 0) = false, Spec0 Try.prog 7 [] (B true), _] ⟨by rw [hV, ht, hw]; simp, ne0 e1, hkk, w3, w2, ne0 h, w_livesB, w1, trivial⟩ (by kernel_rfl)
theorem setR_err {s : Stt} {k : Nat} {v m : Int} (h : (setR s k v m).2 ≠ 0) : (setR s k v m).1 = zS := by
  unfold setR at h ⊢
  cases h1 : fixd k
  · cases h2 : decide (v > allI k)
    · cases h3 : decide (m > allI k)
      · cases h4 : hasF s k
        · rfl
        · simp [h1, h2, h3, h4] at h
      · rfl
    · rfl
  · rfl
theorem w_FieldBack (s : Stt) (f v m : Int) (h1 : -9223372036854775808 ≤ f) (h2 : f ≤ 9223372036854775807) (hv : 0 ≤ v) : Spec0 Try.prog 4 [.agg s.cells, I .i64 f, I .u64 v, I .u64 m] (B true) := by
  by_cases hf : 1 ≤ f ∧ f ≤ 28
  · obtain ⟨k, rfl⟩ := Int.eq_ofNat_of_zero_le (show 0 ≤ f by omega)
    by_cases h : (setR s k v m).2 = 0
    · exact fb_go s k v m (by omega) (by omega) hv h
    · exact fb_err s _ v m _ (w_Set s v m k (by omega) (by omega)) (by simpa using h) (by rw [setR_err h]; exact eqSt_self _)
  · exact fb_err s f v m (zS, 80) (set_x s f v m (w_findX f h1 h2 hf)) rfl (eqSt_self _)

end Go.Proofs.Ytofiaddmnhpkgaa
