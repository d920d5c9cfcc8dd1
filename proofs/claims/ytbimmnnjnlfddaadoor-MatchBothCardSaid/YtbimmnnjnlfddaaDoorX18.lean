/-
  The law MatchBoth.
-/
import Derived.Test.YtbimmnnjnlfddaaDoorX17
import Derived.Test.YtbimmnnjnlfddaaDoorX8
set_option linter.unusedVariables false
set_option linter.unusedSimpArgs false
set_option maxRecDepth 100000
set_option maxHeartbeats 1000000
namespace Go.Proofs.YtbimmnnjnlfddaaDoor
open Go Go.SL Go.Proofs
theorem mb_x1 (s : Stt) (a b : List Term)  (hca : Spec0 Tryd.prog 17 [TL a] (I .i64 90)) (hN : Spec0 Tryd.prog 12 [TL a, TL b] (.tup [TL [], B false, I .i64 (90)])) : Spec0 Tryd.prog 6 [.agg s.cells, TL a, TL b] (B true) := sx0 hm hF 1000 20 [.c 6 1 0 (B true), .c 6 3 1 (I .i64 90), .c 6 4 2 (.tup [TL [], B false, I .i64 (90)])] [_, _, _] (by kernel_rfl) ⟨hN, hca, w_lives, trivial⟩
theorem mb_x2 (s : Stt) (a b : List Term)  (hca : Spec0 Tryd.prog 17 [TL a] (I .i64 0)) (hcb : Spec0 Tryd.prog 17 [TL b] (I .i64 90)) (hN : Spec0 Tryd.prog 12 [TL a, TL b] (.tup [TL [], B false, I .i64 (90)])) : Spec0 Tryd.prog 6 [.agg s.cells, TL a, TL b] (B true) := sx0 hm hF 1000 20 [.c 6 1 0 (B true), .c 6 3 1 (I .i64 0), .c 6 3 5 (I .i64 90), .c 6 4 2 (.tup [TL [], B false, I .i64 (90)])] [_, _, _, _] (by kernel_rfl) ⟨hN, hcb, hca, w_lives, trivial⟩
theorem mb_n_ff (s : Stt) (a b : List Term) (er : Int) (hca : Spec0 Tryd.prog 17 [TL a] (I .i64 0)) (hcb : Spec0 Tryd.prog 17 [TL b] (I .i64 0)) (hsa : Spec0 Tryd.prog 18 [.agg s.cells, TL a] (B false)) (hN : Spec0 Tryd.prog 12 [TL a, TL b] (.tup [TL [], B false, I .i64 (er)])) (hM : Spec0 Tryd.prog 15 [TL a, TL b] (B false)) : Spec0 Tryd.prog 6 [.agg s.cells, TL a, TL b] (B true) := sx0 hm hF 1000 20 [.c 6 1 0 (B true), .c 6 3 1 (I .i64 0), .c 6 3 5 (I .i64 0), .c 6 6 2 (B false), .c 6 7 2 (.tup [TL [], B false, I .i64 (er)]), .c 6 9 5 (B false)] [_, _, _, _, _, _] (by kernel_rfl) ⟨hM, hN, hsa, hcb, hca, w_lives, trivial⟩
theorem mb_y_ff_f (s : Stt) (a b : List Term) (x : List Term) (hca : Spec0 Tryd.prog 17 [TL a] (I .i64 0)) (hcb : Spec0 Tryd.prog 17 [TL b] (I .i64 0)) (hsa : Spec0 Tryd.prog 18 [.agg s.cells, TL a] (B false)) (hN : Spec0 Tryd.prog 12 [TL a, TL b] (.tup [TL x, B true, I .i64 (0)])) (hsx : Spec0 Tryd.prog 18 [.agg s.cells, TL x] (B false)) (hxa : Spec0 Tryd.prog 11 [TL x, TL a] (B true)) (hxb : Spec0 Tryd.prog 11 [TL x, TL b] (B true)) (him : Spec0 Tryd.prog 11 [TL a, TL b] (B false)) : Spec0 Tryd.prog 6 [.agg s.cells, TL a, TL b] (B true) := sx0 hm hF 1000 20 [.c 6 1 0 (B true), .c 6 3 1 (I .i64 0), .c 6 3 5 (I .i64 0), .c 6 6 2 (B false), .c 6 7 2 (.tup [TL x, B true, I .i64 (0)]), .c 6 10 2 (B false), .c 6 10 8 (B true), .c 6 10 13 (B true), .c 6 10 18 (B false)] [_, _, _, _, _, _, _, _, _] (by kernel_rfl) ⟨him, hxb, hxa, hsx, hN, hsa, hcb, hca, w_lives, trivial⟩
theorem mb_y_ff_t (s : Stt) (a b : List Term) (x : List Term) (hca : Spec0 Tryd.prog 17 [TL a] (I .i64 0)) (hcb : Spec0 Tryd.prog 17 [TL b] (I .i64 0)) (hsa : Spec0 Tryd.prog 18 [.agg s.cells, TL a] (B false)) (hN : Spec0 Tryd.prog 12 [TL a, TL b] (.tup [TL x, B true, I .i64 (0)])) (hsx : Spec0 Tryd.prog 18 [.agg s.cells, TL x] (B false)) (hxa : Spec0 Tryd.prog 11 [TL x, TL a] (B true)) (hxb : Spec0 Tryd.prog 11 [TL x, TL b] (B true)) (him : Spec0 Tryd.prog 11 [TL a, TL b] (B true)) : Spec0 Tryd.prog 6 [.agg s.cells, TL a, TL b] (B true) := sx0 hm hF 1000 20 [.c 6 1 0 (B true), .c 6 3 1 (I .i64 0), .c 6 3 5 (I .i64 0), .c 6 6 2 (B false), .c 6 7 2 (.tup [TL x, B true, I .i64 (0)]), .c 6 10 2 (B false), .c 6 10 8 (B true), .c 6 10 13 (B true), .c 6 10 18 (B true), .c 6 10 23 (B false)] [_, _, _, _, _, _, _, _, _, _] (by kernel_rfl) ⟨hsa, him, hxb, hxa, hsx, hN, hsa, hcb, hca, w_lives, trivial⟩
theorem mb_n_tf (s : Stt) (a b : List Term) (er : Int) (hca : Spec0 Tryd.prog 17 [TL a] (I .i64 0)) (hcb : Spec0 Tryd.prog 17 [TL b] (I .i64 0)) (hsa : Spec0 Tryd.prog 18 [.agg s.cells, TL a] (B true)) (hsb : Spec0 Tryd.prog 18 [.agg s.cells, TL b] (B false)) (hN : Spec0 Tryd.prog 12 [TL a, TL b] (.tup [TL [], B false, I .i64 (er)])) (hM : Spec0 Tryd.prog 15 [TL a, TL b] (B false)) : Spec0 Tryd.prog 6 [.agg s.cells, TL a, TL b] (B true) := sx0 hm hF 1000 20 [.c 6 1 0 (B true), .c 6 3 1 (I .i64 0), .c 6 3 5 (I .i64 0), .c 6 6 2 (B true), .c 6 6 6 (B false), .c 6 7 2 (.tup [TL [], B false, I .i64 (er)]), .c 6 9 5 (B false)] [_, _, _, _, _, _, _] (by kernel_rfl) ⟨hM, hN, hsb, hsa, hcb, hca, w_lives, trivial⟩
theorem mb_y_tf_f (s : Stt) (a b : List Term) (x : List Term) (hca : Spec0 Tryd.prog 17 [TL a] (I .i64 0)) (hcb : Spec0 Tryd.prog 17 [TL b] (I .i64 0)) (hsa : Spec0 Tryd.prog 18 [.agg s.cells, TL a] (B true)) (hsb : Spec0 Tryd.prog 18 [.agg s.cells, TL b] (B false)) (hN : Spec0 Tryd.prog 12 [TL a, TL b] (.tup [TL x, B true, I .i64 (0)])) (hsx : Spec0 Tryd.prog 18 [.agg s.cells, TL x] (B false)) (hxa : Spec0 Tryd.prog 11 [TL x, TL a] (B true)) (hxb : Spec0 Tryd.prog 11 [TL x, TL b] (B true)) (him : Spec0 Tryd.prog 11 [TL a, TL b] (B false)) : Spec0 Tryd.prog 6 [.agg s.cells, TL a, TL b] (B true) := sx0 hm hF 1000 20 [.c 6 1 0 (B true), .c 6 3 1 (I .i64 0), .c 6 3 5 (I .i64 0), .c 6 6 2 (B true), .c 6 6 6 (B false), .c 6 7 2 (.tup [TL x, B true, I .i64 (0)]), .c 6 10 2 (B false), .c 6 10 8 (B true), .c 6 10 13 (B true), .c 6 10 18 (B false)] [_, _, _, _, _, _, _, _, _, _] (by kernel_rfl) ⟨him, hxb, hxa, hsx, hN, hsb, hsa, hcb, hca, w_lives, trivial⟩
theorem mb_y_tt_f (s : Stt) (a b : List Term) (x : List Term) (hca : Spec0 Tryd.prog 17 [TL a] (I .i64 0)) (hcb : Spec0 Tryd.prog 17 [TL b] (I .i64 0)) (hsa : Spec0 Tryd.prog 18 [.agg s.cells, TL a] (B true)) (hsb : Spec0 Tryd.prog 18 [.agg s.cells, TL b] (B true)) (hN : Spec0 Tryd.prog 12 [TL a, TL b] (.tup [TL x, B true, I .i64 (0)])) (hsx : Spec0 Tryd.prog 18 [.agg s.cells, TL x] (B true)) (hxa : Spec0 Tryd.prog 11 [TL x, TL a] (B true)) (hxb : Spec0 Tryd.prog 11 [TL x, TL b] (B true)) (him : Spec0 Tryd.prog 11 [TL a, TL b] (B false)) : Spec0 Tryd.prog 6 [.agg s.cells, TL a, TL b] (B true) := sx0 hm hF 1000 20 [.c 6 1 0 (B true), .c 6 3 1 (I .i64 0), .c 6 3 5 (I .i64 0), .c 6 6 2 (B true), .c 6 6 6 (B true), .c 6 7 2 (.tup [TL x, B true, I .i64 (0)]), .c 6 10 2 (B true), .c 6 10 8 (B true), .c 6 10 13 (B true), .c 6 10 18 (B false)] [_, _, _, _, _, _, _, _, _, _] (by kernel_rfl) ⟨him, hxb, hxa, hsx, hN, hsb, hsa, hcb, hca, w_lives, trivial⟩
theorem mb_y_tt_t (s : Stt) (a b : List Term) (x : List Term) (hca : Spec0 Tryd.prog 17 [TL a] (I .i64 0)) (hcb : Spec0 Tryd.prog 17 [TL b] (I .i64 0)) (hsa : Spec0 Tryd.prog 18 [.agg s.cells, TL a] (B true)) (hsb : Spec0 Tryd.prog 18 [.agg s.cells, TL b] (B true)) (hN : Spec0 Tryd.prog 12 [TL a, TL b] (.tup [TL x, B true, I .i64 (0)])) (hsx : Spec0 Tryd.prog 18 [.agg s.cells, TL x] (B true)) (hxa : Spec0 Tryd.prog 11 [TL x, TL a] (B true)) (hxb : Spec0 Tryd.prog 11 [TL x, TL b] (B true)) (him : Spec0 Tryd.prog 11 [TL a, TL b] (B true)) : Spec0 Tryd.prog 6 [.agg s.cells, TL a, TL b] (B true) := sx0 hm hF 1000 20 [.c 6 1 0 (B true), .c 6 3 1 (I .i64 0), .c 6 3 5 (I .i64 0), .c 6 6 2 (B true), .c 6 6 6 (B true), .c 6 7 2 (.tup [TL x, B true, I .i64 (0)]), .c 6 10 2 (B true), .c 6 10 8 (B true), .c 6 10 13 (B true), .c 6 10 18 (B true), .c 6 10 23 (B true), .c 6 10 29 (B true)] [_, _, _, _, _, _, _, _, _, _, _, _] (by kernel_rfl) ⟨hsb, hsa, him, hxb, hxa, hsx, hN, hsb, hsa, hcb, hca, w_lives, trivial⟩
theorem w_MatchBoth (s : Stt) (a b : List Term) (hla : a.length ≤ 5864062014805) (hlb : b.length ≤ 5864062014805) (ua : UL a) (ub : UL b) : Spec0 Tryd.prog 6 [.agg s.cells, TL a, TL b] (B true) := by
  have hca := w_Check a (by omega)
  have hcb := w_Check b (by omega)
  have hN := w_And a b (by omega) (by omega)
  cases ka : chk 0 a
  · have e1 : okC a = 90 := by unfold okC; rw [ka]; rfl
    rw [e1] at hca
    rw [andV_x (by rw [ka]; rfl)] at hN
    exact mb_x1 s a b hca hN
  have e1 : okC a = 0 := by unfold okC; rw [ka]; rfl
  rw [e1] at hca
  cases kb : chk 0 b
  · have e2 : okC b = 90 := by unfold okC; rw [kb]; rfl
    rw [e2] at hcb
    rw [andV_x (by rw [ka, kb]; rfl)] at hN
    exact mb_x2 s a b hca hcb hN
  have e2 : okC b = 0 := by unfold okC; rw [kb]; rfl
  rw [e2] at hcb
  have fa : Fm a := ⟨ka, ua⟩
  have fb : Fm b := ⟨kb, ub⟩
  have hsa := w_Sat s a (by omega) ka
  have hsb := w_Sat s b (by omega) kb
  have hM := w_Meet a b (by omega) (by omega)
  have hab := w_Imp a b (by omega) (by omega)
  have lx := andV_len a b
  unfold meetV at hM
  rw [andV_fm fa fb] at hN hM lx
  cases hm1 : mrg a b with
  | none =>
    rw [hm1] at hN hM
    have hno := sat_none (V := fV s) (E := fE s) fa fb hm1
    cases h1 : satL (fV s) (fE s) a
    · rw [h1] at hsa
      exact mb_n_ff s a b _ hca hcb hsa hN hM
    · cases h2 : satL (fV s) (fE s) b
      · rw [h1] at hsa; rw [h2] at hsb
        exact mb_n_tf s a b _ hca hcb hsa hsb hN hM
      · rw [h1, h2] at hno; simp at hno
  | some x =>
    rw [hm1] at hN lx
    simp only [andO] at lx
    have fx := (fa.mg fb hm1).1
    have hsx := w_Sat s x (by omega) fx.c
    have ix := imp_mrg fa fb hm1
    have hxa := w_Imp x a (by omega) (by omega)
    have hxb := w_Imp x b (by omega) (by omega)
    rw [(impV_iff ua).2 ⟨fx.c, ka, ix.1⟩] at hxa
    rw [(impV_iff ub).2 ⟨fx.c, kb, ix.2⟩] at hxb
    rw [sat_both fa fb hm1] at hsx
    have himp : impV a b = true → satL (fV s) (fE s) a = true → satL (fV s) (fE s) b = true := fun h h' => sat_imp fa fb ((impV_iff ub).1 h).2.2 h'
    cases h1 : satL (fV s) (fE s) a
    · rw [h1] at hsa hsx
      cases h3 : impV a b
      · rw [h3] at hab; exact mb_y_ff_f s a b x hca hcb hsa hN hsx hxa hxb hab
      · rw [h3] at hab; exact mb_y_ff_t s a b x hca hcb hsa hN hsx hxa hxb hab
    · cases h2 : satL (fV s) (fE s) b
      · rw [h1] at hsa; rw [h2] at hsb; rw [h1, h2] at hsx
        cases h3 : impV a b
        · rw [h3] at hab; exact mb_y_tf_f s a b x hca hcb hsa hsb hN hsx hxa hxb hab
        · exact absurd (himp h3 h1) (by rw [h2]; simp)
      · rw [h1] at hsa; rw [h2] at hsb; rw [h1, h2] at hsx
        cases h3 : impV a b
        · rw [h3] at hab; exact mb_y_tt_f s a b x hca hcb hsa hsb hN hsx hxa hxb hab
        · rw [h3] at hab; exact mb_y_tt_t s a b x hca hcb hsa hsb hN hsx hxa hxb hab
end Go.Proofs.YtbimmnnjnlfddaaDoor
