/-
  Range, as the reference makes it.
-/
import Derived.Test.YthppdlmildfnnaaGreatDoorRWN1
set_option linter.unusedVariables false
set_option linter.unusedSimpArgs false
set_option maxRecDepth 100000
set_option maxHeartbeats 1000000
namespace Go.Proofs.YthppdlmildfnnaaGreatDoor
open Go Go.SL Go.Proofs
theorem rr_bad (f a t : Int) (hb : Spec0 Tryz.prog 27 [I .i64 f] (B false)) : Spec0 Tryz.prog 10 [I .i64 f, I .u64 a, I .u64 t] (.nil) := sx0 hm hF 1000 30 [.c 10 1 1 (B false)] [Spec0 Tryz.prog 27 [I IntKind.i64 f] (B false)] (by kernel_rfl) ⟨hb, trivial⟩
theorem rr_lt (f a t : Int) (hb : Spec0 Tryz.prog 27 [I .i64 f] (B true)) (h : t < a) : Spec0 Tryz.prog 10 [I .i64 f, I .u64 a, I .u64 t] (.nil) := sx0 hm hF 1000 30 [.c 10 1 1 (B true), .b 10 1 6 true] [decide (t < a) = true, Spec0 Tryz.prog 27 [I IntKind.i64 f] (B true)] (by kernel_rfl) ⟨(by first | omega | simp <;> omega), hb, trivial⟩
theorem rr_big (f a t : Int) (hb : Spec0 Tryz.prog 27 [I .i64 f] (B true)) (h : ¬ t < a) (m : Int) (hal : Spec0 Tryz.prog 28 [I .i64 f] (I .u64 m)) (h2 : t > m) : Spec0 Tryz.prog 10 [I .i64 f, I .u64 a, I .u64 t] (.nil) := sx0 hm hF 1000 30 [.c 10 1 1 (B true), .b 10 1 6 false, .c 10 1 11 (I .u64 m), .b 10 1 12 true] [decide (t > m) = true, Spec0 Tryz.prog 28 [I IntKind.i64 f] (I .u64 m), decide (t < a) = false, Spec0 Tryz.prog 27 [I IntKind.i64 f] (B true)] (by kernel_rfl) ⟨(by first | omega | simp <;> omega), hal, (by first | omega | simp <;> omega), hb, trivial⟩
theorem andn_u {w l : Nat} (hl : l ≤ w) (hw : w ≤ 48) : IntKind.u64.wrap ((BitVec.ofInt 64 ((2 ^ w - 1 : Nat) : Int) &&& ~~~ BitVec.ofInt 64 ((2 ^ l - 1 : Nat) : Int)).toNat : Int) = ((2 ^ w - 2 ^ l : Nat) : Int) := by
  have h5 := pow48 hw
  have h6 := two_le hl
  have h7 := two_pos l
  have b1 : (BitVec.ofInt 64 ((2 ^ w - 1 : Nat) : Int)).toNat = 2 ^ w - 1 := by rw [BitVec.ofInt_natCast, BitVec.toNat_ofNat]; exact Nat.mod_eq_of_lt (by omega)
  have b2 : (BitVec.ofInt 64 ((2 ^ l - 1 : Nat) : Int)).toNat = 2 ^ l - 1 := by rw [BitVec.ofInt_natCast, BitVec.toNat_ofNat]; exact Nat.mod_eq_of_lt (by omega)
  have b3 : (2 ^ w - 1) &&& (2 ^ 64 - 1 - (2 ^ l - 1)) = 2 ^ w - 2 ^ l := by
    have e : 2 ^ 64 - 1 - (2 ^ l - 1) = 2 ^ 64 - 2 ^ l := by omega
    rw [e, mask_and (w := 64) (l := l) (by omega) (by omega)]
    exact mask_mul hl
  rw [BitVec.toNat_and, BitVec.toNat_not, b1, b2, b3]
  generalize 2 ^ w = p at *
  generalize 2 ^ l = q at *
  exact IntWalk.u64_in _ (by omega)
theorem w_rRange (f w a1 t : Nat) (hw0 : 1 ≤ w) (hw : w ≤ 48) (hb : Spec0 Tryz.prog 27 [I .i64 (f : Nat)] (B true)) (hal : Spec0 Tryz.prog 28 [I .i64 (f : Nat)] (I .u64 ((2 ^ w - 1 : Nat) : Int))) (hat0 : a1 ≤ t) (h2 : t ≤ 2 ^ w - 1) : Spec0 Tryz.prog 10 [I .i64 (f : Nat), I .u64 (a1 : Nat), I .u64 (t : Nat)] (BL f w (blks w t a1)) := by
  have hp := pow48 hw
  have hp0 := two_pos w
  have htw : t < 2 ^ w := by omega
  have ht : t < 281474976710656 := by omega
  have hfew := blks_few hw0 hw htw hat0
  generalize hR : blks w t a1 = R at hfew
  obtain ⟨a0, ha0⟩ : ∃ a : Int, a = (a1 : Nat) := ⟨_, rfl⟩
  refine Spec0.walk Tryz.func10 rfl rfl ?_
  have inn : ∀ (a m : Nat) (hat : a ≤ t) (hal : Spec0 Tryz.prog 28 [I .i64 (f : Nat)] (I .u64 (m : Nat))) (h2 : t ≤ m) (K : Exit → SS → Prop), W Tryz.prog 69 (dropS 5 (bod3 Tryz.f10)) K ⟨tbl [(0, I .i64 (f : Nat)), (1, I .u64 (a : Nat)), (2, I .u64 (t : Nat)), (7, I .u64 (m : Nat)), (8, .nil), (9, I .u64 (a : Nat))], []⟩ → W Tryz.prog 69 (bod3 Tryz.f10) K ⟨tbl [(0, I .i64 (f : Nat)), (1, I .u64 (a : Nat)), (2, I .u64 (t : Nat))], []⟩ := by
    intro a m hat hal h2 K h
    refine W.sxP hm hF 10 5 1000 20 [.c 10 1 1 (B true), .b 10 1 6 false, .c 10 1 11 (I .u64 ((m : Nat) : Int)), .b 10 1 12 false, .c 10 3 1 (I .u64 ((m : Nat) : Int))] [Spec0 Tryz.prog 28 [I IntKind.i64 ((f : Nat) : Int)] (I .u64 ((m : Nat) : Int)), decide (((t : Nat) : Int) > ((m : Nat) : Int)) = false, Spec0 Tryz.prog 28 [I IntKind.i64 ((f : Nat) : Int)] (I .u64 ((m : Nat) : Int)), decide (((t : Nat) : Int) < ((a : Nat) : Int)) = false, Spec0 Tryz.prog 27 [I IntKind.i64 ((f : Nat) : Int)] (B true)] [(0, I .i64 (f : Nat)), (1, I .u64 (a : Nat)), (2, I .u64 (t : Nat)), (7, I .u64 (m : Nat)), (8, .nil), (9, I .u64 (a : Nat))] [] (by kernel_rfl) ⟨hal, (by simp <;> omega), hal, (by simp <;> omega), hb, trivial⟩ ?_
    exact h
  refine inn a1 _ hat0 hal h2 _ ?_
  rw [← ha0]
  refine W.block ?_
  refine W.loopE (fun x : Nat × List (Nat × Nat) => ⟨tbl [(0, I .i64 (f : Nat)), (1, I .u64 (a0 : Int)), (2, I .u64 (t : Nat)), (7, I .u64 ((2 ^ w - 1 : Nat) : Int)), (8, .sl 0 0 x.2.length), (9, I .u64 (x.1 : Nat))], [.row 1 (x.2.flatMap (blkC f w))]⟩) (fun x => x.1 ≤ t ∧ x.2 ++ blks w t x.1 = R) (fun x => t - x.1) 1 rfl (a1, []) ⟨hat0, by rw [List.nil_append]; exact hR⟩ (by rw [ha0]; exact Le.refl _) ?_
  rintro ⟨a, acc⟩ ⟨hat, hr⟩
  simp only at hat hr ⊢
  have hacc : acc.length ≤ 98 := by rw [← hr, List.length_append] at hfew; omega
  refine W.block ?_
  refine W.sxP hm hF 10 1 1000 20 [] [] [(0, I .i64 (f : Nat)), (1, I .u64 (a0 : Int)), (2, I .u64 (t : Nat)), (7, I .u64 ((2 ^ w - 1 : Nat) : Int)), (8, .sl 0 0 acc.length), (9, I .u64 (a : Nat)), (10, I .u64 ((0 : Nat) : Int))] [.row 1 (acc.flatMap (blkC f w))] (by kernel_rfl) trivial ?_
  refine W.seq ?_
  refine W.block ?_
  refine W.loop (fun j : Nat => ⟨tbl [(0, I .i64 (f : Nat)), (1, I .u64 (a0 : Int)), (2, I .u64 (t : Nat)), (7, I .u64 ((2 ^ w - 1 : Nat) : Int)), (8, .sl 0 0 acc.length), (9, I .u64 (a : Nat)), (10, I .u64 ((2 ^ j - 1 : Nat) : Int))], [.row 1 (acc.flatMap (blkC f w))]⟩) (fun j => j ≤ w - 1 ∧ 2 ^ j ∣ a ∧ 2 ^ j - 1 ≤ t - a) (fun j => w - j) 0 ⟨Nat.zero_le _, by simp, by simp⟩ (Le.refl _) ?_
  rintro j ⟨hj1, hjd, hjf⟩
  have hj : j ≤ 47 := by omega
  have e2 : 2 ^ (j + 1) = 2 * 2 ^ j := by rw [Nat.pow_succ]; omega
  have hpj := two_pos j
  have hpj2 := pow48 (show j + 1 ≤ 48 by omega)
  have n1 : IntKind.u64.wrap (2 * ((2 ^ j - 1 : Nat) : Int)) = ((2 * (2 ^ j - 1) : Nat) : Int) := by
    generalize 2 ^ j = p at *
    rw [IntWalk.u64_in _ (by omega)]; omega
  have n2 : IntKind.u64.wrap (((2 * (2 ^ j - 1) : Nat) : Int) + 1) = ((2 ^ (j + 1) - 1 : Nat) : Int) := by
    rw [e2]
    generalize 2 ^ j = p at *
    rw [IntWalk.u64_in _ (by omega)]; omega
  have n3 : IntKind.u64.wrap ((BitVec.ofInt 64 (a : Int) &&& BitVec.ofInt 64 ((2 ^ (j + 1) - 1 : Nat) : Int)).toNat : Int) = ((a % 2 ^ (j + 1) : Nat) : Int) := by
    rw [and_u (by omega) (by omega), Nat.and_two_pow_sub_one_eq_mod]
  have fin : ∀ (K : Exit → SS → Prop) (l : Nat), l = j → lowG w a (t - a) = l → (∀ acc' : List (Nat × Nat), acc'.length = acc.length + 1 → acc' = R → ∀ σ, Le ⟨tbl [(6, .sl 3 0 (acc.length + 1))], [AObj.dead, AObj.dead, AObj.row 1 [AV.im 3 [I .i64 ((f : Nat) : Int), I .u64 ((a : Nat) : Int), I .u64 (((2 ^ w - 2 ^ l) : Nat) : Int)]], AObj.row 1 (List.flatMap (blkC f w) acc')]⟩ σ → K .ret σ) → (∀ acc' : List (Nat × Nat), acc'.length = acc.length + 1 → a + 2 ^ l ≤ t → 1 ≤ 2 ^ l → acc' ++ blks w t (a + 2 ^ l) = R → ∀ σ, Le ⟨tbl [(0, I .i64 (f : Nat)), (1, I .u64 (a0 : Int)), (2, I .u64 (t : Nat)), (7, I .u64 ((2 ^ w - 1 : Nat) : Int)), (8, .sl 3 0 (acc.length + 1)), (9, I .u64 ((a + 2 ^ l : Nat) : Int))], [AObj.dead, AObj.dead, AObj.row 1 [AV.im 3 [I .i64 ((f : Nat) : Int), I .u64 ((a : Nat) : Int), I .u64 (((2 ^ w - 2 ^ l) : Nat) : Int)]], AObj.row 1 (List.flatMap (blkC f w) acc')]⟩ σ → K .normal σ) → W Tryz.prog 69 (dropS 2 (inB3 (lpb3 0 Tryz.f10))) K ⟨tbl [(0, I .i64 (f : Nat)), (1, I .u64 (a0 : Int)), (2, I .u64 (t : Nat)), (7, I .u64 ((2 ^ w - 1 : Nat) : Int)), (8, .sl 0 0 acc.length), (9, I .u64 (a : Nat)), (10, I .u64 ((2 ^ l - 1 : Nat) : Int))], [.row 1 (acc.flatMap (blkC f w))]⟩ := by
    intro K l hlj hlg q1 q2
    have hl : l ≤ 47 := by omega
    have hstep := blks_step (w := w) hat
    rw [hlg] at hstep
    obtain ⟨acc', hacc'⟩ : ∃ x, x = acc ++ [(a, l)] := ⟨_, rfl⟩
    have hae : acc'.length = acc.length + 1 := by rw [hacc']; simp
    have k1 := andn_u (w := w) (l := l) (by omega) hw
    by_cases hd : t - a = 2 ^ l - 1
    · have hr' : acc' = R := by rw [← hr, hstep, if_pos hd, hacc']
      exact W.sx hm hF 10 1000 20 [.z 10 10 5 (((2 ^ w - 2 ^ l) : Nat) : Int), .g 10 10 8 [1] [(56, AV.im 3 [I IntKind.i64 ((f : Nat) : Int), I IntKind.u64 ((a : Nat) : Int), I IntKind.u64 (((2 ^ w - 2 ^ l) : Nat) : Int)])], .x 10 10 9 (Xt.ap 1 (List.length acc + 1) (blkC f w (a, l)) (List.flatMap (blkC f w) acc')), .z 10 11 2 (((t - a) : Nat) : Int), .b 10 11 4 true] [((((t - a) : Nat) : Int) == (((2 ^ l - 1) : Nat) : Int)) = true, IntKind.wrap IntKind.u64 (((t : Nat) : Int) - ((a : Nat) : Int)) = (((t - a) : Nat) : Int), 1 = 1, 1 ≤ List.length [AV.im 3 [I .i64 ((f : Nat) : Int), I .u64 ((a : Nat) : Int), I .u64 (((2 ^ w - 2 ^ l) : Nat) : Int)]], List.all (List.take 1 (List.drop 0 [AV.im 3 [I .i64 ((f : Nat) : Int), I .u64 ((a : Nat) : Int), I .u64 (((2 ^ w - 2 ^ l) : Nat) : Int)]])) cellAV = true, List.take 1 (List.drop 0 [AV.im 3 [I .i64 ((f : Nat) : Int), I .u64 ((a : Nat) : Int), I .u64 (((2 ^ w - 2 ^ l) : Nat) : Int)]]) = blkC f w (a, l), 0 + List.length acc * 1 = List.length (List.flatMap (blkC f w) acc), (List.length acc + 1) * 24 ≤ 140737488355328 ∨ 24 = 1 ∧ List.length acc + 1 ≤ 200000000000000, List.length acc + 1 = List.length acc + 1, List.drop 0 (List.flatMap (blkC f w) acc) ++ blkC f w (a, l) = List.flatMap (blkC f w) acc', FzO [1] [AObj.row 1 (List.flatMap (blkC f w) acc), AObj.row 3 [I .i64 ((f : Nat) : Int), I .u64 ((a : Nat) : Int), I .u64 (((2 ^ w - 2 ^ l) : Nat) : Int)]] [(AV.sl 1 0 1, AV.im 3 [I IntKind.i64 ((f : Nat) : Int), I IntKind.u64 ((a : Nat) : Int), I IntKind.u64 (((2 ^ w - 2 ^ l) : Nat) : Int)])], IntKind.wrap IntKind.u64 (((BitVec.toNat (BitVec.ofInt 64 (((2 ^ w - 1) : Nat) : Int) &&& ~~~BitVec.ofInt 64 (((2 ^ l - 1) : Nat) : Int))) : Nat) : Int) = (((2 ^ w - 2 ^ l) : Nat) : Int)] .ret [(6, .sl 3 0 (acc.length + 1))] [AObj.dead, AObj.dead, AObj.row 1 [AV.im 3 [I .i64 ((f : Nat) : Int), I .u64 ((a : Nat) : Int), I .u64 (((2 ^ w - 2 ^ l) : Nat) : Int)]], AObj.row 1 (List.flatMap (blkC f w) acc')] (by kernel_rfl) ⟨(by simp <;> omega), (by exact sub_u (by omega) (by omega)), (by omega), (by simp <;> omega), (by rfl), (by rfl), (by rw [fm_len (c := blkC f w) (e := 1) (fun _ => rfl)]; omega), (by omega), (by omega), (by subst hacc'; exact fm_snoc1 _ _ _ _), (by exact ⟨fzv_slE rfl rfl rfl rfl rfl, trivial⟩), (by assumption), trivial⟩ (q1 acc' hae hr')
    · have hpl := two_pos l
      have hn : a + 2 ^ l ≤ t := by have := next_le (w := w) hat (by rw [hlg]; exact hd); rwa [hlg] at this
      have hr' : acc' ++ blks w t (a + 2 ^ l) = R := by rw [← hr, hstep, if_neg hd, hacc']; simp
      have n4 : IntKind.u64.wrap ((a : Int) + ((2 ^ l - 1 : Nat) : Int)) = ((a + (2 ^ l - 1) : Nat) : Int) := by
        generalize 2 ^ l = p at *
        rw [IntWalk.u64_in _ (by omega)]; omega
      have n5 : IntKind.u64.wrap (((a + (2 ^ l - 1) : Nat) : Int) + 1) = ((a + 2 ^ l : Nat) : Int) := by
        generalize 2 ^ l = p at *
        rw [IntWalk.u64_in _ (by omega)]; omega
      exact W.sx hm hF 10 1000 20 [.z 10 10 5 (((2 ^ w - 2 ^ l) : Nat) : Int), .g 10 10 8 [1] [(56, AV.im 3 [I IntKind.i64 ((f : Nat) : Int), I IntKind.u64 ((a : Nat) : Int), I IntKind.u64 (((2 ^ w - 2 ^ l) : Nat) : Int)])], .x 10 10 9 (Xt.ap 1 (List.length acc + 1) (blkC f w (a, l)) (List.flatMap (blkC f w) acc')), .z 10 11 2 (((t - a) : Nat) : Int), .b 10 11 4 false, .z 10 13 2 (((a + (2 ^ l - 1)) : Nat) : Int), .z 10 13 3 (((a + 2 ^ l) : Nat) : Int)] [IntKind.wrap IntKind.u64 ((((a + (2 ^ l - 1)) : Nat) : Int) + 1) = (((a + 2 ^ l) : Nat) : Int), IntKind.wrap IntKind.u64 (((a : Nat) : Int) + (((2 ^ l - 1) : Nat) : Int)) = (((a + (2 ^ l - 1)) : Nat) : Int), ((((t - a) : Nat) : Int) == (((2 ^ l - 1) : Nat) : Int)) = false, IntKind.wrap IntKind.u64 (((t : Nat) : Int) - ((a : Nat) : Int)) = (((t - a) : Nat) : Int), 1 = 1, 1 ≤ List.length [AV.im 3 [I .i64 ((f : Nat) : Int), I .u64 ((a : Nat) : Int), I .u64 (((2 ^ w - 2 ^ l) : Nat) : Int)]], List.all (List.take 1 (List.drop 0 [AV.im 3 [I .i64 ((f : Nat) : Int), I .u64 ((a : Nat) : Int), I .u64 (((2 ^ w - 2 ^ l) : Nat) : Int)]])) cellAV = true, List.take 1 (List.drop 0 [AV.im 3 [I .i64 ((f : Nat) : Int), I .u64 ((a : Nat) : Int), I .u64 (((2 ^ w - 2 ^ l) : Nat) : Int)]]) = blkC f w (a, l), 0 + List.length acc * 1 = List.length (List.flatMap (blkC f w) acc), (List.length acc + 1) * 24 ≤ 140737488355328 ∨ 24 = 1 ∧ List.length acc + 1 ≤ 200000000000000, List.length acc + 1 = List.length acc + 1, List.drop 0 (List.flatMap (blkC f w) acc) ++ blkC f w (a, l) = List.flatMap (blkC f w) acc', FzO [1] [AObj.row 1 (List.flatMap (blkC f w) acc), AObj.row 3 [I .i64 ((f : Nat) : Int), I .u64 ((a : Nat) : Int), I .u64 (((2 ^ w - 2 ^ l) : Nat) : Int)]] [(AV.sl 1 0 1, AV.im 3 [I IntKind.i64 ((f : Nat) : Int), I IntKind.u64 ((a : Nat) : Int), I IntKind.u64 (((2 ^ w - 2 ^ l) : Nat) : Int)])], IntKind.wrap IntKind.u64 (((BitVec.toNat (BitVec.ofInt 64 (((2 ^ w - 1) : Nat) : Int) &&& ~~~BitVec.ofInt 64 (((2 ^ l - 1) : Nat) : Int))) : Nat) : Int) = (((2 ^ w - 2 ^ l) : Nat) : Int)] .normal [(0, I .i64 (f : Nat)), (1, I .u64 (a0 : Int)), (2, I .u64 (t : Nat)), (7, I .u64 ((2 ^ w - 1 : Nat) : Int)), (8, .sl 3 0 (acc.length + 1)), (9, I .u64 ((a + 2 ^ l : Nat) : Int))] [AObj.dead, AObj.dead, AObj.row 1 [AV.im 3 [I .i64 ((f : Nat) : Int), I .u64 ((a : Nat) : Int), I .u64 (((2 ^ w - 2 ^ l) : Nat) : Int)]], AObj.row 1 (List.flatMap (blkC f w) acc')] (by kernel_rfl) ⟨(by assumption), (by assumption), (by simp <;> omega), (by exact sub_u (by omega) (by omega)), (by omega), (by simp <;> omega), (by rfl), (by rfl), (by rw [fm_len (c := blkC f w) (e := 1) (fun _ => rfl)]; omega), (by omega), (by omega), (by subst hacc'; exact fm_snoc1 _ _ _ _), (by exact ⟨fzv_slE rfl rfl rfl rfl rfl, trivial⟩), (by assumption), trivial⟩ (q2 acc' hae hn hpl hr')
  have hlt63 : a < 9223372036854775808 := by omega
  by_cases c1 : ((2 ^ (j + 1) - 1 : Nat) : Int) ≥ ((2 ^ w - 1 : Nat) : Int)
  · refine W.sx hm hF 10 1000 20 [.z 10 7 1 (((2 * (2 ^ j - 1)) : Nat) : Int), .z 10 7 2 (((2 ^ (j + 1) - 1) : Nat) : Int), .b 10 8 2 true] [decide ((((2 ^ (j + 1) - 1) : Nat) : Int) ≥ (((2 ^ w - 1) : Nat) : Int)) = true, IntKind.wrap IntKind.u64 ((((2 * (2 ^ j - 1)) : Nat) : Int) + 1) = (((2 ^ (j + 1) - 1) : Nat) : Int), IntKind.wrap IntKind.u64 (2 * (((2 ^ j - 1) : Nat) : Int)) = (((2 * (2 ^ j - 1)) : Nat) : Int)] (.exit 2) [(0, I .i64 (f : Nat)), (1, I .u64 (a0 : Int)), (2, I .u64 (t : Nat)), (7, I .u64 ((2 ^ w - 1 : Nat) : Int)), (8, .sl 0 0 acc.length), (9, I .u64 (a : Nat)), (10, I .u64 ((2 ^ j - 1 : Nat) : Int))] [.row 1 (acc.flatMap (blkC f w))] (by kernel_rfl) ⟨(by simp <;> omega), (by assumption), (by assumption), trivial⟩ (fun σ h => W.weaken h ?_)
    have hwj : w - 1 ≤ j := ?_
    · exact fin _ j rfl (lowG_is hlt63 hw hj1 hjd hjf (.inl hwj)) (fun acc' hae hr' σ h => by rw [← hr']; exact retK.fz (.inl rfl) h rfl (Fz.row rfl (Nat.zero_le _) (by rw [fm_len (c := blkC f w) (e := 1) (fun _ => rfl), hae]) (blk_no _ _ _))) (fun acc' hae hn hpl hr' σ h => ⟨(a + 2 ^ j, acc'), [3], ⟨hn, hr'⟩, by simp only; omega, LeM.mk' (out := [(0, I .i64 (f : Nat)), (1, I .u64 (a0 : Int)), (2, I .u64 (t : Nat)), (7, I .u64 ((2 ^ w - 1 : Nat) : Int)), (8, .sl 3 0 (acc.length + 1)), (9, I .u64 ((a + 2 ^ j : Nat) : Int))]) (by simp only [List.map_cons, List.map_nil, hae]; rfl) rfl (by simp) (by decide) (by intro r hr; rw [List.mem_singleton] at hr; subst hr; exact blk_no _ _ _) h⟩)
    rcases Nat.lt_or_ge (j + 1) w with g | g
    · have := Nat.pow_lt_pow_right (show 1 < 2 by decide) g
      omega
    · omega
  · have hjw : j + 1 < w := by
      rcases Nat.lt_or_ge (j + 1) w with g | g
      · exact g
      · have := two_le g; omega
    by_cases hdv : a % 2 ^ (j + 1) = 0
    · have c2 : (((a % 2 ^ (j + 1) : Nat) : Int) != 0) = false := by rw [hdv]; rfl
      by_cases c3 : ((t - a : Nat) : Int) < ((2 ^ (j + 1) - 1 : Nat) : Int)
      · refine W.sx hm hF 10 1000 20 [.z 10 7 1 (((2 * (2 ^ j - 1)) : Nat) : Int), .z 10 7 2 (((2 ^ (j + 1) - 1) : Nat) : Int), .b 10 8 2 false, .z 10 8 6 (((a % 2 ^ (j + 1)) : Nat) : Int), .b 10 8 7 false, .z 10 8 12 (((t - a) : Nat) : Int), .b 10 8 14 true] [decide ((((t - a) : Nat) : Int) < (((2 ^ (j + 1) - 1) : Nat) : Int)) = true, IntKind.wrap IntKind.u64 (((t : Nat) : Int) - ((a : Nat) : Int)) = (((t - a) : Nat) : Int), ((((a % 2 ^ (j + 1)) : Nat) : Int) != 0) = false, IntKind.wrap IntKind.u64 (((BitVec.toNat (BitVec.ofInt 64 ((a : Nat) : Int) &&& BitVec.ofInt 64 (((2 ^ (j + 1) - 1) : Nat) : Int))) : Nat) : Int) = (((a % 2 ^ (j + 1)) : Nat) : Int), decide ((((2 ^ (j + 1) - 1) : Nat) : Int) ≥ (((2 ^ w - 1) : Nat) : Int)) = false, IntKind.wrap IntKind.u64 ((((2 * (2 ^ j - 1)) : Nat) : Int) + 1) = (((2 ^ (j + 1) - 1) : Nat) : Int), IntKind.wrap IntKind.u64 (2 * (((2 ^ j - 1) : Nat) : Int)) = (((2 * (2 ^ j - 1)) : Nat) : Int)] (.exit 2) [(0, I .i64 (f : Nat)), (1, I .u64 (a0 : Int)), (2, I .u64 (t : Nat)), (7, I .u64 ((2 ^ w - 1 : Nat) : Int)), (8, .sl 0 0 acc.length), (9, I .u64 (a : Nat)), (10, I .u64 ((2 ^ j - 1 : Nat) : Int))] [.row 1 (acc.flatMap (blkC f w))] (by kernel_rfl) ⟨(by simp <;> omega), (by exact sub_u (by omega) (by omega)), (by assumption), (by assumption), (by simp <;> omega), (by assumption), (by assumption), trivial⟩ (fun σ h => W.weaken h ?_)
        exact fin _ j rfl (lowG_is hlt63 hw hj1 hjd hjf (.inr (.inr (by omega)))) (fun acc' hae hr' σ h => by rw [← hr']; exact retK.fz (.inl rfl) h rfl (Fz.row rfl (Nat.zero_le _) (by rw [fm_len (c := blkC f w) (e := 1) (fun _ => rfl), hae]) (blk_no _ _ _))) (fun acc' hae hn hpl hr' σ h => ⟨(a + 2 ^ j, acc'), [3], ⟨hn, hr'⟩, by simp only; omega, LeM.mk' (out := [(0, I .i64 (f : Nat)), (1, I .u64 (a0 : Int)), (2, I .u64 (t : Nat)), (7, I .u64 ((2 ^ w - 1 : Nat) : Int)), (8, .sl 3 0 (acc.length + 1)), (9, I .u64 ((a + 2 ^ j : Nat) : Int))]) (by simp only [List.map_cons, List.map_nil, hae]; rfl) rfl (by simp) (by decide) (by intro r hr; rw [List.mem_singleton] at hr; subst hr; exact blk_no _ _ _) h⟩)
      · exact W.sx hm hF 10 1000 20 [.z 10 7 1 (((2 * (2 ^ j - 1)) : Nat) : Int), .z 10 7 2 (((2 ^ (j + 1) - 1) : Nat) : Int), .b 10 8 2 false, .z 10 8 6 (((a % 2 ^ (j + 1)) : Nat) : Int), .b 10 8 7 false, .z 10 8 12 (((t - a) : Nat) : Int), .b 10 8 14 false] [decide ((((t - a) : Nat) : Int) < (((2 ^ (j + 1) - 1) : Nat) : Int)) = false, IntKind.wrap IntKind.u64 (((t : Nat) : Int) - ((a : Nat) : Int)) = (((t - a) : Nat) : Int), ((((a % 2 ^ (j + 1)) : Nat) : Int) != 0) = false, IntKind.wrap IntKind.u64 (((BitVec.toNat (BitVec.ofInt 64 ((a : Nat) : Int) &&& BitVec.ofInt 64 (((2 ^ (j + 1) - 1) : Nat) : Int))) : Nat) : Int) = (((a % 2 ^ (j + 1)) : Nat) : Int), decide ((((2 ^ (j + 1) - 1) : Nat) : Int) ≥ (((2 ^ w - 1) : Nat) : Int)) = false, IntKind.wrap IntKind.u64 ((((2 * (2 ^ j - 1)) : Nat) : Int) + 1) = (((2 ^ (j + 1) - 1) : Nat) : Int), IntKind.wrap IntKind.u64 (2 * (((2 ^ j - 1) : Nat) : Int)) = (((2 * (2 ^ j - 1)) : Nat) : Int)] .normal [(0, I .i64 (f : Nat)), (1, I .u64 (a0 : Int)), (2, I .u64 (t : Nat)), (7, I .u64 ((2 ^ w - 1 : Nat) : Int)), (8, .sl 0 0 acc.length), (9, I .u64 (a : Nat)), (10, I .u64 ((2 ^ (j + 1) - 1 : Nat) : Int))] [.row 1 (acc.flatMap (blkC f w))] (by kernel_rfl) ⟨(by simp <;> omega), (by exact sub_u (by omega) (by omega)), (by assumption), (by assumption), (by simp <;> omega), (by assumption), (by assumption), trivial⟩ (fun σ h => ⟨j + 1, ⟨by omega, Nat.dvd_of_mod_eq_zero hdv, by omega⟩, by omega, h⟩)
    · have c2 : (((a % 2 ^ (j + 1) : Nat) : Int) != 0) = true := by
        have : ((a % 2 ^ (j + 1) : Nat) : Int) ≠ 0 := by omega
        simpa using this
      refine W.sx hm hF 10 1000 20 [.z 10 7 1 (((2 * (2 ^ j - 1)) : Nat) : Int), .z 10 7 2 (((2 ^ (j + 1) - 1) : Nat) : Int), .b 10 8 2 false, .z 10 8 6 (((a % 2 ^ (j + 1)) : Nat) : Int), .b 10 8 7 true] [((((a % 2 ^ (j + 1)) : Nat) : Int) != 0) = true, IntKind.wrap IntKind.u64 (((BitVec.toNat (BitVec.ofInt 64 ((a : Nat) : Int) &&& BitVec.ofInt 64 (((2 ^ (j + 1) - 1) : Nat) : Int))) : Nat) : Int) = (((a % 2 ^ (j + 1)) : Nat) : Int), decide ((((2 ^ (j + 1) - 1) : Nat) : Int) ≥ (((2 ^ w - 1) : Nat) : Int)) = false, IntKind.wrap IntKind.u64 ((((2 * (2 ^ j - 1)) : Nat) : Int) + 1) = (((2 ^ (j + 1) - 1) : Nat) : Int), IntKind.wrap IntKind.u64 (2 * (((2 ^ j - 1) : Nat) : Int)) = (((2 * (2 ^ j - 1)) : Nat) : Int)] (.exit 2) [(0, I .i64 (f : Nat)), (1, I .u64 (a0 : Int)), (2, I .u64 (t : Nat)), (7, I .u64 ((2 ^ w - 1 : Nat) : Int)), (8, .sl 0 0 acc.length), (9, I .u64 (a : Nat)), (10, I .u64 ((2 ^ j - 1 : Nat) : Int))] [.row 1 (acc.flatMap (blkC f w))] (by kernel_rfl) ⟨(by assumption), (by assumption), (by simp <;> omega), (by assumption), (by assumption), trivial⟩ (fun σ h => W.weaken h ?_)
      exact fin _ j rfl (lowG_is hlt63 hw hj1 hjd hjf (.inr (.inl (fun g => hdv (Nat.mod_eq_zero_of_dvd g))))) (fun acc' hae hr' σ h => by rw [← hr']; exact retK.fz (.inl rfl) h rfl (Fz.row rfl (Nat.zero_le _) (by rw [fm_len (c := blkC f w) (e := 1) (fun _ => rfl), hae]) (blk_no _ _ _))) (fun acc' hae hn hpl hr' σ h => ⟨(a + 2 ^ j, acc'), [3], ⟨hn, hr'⟩, by simp only; omega, LeM.mk' (out := [(0, I .i64 (f : Nat)), (1, I .u64 (a0 : Int)), (2, I .u64 (t : Nat)), (7, I .u64 ((2 ^ w - 1 : Nat) : Int)), (8, .sl 3 0 (acc.length + 1)), (9, I .u64 ((a + 2 ^ j : Nat) : Int))]) (by simp only [List.map_cons, List.map_nil, hae]; rfl) rfl (by simp) (by decide) (by intro r hr; rw [List.mem_singleton] at hr; subst hr; exact blk_no _ _ _) h⟩)

end Go.Proofs.YthppdlmildfnnaaGreatDoor
