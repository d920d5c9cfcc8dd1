/-
  Range: the matches of numbers from one to another, as the program makes them.
-/
import Derived.Test.YthppdlmildfnnaaGreatDoorRGN1
import Derived.Test.YthppdlmildfnnaaGreatDoorF2N1
import Derived.Test.YthppdlmildfnnaaGreatDoorShN1
set_option linter.unusedVariables false
set_option linter.unusedSimpArgs false
set_option maxRecDepth 100000
set_option maxHeartbeats 1000000
namespace Go.Proofs.YthppdlmildfnnaaGreatDoor
open Go Go.SL Go.Proofs
def nthS3 : Nat → Code → Code
  | 0, .seq a _ => a
  | k + 1, .seq _ b => nthS3 k b
  | _, c => c
def inB3 : Code → Code
  | .block _ c => c
  | c => c
def bod3 (f : Func) : Code := f.body.getD .skip
def lps3 : Nat → Code → List Code
  | 0, _ => []
  | m + 1, c => match c with
    | .seq a b => lps3 m a ++ lps3 m b
    | .cond _ a b => lps3 m a ++ lps3 m b
    | .block _ a => lps3 m a
    | .loop a => a :: lps3 m a
    | .scope a => lps3 m a
    | _ => []
/-- the body of loop k -/
def lpb3 (k : Nat) (f : Func) : Code := (nth (lps3 200 (bod3 f)) k).getD .skip
def inS3 : Code → Code
  | .scope c => c
  | c => c
/-- A block as a match. -/
def blkC (f w : Nat) (b : Nat × Nat) : List AV := [.im 3 [I .i64 (f : Nat), I .u64 (b.1 : Nat), I .u64 ((2 ^ w - 2 ^ b.2 : Nat) : Int)]]
@[reducible] def BL (f w : Nat) (l : List (Nat × Nat)) : AV := .im 1 (l.flatMap (blkC f w))
theorem fzv_slE {ks : List Nat} {hp : List AObj} {o off len esz : Nat} {cells ys : List AV} (ho : nth hp o = some (AObj.row esz cells)) (hk : memN ks o = true) (hl : Nat.ble (off + len * esz) cells.length = true) (he : (cells.drop off).take (len * esz) = ys) (hn : noOwnL ys = true) : FzV ks hp (.sl o off len) (.im esz ys) := by
  rw [nth_eq] at ho
  exact .sl ho hk (Nat.le_of_ble_eq_true hl) he hn
theorem shl1 {l : Nat} (h : l ≤ 63) : IntKind.u64.wrap (1 * 2 ^ min ((l : Nat) : Int).toNat 64) = ((2 ^ l : Nat) : Int) := by
  have h1 : min ((l : Nat) : Int).toNat 64 = l := by rw [Int.toNat_natCast]; omega
  have h2 : 2 ^ l ≤ 2 ^ 63 := Nat.pow_le_pow_right (by decide) h
  have h3 : (2 : Nat) ^ 63 = 9223372036854775808 := by decide
  have h4 : (2 : Int) ^ l = ((2 ^ l : Nat) : Int) := by simp
  rw [h1, Int.one_mul, h4]
  generalize 2 ^ l = p at *
  exact IntWalk.u64_in _ (by omega)
theorem sub_u {a b : Nat} (h : b ≤ a) (ha : a < 18446744073709551616) : IntKind.u64.wrap ((a : Int) - (b : Int)) = ((a - b : Nat) : Int) := by rw [IntWalk.u64_in _ (by omega)]; omega
theorem sub_u1 {l : Nat} (h : l ≤ 63) : IntKind.u64.wrap (((2 ^ l : Nat) : Int) - 1) = ((2 ^ l - 1 : Nat) : Int) := by
  have h2 : 2 ^ l ≤ 2 ^ 63 := Nat.pow_le_pow_right (by decide) h
  have h3 : (2 : Nat) ^ 63 = 9223372036854775808 := by decide
  have h4 : 1 ≤ 2 ^ l := Nat.one_le_two_pow
  generalize 2 ^ l = p at *
  rw [IntWalk.u64_in _ (by omega)]; omega
theorem or_u {a b : Nat} (ha : a < 18446744073709551616) (hb : b < 18446744073709551616) : IntKind.u64.wrap ((BitVec.ofInt 64 (a : Int) ||| BitVec.ofInt 64 (b : Int)).toNat : Int) = ((a ||| b : Nat) : Int) := by
  have b1 : (BitVec.ofInt 64 (a : Int)).toNat = a := by rw [BitVec.ofInt_natCast, BitVec.toNat_ofNat]; exact Nat.mod_eq_of_lt (by omega)
  have b2 : (BitVec.ofInt 64 (b : Int)).toNat = b := by rw [BitVec.ofInt_natCast, BitVec.toNat_ofNat]; exact Nat.mod_eq_of_lt (by omega)
  rw [BitVec.toNat_or, b1, b2]
  have : a ||| b < 2 ^ 64 := Nat.or_lt_two_pow (by omega) (by omega)
  rw [IntWalk.u64_in _ (by omega)]
theorem and_u {a b : Nat} (ha : a < 18446744073709551616) (hb : b < 18446744073709551616) : IntKind.u64.wrap ((BitVec.ofInt 64 (a : Int) &&& BitVec.ofInt 64 (b : Int)).toNat : Int) = ((a &&& b : Nat) : Int) := by
  have b1 : (BitVec.ofInt 64 (a : Int)).toNat = a := by rw [BitVec.ofInt_natCast, BitVec.toNat_ofNat]; exact Nat.mod_eq_of_lt (by omega)
  have b2 : (BitVec.ofInt 64 (b : Int)).toNat = b := by rw [BitVec.ofInt_natCast, BitVec.toNat_ofNat]; exact Nat.mod_eq_of_lt (by omega)
  rw [BitVec.toNat_and, b1, b2]
  have : a &&& b < 2 ^ 64 := Nat.and_lt_two_pow _ (by omega)
  rw [IntWalk.u64_in _ (by omega)]
theorem rng_bad (f a t : Int) (hb : Spec0 Tryz.prog 24 [I .i64 f] (I .i64 0)) : Spec0 Tryz.prog 7 [I .i64 f, I .u64 a, I .u64 t] (.nil) := sx0 hm hF 1000 30 [.c 7 2 1 (I .i64 (Int.ofNat 0))] [Spec0 Tryz.prog 24 [I IntKind.i64 f] (I .i64 (Int.ofNat 0))] (by kernel_rfl) ⟨hb, trivial⟩
theorem rng_lt (w : Nat) (hw : 1 ≤ w) (f a t : Int) (hb : Spec0 Tryz.prog 24 [I .i64 f] (I .i64 (w : Nat))) (h : t < a) : Spec0 Tryz.prog 7 [I .i64 f, I .u64 a, I .u64 t] (.nil) := sx0 hm hF 1000 30 [.c 7 2 1 (I .i64 (↑w : Int)), .b 7 3 1 false, .b 7 3 5 true] [decide (t < a) = true, ((↑w : Int) == 0) = false, Spec0 Tryz.prog 24 [I IntKind.i64 f] (I .i64 (↑w : Int))] (by kernel_rfl) ⟨(by first | omega | simp <;> omega), (by first | omega | simp <;> omega), hb, trivial⟩
theorem rng_big (w : Nat) (hw : 1 ≤ w) (f a t : Int) (hb : Spec0 Tryz.prog 24 [I .i64 f] (I .i64 (w : Nat))) (h : ¬ t < a) (m : Int) (hal : Spec0 Tryz.prog 25 [I .i64 f] (I .u64 m)) (h2 : t > m) : Spec0 Tryz.prog 7 [I .i64 f, I .u64 a, I .u64 t] (.nil) := sx0 hm hF 1000 30 [.c 7 2 1 (I .i64 (↑w : Int)), .b 7 3 1 false, .b 7 3 5 false, .c 7 3 10 (I .u64 m), .b 7 3 11 true] [decide (t > m) = true, Spec0 Tryz.prog 25 [I IntKind.i64 f] (I .u64 m), decide (t < a) = false, ((↑w : Int) == 0) = false, Spec0 Tryz.prog 24 [I IntKind.i64 f] (I .i64 (↑w : Int))] (by kernel_rfl) ⟨(by first | omega | simp <;> omega), hal, (by first | omega | simp <;> omega), (by first | omega | simp <;> omega), hb, trivial⟩
theorem fm_snoc1 (f w : Nat) (acc : List (Nat × Nat)) (b : Nat × Nat) : (acc.flatMap (blkC f w)).drop 0 ++ blkC f w b = (acc ++ [b]).flatMap (blkC f w) := by simp
theorem mask_div {w l : Nat} (hl : l ≤ w) : (2 ^ w - 1) / 2 ^ l = 2 ^ (w - l) - 1 := by
  have e : 2 ^ w = 2 ^ (w - l) * 2 ^ l := by rw [← Nat.pow_add, show w - l + l = w by omega]
  have h1 := two_pos l
  have h2 := two_pos (w - l)
  apply Nat.div_eq_of_lt_le
  · rw [e, Nat.sub_mul, Nat.one_mul]; omega
  · rw [e, Nat.sub_add_cancel h2]
    have : 1 ≤ 2 ^ (w - l) * 2 ^ l := Nat.mul_pos h2 h1
    omega
theorem mask_mul {w l : Nat} (hl : l ≤ w) : (2 ^ w - 1) / 2 ^ l * 2 ^ l = 2 ^ w - 2 ^ l := by
  rw [mask_div hl, Nat.sub_mul, Nat.one_mul, ← Nat.pow_add, show w - l + l = w by omega]
theorem shr_m {w l : Nat} (hl : l ≤ w) (hw : w ≤ 48) : ((2 ^ w - 1 : Nat) : Int).fdiv (2 ^ min ((l : Nat) : Int).toNat 64) = (((2 ^ w - 1) / 2 ^ l : Nat) : Int) := by
  have h1 : min ((l : Nat) : Int).toNat 64 = l := by rw [Int.toNat_natCast]; omega
  have h4 : (2 : Int) ^ l = ((2 ^ l : Nat) : Int) := by simp
  rw [h1, h4, Int.fdiv_eq_ediv_of_nonneg _ (Int.natCast_nonneg _)]
  exact (Int.natCast_ediv _ _).symm
theorem pow48 {w : Nat} (hw : w ≤ 48) : 2 ^ w ≤ 281474976710656 := by
  have := two_le hw
  have e : (2 : Nat) ^ 48 = 281474976710656 := by decide
  omega
theorem shl_m {w l : Nat} (hl : l ≤ w) (hw : w ≤ 48) : IntKind.u64.wrap ((((2 ^ w - 1) / 2 ^ l : Nat) : Int) * 2 ^ min ((l : Nat) : Int).toNat 64) = ((2 ^ w - 2 ^ l : Nat) : Int) := by
  have h1 : min ((l : Nat) : Int).toNat 64 = l := by rw [Int.toNat_natCast]; omega
  have h4 : (2 : Int) ^ l = ((2 ^ l : Nat) : Int) := by simp
  have h5 := pow48 hw
  rw [h1, h4, ← Int.natCast_mul, mask_mul hl]
  generalize 2 ^ w = p at *
  generalize 2 ^ l = q at *
  exact IntWalk.u64_in _ (by omega)
theorem blk_no (f w : Nat) (l : List (Nat × Nat)) : noOwnL (l.flatMap (blkC f w)) = true := fm_no (c := blkC f w) (fun _ => rfl) l
theorem w_Range (f w a0 t : Nat) (hw0 : 1 ≤ w) (hw : w ≤ 48) (hb : Spec0 Tryz.prog 24 [I .i64 (f : Nat)] (I .i64 (w : Nat))) (hal : Spec0 Tryz.prog 25 [I .i64 (f : Nat)] (I .u64 ((2 ^ w - 1 : Nat) : Int))) (hat0 : a0 ≤ t) (h2 : t ≤ 2 ^ w - 1) : Spec0 Tryz.prog 7 [I .i64 (f : Nat), I .u64 (a0 : Nat), I .u64 (t : Nat)] (BL f w (blks w t a0)) := by
  have hp := pow48 hw
  have hp0 := two_pos w
  have htw : t < 2 ^ w := by omega
  have ht : t < 281474976710656 := by omega
  have hfew := blks_few hw0 hw htw hat0
  generalize hR : blks w t a0 = R at hfew
  refine Spec0.walk Tryz.func7 rfl rfl ?_
  refine W.sxP hm hF 7 1 1000 20 [] [] [(0, I .i64 (f : Nat)), (1, I .u64 (a0 : Nat)), (2, I .u64 (t : Nat))] [] (by kernel_rfl) trivial ?_
  refine W.scopeM1 (fun x : Nat × List (Nat × Nat) => ⟨tbl [(0, I .i64 (f : Nat)), (1, I .u64 (x.1 : Nat)), (2, I .u64 (t : Nat)), (7, .sl 0 0 x.2.length), (8, I .i64 (w : Nat))], [.row 1 (x.2.flatMap (blkC f w))]⟩) (fun x => x.1 ≤ t ∧ x.2 ++ blks w t x.1 = R) (fun x => t - x.1) 0 rfl rfl ?_ ?_
  · rintro ⟨a, acc⟩ ⟨hat, hr⟩
    simp only at hat hr ⊢
    have hacc : acc.length ≤ 98 := by rw [← hr, List.length_append] at hfew; omega
    obtain ⟨m, hmm⟩ : ∃ m, m = capZ w a := ⟨_, rfl⟩
    have hml : m ≤ 47 := by have := capZ_le w a; omega
    have htz := w_tz (a ||| 9223372036854775808) (by rw [or_top (by omega)]; omega) (by rw [or_top (by omega)]; omega)
    have hmn : m = min (Lib.ctz 64 (a ||| 9223372036854775808)) (w - 1) := hmm
    generalize Lib.ctz 64 (a ||| 9223372036854775808) = c at htz hmn
    refine W.sxP hm hF 7 1 1000 20 [.z 7 5 1 (((a ||| 9223372036854775808) : Nat) : Int), .c 7 5 2 (I .i64 ((c : Nat) : Int)), .z 7 5 4 (((w - 1) : Nat) : Int), .z 7 5 5 ((m : Nat) : Int)] [(if (((w - 1) : Nat) : Int) < ((c : Nat) : Int) then (((w - 1) : Nat) : Int) else ((c : Nat) : Int)) = ((m : Nat) : Int), IntKind.wrap IntKind.i64 (((w : Nat) : Int) - 1) = (((w - 1) : Nat) : Int), Spec0 Tryz.prog 26 [I IntKind.u64 (((a ||| 9223372036854775808) : Nat) : Int)] (I .i64 ((c : Nat) : Int)), IntKind.wrap IntKind.u64 (((BitVec.toNat (BitVec.ofInt 64 ((a : Nat) : Int) ||| BitVec.ofInt 64 9223372036854775808)) : Nat) : Int) = (((a ||| 9223372036854775808) : Nat) : Int)] [(0, I .i64 (f : Nat)), (1, I .u64 (a : Nat)), (2, I .u64 (t : Nat)), (7, .sl 0 0 acc.length), (8, I .i64 (w : Nat)), (9, I .i64 ((m : Nat) : Int))] [.row 1 (acc.flatMap (blkC f w))] (by kernel_rfl) ⟨(by subst hmn; omega), (by rw [IntWalk.i64_in _ (by omega)]; omega), htz, (by exact or_u (by omega) (by decide)), trivial⟩ ?_
    clear htz hmn c
    refine W.seq ?_
    refine W.block ?_
    refine W.loop (fun l : Nat => ⟨tbl [(0, I .i64 (f : Nat)), (1, I .u64 (a : Nat)), (2, I .u64 (t : Nat)), (7, .sl 0 0 acc.length), (8, I .i64 (w : Nat)), (9, I .i64 ((l : Nat) : Int))], [.row 1 (acc.flatMap (blkC f w))]⟩) (fun l => l ≤ m ∧ lowF (t - a) m = lowF (t - a) l) (fun l => l) m ⟨Nat.le_refl _, rfl⟩ (Le.refl _) ?_
    rintro l ⟨hlm, hlow⟩
    have hl : l ≤ 47 := by omega
    obtain ⟨acc', hacc'⟩ : ∃ x, x = acc ++ [(a, l)] := ⟨_, rfl⟩
    have hae : acc'.length = acc.length + 1 := by rw [hacc']; simp
    have k1 := shr_m (w := w) (l := l) (by have := capZ_le w a; omega) hw
    have k2 := shl_m (w := w) (l := l) (by have := capZ_le w a; omega) hw
    have step : lowF (t - a) l = l → lowG w a (t - a) = l ∧ blks w t a = (a, l) :: if t - a = 2 ^ l - 1 then [] else blks w t (a + 2 ^ l) := fun hfl => by
      have hlg : lowG w a (t - a) = l := by unfold lowG; rw [← hmm, hlow, hfl]
      have hstep := blks_step (w := w) hat
      rw [hlg] at hstep
      exact ⟨hlg, hstep⟩
    have fin : ∀ K : Exit → SS → Prop, (t - a = 2 ^ l - 1 → ∀ σ, Le ⟨tbl [(6, .sl 3 0 (acc.length + 1))], [AObj.dead, AObj.dead, AObj.row 1 [AV.im 3 [I .i64 ((f : Nat) : Int), I .u64 ((a : Nat) : Int), I .u64 (((2 ^ w - 2 ^ l) : Nat) : Int)]], AObj.row 1 (List.flatMap (blkC f w) acc')]⟩ σ → K .ret σ) → (t - a ≠ 2 ^ l - 1 → a + 2 ^ l ≤ t → ∀ σ, Le ⟨tbl [(0, I .i64 (f : Nat)), (1, I .u64 ((a + 2 ^ l : Nat) : Int)), (2, I .u64 (t : Nat)), (7, .sl 3 0 (acc.length + 1)), (8, I .i64 (w : Nat))], [AObj.dead, AObj.dead, AObj.row 1 [AV.im 3 [I .i64 ((f : Nat) : Int), I .u64 ((a : Nat) : Int), I .u64 (((2 ^ w - 2 ^ l) : Nat) : Int)]], AObj.row 1 (List.flatMap (blkC f w) acc')]⟩ σ → K (.goto 0) σ) → lowF (t - a) l = l → W Tryz.prog 69 (dropS 6 (inS3 (nthS3 1 (bod3 Tryz.f7)))) K ⟨tbl [(0, I .i64 (f : Nat)), (1, I .u64 (a : Nat)), (2, I .u64 (t : Nat)), (7, .sl 0 0 acc.length), (8, I .i64 (w : Nat)), (9, I .i64 ((l : Nat) : Int))], [.row 1 (acc.flatMap (blkC f w))]⟩ := by
      intro K q1 q2 hfl
      by_cases hd : t - a = 2 ^ l - 1
      · exact W.sx hm hF 7 1000 20 [.c 7 8 4 (I .u64 (((2 ^ w - 1) : Nat) : Int)), .z 7 8 6 ((((2 ^ w - 1) / 2 ^ l) : Nat) : Int), .z 7 8 8 (((2 ^ w - 2 ^ l) : Nat) : Int), .g 7 8 11 [1] [(54, AV.im 3 [I IntKind.i64 ((f : Nat) : Int), I IntKind.u64 ((a : Nat) : Int), I IntKind.u64 (((2 ^ w - 2 ^ l) : Nat) : Int)])], .x 7 8 12 (Xt.ap 1 (List.length acc + 1) (blkC f w (a, l)) (List.flatMap (blkC f w) acc')), .z 7 9 2 (((t - a) : Nat) : Int), .z 7 9 4 (((2 ^ l) : Nat) : Int), .z 7 9 5 (((2 ^ l - 1) : Nat) : Int), .b 7 9 6 true] [((((t - a) : Nat) : Int) == (((2 ^ l - 1) : Nat) : Int)) = true, IntKind.wrap IntKind.u64 ((((2 ^ l) : Nat) : Int) - 1) = (((2 ^ l - 1) : Nat) : Int), IntKind.wrap IntKind.u64 (1 * 2 ^ min (Int.toNat ((l : Nat) : Int)) 64) = (((2 ^ l) : Nat) : Int), IntKind.wrap IntKind.u64 (((t : Nat) : Int) - ((a : Nat) : Int)) = (((t - a) : Nat) : Int), 1 = 1, 1 ≤ List.length [AV.im 3 [I .i64 ((f : Nat) : Int), I .u64 ((a : Nat) : Int), I .u64 (((2 ^ w - 2 ^ l) : Nat) : Int)]], List.all (List.take 1 (List.drop 0 [AV.im 3 [I .i64 ((f : Nat) : Int), I .u64 ((a : Nat) : Int), I .u64 (((2 ^ w - 2 ^ l) : Nat) : Int)]])) cellAV = true, List.take 1 (List.drop 0 [AV.im 3 [I .i64 ((f : Nat) : Int), I .u64 ((a : Nat) : Int), I .u64 (((2 ^ w - 2 ^ l) : Nat) : Int)]]) = blkC f w (a, l), 0 + List.length acc * 1 = List.length (List.flatMap (blkC f w) acc), (List.length acc + 1) * 24 ≤ 140737488355328 ∨ 24 = 1 ∧ List.length acc + 1 ≤ 200000000000000, List.length acc + 1 = List.length acc + 1, List.drop 0 (List.flatMap (blkC f w) acc) ++ blkC f w (a, l) = List.flatMap (blkC f w) acc', FzO [1] [AObj.row 1 (List.flatMap (blkC f w) acc), AObj.row 3 [I .i64 ((f : Nat) : Int), I .u64 ((a : Nat) : Int), I .u64 (((2 ^ w - 2 ^ l) : Nat) : Int)]] [(AV.sl 1 0 1, AV.im 3 [I IntKind.i64 ((f : Nat) : Int), I IntKind.u64 ((a : Nat) : Int), I IntKind.u64 (((2 ^ w - 2 ^ l) : Nat) : Int)])], IntKind.wrap IntKind.u64 (((((2 ^ w - 1) / 2 ^ l) : Nat) : Int) * 2 ^ min (Int.toNat ((l : Nat) : Int)) 64) = (((2 ^ w - 2 ^ l) : Nat) : Int), Int.fdiv (((2 ^ w - 1) : Nat) : Int) (2 ^ min (Int.toNat ((l : Nat) : Int)) 64) = ((((2 ^ w - 1) / 2 ^ l) : Nat) : Int), Spec0 Tryz.prog 25 [I IntKind.i64 ((f : Nat) : Int)] (I .u64 (((2 ^ w - 1) : Nat) : Int))] .ret [(6, .sl 3 0 (acc.length + 1))] [AObj.dead, AObj.dead, AObj.row 1 [AV.im 3 [I .i64 ((f : Nat) : Int), I .u64 ((a : Nat) : Int), I .u64 (((2 ^ w - 2 ^ l) : Nat) : Int)]], AObj.row 1 (List.flatMap (blkC f w) acc')] (by kernel_rfl) ⟨(by simp <;> omega), (by exact sub_u1 (by omega)), (by exact shl1 (by omega)), (by exact sub_u (by omega) (by omega)), (by omega), (by simp <;> omega), (by rfl), (by rfl), (by rw [fm_len (c := blkC f w) (e := 1) (fun _ => rfl)]; omega), (by omega), (by omega), (by subst hacc'; exact fm_snoc1 _ _ _ _), (by exact ⟨fzv_slE rfl rfl rfl rfl rfl, trivial⟩), (by assumption), (by assumption), hal, trivial⟩ (q1 hd)
      · have hn : a + 2 ^ l ≤ t := by have := next_le (w := w) hat (by rw [(step hfl).1]; exact hd); rwa [(step hfl).1] at this
        exact W.sx hm hF 7 1000 20 [.c 7 8 4 (I .u64 (((2 ^ w - 1) : Nat) : Int)), .z 7 8 6 ((((2 ^ w - 1) / 2 ^ l) : Nat) : Int), .z 7 8 8 (((2 ^ w - 2 ^ l) : Nat) : Int), .g 7 8 11 [1] [(54, AV.im 3 [I IntKind.i64 ((f : Nat) : Int), I IntKind.u64 ((a : Nat) : Int), I IntKind.u64 (((2 ^ w - 2 ^ l) : Nat) : Int)])], .x 7 8 12 (Xt.ap 1 (List.length acc + 1) (blkC f w (a, l)) (List.flatMap (blkC f w) acc')), .z 7 9 2 (((t - a) : Nat) : Int), .z 7 9 4 (((2 ^ l) : Nat) : Int), .z 7 9 5 (((2 ^ l - 1) : Nat) : Int), .b 7 9 6 false, .z 7 11 2 (((2 ^ l) : Nat) : Int), .x 7 11 3 (Xt.na (a + 2 ^ l))] [a + 2 ^ l < cap IntKind.u64, a + 2 ^ l = a + 2 ^ l, IntKind.wrap IntKind.u64 (1 * 2 ^ min (Int.toNat ((l : Nat) : Int)) 64) = (((2 ^ l) : Nat) : Int), ((((t - a) : Nat) : Int) == (((2 ^ l - 1) : Nat) : Int)) = false, IntKind.wrap IntKind.u64 ((((2 ^ l) : Nat) : Int) - 1) = (((2 ^ l - 1) : Nat) : Int), IntKind.wrap IntKind.u64 (1 * 2 ^ min (Int.toNat ((l : Nat) : Int)) 64) = (((2 ^ l) : Nat) : Int), IntKind.wrap IntKind.u64 (((t : Nat) : Int) - ((a : Nat) : Int)) = (((t - a) : Nat) : Int), 1 = 1, 1 ≤ List.length [AV.im 3 [I .i64 ((f : Nat) : Int), I .u64 ((a : Nat) : Int), I .u64 (((2 ^ w - 2 ^ l) : Nat) : Int)]], List.all (List.take 1 (List.drop 0 [AV.im 3 [I .i64 ((f : Nat) : Int), I .u64 ((a : Nat) : Int), I .u64 (((2 ^ w - 2 ^ l) : Nat) : Int)]])) cellAV = true, List.take 1 (List.drop 0 [AV.im 3 [I .i64 ((f : Nat) : Int), I .u64 ((a : Nat) : Int), I .u64 (((2 ^ w - 2 ^ l) : Nat) : Int)]]) = blkC f w (a, l), 0 + List.length acc * 1 = List.length (List.flatMap (blkC f w) acc), (List.length acc + 1) * 24 ≤ 140737488355328 ∨ 24 = 1 ∧ List.length acc + 1 ≤ 200000000000000, List.length acc + 1 = List.length acc + 1, List.drop 0 (List.flatMap (blkC f w) acc) ++ blkC f w (a, l) = List.flatMap (blkC f w) acc', FzO [1] [AObj.row 1 (List.flatMap (blkC f w) acc), AObj.row 3 [I .i64 ((f : Nat) : Int), I .u64 ((a : Nat) : Int), I .u64 (((2 ^ w - 2 ^ l) : Nat) : Int)]] [(AV.sl 1 0 1, AV.im 3 [I IntKind.i64 ((f : Nat) : Int), I IntKind.u64 ((a : Nat) : Int), I IntKind.u64 (((2 ^ w - 2 ^ l) : Nat) : Int)])], IntKind.wrap IntKind.u64 (((((2 ^ w - 1) / 2 ^ l) : Nat) : Int) * 2 ^ min (Int.toNat ((l : Nat) : Int)) 64) = (((2 ^ w - 2 ^ l) : Nat) : Int), Int.fdiv (((2 ^ w - 1) : Nat) : Int) (2 ^ min (Int.toNat ((l : Nat) : Int)) 64) = ((((2 ^ w - 1) / 2 ^ l) : Nat) : Int), Spec0 Tryz.prog 25 [I IntKind.i64 ((f : Nat) : Int)] (I .u64 (((2 ^ w - 1) : Nat) : Int))] (.goto 0) [(0, I .i64 (f : Nat)), (1, I .u64 ((a + 2 ^ l : Nat) : Int)), (2, I .u64 (t : Nat)), (7, .sl 3 0 (acc.length + 1)), (8, I .i64 (w : Nat))] [AObj.dead, AObj.dead, AObj.row 1 [AV.im 3 [I .i64 ((f : Nat) : Int), I .u64 ((a : Nat) : Int), I .u64 (((2 ^ w - 2 ^ l) : Nat) : Int)]], AObj.row 1 (List.flatMap (blkC f w) acc')] (by kernel_rfl) ⟨(by simp [cap] <;> omega), (by omega), (by exact shl1 (by omega)), (by simp <;> omega), (by exact sub_u1 (by omega)), (by exact shl1 (by omega)), (by rw [IntWalk.u64_in _ (by omega)]; omega), (by omega), (by simp <;> omega), (by rfl), (by rfl), (by rw [fm_len (c := blkC f w) (e := 1) (fun _ => rfl)]; omega), (by omega), (by omega), (by subst hacc'; exact fm_snoc1 _ _ _ _), (by exact ⟨fzv_slE rfl rfl rfl rfl rfl, trivial⟩), (by assumption), (by assumption), hal, trivial⟩ (q2 hd hn)
    by_cases h0 : l = 0
    · refine W.sx hm hF 7 1000 20 [.b 7 6 1 false] [decide (((l : Nat) : Int) > 0) = false] (.exit 0) [(0, I .i64 (f : Nat)), (1, I .u64 (a : Nat)), (2, I .u64 (t : Nat)), (7, .sl 0 0 acc.length), (8, I .i64 (w : Nat)), (9, I .i64 ((l : Nat) : Int))] [.row 1 (acc.flatMap (blkC f w))] (by kernel_rfl) ⟨(by simp <;> omega), trivial⟩ (fun σ h => W.weaken h ?_)
      have hfl : lowF (t - a) l = l := by rw [h0]; rfl
      refine fin _ (fun hd σ h => ?_) (fun hd hn σ h => ?_) hfl
      · have hr' : acc' = R := by rw [← hr, (step hfl).2, if_pos hd, hacc']
        rw [← hr']
        exact retK.fz (.inl rfl) h rfl (Fz.row rfl (Nat.zero_le _) (by rw [fm_len (c := blkC f w) (e := 1) (fun _ => rfl), hae]) (blk_no _ _ _))
      · have hpl := two_pos l
        have hr' : acc' ++ blks w t (a + 2 ^ l) = R := by rw [← hr, (step hfl).2, if_neg hd, hacc']; simp
        exact ⟨rfl, (a + 2 ^ l, acc'), [3], ⟨hn, hr'⟩, by simp only; omega, LeM.mk' (out := [(0, I .i64 (f : Nat)), (1, I .u64 ((a + 2 ^ l : Nat) : Int)), (2, I .u64 (t : Nat)), (7, .sl 3 0 (acc.length + 1)), (8, I .i64 (w : Nat))]) (by simp only [List.map_cons, List.map_nil, hae]; rfl) rfl (by simp) (by decide) (by intro r hr; rw [List.mem_singleton] at hr; subst hr; exact blk_no _ _ _) h⟩
    · have h0 : 0 < l := by omega
      by_cases hd : t - a < 2 ^ l - 1
      · exact W.sx hm hF 7 1000 20 [.b 7 6 1 true, .z 7 6 5 (((t - a) : Nat) : Int), .z 7 6 7 (((2 ^ l) : Nat) : Int), .z 7 6 8 (((2 ^ l - 1) : Nat) : Int), .b 7 6 9 true, .z 7 7 1 (((l - 1) : Nat) : Int)] [IntKind.wrap IntKind.i64 (((l : Nat) : Int) - 1) = (((l - 1) : Nat) : Int), decide ((((t - a) : Nat) : Int) < (((2 ^ l - 1) : Nat) : Int)) = true, IntKind.wrap IntKind.u64 ((((2 ^ l) : Nat) : Int) - 1) = (((2 ^ l - 1) : Nat) : Int), IntKind.wrap IntKind.u64 (1 * 2 ^ min (Int.toNat ((l : Nat) : Int)) 64) = (((2 ^ l) : Nat) : Int), IntKind.wrap IntKind.u64 (((t : Nat) : Int) - ((a : Nat) : Int)) = (((t - a) : Nat) : Int), decide (((l : Nat) : Int) > 0) = true] .normal [(0, I .i64 (f : Nat)), (1, I .u64 (a : Nat)), (2, I .u64 (t : Nat)), (7, .sl 0 0 acc.length), (8, I .i64 (w : Nat)), (9, I .i64 ((l - 1 : Nat) : Int))] [.row 1 (acc.flatMap (blkC f w))] (by kernel_rfl) ⟨(by rw [IntWalk.i64_in _ (by omega)]; omega), (by simp <;> omega), (by exact sub_u1 (by omega)), (by exact shl1 (by omega)), (by exact sub_u (by omega) (by omega)), (by simp <;> omega), trivial⟩ (fun σ h => ⟨l - 1, ⟨by omega, by rw [hlow]; obtain ⟨q, rfl⟩ : ∃ q, l = q + 1 := ⟨l - 1, by omega⟩; rw [lowF, if_pos hd]; rfl⟩, by omega, h⟩)
      · refine W.sx hm hF 7 1000 20 [.b 7 6 1 true, .z 7 6 5 (((t - a) : Nat) : Int), .z 7 6 7 (((2 ^ l) : Nat) : Int), .z 7 6 8 (((2 ^ l - 1) : Nat) : Int), .b 7 6 9 false] [decide ((((t - a) : Nat) : Int) < (((2 ^ l - 1) : Nat) : Int)) = false, IntKind.wrap IntKind.u64 ((((2 ^ l) : Nat) : Int) - 1) = (((2 ^ l - 1) : Nat) : Int), IntKind.wrap IntKind.u64 (1 * 2 ^ min (Int.toNat ((l : Nat) : Int)) 64) = (((2 ^ l) : Nat) : Int), IntKind.wrap IntKind.u64 (((t : Nat) : Int) - ((a : Nat) : Int)) = (((t - a) : Nat) : Int), decide (((l : Nat) : Int) > 0) = true] (.exit 0) [(0, I .i64 (f : Nat)), (1, I .u64 (a : Nat)), (2, I .u64 (t : Nat)), (7, .sl 0 0 acc.length), (8, I .i64 (w : Nat)), (9, I .i64 ((l : Nat) : Int))] [.row 1 (acc.flatMap (blkC f w))] (by kernel_rfl) ⟨(by simp <;> omega), (by exact sub_u1 (by omega)), (by exact shl1 (by omega)), (by exact sub_u (by omega) (by omega)), (by simp <;> omega), trivial⟩ (fun σ h => W.weaken h ?_)
        have hfl : lowF (t - a) l = l := by obtain ⟨q, rfl⟩ : ∃ q, l = q + 1 := ⟨l - 1, by omega⟩; rw [lowF, if_neg hd]
        refine fin _ (fun hd σ h => ?_) (fun hd hn σ h => ?_) hfl
        · have hr' : acc' = R := by rw [← hr, (step hfl).2, if_pos hd, hacc']
          rw [← hr']
          exact retK.fz (.inl rfl) h rfl (Fz.row rfl (Nat.zero_le _) (by rw [fm_len (c := blkC f w) (e := 1) (fun _ => rfl), hae]) (blk_no _ _ _))
        · have hpl := two_pos l
          have hr' : acc' ++ blks w t (a + 2 ^ l) = R := by rw [← hr, (step hfl).2, if_neg hd, hacc']; simp
          exact ⟨rfl, (a + 2 ^ l, acc'), [3], ⟨hn, hr'⟩, by simp only; omega, LeM.mk' (out := [(0, I .i64 (f : Nat)), (1, I .u64 ((a + 2 ^ l : Nat) : Int)), (2, I .u64 (t : Nat)), (7, .sl 3 0 (acc.length + 1)), (8, I .i64 (w : Nat))]) (by simp only [List.map_cons, List.map_nil, hae]; rfl) rfl (by simp) (by decide) (by intro r hr; rw [List.mem_singleton] at hr; subst hr; exact blk_no _ _ _) h⟩
  · intro K' g1 g2
    have hat := hat0
    obtain ⟨m, hmE⟩ : ∃ m, m = 2 ^ w - 1 := ⟨_, rfl⟩
    have hal := hal
    rw [← hmE] at hal h2
    generalize hgen : a0 = a at *
    refine W.sxP hm hF 7 4 1000 20 [.c 7 2 1 (I .i64 ((w : Nat) : Int)), .b 7 3 1 false, .b 7 3 5 false, .c 7 3 10 (I .u64 ((m : Nat) : Int)), .b 7 3 11 false] [decide (((t : Nat) : Int) > ((m : Nat) : Int)) = false, Spec0 Tryz.prog 25 [I IntKind.i64 ((f : Nat) : Int)] (I .u64 ((m : Nat) : Int)), decide (((t : Nat) : Int) < ((a : Nat) : Int)) = false, (((w : Nat) : Int) == 0) = false, Spec0 Tryz.prog 24 [I IntKind.i64 ((f : Nat) : Int)] (I .i64 ((w : Nat) : Int))] [(0, I .i64 (f : Nat)), (1, I .u64 (a : Nat)), (2, I .u64 (t : Nat)), (7, .nil), (8, I .i64 (w : Nat))] [] (by kernel_rfl) ⟨(by simp <;> omega), hal, (by simp <;> omega), (by simp <;> omega), hb, trivial⟩ ?_
    refine W.nilRow 1 rfl ?_
    exact g1 (a, []) ⟨hat, by rw [List.nil_append]; exact hR⟩

end Go.Proofs.YthppdlmildfnnaaGreatDoor
