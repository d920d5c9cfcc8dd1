/-
  The law MatchPairs.
-/
import Derived.Test.YtbimmnnjnlfddaaDoorX8
set_option linter.unusedVariables false
set_option linter.unusedSimpArgs false
set_option maxRecDepth 100000
set_option maxHeartbeats 1000000
namespace Go.Proofs.YtbimmnnjnlfddaaDoor
open Go Go.SL Go.Proofs
theorem mp_all (a b : List Term) (x : List Term × Bool × Int) (i m : Bool) (hla : a.length ≤ 5864062014805) (hlb : b.length ≤ 5864062014805) (hA : Spec0 Tryd.prog 12 [TL a, TL b] (R3 x)) (hR : Spec0 Tryd.prog 13 [TL a, TL b] (R3 x))
    (hs : Spec0 Tryd.prog 10 [TL x.1, TL x.1] (B true)) (hi : Spec0 Tryd.prog 11 [TL a, TL b] (B i)) (hri : Spec0 Tryd.prog 14 [TL a, TL b] (B i)) (hm' : Spec0 Tryd.prog 15 [TL a, TL b] (B m)) (hrm : Spec0 Tryd.prog 16 [TL a, TL b] (B m)) :
    Spec0 Tryd.prog 5 [TL a, TL b] (B true) := sx0 hm hF 1000 20 [.p 5 1 2 a.length a.length (a.flatMap tC) (a.flatMap tC), .p 5 1 5 b.length b.length (b.flatMap tC) (b.flatMap tC), .fz 5 1 6 [(0, TL a), (1, TL b), (14, TL a), (17, TL b)], .c 5 1 6 (R3 x), .c 5 2 2 (R3 x), .c 5 3 0 (B true), .c 5 3 4 (B true), .b 5 3 9 true, .b 5 3 14 true, .c 5 3 19 (B i), .c 5 3 22 (B i), .b 5 3 23 true, .c 5 3 28 (B m), .c 5 3 31 (B m), .b 5 3 32 true] [(m == m) = true, _, _, (i == i) = true, _, _, (x.2.2 == x.2.2) = true, (x.2.1 == x.2.1) = true, _, _, _, _, FzQ [.dead, .row 3 (a.flatMap tC), .dead, .row 3 (b.flatMap tC)] [(TL a, TL a), (TL b, TL b), (.sl 1 0 a.length, TL a), (.sl 3 0 b.length, TL b)], b.length * 3 = (b.flatMap tC).length, 0 < 3, (b.flatMap tC).all cellAV = true, b.flatMap tC = b.flatMap tC, 0 + 0 * 3 = ([] : List AV).length, b.length * 24 ≤ 140737488355328, 0 + b.length = b.length, ([] : List AV).drop 0 ++ b.flatMap tC = b.flatMap tC, a.length * 3 = (a.flatMap tC).length, 0 < 3, (a.flatMap tC).all cellAV = true, a.flatMap tC = a.flatMap tC, 0 + 0 * 3 = ([] : List AV).length, a.length * 24 ≤ 140737488355328, 0 + a.length = a.length, ([] : List AV).drop 0 ++ a.flatMap tC = a.flatMap tC] (by kernel_rfl) ⟨beq_self_eq_true _, hrm, hm', beq_self_eq_true _, hri, hi, beq_self_eq_true _, beq_self_eq_true _, hs, w_lives, hR, hA, ⟨.keep rfl, .keep rfl, Fz.row rfl (Nat.zero_le _) (fm_len tC_len a) (fm_no tC_no a), Fz.row rfl (Nat.zero_le _) (fm_len tC_len b) (fm_no tC_no b), trivial⟩, (fm_len tC_len b).symm, by decide, fm_one tC_one b, rfl, rfl, by omega, Nat.zero_add _, rfl, (fm_len tC_len a).symm, by decide, fm_one tC_one a, rfl, rfl, by omega, Nat.zero_add _, rfl, trivial⟩
theorem w_MatchPairs (a b : List Term) (hla : a.length ≤ 5864062014805) (hlb : b.length ≤ 5864062014805) (ua : UL a) (ub : UL b) : Spec0 Tryd.prog 5 [TL a, TL b] (B true) := by
  have hA := w_And a b (by omega) (by omega)
  have hR := w_RAnd a b (by omega) (by omega)
  have hi := w_Imp a b (by omega) (by omega)
  have hri := w_RImp a b (by omega) (by omega)
  have hm1 := w_Meet a b (by omega) (by omega)
  have hrm := w_RMeet a b (by omega) (by omega)
  rw [andV_r ua ub] at hA
  rw [impV_r ub] at hi
  rw [meetV_r ua ub] at hm1
  have hl := randV_len a b
  exact mp_all a b _ _ _ hla hlb hA hR (w_same _ (by omega)) hi hri hm1 hrm

end Go.Proofs.YtbimmnnjnlfddaaDoor
