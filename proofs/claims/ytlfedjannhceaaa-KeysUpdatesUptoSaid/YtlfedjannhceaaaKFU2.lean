/-
  What Find and Name answer.
-/
import Derived.Test.YtlfedjannhceaaaKIU2
set_option linter.unusedVariables false
set_option linter.unusedSimpArgs false
set_option maxRecDepth 100000
set_option maxHeartbeats 1000000
namespace Go.Proofs.Ytlfedjannhceaaa
open Go Go.SL Go.Proofs
theorem f13_no (l : List Key) (x : ByteArray) (hc : Spec0 Try.prog 25 [KL l, .fn 26 [] [.ip [S x] 0]] (I .i64 (-1))) : Spec0 Try.prog 13 [KL l, S x] (AV.tup [I .i64 (Int.ofNat 0), B false]) := sx0 hm hF 1000 20 [.fz 13 1 0 [(0, KL l), (3, AV.ip [S x] 0)], .c 13 1 2 (I .i64 (Int.negSucc 0))] [Spec0 Try.prog 25 [KL l, AV.fn 26 [] [AV.ip [S x] 0]] (I .i64 (Int.negSucc 0)), FzQ [AObj.row 1 [S x]] [(AV.im 2 (List.flatMap keyC l), KL l), (AV.ptr 0 0, AV.ip [S x] 0)]] (by kernel_rfl) ⟨hc, (by (repeat (refine And.intro (by first | exact .keep rfl | exact .ptr rfl (Nat.zero_le _) rfl | exact .fn (.cons (.ptr rfl (Nat.zero_le _) rfl) .nil) .nil) ?_)); exact trivial), trivial⟩
theorem f13_ok (l : List Key) (x : ByteArray) (i : Nat) (t : Key) (hlt : i < l.length) (hget : l[i]? = some t) (hc : Spec0 Try.prog 25 [KL l, .fn 26 [] [.ip [S x] 0]] (I .i64 (i : Nat))) : Spec0 Try.prog 13 [KL l, S x] (AV.tup [I .i64 t.num, B true]) := sx0 hm hF 1000 20 [.fz 13 1 0 [(0, KL l), (3, AV.ip [S x] 0)], .c 13 1 2 (I .i64 (↑i : Int)), .j 13 4 2 (List.length l) i, .l 13 4 4 (I .i64 t.num)] [(List.flatMap keyC l)[i * 2 + 1]? = some (I .i64 t.num), List.length l * 2 = List.length (List.flatMap keyC l), 0 < 2, (↑i : Int) = (↑i : Int), i < List.length l, Spec0 Try.prog 25 [KL l, AV.fn 26 [] [AV.ip [S x] 0]] (I .i64 (↑i : Int)), FzQ [AObj.row 1 [S x]] [(AV.im 2 (List.flatMap keyC l), KL l), (AV.ptr 0 0, AV.ip [S x] 0)]] (by kernel_rfl) ⟨(by exact fm_cell (c := (keyC)) (fun _ => rfl) _ (by assumption) (by decide) rfl), (by exact Eq.symm (fm_len (c := (keyC)) (fun _ => rfl) _)), (by omega), (by rfl), (by assumption), hc, (by (repeat (refine And.intro (by first | exact .keep rfl | exact .ptr rfl (Nat.zero_le _) rfl | exact .fn (.cons (.ptr rfl (Nat.zero_le _) rfl) .nil) .nil) ?_)); exact trivial), trivial⟩
theorem w_findV (l : List Key) (x : ByteArray) (hl0 : l.length ≤ 4611686018427387) : Spec0 Try.prog 13 [KL l, S x] (.tup [I .i64 (findV l x).1, B (findV l x).2]) := by
  have hc := w_index26 l x hl0
  unfold ixV at hc
  unfold findV
  cases h : fi (fun a : Key => a.name == x) l 0 with
  | none => rw [h] at hc; exact f13_no l x hc
  | some i =>
    rw [h] at hc
    obtain ⟨_, h2, t, h3, h4⟩ := fi_some h
    simp only [Nat.sub_zero] at h3
    simp only [h3, Option.map_some, Option.getD_some]
    exact f13_ok l x i t (by omega) h3 hc
end Go.Proofs.Ytlfedjannhceaaa
