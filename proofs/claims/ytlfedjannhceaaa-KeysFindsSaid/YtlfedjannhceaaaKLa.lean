/-
  The law KeysFinds.
-/
import Derived.Test.YtlfedjannhceaaaKFa
set_option linter.unusedVariables false
set_option linter.unusedSimpArgs false
set_option maxRecDepth 100000
set_option maxHeartbeats 1000000
namespace Go.Proofs.Ytlfedjannhceaaa
open Go Go.SL Go.Proofs
theorem kfinds (l : List Key) (x : ByteArray) (n : Int) (a : Int) (b : Bool) (c : ByteArray) (d : Bool) (hl0 : l.length ≤ 5864062014634) (h1 : Spec0 Try.prog 13 [KL l, S x] (.tup [I .i64 a, B b])) (h2 : Spec0 Try.prog 14 [KL l, S x] (.tup [I .i64 a, B b])) (h3 : Spec0 Try.prog 15 [KL l, I .i64 n] (.tup [S c, B d])) (h4 : Spec0 Try.prog 16 [KL l, I .i64 n] (.tup [S c, B d])) (h5 : Spec0 Try.prog 7 [] (B true)) : Spec0 Try.prog 5 [KL l, S x, I .i64 n] (B true) := sx0 hm hF 1000 20 [.x 5 1 2 (Xt.ap (List.length l) (List.length l) (List.flatMap keyC l) (List.flatMap keyC l)), .h 5 1 4 [KL l, S x] (AV.tup [I .i64 a, B b]), .c 5 2 2 (AV.tup [I .i64 a, B b]), .c 5 3 2 (AV.tup [S c, B d]), .c 5 4 2 (AV.tup [S c, B d]), .c 5 5 0 (B true), .b 5 5 4 true, .b 5 5 9 true, .b 5 5 14 true, .b 5 5 19 true] [(d == d) = true, (ByteArray.toList c == ByteArray.toList c) = true, (b == b) = true, (a == a) = true, Spec0 Try.prog 7 [] (B true), Spec0 Try.prog 16 [KL l, I IntKind.i64 n] (AV.tup [S c, B d]), Spec0 Try.prog 15 [KL l, I IntKind.i64 n] (AV.tup [S c, B d]), Spec0 Try.prog 14 [KL l, S x] (AV.tup [I .i64 a, B b]), Bw [AObj.dead, AObj.row 2 (List.flatMap keyC l)] [AV.sl 1 0 (List.length l), S x] [KL l, S x], Spec0 Try.prog 13 [KL l, S x] (AV.tup [I .i64 a, B b]), List.length l * 2 = List.length (List.flatMap keyC l), 0 < 2, List.all (List.flatMap keyC l) cellAV = true, List.flatMap keyC l = List.flatMap keyC l, 0 = 0, List.length l * 24 ≤ 140737488355328 ∨ 24 = 1 ∧ List.length l ≤ 200000000000000, 0 + List.length l = List.length l, List.drop 0 [] ++ List.flatMap keyC l = List.flatMap keyC l] (by kernel_rfl) ⟨(by first | omega | simp <;> omega), (by first | omega | simp <;> omega), (by first | omega | simp <;> omega), (by first | omega | simp <;> omega), h5, h4, h3, h2, (Bw.fm (c := keyC) (fun _ => rfl) (fun _ => rfl) rfl (by omega) (Bw.keep rfl Bw.nil)), (h1 ), (by rw [fm_len (c := keyC) (e := 2) (fun _ => rfl)]), (by omega), (by exact fm_one (c := keyC) (fun _ => rfl) _), (by first | (simp [bself]) | omega | decide | simp), (by omega), (by omega), (by omega), (by rw [List.drop_zero, List.nil_append]), trivial⟩
theorem w_KeysFinds (l : List Key) (x : ByteArray) (n : Int) (hl0 : l.length ≤ 5864062014634) : Spec0 Try.prog 5 [KL l, S x, I .i64 n] (B true) :=
  kfinds l x n _ _ _ _ hl0 (w_findV l x (by omega)) (w_rfindV l x (by omega)) (w_nameV l n (by omega)) (w_rnameV l n (by omega)) w_lives

end Go.Proofs.Ytlfedjannhceaaa
