/-
  Tunnels that are the same.
-/
import Derived.Test.YtkhpligflffamaaXOq3
import Derived.Test.YtkhpligflffamaaSeq3
set_option linter.unusedVariables false
set_option linter.unusedSimpArgs false
set_option maxRecDepth 100000
set_option maxHeartbeats 1000000
namespace Go.Proofs.Ytkhpligflffamaa
open Go Go.SL Go.Proofs

theorem w_Same (src dst sp vn : Int) (oam : Bool) (l : List Opt) (fr : ByteArray) (hl0 : l.length ≤ 4611686018427387) : Spec0 Try.prog 11 [.agg [I .u32 src, I .u32 dst, I .i64 sp, I .i64 vn, B oam, OL l, S fr], .agg [I .u32 src, I .u32 dst, I .i64 sp, I .i64 vn, B oam, OL l, S fr]] (B true) := by
  have hl := (fm_len oC_len l).symm
  refine Spec0.walk Try.func11 rfl rfl ?_
  refine W.sxP hm hF 11 2 1000 20 [.b 11 1 4 false, .b 11 1 10 false, .b 11 1 17 false, .b 11 1 24 false, .b 11 1 31 false, .b 11 1 38 false, .n 11 1 43 (List.length l), .n 11 1 46 (List.length l), .b 11 1 47 false] [((↑(List.length l) : Int) != (↑(List.length l) : Int)) = false, List.length l * 3 = List.length (List.flatMap oC l), 0 < 3, List.length l * 3 = List.length (List.flatMap oC l), 0 < 3, (!ByteArray.toList fr == ByteArray.toList fr) = false, (!oam == oam) = false, (vn != vn) = false, (sp != sp) = false, (dst != dst) = false, (src != src) = false] [(2, .ptr 0 0), (3, .ptr 1 0)] [.row 1 [I .u32 src, I .u32 dst, I .i64 sp, I .i64 vn, B oam, OL l, S fr], .row 1 [I .u32 src, I .u32 dst, I .i64 sp, I .i64 vn, B oam, OL l, S fr]] (by kernel_rfl) ⟨(by simp <;> omega), (by exact (fm_len oC_len l).symm), (by omega), (by exact (fm_len oC_len l).symm), (by omega), (by simp <;> omega), (by simp <;> omega), (by simp <;> omega), (by simp <;> omega), (by simp <;> omega), (by simp <;> omega), trivial⟩ ?_
  refine W.seq ?_
  refine W.seq ?_
  refine W.sx hm hF 11 1000 20 [] [] .normal [(2, .ptr 0 0), (3, .ptr 1 0), (5, I .i64 0)] [.row 1 [I .u32 src, I .u32 dst, I .i64 sp, I .i64 vn, B oam, OL l, S fr], .row 1 [I .u32 src, I .u32 dst, I .i64 sp, I .i64 vn, B oam, OL l, S fr]] (by kernel_rfl) trivial (fun σ h => W.weaken h ?_)
  refine W.block ?_
  refine W.loopD 2 (fun i : Nat => ⟨tbl [(2, .ptr 0 0), (3, .ptr 1 0), (5, I .i64 (i : Nat))], [.row 1 [I .u32 src, I .u32 dst, I .i64 sp, I .i64 vn, B oam, OL l, S fr], .row 1 [I .u32 src, I .u32 dst, I .i64 sp, I .i64 vn, B oam, OL l, S fr]]⟩) (fun i => i ≤ l.length) (fun i => l.length - i) 0 (Nat.zero_le _) rfl (Le.refl _) ?_
  intro i hi
  by_cases hlt : i < l.length
  · obtain ⟨t, hget⟩ : ∃ t, l[i]? = some t := ⟨_, List.getElem?_eq_getElem hlt⟩
    exact W.sx hm hF 11 1000 20 [.n 11 4 3 (List.length l), .b 11 4 4 true, .j 11 6 3 (List.length l) i, .l 11 6 4 (AV.agg (oC t)), .j 11 6 8 (List.length l) i, .l 11 6 9 (AV.agg (oC t)), .b 11 6 10 false, .z 11 5 1 (↑(i + 1) : Int)] [IntKind.wrap IntKind.i64 ((↑i : Int) + 1) = (↑(i + 1) : Int), (!(t.c == t.c && (t.k == t.k && (t.d == t.d && true)))) = false, List.take 3 (List.drop (i * 3) (List.flatMap oC l)) = oC t, i * 3 + 3 ≤ List.length (List.flatMap oC l), List.length l * 3 = List.length (List.flatMap oC l), 0 < 3, (↑i : Int) = (↑i : Int), i < List.length l, List.take 3 (List.drop (i * 3) (List.flatMap oC l)) = oC t, i * 3 + 3 ≤ List.length (List.flatMap oC l), List.length l * 3 = List.length (List.flatMap oC l), 0 < 3, (↑i : Int) = (↑i : Int), i < List.length l, decide ((↑i : Int) < (↑(List.length l) : Int)) = true, List.length l * 3 = List.length (List.flatMap oC l), 0 < 3] .normal [(2, .ptr 0 0), (3, .ptr 1 0), (5, I .i64 (i + 1 : Nat))] [AObj.row 1 [AV.sc (Value.int IntKind.u32 src), AV.sc (Value.int IntKind.u32 dst), AV.sc (Value.int IntKind.i64 sp), AV.sc (Value.int IntKind.i64 vn), AV.sc (Value.bool oam), AV.im 3 (List.flatMap oC l), AV.sc (Value.string fr)], AObj.row 1 [AV.sc (Value.int IntKind.u32 src), AV.sc (Value.int IntKind.u32 dst), AV.sc (Value.int IntKind.i64 sp), AV.sc (Value.int IntKind.i64 vn), AV.sc (Value.bool oam), AV.im 3 (List.flatMap oC l), AV.sc (Value.string fr)]] (by kernel_rfl) ⟨(by exact i64_n1 i (by omega)), (by simp <;> omega), (by exact fm_at oC_len l hget), (by exact fm_bound oC_len l hlt), (by exact (fm_len oC_len l).symm), (by omega), (by rfl), (by assumption), (by exact fm_at oC_len l hget), (by exact fm_bound oC_len l hlt), (by exact (fm_len oC_len l).symm), (by omega), (by rfl), (by assumption), (by simp <;> omega), (by exact (fm_len oC_len l).symm), (by omega), trivial⟩ (fun σ h => ⟨i + 1, hlt, by omega, LeD.mk rfl rfl h⟩)
  · have hge := hlt
    refine W.sx hm hF 11 1000 20 [.n 11 4 3 (List.length l), .b 11 4 4 false] [decide ((↑i : Int) < (↑(List.length l) : Int)) = false, List.length l * 3 = List.length (List.flatMap oC l), 0 < 3] (.exit 0) [(2, .ptr 0 0), (3, .ptr 1 0)] [.row 1 [I .u32 src, I .u32 dst, I .i64 sp, I .i64 vn, B oam, OL l, S fr], .row 1 [I .u32 src, I .u32 dst, I .i64 sp, I .i64 vn, B oam, OL l, S fr]] (by kernel_rfl) ⟨(by simp <;> omega), (by exact (fm_len oC_len l).symm), (by omega), trivial⟩ (fun σ h => W.weaken h ?_)
    exact W.sxR hm hF 11 1000 20 [] [] [.tmp 4] .ret (B true) (by kernel_rfl) trivial (fun σ xs h1 h2 => retK.mk (.inl rfl) h1 h2)

end Go.Proofs.Ytkhpligflffamaa
