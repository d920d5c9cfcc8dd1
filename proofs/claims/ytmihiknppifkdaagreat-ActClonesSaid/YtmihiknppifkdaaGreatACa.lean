/-
  What act.Check and act.count answer of Clones of Hops.
-/
import Derived.Test.YtmihiknppifkdaaGreatX0a
set_option linter.unusedVariables false
set_option linter.unusedSimpArgs false
set_option maxRecDepth 100000
set_option maxHeartbeats 1000000
namespace Go.Proofs.YtmihiknppifkdaaGreat
open Go Go.SL Go.Proofs
@[reducible] def I (k : IntKind) (n : Int) : AV := .sc (.int k n)
@[reducible] def B (b : Bool) : AV := .sc (.bool b)
def acC (k : Int) (a : AV) : List AV := [I .i64 k, I .i64 0, I .i64 0, I .u64 0, I .u64 0, I .i64 0, I .i64 0, a, .nil, I .u64 0, I .u32 0, I .u32 0, I .u32 0, I .u32 0, I .u32 0]
def acK (k : Int) : List AV := acC k .nil
@[reducible] def AL (l : List Int) : AV := .im 15 (l.flatMap acK)
theorem dF {p : Prop} [Decidable p] (h : ¬ p) : decide p = false := by simpa using h
theorem w_right1 : Spec0 Tryz.prog 14 [(.agg (acK 3)), I .i64 1] (B true) := sx0 hm hF 1000 20 [] [] (by kernel_rfl) trivial
theorem w_cnt0 : Spec0 Tryz.prog 15 [.nil] (I .i64 (Int.ofNat 0)) := sx0 hm hF 1000 20 [] [] (by kernel_rfl) trivial
theorem w_cloned (l : List Int) (hL : ∀ x ∈ l, x = 3) (hl0 : l.length ≤ 4611686018427387) : Spec0 Tryz.prog 86 [.agg (acC 5 (AL l)), I .i64 0] (B true) := by
  have hl := Eq.symm (fm_len (c := acK) (e := 15) (fun _ => rfl) l)
  refine Spec0.walk Tryz.func86 rfl rfl ?_
  refine W.sxP hm hF 86 2 1000 20 [] [] [(1, I .i64 0), (2, .ptr 0 0)] [.row 1 (acC 5 (AL l))] (by kernel_rfl) trivial ?_
  refine W.seq ?_
  refine W.seq ?_
  refine W.sx hm hF 86 1000 20 [.n 86 3 2 l.length] [l.length * 15 = (l.flatMap acK).length, 0 < 15] .normal [(1, I .i64 0), (10, AL l), (11, I .i64 (l.length : Nat)), (12, I .i64 (0 : Nat))] [.row 1 (acC 5 (AL l))] (by kernel_rfl) ⟨hl, by decide, trivial⟩ (fun σ h => W.weaken h ?_)
  refine W.block ?_
  refine W.loopD 1 (fun i : Nat => ⟨tbl [(1, I .i64 0), (10, AL l), (11, I .i64 (l.length : Nat)), (12, I .i64 (i : Nat))], [.row 1 (acC 5 (AL l))]⟩) (fun i => i ≤ l.length) (fun i => l.length - i) 0 (Nat.zero_le _) rfl (Le.refl _) ?_
  intro i hi
  by_cases hlt : i < l.length
  · have hget : l[i]? = some 3 := by
      have h1 := List.getElem?_eq_getElem hlt
      rw [h1, hL _ (List.getElem_mem hlt)]
    have hr := w_right1
    exact W.sx hm hF 86 1000 20 [.b 86 4 0 true, .j 86 5 0 (List.length l) i, .l 86 5 1 (AV.agg (acK 3)), .c 86 6 3 (B true), .x 86 8 0 (Xt.na (i + 1))] [i + 1 < cap IntKind.i64, i + 1 = i + 1, Spec0 Tryz.prog 14 [AV.agg (acK 3), I IntKind.i64 1] (B true), List.take 15 (List.drop (i * 15) (List.flatMap acK l)) = acK 3, i * 15 + 15 ≤ List.length (List.flatMap acK l), List.length l * 15 = List.length (List.flatMap acK l), 0 < 15, (↑i : Int) = (↑i : Int), i < List.length l, decide ((↑i : Int) < (↑(List.length l) : Int)) = true] .normal [(1, I .i64 0), (10, AL l), (11, I .i64 (l.length : Nat)), (12, I .i64 (i + 1 : Nat))] [AObj.row 1 [I .i64 (Int.ofNat 5), I .i64 (Int.ofNat 0), I .i64 (Int.ofNat 0), I .u64 (Int.ofNat 0), I .u64 (Int.ofNat 0), I .i64 (Int.ofNat 0), I .i64 (Int.ofNat 0), AV.im 15 (List.flatMap acK l), AV.nil, I .u64 (Int.ofNat 0), I .u32 (Int.ofNat 0), I .u32 (Int.ofNat 0), I .u32 (Int.ofNat 0), I .u32 (Int.ofNat 0), I .u32 (Int.ofNat 0)], AObj.row 1 [I .i64 (Int.ofNat 3), I .i64 (Int.ofNat 0), I .i64 (Int.ofNat 0), I .u64 (Int.ofNat 0), I .u64 (Int.ofNat 0), I .i64 (Int.ofNat 0), I .i64 (Int.ofNat 0), AV.nil, AV.nil, I .u64 (Int.ofNat 0), I .u32 (Int.ofNat 0), I .u32 (Int.ofNat 0), I .u32 (Int.ofNat 0), I .u32 (Int.ofNat 0), I .u32 (Int.ofNat 0)]] (by kernel_rfl) ⟨(by simp [cap] <;> omega), (by rfl), hr, (by exact fm_at (c := (acK)) (fun _ => rfl) _ (by assumption)), (by exact fm_bound (c := (acK)) (fun _ => rfl) _ (by omega)), (by exact Eq.symm (fm_len (c := (acK)) (fun _ => rfl) _)), (by omega), (by rfl), (by assumption), (by simp <;> omega), trivial⟩ (fun σ h => ⟨i + 1, hlt, by omega, LeD.mk rfl rfl h⟩)
  · have hb : decide (((i : Nat) : Int) < (l.length : Nat)) = false := decide_eq_false (by omega)
    refine W.sx hm hF 86 1000 20 [.b 86 4 0 false] [decide (((i : Nat) : Int) < (l.length : Nat)) = false] (.exit 0) [] [.row 1 (acC 5 (AL l))] (by kernel_rfl) ⟨hb, trivial⟩ (fun σ h => W.weaken h ?_)
    exact W.sxR hm hF 86 1000 20 [] [] [.tmp 4] .ret (B true) (by kernel_rfl) trivial (fun σ xs h1 h2 => retK.mk (.inl rfl) h1 h2)
theorem w_count1 (l : List Int) (hL : ∀ x ∈ l, x = 3) (hl0 : l.length ≤ 4611686018427387) : Spec0 Tryz.prog 15 [AL l] (I .i64 (l.length : Nat)) := by
  have hl := Eq.symm (fm_len (c := acK) (e := 15) (fun _ => rfl) l)
  refine Spec0.walk Tryz.func15 rfl rfl ?_
  refine W.sxP hm hF 15 2 1000 20 [.n 15 1 1 l.length] [l.length * 15 = (l.flatMap acK).length, 0 < 15] [(0, AL l), (3, I .i64 (l.length : Nat))] [] (by kernel_rfl) ⟨hl, by decide, trivial⟩ ?_
  refine W.seq ?_
  refine W.seq ?_
  refine W.sx hm hF 15 1000 20 [.n 15 2 1 l.length] [l.length * 15 = (l.flatMap acK).length, 0 < 15] .normal [(3, I .i64 (l.length : Nat)), (8, AL l), (9, I .i64 (l.length : Nat)), (10, I .i64 (0 : Nat))] [] (by kernel_rfl) ⟨hl, by decide, trivial⟩ (fun σ h => W.weaken h ?_)
  refine W.block ?_
  refine W.loopD 0 (fun i : Nat => ⟨tbl [(3, I .i64 (l.length : Nat)), (8, AL l), (9, I .i64 (l.length : Nat)), (10, I .i64 (i : Nat))], []⟩) (fun i => i ≤ l.length) (fun i => l.length - i) 0 (Nat.zero_le _) rfl (Le.refl _) ?_
  intro i hi
  by_cases hlt : i < l.length
  · have hget : l[i]? = some 3 := by
      have h1 := List.getElem?_eq_getElem hlt
      rw [h1, hL _ (List.getElem_mem hlt)]
    have hr := w_cnt0
    exact W.sx hm hF 15 1000 20 [.b 15 3 0 true, .j 15 4 0 (List.length l) i, .l 15 4 1 (AV.agg (acK 3)), .c 15 5 3 (I .i64 (Int.ofNat 0)), .x 15 5 4 (Xt.na (List.length l)), .x 15 6 0 (Xt.na (i + 1))] [i + 1 < cap IntKind.i64, i + 1 = i + 1, List.length l + 0 < cap IntKind.i64, List.length l + 0 = List.length l, Spec0 Tryz.prog 15 [AV.nil] (I .i64 (Int.ofNat 0)), List.take 15 (List.drop (i * 15) (List.flatMap acK l)) = acK 3, i * 15 + 15 ≤ List.length (List.flatMap acK l), List.length l * 15 = List.length (List.flatMap acK l), 0 < 15, (↑i : Int) = (↑i : Int), i < List.length l, decide ((↑i : Int) < (↑(List.length l) : Int)) = true] .normal [(3, I .i64 (l.length : Nat)), (8, AL l), (9, I .i64 (l.length : Nat)), (10, I .i64 (i + 1 : Nat))] [AObj.row 1 [I .i64 (Int.ofNat 3), I .i64 (Int.ofNat 0), I .i64 (Int.ofNat 0), I .u64 (Int.ofNat 0), I .u64 (Int.ofNat 0), I .i64 (Int.ofNat 0), I .i64 (Int.ofNat 0), AV.nil, AV.nil, I .u64 (Int.ofNat 0), I .u32 (Int.ofNat 0), I .u32 (Int.ofNat 0), I .u32 (Int.ofNat 0), I .u32 (Int.ofNat 0), I .u32 (Int.ofNat 0)]] (by kernel_rfl) ⟨(by simp [cap] <;> omega), (by rfl), (by simp [cap] <;> omega), (by omega), hr, (by exact fm_at (c := (acK)) (fun _ => rfl) _ (by assumption)), (by exact fm_bound (c := (acK)) (fun _ => rfl) _ (by omega)), (by exact Eq.symm (fm_len (c := (acK)) (fun _ => rfl) _)), (by omega), (by rfl), (by assumption), (by simp <;> omega), trivial⟩ (fun σ h => ⟨i + 1, hlt, by omega, LeD.mk rfl rfl h⟩)
  · have hb : decide (((i : Nat) : Int) < (l.length : Nat)) = false := decide_eq_false (by omega)
    refine W.sx hm hF 15 1000 20 [.b 15 3 0 false] [decide (((i : Nat) : Int) < (l.length : Nat)) = false] (.exit 0) [(3, I .i64 (l.length : Nat))] [] (by kernel_rfl) ⟨hb, trivial⟩ (fun σ h => W.weaken h ?_)
    exact W.sxR hm hF 15 1000 20 [] [] [.tmp 2] .ret (I .i64 (l.length : Nat)) (by kernel_rfl) trivial (fun σ xs h1 h2 => retK.mk (.inl rfl) h1 h2)

end Go.Proofs.YtmihiknppifkdaaGreat
