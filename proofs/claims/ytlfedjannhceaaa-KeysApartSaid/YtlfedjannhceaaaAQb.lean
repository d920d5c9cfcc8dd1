/-
  The law KeysApart.
-/
import Derived.Test.YtlfedjannhceaaaAPb
set_option linter.unusedVariables false
set_option linter.unusedSimpArgs false
set_option maxRecDepth 100000
set_option maxHeartbeats 1000000
namespace Go.Proofs.Ytlfedjannhceaaa
open Go Go.SL Go.Proofs
theorem fm_app {l m : List Key} : (l.flatMap keyC).drop 0 ++ m.flatMap keyC = (l ++ m).flatMap keyC := by simp
theorem fm_app0 {m : List Key} : ([] : List AV).drop 0 ++ m.flatMap keyC = m.flatMap keyC := by simp
theorem ap_bad (rows : List Rw) (u1 u2 u3 u4 : List Key) (h1 : u1.length ≤ 1034834473170) (h2 : u2.length ≤ 1034834473170) (h3 : u3.length ≤ 1034834473170) (h4 : u4.length ≤ 1034834473170) (hl : rows.length ≤ 1034834473170) (hlv : Spec0 Try.prog 7 [] (B true)) (hu : Spec0 Try.prog 10 [.agg [.nil, .nil, .nil, .nil], RL rows] (.tup [.agg [.nil, .nil, .nil, .nil], I .i64 190])) (hb : decide (((rows.length : Nat) : Int) > 65535) = true) : Spec0 Try.prog 6 [RL rows] (B true) := sx0 hm hF 1000 20 [.c 6 1 2 (AV.tup [AV.agg [AV.nil, AV.nil, AV.nil, AV.nil], I .i64 (Int.ofNat 190)]), .c 6 2 0 (B true), .n 6 5 1 (List.length rows), .b 6 5 2 true] [decide ((↑(List.length rows) : Int) > 65535) = true, List.length rows * 13 = List.length (List.flatMap rowC rows), 0 < 13, Spec0 Try.prog 7 [] (B true), Spec0 Try.prog 10 [AV.agg [AV.nil, AV.nil, AV.nil, AV.nil], RL rows] (AV.tup [AV.agg [AV.nil, AV.nil, AV.nil, AV.nil], I .i64 (Int.ofNat 190)])] (by kernel_rfl) ⟨(by assumption), (by exact Eq.symm (fm_len (c := rowC) (e := 13) (fun _ => rfl) _)), (by omega), hlv, hu, trivial⟩
theorem im_nil4 {F : Nat → Prop} {μ : List Nm} {w : World} {v : Value} (h : VR F μ w (.agg [.nil, .nil, .nil, .nil]) v) : VR F μ w (.agg [KL [], KL [], KL [], KL []]) v := by
  cases h with
  | agg h =>
    rename_i ys
    refine .agg ?_
    generalize ys.toList = vs at h
    cases h with | cons h1 h => cases h with | cons h2 h => cases h with | cons h3 h => cases h with | cons h4 h => cases h with | nil =>
    exact .cons (nil_im h1) (.cons (nil_im h2) (.cons (nil_im h3) (.cons (nil_im h4) .nil)))
theorem upd_nil {rows : List Rw} {r : AV} (h : Spec0 Try.prog 10 [.agg [KL [], KL [], KL [], KL []], RL rows] r) : Spec0 Try.prog 10 [.agg [.nil, .nil, .nil, .nil], RL rows] r := by
  intro F μ w args hr ha
  refine h F μ w args hr ?_
  generalize args.toList = vs at ha
  cases ha with | cons h1 t => exact .cons (im_nil4 h1) t

theorem apart_at {l : List Key} (hn : (l.map (·.num)).Nodup) {i j : Nat} {x y : Key} (hj : j < i) (hy : l[j]? = some y) (hx : l[i]? = some x) : (y.num == x.num) = false := by
  have hi1 : i < (l.map (·.num)).length := by
    rcases Nat.lt_or_ge i l.length with g | g
    · simpa using g
    · rw [List.getElem?_eq_none g] at hx; simp at hx
  have hj1 : j < (l.map (·.num)).length := by omega
  have e1 : (l.map (·.num))[i]? = some x.num := by rw [List.getElem?_map, hx]; rfl
  have e2 : (l.map (·.num))[j]? = some y.num := by rw [List.getElem?_map, hy]; rfl
  rw [List.getElem?_eq_getElem hi1] at e1
  rw [List.getElem?_eq_getElem hj1] at e2
  have := List.pairwise_iff_getElem.1 hn j i hj1 hi1 hj
  rw [Option.some.inj e1, Option.some.inj e2] at this
  simpa using this
theorem w_apart (rows : List Rw) (u1 u2 u3 u4 : List Key) (h1 : u1.length ≤ 1034834473170) (h2 : u2.length ≤ 1034834473170) (h3 : u3.length ≤ 1034834473170) (h4 : u4.length ≤ 1034834473170) (hl : rows.length ≤ 1034834473170)
    (hu : Spec0 Try.prog 10 [.agg [.nil, .nil, .nil, .nil], RL rows] (.tup [.agg [KL u1, KL u2, KL u3, KL u4], I .i64 0])) (hna : ((u1 ++ u2).map (·.num)).Nodup) (hnb : ((u3 ++ u4).map (·.num)).Nodup) (hnn : (u3.map (·.name)).Nodup) : Spec0 Try.prog 6 [RL rows] (B true) := by
  have hlv := w_lives
  refine Spec0.walk Try.func6 rfl rfl ?_
  refine W.sxP hm hF 6 6 1000 20 [.c 6 1 2 (AV.tup [AV.agg [AV.im 2 (List.flatMap keyC u1), AV.im 2 (List.flatMap keyC u2), AV.im 2 (List.flatMap keyC u3), AV.im 2 (List.flatMap keyC u4)], I .i64 (Int.ofNat 0)]), .c 6 2 0 (B true), .x 6 6 3 (Xt.ap (List.length u1) (List.length u1) (List.flatMap keyC u1) (List.flatMap keyC u1)), .x 6 6 6 (Xt.ap (List.length u2) (List.length u1 + List.length u2) (List.flatMap keyC u2) (List.flatMap keyC (u1 ++ u2))), .r 6 6 6, .x 6 7 3 (Xt.ap (List.length u3) (List.length u3) (List.flatMap keyC u3) (List.flatMap keyC u3)), .r 6 7 3, .x 6 7 6 (Xt.ap (List.length u4) (List.length u3 + List.length u4) (List.flatMap keyC u4) (List.flatMap keyC (u3 ++ u4))), .r 6 7 6] [List.all [AObj.row 1 [AV.im 2 (List.flatMap keyC u1), AV.im 2 (List.flatMap keyC u2), AV.im 2 (List.flatMap keyC u3), AV.im 2 (List.flatMap keyC u4)], AObj.dead, AObj.dead, AObj.row 2 (List.flatMap keyC (u1 ++ u2)), AObj.dead, AObj.row 2 (List.flatMap keyC u3)] (rowLt (List.length [AObj.row 1 [AV.im 2 (List.flatMap keyC u1), AV.im 2 (List.flatMap keyC u2), AV.im 2 (List.flatMap keyC u3), AV.im 2 (List.flatMap keyC u4)], AObj.dead, AObj.dead, AObj.row 2 (List.flatMap keyC (u1 ++ u2)), AObj.dead, AObj.row 2 (List.flatMap keyC u3)])) = true, List.length u4 * 2 = List.length (List.flatMap keyC u4), 0 < 2, List.all (List.flatMap keyC u4) cellAV = true, List.flatMap keyC u4 = List.flatMap keyC u4, 0 + List.length u3 * 2 = List.length (List.flatMap keyC u3), (List.length u3 + List.length u4) * 24 ≤ 140737488355328 ∨ 24 = 1 ∧ List.length u3 + List.length u4 ≤ 200000000000000, List.length u3 + List.length u4 = List.length u3 + List.length u4, List.drop 0 (List.flatMap keyC u3) ++ List.flatMap keyC u4 = List.flatMap keyC (u3 ++ u4), List.all [AObj.row 1 [AV.im 2 (List.flatMap keyC u1), AV.im 2 (List.flatMap keyC u2), AV.im 2 (List.flatMap keyC u3), AV.im 2 (List.flatMap keyC u4)], AObj.dead, AObj.dead, AObj.row 2 (List.flatMap keyC (u1 ++ u2)), AObj.row 2 []] (rowLt (List.length [AObj.row 1 [AV.im 2 (List.flatMap keyC u1), AV.im 2 (List.flatMap keyC u2), AV.im 2 (List.flatMap keyC u3), AV.im 2 (List.flatMap keyC u4)], AObj.dead, AObj.dead, AObj.row 2 (List.flatMap keyC (u1 ++ u2)), AObj.row 2 []])) = true, List.length u3 * 2 = List.length (List.flatMap keyC u3), 0 < 2, List.all (List.flatMap keyC u3) cellAV = true, List.flatMap keyC u3 = List.flatMap keyC u3, 0 = 0, List.length u3 * 24 ≤ 140737488355328 ∨ 24 = 1 ∧ List.length u3 ≤ 200000000000000, 0 + List.length u3 = List.length u3, List.drop 0 [] ++ List.flatMap keyC u3 = List.flatMap keyC u3, List.all [AObj.row 1 [AV.im 2 (List.flatMap keyC u1), AV.im 2 (List.flatMap keyC u2), AV.im 2 (List.flatMap keyC u3), AV.im 2 (List.flatMap keyC u4)], AObj.dead, AObj.row 2 (List.flatMap keyC u1)] (rowLt (List.length [AObj.row 1 [AV.im 2 (List.flatMap keyC u1), AV.im 2 (List.flatMap keyC u2), AV.im 2 (List.flatMap keyC u3), AV.im 2 (List.flatMap keyC u4)], AObj.dead, AObj.row 2 (List.flatMap keyC u1)])) = true, List.length u2 * 2 = List.length (List.flatMap keyC u2), 0 < 2, List.all (List.flatMap keyC u2) cellAV = true, List.flatMap keyC u2 = List.flatMap keyC u2, 0 + List.length u1 * 2 = List.length (List.flatMap keyC u1), (List.length u1 + List.length u2) * 24 ≤ 140737488355328 ∨ 24 = 1 ∧ List.length u1 + List.length u2 ≤ 200000000000000, List.length u1 + List.length u2 = List.length u1 + List.length u2, List.drop 0 (List.flatMap keyC u1) ++ List.flatMap keyC u2 = List.flatMap keyC (u1 ++ u2), List.length u1 * 2 = List.length (List.flatMap keyC u1), 0 < 2, List.all (List.flatMap keyC u1) cellAV = true, List.flatMap keyC u1 = List.flatMap keyC u1, 0 = 0, List.length u1 * 24 ≤ 140737488355328 ∨ 24 = 1 ∧ List.length u1 ≤ 200000000000000, 0 + List.length u1 = List.length u1, List.drop 0 [] ++ List.flatMap keyC u1 = List.flatMap keyC u1, Spec0 Try.prog 7 [] (B true), Spec0 Try.prog 10 [AV.agg [AV.nil, AV.nil, AV.nil, AV.nil], RL rows] (AV.tup [AV.agg [AV.im 2 (List.flatMap keyC u1), AV.im 2 (List.flatMap keyC u2), AV.im 2 (List.flatMap keyC u3), AV.im 2 (List.flatMap keyC u4)], I .i64 (Int.ofNat 0)])] [(3, .ptr 0 0), (5, .sl 3 0 (u1.length + u2.length)), (6, .sl 6 0 (u3.length + u4.length))] [.row 1 [KL u1, KL u2, KL u3, KL u4], .dead, .dead, .row 2 ((u1 ++ u2).flatMap keyC), .dead, .dead, .row 2 ((u3 ++ u4).flatMap keyC)] (by kernel_rfl) ⟨(by first | (simp only [List.all_cons, List.all_nil, fm_row (c := keyC) (fun _ => rfl), Bool.and_true, Bool.true_and]; rfl) | omega | decide | simp), (by exact Eq.symm (fm_len (c := (keyC)) (fun _ => rfl) _)), (by omega), (by exact fm_one (c := keyC) (fun _ => rfl) _), (by exact fm_app0), (by rw [fm_len (c := keyC) (e := 2) (fun _ => rfl)]; omega), (by omega), (by omega), (by exact fm_app), (by first | (simp only [List.all_cons, List.all_nil, fm_row (c := keyC) (fun _ => rfl), Bool.and_true, Bool.true_and]; rfl) | omega | decide | simp), (by exact Eq.symm (fm_len (c := (keyC)) (fun _ => rfl) _)), (by omega), (by exact fm_one (c := keyC) (fun _ => rfl) _), (by exact fm_app0), (by omega), (by omega), (by omega), (by exact fm_app0), (by first | (simp only [List.all_cons, List.all_nil, fm_row (c := keyC) (fun _ => rfl), Bool.and_true, Bool.true_and]; rfl) | omega | decide | simp), (by exact Eq.symm (fm_len (c := (keyC)) (fun _ => rfl) _)), (by omega), (by exact fm_one (c := keyC) (fun _ => rfl) _), (by exact fm_app0), (by rw [fm_len (c := keyC) (e := 2) (fun _ => rfl)]; omega), (by omega), (by omega), (by exact fm_app), (by exact Eq.symm (fm_len (c := (keyC)) (fun _ => rfl) _)), (by omega), (by exact fm_one (c := keyC) (fun _ => rfl) _), (by exact fm_app0), (by omega), (by omega), (by omega), (by exact fm_app0), hlv, hu, trivial⟩ ?_
  obtain ⟨la, hla⟩ : ∃ l, l = u1 ++ u2 := ⟨_, rfl⟩
  obtain ⟨lb, hlb⟩ : ∃ l, l = u3 ++ u4 := ⟨_, rfl⟩
  have na : la.length = u1.length + u2.length := by rw [hla]; simp
  have nb : lb.length = u3.length + u4.length := by rw [hlb]; simp
  rw [← hla, ← hlb, ← na, ← nb]
  have hnla : (la.map (·.num)).Nodup := by rw [hla]; exact hna
  have hnlb : (lb.map (·.num)).Nodup := by rw [hlb]; exact hnb
  refine W.seq ?_
  refine W.seq ?_
  refine W.sx hm hF 6 1000 20 [] [] .normal [(3, .ptr 0 0), (5, .sl 3 0 la.length), (6, .sl 6 0 lb.length), (7, I .i64 0)] [.row 1 [KL u1, KL u2, KL u3, KL u4], .dead, .dead, .row 2 (la.flatMap keyC), .dead, .dead, .row 2 (lb.flatMap keyC)] (by kernel_rfl) trivial (fun σ h => W.weaken h ?_)
  refine W.block ?_
  refine W.loop (fun i : Nat => ⟨tbl [(3, .ptr 0 0), (5, .sl 3 0 la.length), (6, .sl 6 0 lb.length), (7, I .i64 (i : Nat))], [.row 1 [KL u1, KL u2, KL u3, KL u4], .dead, .dead, .row 2 (la.flatMap keyC), .dead, .dead, .row 2 (lb.flatMap keyC)]⟩) (fun i => i ≤ la.length) (fun i => la.length - i) 0 (Nat.zero_le _) (Le.refl _) ?_
  intro i hi0
  by_cases hi : i < la.length
  · obtain ⟨x, hx⟩ : ∃ x, la[i]? = some x := ⟨_, List.getElem?_eq_getElem hi⟩
    refine W.seq ?_
    refine W.sx hm hF 6 1000 20 [.b 6 9 3 true] [decide ((↑i : Int) < (↑(List.length la) : Int)) = true] .normal [(3, .ptr 0 0), (5, .sl 3 0 la.length), (6, .sl 6 0 lb.length), (7, I .i64 (i : Nat))] [.row 1 [KL u1, KL u2, KL u3, KL u4], .dead, .dead, .row 2 (la.flatMap keyC), .dead, .dead, .row 2 (lb.flatMap keyC)] (by kernel_rfl) ⟨(by simp <;> omega), trivial⟩ (fun σ h => W.weaken h ?_)
    refine W.seq ?_
    refine W.block ?_
    refine W.seq ?_
    refine W.sx hm hF 6 1000 20 [] [] .normal [(3, .ptr 0 0), (5, .sl 3 0 la.length), (6, .sl 6 0 lb.length), (7, I .i64 (i : Nat)), (8, I .i64 0)] [.row 1 [KL u1, KL u2, KL u3, KL u4], .dead, .dead, .row 2 (la.flatMap keyC), .dead, .dead, .row 2 (lb.flatMap keyC)] (by kernel_rfl) trivial (fun σ h => W.weaken h ?_)
    refine W.block ?_
    refine W.loop (fun j : Nat => ⟨tbl [(3, .ptr 0 0), (5, .sl 3 0 la.length), (6, .sl 6 0 lb.length), (7, I .i64 (i : Nat)), (8, I .i64 (j : Nat))], [.row 1 [KL u1, KL u2, KL u3, KL u4], .dead, .dead, .row 2 (la.flatMap keyC), .dead, .dead, .row 2 (lb.flatMap keyC)]⟩) (fun j => j ≤ i) (fun j => i - j) 0 (Nat.zero_le _) (Le.refl _) ?_
    intro j hj0
    by_cases hj : j < i
    · have hjl : j < la.length := by omega
      obtain ⟨y, hy⟩ : ∃ y, la[j]? = some y := ⟨_, List.getElem?_eq_getElem hjl⟩
      have hne : (y.num == x.num) = false := apart_at hnla hj hy hx
      exact W.sx hm hF 6 1000 20 [.b 6 12 2 true, .j 6 14 2 0 j, .l 6 14 4 (I .i64 y.num), .j 6 14 7 0 i, .l 6 14 9 (I .i64 x.num), .b 6 14 10 false, .x 6 13 1 (Xt.na (j + 1))] [j + 1 < cap IntKind.i64, j + 1 = j + 1, (y.num == x.num) = false, (List.flatMap keyC la)[0 + i * 2 + 1]? = some (I .i64 x.num), (↑i : Int) = (↑i : Int), i < List.length la, (List.flatMap keyC la)[0 + j * 2 + 1]? = some (I .i64 y.num), (↑j : Int) = (↑j : Int), j < List.length la, decide ((↑j : Int) < (↑i : Int)) = true] .normal [(3, .ptr 0 0), (5, .sl 3 0 la.length), (6, .sl 6 0 lb.length), (7, I .i64 (i : Nat)), (8, I .i64 ((j + 1 : Nat) : Int))] [.row 1 [KL u1, KL u2, KL u3, KL u4], .dead, .dead, .row 2 (la.flatMap keyC), .dead, .dead, .row 2 (lb.flatMap keyC)] (by kernel_rfl) ⟨(by simp [cap] <;> omega), (by rfl), (by assumption), (by exact fm_cell1 hx), (by rfl), (by assumption), (by exact fm_cell1 hy), (by rfl), (by assumption), (by simp <;> omega), trivial⟩ (fun σ h => ⟨j + 1, hj, by omega, h⟩)
    · refine W.sx hm hF 6 1000 20 [.b 6 12 2 false] [decide ((↑j : Int) < (↑i : Int)) = false] (.exit 2) [(3, .ptr 0 0), (5, .sl 3 0 la.length), (6, .sl 6 0 lb.length), (7, I .i64 (i : Nat))] [.row 1 [KL u1, KL u2, KL u3, KL u4], .dead, .dead, .row 2 (la.flatMap keyC), .dead, .dead, .row 2 (lb.flatMap keyC)] (by kernel_rfl) ⟨(by simp <;> omega), trivial⟩ (fun σ h => W.weaken h ?_)
      exact W.sx hm hF 6 1000 20 [.z 6 10 1 ((i + 1 : Nat) : Int)] [IntKind.i64.wrap (((i : Nat) : Int) + 1) = ((i + 1 : Nat) : Int)] .normal [(3, .ptr 0 0), (5, .sl 3 0 la.length), (6, .sl 6 0 lb.length), (7, I .i64 ((i + 1 : Nat) : Int))] [.row 1 [KL u1, KL u2, KL u3, KL u4], .dead, .dead, .row 2 (la.flatMap keyC), .dead, .dead, .row 2 (lb.flatMap keyC)] (by kernel_rfl) ⟨i64_n i (by omega), trivial⟩ (fun σ h => ⟨i + 1, hi, by omega, h⟩)
  have hbb : decide (((i : Nat) : Int) < (la.length : Nat)) = false := decide_eq_false (by omega)
  refine W.sx hm hF 6 1000 20 [.b 6 9 3 false] [decide (((i : Nat) : Int) < (la.length : Nat)) = false] (.exit 0) [(3, .ptr 0 0), (5, .sl 3 0 la.length), (6, .sl 6 0 lb.length)] [.row 1 [KL u1, KL u2, KL u3, KL u4], .dead, .dead, .row 2 (la.flatMap keyC), .dead, .dead, .row 2 (lb.flatMap keyC)] (by kernel_rfl) ⟨hbb, trivial⟩ (fun σ h => W.weaken h ?_)
  refine W.seq ?_
  refine W.seq ?_
  refine W.sx hm hF 6 1000 20 [] [] .normal [(3, .ptr 0 0), (5, .sl 3 0 la.length), (6, .sl 6 0 lb.length), (9, I .i64 0)] [.row 1 [KL u1, KL u2, KL u3, KL u4], .dead, .dead, .row 2 (la.flatMap keyC), .dead, .dead, .row 2 (lb.flatMap keyC)] (by kernel_rfl) trivial (fun σ h => W.weaken h ?_)
  refine W.block ?_
  refine W.loop (fun i : Nat => ⟨tbl [(3, .ptr 0 0), (5, .sl 3 0 la.length), (6, .sl 6 0 lb.length), (9, I .i64 (i : Nat))], [.row 1 [KL u1, KL u2, KL u3, KL u4], .dead, .dead, .row 2 (la.flatMap keyC), .dead, .dead, .row 2 (lb.flatMap keyC)]⟩) (fun i => i ≤ lb.length) (fun i => lb.length - i) 0 (Nat.zero_le _) (Le.refl _) ?_
  intro i hi0
  by_cases hi : i < lb.length
  · obtain ⟨x, hx⟩ : ∃ x, lb[i]? = some x := ⟨_, List.getElem?_eq_getElem hi⟩
    refine W.seq ?_
    refine W.sx hm hF 6 1000 20 [.b 6 17 3 true] [decide ((↑i : Int) < (↑(List.length lb) : Int)) = true] .normal [(3, .ptr 0 0), (5, .sl 3 0 la.length), (6, .sl 6 0 lb.length), (9, I .i64 (i : Nat))] [.row 1 [KL u1, KL u2, KL u3, KL u4], .dead, .dead, .row 2 (la.flatMap keyC), .dead, .dead, .row 2 (lb.flatMap keyC)] (by kernel_rfl) ⟨(by simp <;> omega), trivial⟩ (fun σ h => W.weaken h ?_)
    refine W.seq ?_
    refine W.block ?_
    refine W.seq ?_
    refine W.sx hm hF 6 1000 20 [] [] .normal [(3, .ptr 0 0), (5, .sl 3 0 la.length), (6, .sl 6 0 lb.length), (9, I .i64 (i : Nat)), (10, I .i64 0)] [.row 1 [KL u1, KL u2, KL u3, KL u4], .dead, .dead, .row 2 (la.flatMap keyC), .dead, .dead, .row 2 (lb.flatMap keyC)] (by kernel_rfl) trivial (fun σ h => W.weaken h ?_)
    refine W.block ?_
    refine W.loop (fun j : Nat => ⟨tbl [(3, .ptr 0 0), (5, .sl 3 0 la.length), (6, .sl 6 0 lb.length), (9, I .i64 (i : Nat)), (10, I .i64 (j : Nat))], [.row 1 [KL u1, KL u2, KL u3, KL u4], .dead, .dead, .row 2 (la.flatMap keyC), .dead, .dead, .row 2 (lb.flatMap keyC)]⟩) (fun j => j ≤ i) (fun j => i - j) 0 (Nat.zero_le _) (Le.refl _) ?_
    intro j hj0
    by_cases hj : j < i
    · have hjl : j < lb.length := by omega
      obtain ⟨y, hy⟩ : ∃ y, lb[j]? = some y := ⟨_, List.getElem?_eq_getElem hjl⟩
      have hne : (y.num == x.num) = false := apart_at hnlb hj hy hx
      exact W.sx hm hF 6 1000 20 [.b 6 20 2 true, .j 6 22 2 0 j, .l 6 22 4 (I .i64 y.num), .j 6 22 7 0 i, .l 6 22 9 (I .i64 x.num), .b 6 22 10 false, .x 6 21 1 (Xt.na (j + 1))] [j + 1 < cap IntKind.i64, j + 1 = j + 1, (y.num == x.num) = false, (List.flatMap keyC lb)[0 + i * 2 + 1]? = some (I .i64 x.num), (↑i : Int) = (↑i : Int), i < List.length lb, (List.flatMap keyC lb)[0 + j * 2 + 1]? = some (I .i64 y.num), (↑j : Int) = (↑j : Int), j < List.length lb, decide ((↑j : Int) < (↑i : Int)) = true] .normal [(3, .ptr 0 0), (5, .sl 3 0 la.length), (6, .sl 6 0 lb.length), (9, I .i64 (i : Nat)), (10, I .i64 ((j + 1 : Nat) : Int))] [.row 1 [KL u1, KL u2, KL u3, KL u4], .dead, .dead, .row 2 (la.flatMap keyC), .dead, .dead, .row 2 (lb.flatMap keyC)] (by kernel_rfl) ⟨(by simp [cap] <;> omega), (by rfl), (by assumption), (by exact fm_cell1 hx), (by rfl), (by assumption), (by exact fm_cell1 hy), (by rfl), (by assumption), (by simp <;> omega), trivial⟩ (fun σ h => ⟨j + 1, hj, by omega, h⟩)
    · refine W.sx hm hF 6 1000 20 [.b 6 20 2 false] [decide ((↑j : Int) < (↑i : Int)) = false] (.exit 6) [(3, .ptr 0 0), (5, .sl 3 0 la.length), (6, .sl 6 0 lb.length), (9, I .i64 (i : Nat))] [.row 1 [KL u1, KL u2, KL u3, KL u4], .dead, .dead, .row 2 (la.flatMap keyC), .dead, .dead, .row 2 (lb.flatMap keyC)] (by kernel_rfl) ⟨(by simp <;> omega), trivial⟩ (fun σ h => W.weaken h ?_)
      exact W.sx hm hF 6 1000 20 [.z 6 18 1 ((i + 1 : Nat) : Int)] [IntKind.i64.wrap (((i : Nat) : Int) + 1) = ((i + 1 : Nat) : Int)] .normal [(3, .ptr 0 0), (5, .sl 3 0 la.length), (6, .sl 6 0 lb.length), (9, I .i64 ((i + 1 : Nat) : Int))] [.row 1 [KL u1, KL u2, KL u3, KL u4], .dead, .dead, .row 2 (la.flatMap keyC), .dead, .dead, .row 2 (lb.flatMap keyC)] (by kernel_rfl) ⟨i64_n i (by omega), trivial⟩ (fun σ h => ⟨i + 1, hi, by omega, h⟩)
  have hbb : decide (((i : Nat) : Int) < (lb.length : Nat)) = false := decide_eq_false (by omega)
  refine W.sx hm hF 6 1000 20 [.b 6 17 3 false] [decide (((i : Nat) : Int) < (lb.length : Nat)) = false] (.exit 4) [(3, .ptr 0 0), (5, .sl 3 0 la.length), (6, .sl 6 0 lb.length)] [.row 1 [KL u1, KL u2, KL u3, KL u4], .dead, .dead, .row 2 (la.flatMap keyC), .dead, .dead, .row 2 (lb.flatMap keyC)] (by kernel_rfl) ⟨hbb, trivial⟩ (fun σ h => W.weaken h ?_)
  refine W.seq ?_
  refine W.seq ?_
  refine W.sx hm hF 6 1000 20 [] [] .normal [(3, .ptr 0 0), (11, I .i64 0)] [.row 1 [KL u1, KL u2, KL u3, KL u4], .dead, .dead, .row 2 (la.flatMap keyC), .dead, .dead, .row 2 (lb.flatMap keyC)] (by kernel_rfl) trivial (fun σ h => W.weaken h ?_)
  refine W.block ?_
  refine W.loop (fun i : Nat => ⟨tbl [(3, .ptr 0 0), (11, I .i64 (i : Nat))], [.row 1 [KL u1, KL u2, KL u3, KL u4], .dead, .dead, .row 2 (la.flatMap keyC), .dead, .dead, .row 2 (lb.flatMap keyC)]⟩) (fun i => i ≤ u3.length) (fun i => u3.length - i) 0 (Nat.zero_le _) (Le.refl _) ?_
  intro i hi0
  by_cases hi : i < u3.length
  · obtain ⟨k, hx⟩ : ∃ x, u3[i]? = some x := ⟨_, List.getElem?_eq_getElem hi⟩
    obtain ⟨q1, q2⟩ := name_find hnn hx
    obtain ⟨s, hs⟩ : ∃ s, s = (nameV u3 k.num).1 := ⟨_, rfl⟩
    have hn : Spec0 Try.prog 15 [KL u3, I .i64 k.num] (.tup [S s, B true]) := by
      have := w_nameV u3 k.num (by omega)
      rw [q1, ← hs] at this; exact this
    have hf : Spec0 Try.prog 13 [KL u3, S s] (.tup [I .i64 k.num, B true]) := by
      have := w_findV u3 s (by omega)
      rw [← hs] at q2
      rw [q2] at this; exact this
    exact W.sx hm hF 6 1000 20 [.n 6 25 3 (List.length u3), .b 6 25 4 true, .j 6 27 5 (List.length u3) i, .l 6 27 7 (I .i64 k.num), .c 6 27 8 (AV.tup [S s, B true]), .c 6 28 3 (AV.tup [I .i64 k.num, B true]), .j 6 29 11 (List.length u3) i, .l 6 29 13 (I .i64 k.num), .b 6 29 14 false, .x 6 26 1 (Xt.na (i + 1))] [i + 1 < cap IntKind.i64, i + 1 = i + 1, (k.num != k.num) = false, (List.flatMap keyC u3)[i * 2 + 1]? = some (I .i64 k.num), List.length u3 * 2 = List.length (List.flatMap keyC u3), 0 < 2, (↑i : Int) = (↑i : Int), i < List.length u3, Spec0 Try.prog 13 [KL u3, S s] (AV.tup [I .i64 k.num, B true]), Spec0 Try.prog 15 [KL u3, I IntKind.i64 k.num] (AV.tup [S s, B true]), (List.flatMap keyC u3)[i * 2 + 1]? = some (I .i64 k.num), List.length u3 * 2 = List.length (List.flatMap keyC u3), 0 < 2, (↑i : Int) = (↑i : Int), i < List.length u3, decide ((↑i : Int) < (↑(List.length u3) : Int)) = true, List.length u3 * 2 = List.length (List.flatMap keyC u3), 0 < 2] .normal [(3, .ptr 0 0), (11, I .i64 ((i + 1 : Nat) : Int))] [.row 1 [KL u1, KL u2, KL u3, KL u4], .dead, .dead, .row 2 (la.flatMap keyC), .dead, .dead, .row 2 (lb.flatMap keyC)] (by kernel_rfl) ⟨(by simp [cap] <;> omega), (by rfl), (by simp <;> omega), (by exact fm_cell (c := (keyC)) (fun _ => rfl) _ (by assumption) (by decide) rfl), (by exact Eq.symm (fm_len (c := (keyC)) (fun _ => rfl) _)), (by omega), (by first | (simp) | omega | decide | simp), (by assumption), hf, hn, (by exact fm_cell (c := (keyC)) (fun _ => rfl) _ (by assumption) (by decide) rfl), (by exact Eq.symm (fm_len (c := (keyC)) (fun _ => rfl) _)), (by omega), (by first | (simp) | omega | decide | simp), (by assumption), (by simp <;> omega), (by exact Eq.symm (fm_len (c := (keyC)) (fun _ => rfl) _)), (by omega), trivial⟩ (fun σ h => ⟨i + 1, hi, by omega, h⟩)
  have hbb : decide (((i : Nat) : Int) < (u3.length : Nat)) = false := decide_eq_false (by omega)
  refine W.sx hm hF 6 1000 20 [.n 6 25 3 u3.length, .b 6 25 4 false] [decide (((i : Nat) : Int) < (u3.length : Nat)) = false, u3.length * 2 = (u3.flatMap keyC).length, 0 < 2] (.exit 8) [] [.row 1 [KL u1, KL u2, KL u3, KL u4], .dead, .dead, .row 2 (la.flatMap keyC), .dead, .dead, .row 2 (lb.flatMap keyC)] (by kernel_rfl) ⟨hbb, Eq.symm (fm_len (c := keyC) (fun _ => rfl) _), by decide, trivial⟩ (fun σ h => W.weaken h ?_)
  exact W.sxR hm hF 6 1000 20 [] [] [.tmp 2] .ret (B true) (by kernel_rfl) trivial (fun σ xs h1 h2 => retK.mk (.inl rfl) h1 h2)
theorem w_KeysApart (rows : List Rw) (hl : rows.length ≤ 1034834473170) : Spec0 Try.prog 6 [RL rows] (B true) := by
  have hu := w_Update [] [] [] [] rows (by simp) (by simp) (by simp) (by simp) hl
  have hck : checkV [] [] [] [] = true := rfl
  unfold UpdOk updR at hu
  rw [if_pos hck] at hu
  cases e1 : pairV [] [] 1 3 rows 16777215 with
  | none =>
    rw [e1] at hu
    have := apart_none (by decide) (by decide) e1
    exact ap_bad rows [] [] [] [] (by simp) (by simp) (by simp) (by simp) hl w_lives (upd_nil hu) (decide_eq_true (by omega))
  | some x =>
    obtain ⟨u1, u2⟩ := x
    rw [e1] at hu
    cases e2 : pairV [] [] 2 4 rows 65535 with
    | none =>
      rw [e2] at hu
      have := apart_none (by decide) (by decide) e2
      exact ap_bad rows [] [] [] [] (by simp) (by simp) (by simp) (by simp) hl w_lives (upd_nil hu) (decide_eq_true (by omega))
    | some y =>
      obtain ⟨u3, u4⟩ := y
      rw [e2] at hu
      obtain ⟨a1, a2, a3, a4⟩ := apart_pair e1
      obtain ⟨b1, b2, b3, b4⟩ := apart_pair e2
      exact w_apart rows u1 u2 u3 u4 (by omega) (by omega) (by omega) (by omega) hl (upd_nil hu) a1 b1 b2

end Go.Proofs.Ytlfedjannhceaaa
