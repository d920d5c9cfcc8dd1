/-
  The reference: names.
-/
import Derived.Test.YtlfedjannhceaaaRAU2
set_option linter.unusedVariables false
set_option linter.unusedSimpArgs false
set_option maxRecDepth 100000
set_option maxHeartbeats 1000000
namespace Go.Proofs.Ytlfedjannhceaaa
open Go Go.SL Go.Proofs
/-- The first place whose name is not less. -/
def insAt (x : ByteArray) : List ByteArray → Nat
  | [] => 0
  | y :: l => if Op.bytesLess y.toList x.toList = true then insAt x l + 1 else 0
def insV (x : ByteArray) (l : List ByteArray) : List ByteArray := match l[insAt x l]? with
  | some y => if (y.toList == x.toList) = true then l else l.take (insAt x l) ++ x :: l.drop (insAt x l)
  | none => l.take (insAt x l) ++ x :: l.drop (insAt x l)
theorem insAt_le (x : ByteArray) : ∀ l, insAt x l ≤ l.length
  | [] => Nat.le_refl _
  | y :: l => by
    unfold insAt
    split
    · have := insAt_le x l; simp only [List.length_cons]; omega
    · exact Nat.zero_le _
theorem insAt_next {x y : ByteArray} : ∀ {l : List ByteArray} {p : Nat}, p ≤ insAt x l → l[p]? = some y → Op.bytesLess y.toList x.toList = true → p + 1 ≤ insAt x l
  | [], p, _, h, _ => by simp at h
  | z :: l, 0, _, h, hb => by
    simp only [List.getElem?_cons_zero, Option.some.injEq] at h
    subst h
    unfold insAt
    rw [if_pos hb]; omega
  | z :: l, p + 1, hp, h, hb => by
    unfold insAt at hp ⊢
    split at hp
    · rename_i hz
      rw [if_pos hz]
      have := insAt_next (l := l) (p := p) (by omega) (by simpa using h) hb
      omega
    · omega
theorem insAt_stop {x y : ByteArray} : ∀ {l : List ByteArray} {p : Nat}, p ≤ insAt x l → l[p]? = some y → Op.bytesLess y.toList x.toList = false → p = insAt x l
  | [], p, _, h, _ => by simp at h
  | z :: l, 0, _, h, hb => by
    simp only [List.getElem?_cons_zero, Option.some.injEq] at h
    subst h
    unfold insAt
    rw [if_neg (by rw [hb]; decide)]
  | z :: l, p + 1, hp, h, hb => by
    unfold insAt at hp ⊢
    split at hp
    · rename_i hz
      rw [if_pos hz]
      have := insAt_stop (l := l) (p := p) (by omega) (by simpa using h) hb
      omega
    · omega
def nmIns (kind : Int) (l : List ByteArray) (r : Rw) : List ByteArray := if (r.kind != kind) = true then l else insV r.name l
def namesV (rows : List Rw) (kind : Int) : List ByteArray := rows.foldl (nmIns kind) []
theorem namesV_next {rows : List Rw} {kind : Int} {i : Nat} {r : Rw} (h : rows[i]? = some r) : namesV (rows.take (i + 1)) kind = nmIns kind (namesV (rows.take i) kind) r := by
  unfold namesV
  rw [List.take_add_one, h, List.foldl_append]; rfl
theorem insV_len (x : ByteArray) (l : List ByteArray) : (insV x l).length ≤ l.length + 1 := by
  have := insAt_le x l
  unfold insV
  split
  · split <;> simp <;> omega
  · simp; omega
theorem w_names (rows : List Rw) (kind : Int) (hl0 : rows.length ≤ 1034834473170) : Spec0 Try.prog 23 [RL rows, I .i64 kind] (NL (namesV rows kind)) := by
  refine Spec0.walk Try.func23 rfl rfl ?_
  refine W.sxP hm hF 23 2 1000 20 [] [] [(0, RL rows), (1, I .i64 kind), (5, .nil)] [] (by kernel_rfl) trivial ?_
  refine W.seq ?_
  refine W.seq ?_
  refine W.sx hm hF 23 1000 20 [] [] .normal [(0, RL rows), (1, I .i64 kind), (5, .nil), (6, I .i64 0)] [] (by kernel_rfl) trivial (fun σ h => W.weaken h ?_)
  refine W.block ?_
  refine W.loopQ 0 (fun i : Nat => ⟨tbl [(0, RL rows), (1, I .i64 kind), (5, NL (namesV (rows.take i) kind)), (6, I .i64 ((i : Nat) : Int))], []⟩) (fun i => i ≤ rows.length ∧ (namesV (rows.take i) kind).length ≤ i) (fun i => rows.length - i) 0 ⟨Nat.zero_le _, Nat.le_refl _⟩ rfl (fun x _ => Nat.zero_le _) (Entry.fzK [] _ ⟨.keep, .keep, .nil, .keep, trivial⟩ (Nat.zero_le _)) ?_
  rintro i ⟨hi, hol⟩
  by_cases hlt : i < rows.length
  · obtain ⟨r, hget⟩ : ∃ r, rows[i]? = some r := ⟨_, List.getElem?_eq_getElem hlt⟩
    have hX := namesV_next (kind := kind) hget
    generalize namesV (rows.take i) kind = l at hX hol
    unfold nmIns at hX
    cases hk : (r.kind != kind) with
    | true =>
      rw [if_pos hk] at hX
      exact W.sx hm hF 23 1000 20 [.n 23 3 2 (List.length rows), .b 23 3 3 true, .j 23 5 2 (List.length rows) i, .l 23 5 4 (I .i64 r.kind), .b 23 5 6 true, .x 23 4 1 (Xt.na (i + 1))] [i + 1 < cap IntKind.i64, i + 1 = i + 1, (r.kind != kind) = true, (List.flatMap rowC rows)[i * 13 + 0]? = some (I .i64 r.kind), List.length rows * 13 = List.length (List.flatMap rowC rows), 0 < 13, (↑i : Int) = (↑i : Int), i < List.length rows, decide ((↑i : Int) < (↑(List.length rows) : Int)) = true, List.length rows * 13 = List.length (List.flatMap rowC rows), 0 < 13] .normal [(0, RL rows), (1, I .i64 kind), (5, NL l), (6, I .i64 ((i + 1 : Nat) : Int))] [] (by kernel_rfl) ⟨(by simp [cap] <;> omega), (by rfl), (by assumption), (by exact fm_cell (c := (rowC)) (fun _ => rfl) _ (by assumption) (by decide) rfl), (by exact Eq.symm (fm_len (c := (rowC)) (fun _ => rfl) _)), (by omega), (by rfl), (by assumption), (by simp <;> omega), (by exact Eq.symm (fm_len (c := (rowC)) (fun _ => rfl) _)), (by omega), trivial⟩ (fun σ h => ⟨i + 1, ⟨hlt, by rw [hX]; omega⟩, by omega, by rw [hX]; exact Entry.leP h (Nat.zero_le _)⟩)
    | false =>
      rw [if_neg (by rw [hk]; decide)] at hX
      obtain ⟨x, hx⟩ : ∃ x, x = r.name := ⟨_, rfl⟩
      rw [← hx] at hX
      have hil := insV_len x l
      refine W.sxP hm hF 23 1 1000 20 [.n 23 3 2 (List.length rows), .b 23 3 3 true] [decide ((↑i : Int) < (↑(List.length rows) : Int)) = true, List.length rows * 13 = List.length (List.flatMap rowC rows), 0 < 13] [(0, RL rows), (1, I .i64 kind), (5, NL l), (6, I .i64 ((i : Nat) : Int))] [] (by kernel_rfl) ⟨(by simp <;> omega), (by exact Eq.symm (fm_len (c := (rowC)) (fun _ => rfl) _)), (by omega), trivial⟩ ?_
      refine W.seq ?_
      refine W.block ?_
      refine W.sxP hm hF 23 3 1000 20 [.j 23 5 2 (List.length rows) i, .l 23 5 4 (I .i64 r.kind), .b 23 5 6 false, .j 23 6 2 (List.length rows) i, .l 23 6 4 (S r.name)] [(List.flatMap rowC rows)[i * 13 + 1]? = some (S r.name), List.length rows * 13 = List.length (List.flatMap rowC rows), 0 < 13, (↑i : Int) = (↑i : Int), i < List.length rows, (r.kind != kind) = false, (List.flatMap rowC rows)[i * 13 + 0]? = some (I .i64 r.kind), List.length rows * 13 = List.length (List.flatMap rowC rows), 0 < 13, (↑i : Int) = (↑i : Int), i < List.length rows] [(0, RL rows), (1, I .i64 kind), (5, NL l), (6, I .i64 ((i : Nat) : Int)), (7, S r.name), (8, I .i64 0)] [] (by kernel_rfl) ⟨(by exact fm_cell (c := (rowC)) (fun _ => rfl) _ (by assumption) (by decide) rfl), (by exact Eq.symm (fm_len (c := (rowC)) (fun _ => rfl) _)), (by omega), (by rfl), (by assumption), (by assumption), (by exact fm_cell (c := (rowC)) (fun _ => rfl) _ (by assumption) (by decide) rfl), (by exact Eq.symm (fm_len (c := (rowC)) (fun _ => rfl) _)), (by omega), (by rfl), (by assumption), trivial⟩ ?_
      rw [← hx]
      refine W.seq ?_
      refine W.block ?_
      refine W.loop (fun p : Nat => ⟨tbl [(0, RL rows), (1, I .i64 kind), (5, NL l), (6, I .i64 ((i : Nat) : Int)), (7, S x), (8, I .i64 ((p : Nat) : Int))], []⟩) (fun p => p ≤ insAt x l) (fun p => l.length - p) 0 (Nat.zero_le _) (Le.refl _) ?_
      intro p hpi
      by_cases hp : p < l.length
      · obtain ⟨y, hy⟩ : ∃ y, l[p]? = some y := ⟨_, List.getElem?_eq_getElem hp⟩
        cases hb : Op.bytesLess y.toList x.toList with
        | true => exact W.sx hm hF 23 1000 20 [.n 23 8 2 (List.length l), .b 23 8 3 true, .j 23 8 7 (List.length l) p, .l 23 8 8 (S y), .b 23 8 10 true, .x 23 9 1 (Xt.na (p + 1))] [p + 1 < cap IntKind.i64, p + 1 = p + 1, Op.bytesLess (ByteArray.toList y) (ByteArray.toList x) = true, (List.flatMap nmC l)[p * 1]? = some (S y), List.length l * 1 = List.length (List.flatMap nmC l), 0 < 1, (↑p : Int) = (↑p : Int), p < List.length l, decide ((↑p : Int) < (↑(List.length l) : Int)) = true, List.length l * 1 = List.length (List.flatMap nmC l), 0 < 1] .normal [(0, RL rows), (1, I .i64 kind), (5, NL l), (6, I .i64 ((i : Nat) : Int)), (7, S x), (8, I .i64 ((p + 1 : Nat) : Int))] [] (by kernel_rfl) ⟨(by simp [cap] <;> omega), (by rfl), (by assumption), (by have := fm_cell (c := (nmC)) (k := 0) (fun _ => rfl) _ (by assumption) (by decide) rfl; rw [Nat.add_zero] at this; exact this), (by exact Eq.symm (fm_len (c := (nmC)) (fun _ => rfl) _)), (by omega), (by rfl), (by assumption), (by simp <;> omega), (by exact Eq.symm (fm_len (c := (nmC)) (fun _ => rfl) _)), (by omega), trivial⟩ (fun σ h => ⟨p + 1, insAt_next hpi hy hb, by omega, h⟩)
        | false =>
          refine W.sx hm hF 23 1000 20 [.n 23 8 2 (List.length l), .b 23 8 3 true, .j 23 8 7 (List.length l) p, .l 23 8 8 (S y), .b 23 8 10 false] [Op.bytesLess (ByteArray.toList y) (ByteArray.toList x) = false, (List.flatMap nmC l)[p * 1]? = some (S y), List.length l * 1 = List.length (List.flatMap nmC l), 0 < 1, (↑p : Int) = (↑p : Int), p < List.length l, decide ((↑p : Int) < (↑(List.length l) : Int)) = true, List.length l * 1 = List.length (List.flatMap nmC l), 0 < 1] (.exit 2) [(0, RL rows), (1, I .i64 kind), (5, NL l), (6, I .i64 ((i : Nat) : Int)), (7, S x), (8, I .i64 ((p : Nat) : Int))] [] (by kernel_rfl) ⟨(by assumption), (by have := fm_cell (c := (nmC)) (k := 0) (fun _ => rfl) _ (by assumption) (by decide) rfl; rw [Nat.add_zero] at this; exact this), (by exact Eq.symm (fm_len (c := (nmC)) (fun _ => rfl) _)), (by omega), (by rfl), (by assumption), (by simp <;> omega), (by exact Eq.symm (fm_len (c := (nmC)) (fun _ => rfl) _)), (by omega), trivial⟩ (fun σ h => W.weaken h ?_)
          have hst := insAt_stop hpi hy hb
          unfold insV at hX
          rw [← hst, hy] at hX
          simp only at hX
          clear hb
          cases hb : (y.toList == x.toList) with
          | true =>
            rw [if_pos hb] at hX
            refine W.sx hm hF 23 1000 20 [.n 23 10 2 (List.length l), .b 23 10 3 true, .j 23 10 7 (List.length l) p, .l 23 10 8 (S y), .b 23 10 10 true] [(ByteArray.toList y == ByteArray.toList x) = true, (List.flatMap nmC l)[p * 1]? = some (S y), List.length l * 1 = List.length (List.flatMap nmC l), 0 < 1, (↑p : Int) = (↑p : Int), p < List.length l, decide ((↑p : Int) < (↑(List.length l) : Int)) = true, List.length l * 1 = List.length (List.flatMap nmC l), 0 < 1] (.exit 1) [(0, RL rows), (1, I .i64 kind), (5, NL l), (6, I .i64 ((i : Nat) : Int))] [] (by kernel_rfl) ⟨(by assumption), (by have := fm_cell (c := (nmC)) (k := 0) (fun _ => rfl) _ (by assumption) (by decide) rfl; rw [Nat.add_zero] at this; exact this), (by exact Eq.symm (fm_len (c := (nmC)) (fun _ => rfl) _)), (by omega), (by rfl), (by assumption), (by simp <;> omega), (by exact Eq.symm (fm_len (c := (nmC)) (fun _ => rfl) _)), (by omega), trivial⟩ (fun σ h => W.weaken h ?_)
            exact W.sx hm hF 23 1000 20 [.z 23 4 1 ((i + 1 : Nat) : Int)] [IntKind.i64.wrap (((i : Nat) : Int) + 1) = ((i + 1 : Nat) : Int)] .normal [(0, RL rows), (1, I .i64 kind), (5, NL l), (6, I .i64 ((i + 1 : Nat) : Int))] [] (by kernel_rfl) ⟨i64_n i (by omega), trivial⟩ (fun σ h => ⟨i + 1, ⟨hlt, by rw [hX]; omega⟩, by omega, by rw [hX]; exact Entry.leP h (Nat.zero_le _)⟩)
          | false =>
            rw [if_neg (by rw [hb]; decide)] at hX
            have hpl : p ≤ l.length := by omega
            refine W.sxP hm hF 23 1 1000 20 [.n 23 10 2 (List.length l), .b 23 10 3 true, .j 23 10 7 (List.length l) p, .l 23 10 8 (S y), .b 23 10 10 false] [(ByteArray.toList y == ByteArray.toList x) = false, (List.flatMap nmC l)[p * 1]? = some (S y), List.length l * 1 = List.length (List.flatMap nmC l), 0 < 1, (↑p : Int) = (↑p : Int), p < List.length l, decide ((↑p : Int) < (↑(List.length l) : Int)) = true, List.length l * 1 = List.length (List.flatMap nmC l), 0 < 1] [(0, RL rows), (1, I .i64 kind), (5, NL l), (6, I .i64 ((i : Nat) : Int)), (7, S x), (8, I .i64 ((p : Nat) : Int))] [] (by kernel_rfl) ⟨(by assumption), (by have := fm_cell (c := (nmC)) (k := 0) (fun _ => rfl) _ (by assumption) (by decide) rfl; rw [Nat.add_zero] at this; exact this), (by exact Eq.symm (fm_len (c := (nmC)) (fun _ => rfl) _)), (by omega), (by rfl), (by assumption), (by simp <;> omega), (by exact Eq.symm (fm_len (c := (nmC)) (fun _ => rfl) _)), (by omega), trivial⟩ ?_
            obtain ⟨l1, hl1⟩ : ∃ q, q = l.take p ++ [x] := ⟨_, rfl⟩
            obtain ⟨l', hl'⟩ : ∃ q, q = l1 ++ l.drop p := ⟨_, rfl⟩
            have hX : namesV (rows.take (i + 1)) kind = l' := by rw [hX, hl', hl1]; simp
            have hln : l'.length = l.length + 1 := by rw [hl', hl1]; simp; omega
            refine W.sx hm hF 23 1000 20 [.t 23 11 3 (List.length l) 0 p (List.flatMap nmC (List.take p l)), .x 23 11 4 (Xt.ap p p (List.flatMap nmC (List.take p l)) (List.flatMap nmC (List.take p l))), .x 23 11 7 (Xt.ap 1 (p + 1) (nmC x) (List.flatMap nmC l1)), .r 23 11 7, .t 23 11 10 (List.length l) p (List.length l) (List.flatMap nmC (List.drop p l)), .x 23 11 11 (Xt.ap (List.length l - p) (List.length l + 1) (List.flatMap nmC (List.drop p l)) (List.flatMap nmC l')), .r 23 11 11] [List.all [AObj.dead, AObj.dead, AObj.row 1 [S x], AObj.row 1 (List.flatMap nmC l1)] (rowLt (List.length [AObj.dead, AObj.dead, AObj.row 1 [S x], AObj.row 1 (List.flatMap nmC l1)])) = true, (List.length l - p) * 1 = List.length (List.flatMap nmC (List.drop p l)), 0 < 1, List.all (List.flatMap nmC (List.drop p l)) cellAV = true, List.flatMap nmC (List.drop p l) = List.flatMap nmC (List.drop p l), 0 + (p + 1) * 1 = List.length (List.flatMap nmC l1), (List.length l + 1) * 16 ≤ 140737488355328 ∨ 16 = 1 ∧ List.length l + 1 ≤ 200000000000000, p + 1 + (List.length l - p) = List.length l + 1, List.drop 0 (List.flatMap nmC l1) ++ List.flatMap nmC (List.drop p l) = List.flatMap nmC l', (↑p : Int) = (↑p : Int), List.length l = List.length l, List.length l * 1 = List.length (List.flatMap nmC l), 0 < 1, p ≤ List.length l, List.length l ≤ List.length l, List.take ((List.length l - p) * 1) (List.drop (p * 1) (List.flatMap nmC l)) = List.flatMap nmC (List.drop p l), List.all [AObj.dead, AObj.row 1 (List.flatMap nmC (List.take p l)), AObj.row 1 [S x]] (rowLt (List.length [AObj.dead, AObj.row 1 (List.flatMap nmC (List.take p l)), AObj.row 1 [S x]])) = true, 1 = 1, 1 ≤ List.length [S x], List.all (List.take 1 (List.drop 0 [S x])) cellAV = true, List.take 1 (List.drop 0 [S x]) = nmC x, 0 + p * 1 = List.length (List.flatMap nmC (List.take p l)), (p + 1) * 16 ≤ 140737488355328 ∨ 16 = 1 ∧ p + 1 ≤ 200000000000000, p + 1 = p + 1, List.drop 0 (List.flatMap nmC (List.take p l)) ++ nmC x = List.flatMap nmC l1, p * 1 = List.length (List.flatMap nmC (List.take p l)), 0 < 1, List.all (List.flatMap nmC (List.take p l)) cellAV = true, List.flatMap nmC (List.take p l) = List.flatMap nmC (List.take p l), 0 = 0, p * 16 ≤ 140737488355328 ∨ 16 = 1 ∧ p ≤ 200000000000000, 0 + p = p, List.drop 0 [] ++ List.flatMap nmC (List.take p l) = List.flatMap nmC (List.take p l), 0 = 0, (↑p : Int) = (↑p : Int), List.length l * 1 = List.length (List.flatMap nmC l), 0 < 1, 0 ≤ p, p ≤ List.length l, List.take ((p - 0) * 1) (List.drop 0 (List.flatMap nmC l)) = List.flatMap nmC (List.take p l)] .normal [(0, RL rows), (1, I .i64 kind), (5, .sl 4 0 (l.length + 1)), (6, I .i64 ((i : Nat) : Int))] [AObj.dead, AObj.dead, AObj.row 1 [S x], AObj.dead, AObj.row 1 (List.flatMap nmC l')] (by kernel_rfl) ⟨(by first | (simp only [List.all_cons, List.all_nil, fm_row (c := keyC) (fun _ => rfl), fm_row (c := numC) (fun _ => rfl), fm_row (c := nmC) (fun _ => rfl), Bool.and_true, Bool.true_and]; rfl) | omega | decide | simp), (by first | (rw [fm_len (c := nmC) (e := 1) (fun _ => rfl)]; simp [hpl]) | omega | decide | simp), (by omega), (by exact fm_one (c := nmC) (fun _ => rfl) _), (by with_reducible rfl), (by first | (rw [fm_len (c := nmC) (e := 1) (fun _ => rfl), hl1]; simp [hpl]) | omega | decide | simp), (by omega), (by omega), (by subst hl'; exact nm_app _ _), (by rfl), (by omega), (by rw [fm_len (c := nmC) (e := 1) (fun _ => rfl)]), (by omega), (by assumption), (by omega), (by exact nm_drop l p), (by first | (simp only [List.all_cons, List.all_nil, fm_row (c := keyC) (fun _ => rfl), fm_row (c := numC) (fun _ => rfl), fm_row (c := nmC) (fun _ => rfl), Bool.and_true, Bool.true_and]; rfl) | omega | decide | simp), (by omega), (by simp <;> omega), (by rfl), (by rfl), (by first | (rw [fm_len (c := nmC) (e := 1) (fun _ => rfl)]; simp [hpl]) | omega | decide | simp), (by omega), (by omega), (by subst hl1; exact fm_snoc0 (c := nmC) (l.take p) x), (by first | (rw [fm_len (c := nmC) (e := 1) (fun _ => rfl)]; simp [hpl]) | omega | decide | simp), (by omega), (by exact fm_one (c := nmC) (fun _ => rfl) _), (by with_reducible rfl), (by omega), (by omega), (by omega), (by rw [List.drop_zero, List.nil_append]), (by omega), (by rfl), (by rw [fm_len (c := nmC) (e := 1) (fun _ => rfl)]), (by omega), (by omega), (by assumption), (by exact nm_take l p), trivial⟩ (fun σ h => W.weaken h ?_)
            exact W.sx hm hF 23 1000 20 [.z 23 4 1 ((i + 1 : Nat) : Int)] [IntKind.i64.wrap (((i : Nat) : Int) + 1) = ((i + 1 : Nat) : Int)] .normal [(0, RL rows), (1, I .i64 kind), (5, .sl 4 0 (l.length + 1)), (6, I .i64 ((i + 1 : Nat) : Int))] [AObj.dead, AObj.dead, AObj.row 1 [S x], AObj.dead, AObj.row 1 (List.flatMap nmC l')] (by kernel_rfl) ⟨i64_n i (by omega), trivial⟩ (fun σ h => ⟨i + 1, ⟨hlt, by rw [hX]; omega⟩, by omega, by rw [hX]; exact (Entry.leP h (Nat.zero_le _)).trans ((Entry.fzK [4] [(0, RL rows), (1, I .i64 kind), (5, NL l'), (6, I .i64 ((i + 1 : Nat) : Int))] ⟨.keep, .keep, .fm (c := nmC) (e := 1) (o := 4) (n := l.length + 1) (fun _ => rfl) (fun _ => rfl) rfl rfl hln, .keep, trivial⟩ (Nat.zero_le _)).trans (Entry.lnN (Nat.zero_le _) (LeN.mk' (is := []) rfl rfl (by simp) (by simp) rfl (Le.refl _))))⟩)
      · refine W.sx hm hF 23 1000 20 [.n 23 8 2 (List.length l), .b 23 8 3 false] [decide ((↑p : Int) < (↑(List.length l) : Int)) = false, List.length l * 1 = List.length (List.flatMap nmC l), 0 < 1] (.exit 2) [(0, RL rows), (1, I .i64 kind), (5, NL l), (6, I .i64 ((i : Nat) : Int)), (7, S x), (8, I .i64 ((p : Nat) : Int))] [] (by kernel_rfl) ⟨(by simp <;> omega), (by exact Eq.symm (fm_len (c := (nmC)) (fun _ => rfl) _)), (by omega), trivial⟩ (fun σ h => W.weaken h ?_)
        have hpl0 := insAt_le x l
        have hst : p = insAt x l := by omega
        have hy : l[p]? = none := List.getElem?_eq_none (by omega)
        unfold insV at hX
        rw [← hst, hy] at hX
        simp only at hX
        have hpl : p ≤ l.length := by omega
        refine W.sxP hm hF 23 1 1000 20 [.n 23 10 2 (List.length l), .b 23 10 3 false] [decide ((↑p : Int) < (↑(List.length l) : Int)) = false, List.length l * 1 = List.length (List.flatMap nmC l), 0 < 1] [(0, RL rows), (1, I .i64 kind), (5, NL l), (6, I .i64 ((i : Nat) : Int)), (7, S x), (8, I .i64 ((p : Nat) : Int))] [] (by kernel_rfl) ⟨(by simp <;> omega), (by exact Eq.symm (fm_len (c := (nmC)) (fun _ => rfl) _)), (by omega), trivial⟩ ?_
        obtain ⟨l1, hl1⟩ : ∃ q, q = l.take p ++ [x] := ⟨_, rfl⟩
        obtain ⟨l', hl'⟩ : ∃ q, q = l1 ++ l.drop p := ⟨_, rfl⟩
        have hX : namesV (rows.take (i + 1)) kind = l' := by rw [hX, hl', hl1]; simp
        have hln : l'.length = l.length + 1 := by rw [hl', hl1]; simp; omega
        refine W.sx hm hF 23 1000 20 [.t 23 11 3 (List.length l) 0 p (List.flatMap nmC (List.take p l)), .x 23 11 4 (Xt.ap p p (List.flatMap nmC (List.take p l)) (List.flatMap nmC (List.take p l))), .x 23 11 7 (Xt.ap 1 (p + 1) (nmC x) (List.flatMap nmC l1)), .r 23 11 7, .t 23 11 10 (List.length l) p (List.length l) (List.flatMap nmC (List.drop p l)), .x 23 11 11 (Xt.ap (List.length l - p) (List.length l + 1) (List.flatMap nmC (List.drop p l)) (List.flatMap nmC l')), .r 23 11 11] [List.all [AObj.dead, AObj.dead, AObj.row 1 [S x], AObj.row 1 (List.flatMap nmC l1)] (rowLt (List.length [AObj.dead, AObj.dead, AObj.row 1 [S x], AObj.row 1 (List.flatMap nmC l1)])) = true, (List.length l - p) * 1 = List.length (List.flatMap nmC (List.drop p l)), 0 < 1, List.all (List.flatMap nmC (List.drop p l)) cellAV = true, List.flatMap nmC (List.drop p l) = List.flatMap nmC (List.drop p l), 0 + (p + 1) * 1 = List.length (List.flatMap nmC l1), (List.length l + 1) * 16 ≤ 140737488355328 ∨ 16 = 1 ∧ List.length l + 1 ≤ 200000000000000, p + 1 + (List.length l - p) = List.length l + 1, List.drop 0 (List.flatMap nmC l1) ++ List.flatMap nmC (List.drop p l) = List.flatMap nmC l', (↑p : Int) = (↑p : Int), List.length l = List.length l, List.length l * 1 = List.length (List.flatMap nmC l), 0 < 1, p ≤ List.length l, List.length l ≤ List.length l, List.take ((List.length l - p) * 1) (List.drop (p * 1) (List.flatMap nmC l)) = List.flatMap nmC (List.drop p l), List.all [AObj.dead, AObj.row 1 (List.flatMap nmC (List.take p l)), AObj.row 1 [S x]] (rowLt (List.length [AObj.dead, AObj.row 1 (List.flatMap nmC (List.take p l)), AObj.row 1 [S x]])) = true, 1 = 1, 1 ≤ List.length [S x], List.all (List.take 1 (List.drop 0 [S x])) cellAV = true, List.take 1 (List.drop 0 [S x]) = nmC x, 0 + p * 1 = List.length (List.flatMap nmC (List.take p l)), (p + 1) * 16 ≤ 140737488355328 ∨ 16 = 1 ∧ p + 1 ≤ 200000000000000, p + 1 = p + 1, List.drop 0 (List.flatMap nmC (List.take p l)) ++ nmC x = List.flatMap nmC l1, p * 1 = List.length (List.flatMap nmC (List.take p l)), 0 < 1, List.all (List.flatMap nmC (List.take p l)) cellAV = true, List.flatMap nmC (List.take p l) = List.flatMap nmC (List.take p l), 0 = 0, p * 16 ≤ 140737488355328 ∨ 16 = 1 ∧ p ≤ 200000000000000, 0 + p = p, List.drop 0 [] ++ List.flatMap nmC (List.take p l) = List.flatMap nmC (List.take p l), 0 = 0, (↑p : Int) = (↑p : Int), List.length l * 1 = List.length (List.flatMap nmC l), 0 < 1, 0 ≤ p, p ≤ List.length l, List.take ((p - 0) * 1) (List.drop 0 (List.flatMap nmC l)) = List.flatMap nmC (List.take p l)] .normal [(0, RL rows), (1, I .i64 kind), (5, .sl 4 0 (l.length + 1)), (6, I .i64 ((i : Nat) : Int))] [AObj.dead, AObj.dead, AObj.row 1 [S x], AObj.dead, AObj.row 1 (List.flatMap nmC l')] (by kernel_rfl) ⟨(by first | (simp only [List.all_cons, List.all_nil, fm_row (c := keyC) (fun _ => rfl), fm_row (c := numC) (fun _ => rfl), fm_row (c := nmC) (fun _ => rfl), Bool.and_true, Bool.true_and]; rfl) | omega | decide | simp), (by first | (rw [fm_len (c := nmC) (e := 1) (fun _ => rfl)]; simp [hpl]) | omega | decide | simp), (by omega), (by exact fm_one (c := nmC) (fun _ => rfl) _), (by with_reducible rfl), (by first | (rw [fm_len (c := nmC) (e := 1) (fun _ => rfl), hl1]; simp [hpl]) | omega | decide | simp), (by omega), (by omega), (by subst hl'; exact nm_app _ _), (by rfl), (by omega), (by rw [fm_len (c := nmC) (e := 1) (fun _ => rfl)]), (by omega), (by assumption), (by omega), (by exact nm_drop l p), (by first | (simp only [List.all_cons, List.all_nil, fm_row (c := keyC) (fun _ => rfl), fm_row (c := numC) (fun _ => rfl), fm_row (c := nmC) (fun _ => rfl), Bool.and_true, Bool.true_and]; rfl) | omega | decide | simp), (by omega), (by simp <;> omega), (by rfl), (by rfl), (by first | (rw [fm_len (c := nmC) (e := 1) (fun _ => rfl)]; simp [hpl]) | omega | decide | simp), (by omega), (by omega), (by subst hl1; exact fm_snoc0 (c := nmC) (l.take p) x), (by first | (rw [fm_len (c := nmC) (e := 1) (fun _ => rfl)]; simp [hpl]) | omega | decide | simp), (by omega), (by exact fm_one (c := nmC) (fun _ => rfl) _), (by with_reducible rfl), (by omega), (by omega), (by omega), (by rw [List.drop_zero, List.nil_append]), (by omega), (by rfl), (by rw [fm_len (c := nmC) (e := 1) (fun _ => rfl)]), (by omega), (by omega), (by assumption), (by exact nm_take l p), trivial⟩ (fun σ h => W.weaken h ?_)
        exact W.sx hm hF 23 1000 20 [.z 23 4 1 ((i + 1 : Nat) : Int)] [IntKind.i64.wrap (((i : Nat) : Int) + 1) = ((i + 1 : Nat) : Int)] .normal [(0, RL rows), (1, I .i64 kind), (5, .sl 4 0 (l.length + 1)), (6, I .i64 ((i + 1 : Nat) : Int))] [AObj.dead, AObj.dead, AObj.row 1 [S x], AObj.dead, AObj.row 1 (List.flatMap nmC l')] (by kernel_rfl) ⟨i64_n i (by omega), trivial⟩ (fun σ h => ⟨i + 1, ⟨hlt, by rw [hX]; omega⟩, by omega, by rw [hX]; exact (Entry.leP h (Nat.zero_le _)).trans ((Entry.fzK [4] [(0, RL rows), (1, I .i64 kind), (5, NL l'), (6, I .i64 ((i + 1 : Nat) : Int))] ⟨.keep, .keep, .fm (c := nmC) (e := 1) (o := 4) (n := l.length + 1) (fun _ => rfl) (fun _ => rfl) rfl rfl hln, .keep, trivial⟩ (Nat.zero_le _)).trans (Entry.lnN (Nat.zero_le _) (LeN.mk' (is := []) rfl rfl (by simp) (by simp) rfl (Le.refl _))))⟩)
  · have hbb : decide (((i : Nat) : Int) < (rows.length : Nat)) = false := decide_eq_false (by omega)
    rw [List.take_of_length_le (by omega)]
    refine W.sx hm hF 23 1000 20 [.n 23 3 2 rows.length, .b 23 3 3 false] [decide (((i : Nat) : Int) < (rows.length : Nat)) = false, rows.length * 13 = (rows.flatMap rowC).length, 0 < 13] (.exit 0) [(5, NL (namesV rows kind))] [] (by kernel_rfl) ⟨hbb, Eq.symm (fm_len (c := rowC) (fun _ => rfl) _), by decide, trivial⟩ (fun σ h => W.weaken h ?_)
    exact W.sxR hm hF 23 1000 20 [] [] [.tmp 4] .ret (NL (namesV rows kind)) (by kernel_rfl) trivial (fun σ xs h1 h2 => retK.mk (.inl rfl) h1 h2)

end Go.Proofs.Ytlfedjannhceaaa
