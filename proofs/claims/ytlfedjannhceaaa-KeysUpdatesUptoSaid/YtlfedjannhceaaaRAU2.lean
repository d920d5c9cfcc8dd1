/-
  The reference: has, kept.
-/
import Derived.Test.YtlfedjannhceaaaASU2
import Derived.Test.YtlfedjannhceaaaShU2
set_option linter.unusedVariables false
set_option linter.unusedSimpArgs false
set_option maxRecDepth 100000
set_option maxHeartbeats 1000000
namespace Go.Proofs.Ytlfedjannhceaaa
open Go Go.SL Go.Proofs
def numC (a : Int) : List AV := [I .i64 a]
@[reducible] def IL (l : List Int) : AV := .im 1 (l.flatMap numC)
def nmC (a : ByteArray) : List AV := [S a]
@[reducible] def NL (l : List ByteArray) : AV := .im 1 (l.flatMap nmC)
theorem nm_take (l : List ByteArray) (p : Nat) : ((l.flatMap nmC).drop (0 * 1)).take ((p - 0) * 1) = (l.take p).flatMap nmC := by
  rw [Nat.zero_mul, List.drop_zero, Nat.sub_zero]; exact fm_take (c := nmC) (e := 1) (fun _ => rfl) l p
theorem nm_drop (l : List ByteArray) (p : Nat) : ((l.flatMap nmC).drop (p * 1)).take ((l.length - p) * 1) = (l.drop p).flatMap nmC := by
  have h := fm_drop (c := nmC) (e := 1) (fun _ => rfl) l p
  rw [h]
  apply List.take_of_length_le
  rw [fm_len (c := nmC) (e := 1) (fun _ => rfl)]; simp
theorem nm_app (a b : List ByteArray) : (a.flatMap nmC).drop 0 ++ b.flatMap nmC = (a ++ b).flatMap nmC := by simp
theorem w_has (l : List Int) (n : Int) (hl0 : l.length ≤ 4611686018427387) : Spec0 Try.prog 39 [IL l, I .i64 n] (B (decide (n ∈ l))) := by
  refine Spec0.walk Try.func39 rfl rfl ?_
  refine W.sxP hm hF 39 1 1000 20 [] [] [(0, IL l), (1, I .i64 n)] [] (by kernel_rfl) trivial ?_
  refine W.seq ?_
  refine W.seq ?_
  refine W.sx hm hF 39 1000 20 [] [] .normal [(0, IL l), (1, I .i64 n), (5, I .i64 0)] [] (by kernel_rfl) trivial (fun σ h => W.weaken h ?_)
  refine W.block ?_
  refine W.loop (fun i : Nat => ⟨tbl [(0, IL l), (1, I .i64 n), (5, I .i64 (i : Nat))], []⟩) (fun i => i ≤ l.length ∧ ∀ a ∈ l.take i, a ≠ n) (fun i => l.length - i) 0 ⟨Nat.zero_le _, by simp⟩ (Le.refl _) ?_
  rintro i ⟨hi, ha⟩
  by_cases hlt : i < l.length
  · obtain ⟨a, hget⟩ : ∃ a, l[i]? = some a := ⟨_, List.getElem?_eq_getElem hlt⟩
    cases hp : (a == n) with
    | true =>
      have e : a = n := by simpa using hp
      rw [decide_eq_true (e ▸ List.mem_of_getElem? hget)]
      exact W.sxR hm hF 39 1000 20 [.n 39 2 2 (List.length l), .b 39 2 3 true, .j 39 4 2 (List.length l) i, .l 39 4 3 (I .i64 a), .b 39 4 5 true] [(a == n) = true, (List.flatMap numC l)[i * 1]? = some (I .i64 a), List.length l * 1 = List.length (List.flatMap numC l), 0 < 1, (↑i : Int) = (↑i : Int), i < List.length l, decide ((↑i : Int) < (↑(List.length l) : Int)) = true, List.length l * 1 = List.length (List.flatMap numC l), 0 < 1] [.tmp 4] .ret (B true) (by kernel_rfl) ⟨(by assumption), (by have := fm_cell (c := (numC)) (k := 0) (fun _ => rfl) _ (by assumption) (by decide) rfl; rw [Nat.add_zero] at this; exact this), (by exact Eq.symm (fm_len (c := (numC)) (fun _ => rfl) _)), (by omega), (by rfl), (by assumption), (by simp <;> omega), (by exact Eq.symm (fm_len (c := (numC)) (fun _ => rfl) _)), (by omega), trivial⟩ (fun σ xs h1 h2 => retK.mk (.inl rfl) h1 h2)
    | false =>
      refine W.sx hm hF 39 1000 20 [.n 39 2 2 (List.length l), .b 39 2 3 true, .j 39 4 2 (List.length l) i, .l 39 4 3 (I .i64 a), .b 39 4 5 false, .x 39 3 1 (Xt.na (i + 1))] [i + 1 < cap IntKind.i64, i + 1 = i + 1, (a == n) = false, (List.flatMap numC l)[i * 1]? = some (I .i64 a), List.length l * 1 = List.length (List.flatMap numC l), 0 < 1, (↑i : Int) = (↑i : Int), i < List.length l, decide ((↑i : Int) < (↑(List.length l) : Int)) = true, List.length l * 1 = List.length (List.flatMap numC l), 0 < 1] .normal [(0, IL l), (1, I .i64 n), (5, I .i64 ((i + 1 : Nat) : Int))] [] (by kernel_rfl) ⟨(by simp [cap] <;> omega), (by rfl), (by assumption), (by have := fm_cell (c := (numC)) (k := 0) (fun _ => rfl) _ (by assumption) (by decide) rfl; rw [Nat.add_zero] at this; exact this), (by exact Eq.symm (fm_len (c := (numC)) (fun _ => rfl) _)), (by omega), (by rfl), (by assumption), (by simp <;> omega), (by exact Eq.symm (fm_len (c := (numC)) (fun _ => rfl) _)), (by omega), trivial⟩ (fun σ h => ⟨i + 1, ⟨hlt, ?_⟩, by omega, h⟩)
      intro b hb
      rw [List.take_add_one, hget] at hb
      rcases List.mem_append.1 hb with hb | hb
      · exact ha b hb
      · simp only [Option.toList_some, List.mem_singleton] at hb
        subst hb; simpa using hp
  · have hbb : decide (((i : Nat) : Int) < (l.length : Nat)) = false := decide_eq_false (by omega)
    have hn : n ∉ l := fun h => ha n (by rw [List.take_of_length_le (by omega)]; exact h) rfl
    rw [decide_eq_false hn]
    refine W.sx hm hF 39 1000 20 [.n 39 2 2 l.length, .b 39 2 3 false] [decide (((i : Nat) : Int) < (l.length : Nat)) = false, l.length * 1 = (l.flatMap numC).length, 0 < 1] (.exit 0) [] [] (by kernel_rfl) ⟨hbb, Eq.symm (fm_len (c := numC) (fun _ => rfl) _), by decide, trivial⟩ (fun σ h => W.weaken h ?_)
    exact W.sxR hm hF 39 1000 20 [] [] [.tmp 4] .ret (B false) (by kernel_rfl) trivial (fun σ xs h1 h2 => retK.mk (.inl rfl) h1 h2)
def keptStep (old : List Key) (out : List Int) (x : ByteArray) : List Int := if (findV old x).2 = true then out ++ [(findV old x).1] else out
def keptV (old : List Key) (names : List ByteArray) : List Int := names.foldl (keptStep old) []
theorem keptV_next {old : List Key} {names : List ByteArray} {i : Nat} {x : ByteArray} (h : names[i]? = some x) : keptV old (names.take (i + 1)) = keptStep old (keptV old (names.take i)) x := by
  unfold keptV
  rw [List.take_add_one, h, List.foldl_append]; rfl
theorem ints_ren (f : Nat → Nat) (l : List Int) : renO f (.row 1 (l.flatMap numC)) = .row 1 (l.flatMap numC) := by
  simp only [renO, renL_noOwn f _ (fm_no (c := numC) (fun _ => rfl) l)]
theorem w_keptS (old : List Key) (names : List ByteArray) (hold : old.length ≤ 4611686018427387) (hl1 : names.length ≤ 1034834473170) : SL.Spec Try.prog 34 [KL old, NL names] [] (SL.is (.sl 0 0 (keptV old names).length) [.row 1 ((keptV old names).flatMap numC)]) := by
  have hl0 : names.length ≤ 4611686018427387 := by omega
  refine Spec.walk Try.func34 rfl rfl ?_
  refine W.sxP hm hF 34 2 1000 20 [] [] [(0, KL old), (1, NL names), (5, .nil)] [] (by kernel_rfl) trivial ?_
  refine W.seq ?_
  refine W.seq ?_
  refine W.sx hm hF 34 1000 20 [] [] .normal [(0, KL old), (1, NL names), (5, .nil), (6, I .i64 0)] [] (by kernel_rfl) trivial (fun σ h => W.weaken h ?_)
  refine W.block ?_
  refine W.loopP 0 (fun i : Nat => ⟨tbl [(0, KL old), (1, NL names), (5, .sl 0 0 (keptV old (names.take i)).length), (6, I .i64 ((i : Nat) : Int))], [.row 1 ((keptV old (names.take i)).flatMap numC)]⟩) (fun i => i ≤ names.length ∧ (keptV old (names.take i)).length ≤ i) (fun i => names.length - i) 0 ⟨Nat.zero_le _, Nat.le_refl _⟩ rfl (fun x _ => by simp) (Entry.nil (l := [(0, KL old), (1, NL names), (5, .nil), (6, I .i64 0)]) (hp := []) 1) ?_
  rintro i ⟨hi, hol⟩
  by_cases hlt : i < names.length
  · obtain ⟨x, hget⟩ : ∃ x, names[i]? = some x := ⟨_, List.getElem?_eq_getElem hlt⟩
    have hX := keptV_next (old := old) hget
    generalize keptV old (names.take i) = out at hX hol
    have hf := w_rfindV old x hold
    unfold keptStep at hX
    obtain ⟨v, hv⟩ : ∃ v, v = (findV old x).1 := ⟨_, rfl⟩
    rw [← hv] at hf hX
    cases hb : (findV old x).2 with
    | true =>
      rw [hb] at hf
      rw [hb, if_pos rfl] at hX
      obtain ⟨out', ho'⟩ : ∃ o, o = out ++ [v] := ⟨_, rfl⟩
      rw [← ho'] at hX
      have hoe : out'.length = out.length + 1 := by rw [ho']; simp
      refine W.sx hm hF 34 1000 20 [.n 34 3 2 (List.length names), .b 34 3 3 true, .j 34 5 3 (List.length names) i, .l 34 5 4 (S x), .c 34 5 5 (AV.tup [I .i64 v, B true]), .x 34 7 3 (Xt.ap 1 (List.length out + 1) (numC v) (List.flatMap numC out')), .x 34 4 1 (Xt.na (i + 1))] [i + 1 < cap IntKind.i64, i + 1 = i + 1, 1 = 1, 1 ≤ List.length [I .i64 v], List.all (List.take 1 (List.drop 0 [I .i64 v])) cellAV = true, List.take 1 (List.drop 0 [I .i64 v]) = numC v, 0 + List.length out * 1 = List.length (List.flatMap numC out), (List.length out + 1) * 8 ≤ 140737488355328 ∨ 8 = 1 ∧ List.length out + 1 ≤ 200000000000000, List.length out + 1 = List.length out + 1, List.drop 0 (List.flatMap numC out) ++ numC v = List.flatMap numC out', Spec0 Try.prog 14 [KL old, S x] (AV.tup [I .i64 v, B true]), (List.flatMap nmC names)[i * 1]? = some (S x), List.length names * 1 = List.length (List.flatMap nmC names), 0 < 1, (↑i : Int) = (↑i : Int), i < List.length names, decide ((↑i : Int) < (↑(List.length names) : Int)) = true, List.length names * 1 = List.length (List.flatMap nmC names), 0 < 1] .normal [(0, KL old), (1, NL names), (5, .sl 2 0 (out.length + 1)), (6, I .i64 ((i + 1 : Nat) : Int))] [AObj.dead, AObj.row 1 [I .i64 v], AObj.row 1 (List.flatMap numC out')] (by kernel_rfl) ⟨(by simp [cap] <;> omega), (by rfl), (by omega), (by simp <;> omega), (by rfl), (by rfl), (by rw [fm_len (c := numC) (e := 1) (fun _ => rfl)]; omega), (by omega), (by omega), (by subst ho'; exact fm_snoc0 (c := numC) out v), hf, (by have := fm_cell (c := (nmC)) (k := 0) (fun _ => rfl) _ (by assumption) (by decide) rfl; rw [Nat.add_zero] at this; exact this), (by exact Eq.symm (fm_len (c := (nmC)) (fun _ => rfl) _)), (by omega), (by rfl), (by assumption), (by simp <;> omega), (by exact Eq.symm (fm_len (c := (nmC)) (fun _ => rfl) _)), (by omega), trivial⟩ (fun σ h => ⟨i + 1, [2], ⟨hlt, ?_⟩, by omega, ?_⟩)
      · rw [hX]; omega
      · rw [hX]
        refine LeN.mk' (is := [2]) ?_ ?_ (by simp) (by decide) rfl h
        · simp only [List.map_cons, List.map_nil, hoe]; rfl
        · simp only [List.map_cons, List.map_nil, ints_ren]; rfl
    | false =>
      rw [hb] at hf
      rw [hb, if_neg (by decide)] at hX
      refine W.sx hm hF 34 1000 20 [.n 34 3 2 (List.length names), .b 34 3 3 true, .j 34 5 3 (List.length names) i, .l 34 5 4 (S x), .c 34 5 5 (AV.tup [I .i64 v, B false]), .x 34 4 1 (Xt.na (i + 1))] [i + 1 < cap IntKind.i64, i + 1 = i + 1, Spec0 Try.prog 14 [KL old, S x] (AV.tup [I .i64 v, B false]), (List.flatMap nmC names)[i * 1]? = some (S x), List.length names * 1 = List.length (List.flatMap nmC names), 0 < 1, (↑i : Int) = (↑i : Int), i < List.length names, decide ((↑i : Int) < (↑(List.length names) : Int)) = true, List.length names * 1 = List.length (List.flatMap nmC names), 0 < 1] .normal [(0, KL old), (1, NL names), (5, .sl 0 0 out.length), (6, I .i64 ((i + 1 : Nat) : Int))] [AObj.row 1 (List.flatMap numC out)] (by kernel_rfl) ⟨(by simp [cap] <;> omega), (by rfl), hf, (by have := fm_cell (c := (nmC)) (k := 0) (fun _ => rfl) _ (by assumption) (by decide) rfl; rw [Nat.add_zero] at this; exact this), (by exact Eq.symm (fm_len (c := (nmC)) (fun _ => rfl) _)), (by omega), (by rfl), (by assumption), (by simp <;> omega), (by exact Eq.symm (fm_len (c := (nmC)) (fun _ => rfl) _)), (by omega), trivial⟩ (fun σ h => ⟨i + 1, [0], ⟨hlt, ?_⟩, by omega, ?_⟩)
      · rw [hX]; omega
      · rw [hX]
        exact LeN.mk' (is := [0]) rfl (by simp only [List.map_cons, List.map_nil, ints_ren]; rfl) (by simp) (by decide) rfl h
  · have hbb : decide (((i : Nat) : Int) < (names.length : Nat)) = false := decide_eq_false (by omega)
    rw [List.take_of_length_le (by omega)]
    refine W.sx hm hF 34 1000 20 [.n 34 3 2 names.length, .b 34 3 3 false] [decide (((i : Nat) : Int) < (names.length : Nat)) = false, names.length * 1 = (names.flatMap nmC).length, 0 < 1] (.exit 0) [(5, .sl 0 0 (keptV old names).length)] [.row 1 ((keptV old names).flatMap numC)] (by kernel_rfl) ⟨hbb, Eq.symm (fm_len (c := nmC) (fun _ => rfl) _), by decide, trivial⟩ (fun σ h => W.weaken h ?_)
    exact W.sx hm hF 34 1000 20 [] [] .ret [(4, .sl 0 0 (keptV old names).length)] [.row 1 ((keptV old names).flatMap numC)] (by kernel_rfl) trivial (fun σ h => retK.rows (is := [0]) (.inl rfl) h rfl rfl (by simp only [List.map_cons, List.map_nil, ints_ren]; rfl) (by simp) (by decide) rfl ⟨rfl, rfl⟩)
theorem w_kept (old : List Key) (names : List ByteArray) (hold : old.length ≤ 4611686018427387) (hl1 : names.length ≤ 1034834473170) : Spec0 Try.prog 34 [KL old, NL names] (IL (keptV old names)) :=
  Spec0.fz (w_keptS old names hold hl1) (Eq.symm (fm_len (c := numC) (e := 1) (fun _ => rfl) _)) (fm_no (c := numC) (fun _ => rfl) _)

end Go.Proofs.Ytlfedjannhceaaa
