/-
  Whether lists of keys are right.
-/
import Derived.Test.YtlfedjannhceaaaKGU2
set_option linter.unusedVariables false
set_option linter.unusedSimpArgs false
set_option maxRecDepth 100000
set_option maxHeartbeats 1000000
namespace Go.Proofs.Ytlfedjannhceaaa
open Go Go.SL Go.Proofs
def bod (f : Func) : Code := f.body.getD .skip
def lps : Nat → Code → List Code
  | 0, _ => []
  | m + 1, c => match c with
    | .seq a b => lps m a ++ lps m b
    | .cond _ a b => lps m a ++ lps m b
    | .block _ a => lps m a
    | .loop a => a :: lps m a
    | .scope a => lps m a
    | _ => []
/-- the body of loop k -/
def lpb (k : Nat) (f : Func) : Code := (nth (lps 200 (bod f)) k).getD .skip
def leqS (x y : ByteArray) : Bool := Op.bytesLess x.toList y.toList || x.toList == y.toList
/-- Do names rise, behind one? -/
def risP : Option Key → List Key → Bool
  | _, [] => true
  | p, k :: l => (match p with | some q => !leqS k.name q.name | none => true) && risP (some k) l
def risV (l : List Key) : Bool := risP none l
def prevK (l : List Key) (i : Nat) : Option Key := if i = 0 then none else l[i - 1]?
theorem risP_next {l : List Key} {i : Nat} {k : Key} (hget : l[i]? = some k) (h : risV l = risP (prevK l i) (l.drop i)) (hp : (match prevK l i with | some q => !leqS k.name q.name | none => true) = true) : risV l = risP (prevK l (i + 1)) (l.drop (i + 1)) := by
  rw [h, drop_get hget]
  show (_ && risP (some k) (l.drop (i + 1))) = _
  rw [show (match prevK l i with | some q => !leqS k.name q.name | none => true) = true from hp]
  unfold prevK
  simp [hget]
/-- Are the numbers of a list right, and not had? What is had behind it. -/
def chkL (most : Int) : List Int → List Key → Option (List Int)
  | hs, [] => some hs
  | hs, k :: l => if k.num < 1 ∨ k.num > most ∨ k.num ∈ hs then none else chkL most (hs ++ [k.num]) l
def rightV (most : Int) (a b : List Key) : Bool := risV a && (match chkL most [] a with | some hs => risV b && (chkL most hs b).isSome | none => false)
theorem fm_cell0 {l : List Key} {i : Nat} {k : Key} (h : l[i]? = some k) : (l.flatMap keyC)[i * 2 + 0]? = some (AV.sc (.string k.name)) := fm_cell (c := keyC) (fun _ => rfl) _ h (by decide) rfl

theorem w_rising (l : List Key) (hl0 : l.length ≤ 4611686018427387) : Spec0 Try.prog 28 [KL l] (B (risV l)) := by
  have hl := Eq.symm (fm_len (c := keyC) (e := 2) (fun _ => rfl) l)
  refine Spec0.walk Try.func28 rfl rfl ?_
  refine W.sxP hm hF 28 1 1000 20 [] [] [(0, KL l)] [] (by kernel_rfl) trivial ?_
  refine W.seq ?_
  refine W.seq ?_
  refine W.sx hm hF 28 1000 20 [.n 28 1 1 l.length] [l.length * 2 = (l.flatMap keyC).length, 0 < 2] .normal [(0, KL l), (5, I .i64 (l.length : Nat)), (6, I .i64 0)] [] (by kernel_rfl) ⟨hl, by decide, trivial⟩ (fun σ h => W.weaken h ?_)
  refine W.block ?_
  refine W.loop (fun i : Nat => ⟨tbl [(0, KL l), (5, I .i64 (l.length : Nat)), (6, I .i64 ((i : Nat) : Int))], []⟩) (fun i => i ≤ l.length ∧ risV l = risP (prevK l i) (l.drop i)) (fun i => l.length - i) 0 ⟨Nat.zero_le _, rfl⟩ (Le.refl _) ?_
  rintro i ⟨hi, ha⟩
  by_cases hlt : i < l.length
  · obtain ⟨k, hget⟩ : ∃ k, l[i]? = some k := ⟨_, List.getElem?_eq_getElem hlt⟩
    by_cases h0 : i = 0
    · exact W.sx hm hF 28 1000 20 [.b 28 2 0 true, .b 28 4 1 false, .x 28 6 0 (Xt.na (i + 1))] [i + 1 < cap IntKind.i64, i + 1 = i + 1, decide ((↑i : Int) > 0) = false, decide ((↑i : Int) < (↑(List.length l) : Int)) = true] .normal [(0, KL l), (5, I .i64 (l.length : Nat)), (6, I .i64 ((i + 1 : Nat) : Int))] [] (by kernel_rfl) ⟨(by simp [cap] <;> omega), (by rfl), (by simp <;> omega), (by simp <;> omega), trivial⟩ (fun σ h => ⟨i + 1, ⟨hlt, risP_next hget ha (by unfold prevK; rw [if_pos h0])⟩, by omega, h⟩)
    · have hi0 : 0 < i := by omega
      obtain ⟨p, hgp⟩ : ∃ p, l[i - 1]? = some p := ⟨_, List.getElem?_eq_getElem (by omega)⟩
      have hpk : prevK l i = some p := by unfold prevK; rw [if_neg h0, hgp]
      cases hle : leqS k.name p.name with
      | false => exact W.sx hm hF 28 1000 20 [.b 28 2 0 true, .b 28 4 1 true, .j 28 4 5 (List.length l) i, .l 28 4 7 (S k.name), .z 28 4 10 (↑(i - 1) : Int), .j 28 4 11 (List.length l) (i - 1), .l 28 4 13 (S p.name), .b 28 4 14 false, .x 28 6 0 (Xt.na (i + 1))] [i + 1 < cap IntKind.i64, i + 1 = i + 1, (Op.bytesLess (ByteArray.toList k.name) (ByteArray.toList p.name) || ByteArray.toList k.name == ByteArray.toList p.name) = false, (List.flatMap keyC l)[(i - 1) * 2 + 0]? = some (S p.name), List.length l * 2 = List.length (List.flatMap keyC l), 0 < 2, (↑(i - 1) : Int) = (↑(i - 1) : Int), i - 1 < List.length l, IntKind.wrap IntKind.i64 ((↑i : Int) - 1) = (↑(i - 1) : Int), (List.flatMap keyC l)[i * 2 + 0]? = some (S k.name), List.length l * 2 = List.length (List.flatMap keyC l), 0 < 2, (↑i : Int) = (↑i : Int), i < List.length l, decide ((↑i : Int) > 0) = true, decide ((↑i : Int) < (↑(List.length l) : Int)) = true] .normal [(0, KL l), (5, I .i64 (l.length : Nat)), (6, I .i64 ((i + 1 : Nat) : Int))] [] (by kernel_rfl) ⟨(by simp [cap] <;> omega), (by rfl), (by assumption), (by exact fm_cell0 (by assumption)), (by exact Eq.symm (fm_len (c := (keyC)) (fun _ => rfl) _)), (by omega), (by rfl), (by omega), (by rw [IntWalk.i64_in _ (by omega)]; omega), (by exact fm_cell0 (by assumption)), (by exact Eq.symm (fm_len (c := (keyC)) (fun _ => rfl) _)), (by omega), (by rfl), (by assumption), (by simp <;> omega), (by simp <;> omega), trivial⟩ (fun σ h => ⟨i + 1, ⟨hlt, risP_next hget ha (by rw [hpk]; simp only [hle]; rfl)⟩, by omega, h⟩)
      | true =>
        have hv : risV l = false := by
          rw [ha, drop_get hget, hpk]
          show (!leqS k.name p.name && _) = false
          rw [hle]; rfl
        rw [hv]
        exact W.sxR hm hF 28 1000 20 [.b 28 2 0 true, .b 28 4 1 true, .j 28 4 5 (List.length l) i, .l 28 4 7 (S k.name), .z 28 4 10 (↑(i - 1) : Int), .j 28 4 11 (List.length l) (i - 1), .l 28 4 13 (S p.name), .b 28 4 14 true] [(Op.bytesLess (ByteArray.toList k.name) (ByteArray.toList p.name) || ByteArray.toList k.name == ByteArray.toList p.name) = true, (List.flatMap keyC l)[(i - 1) * 2 + 0]? = some (S p.name), List.length l * 2 = List.length (List.flatMap keyC l), 0 < 2, (↑(i - 1) : Int) = (↑(i - 1) : Int), i - 1 < List.length l, IntKind.wrap IntKind.i64 ((↑i : Int) - 1) = (↑(i - 1) : Int), (List.flatMap keyC l)[i * 2 + 0]? = some (S k.name), List.length l * 2 = List.length (List.flatMap keyC l), 0 < 2, (↑i : Int) = (↑i : Int), i < List.length l, decide ((↑i : Int) > 0) = true, decide ((↑i : Int) < (↑(List.length l) : Int)) = true] [.tmp 2] .ret (B false) (by kernel_rfl) ⟨(by assumption), (by exact fm_cell0 (by assumption)), (by exact Eq.symm (fm_len (c := (keyC)) (fun _ => rfl) _)), (by omega), (by rfl), (by omega), (by rw [IntWalk.i64_in _ (by omega)]; omega), (by exact fm_cell0 (by assumption)), (by exact Eq.symm (fm_len (c := (keyC)) (fun _ => rfl) _)), (by omega), (by rfl), (by assumption), (by simp <;> omega), (by simp <;> omega), trivial⟩ (fun σ xs h1 h2 => retK.mk (.inl rfl) h1 h2)
  · have hb : decide (((i : Nat) : Int) < (l.length : Nat)) = false := decide_eq_false (by omega)
    have hv : risV l = true := by
      rw [ha, List.drop_eq_nil_of_le (by omega)]
      cases prevK l i <;> rfl
    rw [hv]
    refine W.sx hm hF 28 1000 20 [.b 28 2 0 false] [decide (((i : Nat) : Int) < (l.length : Nat)) = false] (.exit 0) [] [] (by kernel_rfl) ⟨hb, trivial⟩ (fun σ h => W.weaken h ?_)
    exact W.sxR hm hF 28 1000 20 [] [] [.tmp 2] .ret (B true) (by kernel_rfl) trivial (fun σ xs h1 h2 => retK.mk (.inl rfl) h1 h2)
theorem rg_inner (mst jj : Int) (l : List Key) (ls : AV) (hls : idsLt 1 ls = true) (hs0 : List Int) (hl0 : l.length ≤ 4611686018427387) (K : Exit → SS → Prop)
    (hret : chkL mst hs0 l = none → ∀ σ xs, Res Try.prog [.tmp 4] σ xs → Cv 0 σ.hp (oneAV xs) [] (B false) → K .ret σ)
    (hex : ∀ hs, chkL mst hs0 l = some hs → ∀ σ, Le ⟨tbl [(0, I .i64 mst), (5, .mp 0), (11, ls), (12, I .i64 2), (13, I .i64 jj)], [hadO hs]⟩ σ → K (.exit 2) σ) :
    W Try.prog 46 (.loop (lpb 1 Try.f17)) K ⟨tbl [(0, I .i64 mst), (5, .mp 0), (11, ls), (12, I .i64 2), (13, I .i64 jj), (20, KL l), (21, I .i64 (l.length : Nat)), (22, I .i64 ((0 : Nat) : Int))], [hadO hs0]⟩ := by
  refine W.loopD 1 (fun q : Nat × List Int => ⟨tbl [(0, I .i64 mst), (5, .mp 0), (11, ls), (12, I .i64 2), (13, I .i64 jj), (20, KL l), (21, I .i64 (l.length : Nat)), (22, I .i64 ((q.1 : Nat) : Int))], [hadO q.2]⟩) (fun q => q.1 ≤ l.length ∧ chkL mst hs0 l = chkL mst q.2 (l.drop q.1)) (fun q => l.length - q.1) (0, hs0) ⟨Nat.zero_le _, rfl⟩ rfl (Le.refl _) ?_
  rintro ⟨i, hs⟩ ⟨hi, ha⟩
  simp only at hi ha
  have hno := hadC_no hs
  by_cases hlt : i < l.length
  · obtain ⟨k, hget⟩ : ∃ k, l[i]? = some k := ⟨_, List.getElem?_eq_getElem hlt⟩
    have hdr := drop_get hget
    rw [hdr] at ha
    by_cases h1 : k.num < 1
    · have h := h1
      exact W.sxR hm hF 17 1000 20 [.b 17 8 0 true, .j 17 9 0 (List.length l) i, .l 17 9 1 (AV.agg (keyC k)), .b 17 10 2 true] [decide (k.num < 1) = true, List.take 2 (List.drop (i * 2) (List.flatMap keyC l)) = keyC k, i * 2 + 2 ≤ List.length (List.flatMap keyC l), List.length l * 2 = List.length (List.flatMap keyC l), 0 < 2, (↑i : Int) = (↑i : Int), i < List.length l, decide ((↑i : Int) < (↑(List.length l) : Int)) = true] [.tmp 4] .ret (B false) (by kernel_rfl) ⟨(by simp <;> omega), (by exact fm_at (c := (keyC)) (fun _ => rfl) _ (by assumption)), (by exact fm_bound (c := (keyC)) (fun _ => rfl) _ (by omega)), (by exact Eq.symm (fm_len (c := (keyC)) (fun _ => rfl) _)), (by omega), (by rfl), (by assumption), (by simp <;> omega), trivial⟩ (hret (by rw [ha]; unfold chkL; rw [if_pos (.inl h1)]))
    · by_cases h2 : k.num > mst
      · have h := h2
        exact W.sxR hm hF 17 1000 20 [.b 17 8 0 true, .j 17 9 0 (List.length l) i, .l 17 9 1 (AV.agg (keyC k)), .b 17 10 2 false, .b 17 10 7 true] [decide (k.num > mst) = true, decide (k.num < 1) = false, List.take 2 (List.drop (i * 2) (List.flatMap keyC l)) = keyC k, i * 2 + 2 ≤ List.length (List.flatMap keyC l), List.length l * 2 = List.length (List.flatMap keyC l), 0 < 2, (↑i : Int) = (↑i : Int), i < List.length l, decide ((↑i : Int) < (↑(List.length l) : Int)) = true] [.tmp 4] .ret (B false) (by kernel_rfl) ⟨(by simp <;> omega), (by simp <;> omega), (by exact fm_at (c := (keyC)) (fun _ => rfl) _ (by assumption)), (by exact fm_bound (c := (keyC)) (fun _ => rfl) _ (by omega)), (by exact Eq.symm (fm_len (c := (keyC)) (fun _ => rfl) _)), (by omega), (by rfl), (by assumption), (by simp <;> omega), trivial⟩ (hret (by rw [ha]; unfold chkL; rw [if_pos (.inr (.inl h2))]))
      · by_cases hm1 : k.num ∈ hs
        · obtain ⟨j, q1, q2, q3⟩ := had_some hm1
          have hA : findAV Try.prog 3 (I .i64 k.num) ((hadC hs).take (List.range hs.length).length) 0 = some (some j) := by rw [had_find, q1]
          have hy := hadC_val q2
          exact W.sxR hm hF 17 1000 20 [.b 17 8 0 true, .j 17 9 0 (List.length l) i, .l 17 9 1 (AV.agg (keyC k)), .b 17 10 2 false, .b 17 10 7 false, .x 17 10 13 (Xt.mk (some j) (B true) [] [])] [findAV Try.prog 3 (I .i64 k.num) (List.take (List.length (List.range hs.length)) (hadC hs)) 0 = some (some j), (hadC hs)[List.length (List.range hs.length) + j]? = some (B true), decide (k.num > mst) = false, decide (k.num < 1) = false, List.take 2 (List.drop (i * 2) (List.flatMap keyC l)) = keyC k, i * 2 + 2 ≤ List.length (List.flatMap keyC l), List.length l * 2 = List.length (List.flatMap keyC l), 0 < 2, (↑i : Int) = (↑i : Int), i < List.length l, decide ((↑i : Int) < (↑(List.length l) : Int)) = true] [.tmp 4] .ret (B false) (by kernel_rfl) ⟨(by assumption), (by assumption), (by simp <;> omega), (by simp <;> omega), (by exact fm_at (c := (keyC)) (fun _ => rfl) _ (by assumption)), (by exact fm_bound (c := (keyC)) (fun _ => rfl) _ (by omega)), (by exact Eq.symm (fm_len (c := (keyC)) (fun _ => rfl) _)), (by omega), (by rfl), (by assumption), (by simp <;> omega), trivial⟩ (hret (by rw [ha]; unfold chkL; rw [if_pos (.inr (.inr hm1))]))
        · have hA : findAV Try.prog 3 (I .i64 k.num) ((hadC hs).take (List.range hs.length).length) 0 = some none := by rw [had_find, had_no hm1]
          obtain ⟨hs2, hh2⟩ : ∃ h, h = hs ++ [k.num] := ⟨_, rfl⟩
          have hB : updB none (List.range hs.length) hs.length = List.range hs2.length := by rw [hh2]; exact had_upd_births hs k.num
          have hC : updV (List.range hs.length).length none (I .i64 k.num) (B true) (hadC hs) = hadC hs2 := by rw [hh2]; exact had_upd_new hs k.num
          have hD : ∀ j, (none : Option Nat) = some j → (hadC hs)[j]? = some (I .i64 k.num) := fun j e => by simp at e
          have hK : updK none hs.length = hs2.length := by rw [hh2]; simp [updK]
          refine W.sx hm hF 17 1000 20 [.b 17 8 0 true, .j 17 9 0 (List.length l) i, .l 17 9 1 (AV.agg (keyC k)), .b 17 10 2 false, .b 17 10 7 false, .x 17 10 13 (Xt.mk none (B true) [] []), .x 17 12 3 (Xt.mk none (B true) (List.range hs2.length) (hadC hs2)), .x 17 13 0 (Xt.na (i + 1))] [i + 1 < cap IntKind.i64, i + 1 = i + 1, findAV Try.prog 3 (I .i64 k.num) (List.take (List.length (List.range hs.length)) (hadC hs)) 0 = some none, updB none (List.range hs.length) hs.length = (List.range hs2.length), updV (List.length (List.range hs.length)) none (I .i64 k.num) (B true) (hadC hs) = (hadC hs2), ∀ (j : Nat), none = some j → (hadC hs)[j]? = some (I .i64 k.num), findAV Try.prog 3 (I .i64 k.num) (List.take (List.length (List.range hs.length)) (hadC hs)) 0 = some none, decide (k.num > mst) = false, decide (k.num < 1) = false, List.take 2 (List.drop (i * 2) (List.flatMap keyC l)) = keyC k, i * 2 + 2 ≤ List.length (List.flatMap keyC l), List.length l * 2 = List.length (List.flatMap keyC l), 0 < 2, (↑i : Int) = (↑i : Int), i < List.length l, decide ((↑i : Int) < (↑(List.length l) : Int)) = true] .normal [(0, I .i64 mst), (5, .mp 0), (11, ls), (12, I .i64 2), (13, I .i64 jj), (20, KL l), (21, I .i64 (l.length : Nat)), (22, I .i64 ((i + 1 : Nat) : Int))] [.ob (.map (List.range hs2.length) (updK none hs.length)) (hadC hs2), .row 1 (keyC k)] (by kernel_rfl) ⟨(by simp [cap] <;> omega), (by rfl), (by assumption), (by assumption), (by assumption), (by assumption), (by assumption), (by simp <;> omega), (by simp <;> omega), (by exact fm_at (c := (keyC)) (fun _ => rfl) _ (by assumption)), (by exact fm_bound (c := (keyC)) (fun _ => rfl) _ (by omega)), (by exact Eq.symm (fm_len (c := (keyC)) (fun _ => rfl) _)), (by omega), (by rfl), (by assumption), (by simp <;> omega), trivial⟩ (fun σ h => ⟨(i + 1, hs2), ⟨hlt, by rw [ha]; conv => lhs; unfold chkL; rw [if_neg (by simp only [h1, h2, hm1, or_self, not_false_eq_true]), ← hh2]⟩, by simp only; omega, ?_⟩)
          rw [hK] at h
          exact LeD.mk (by simp only [cutOk, List.length_cons, List.length_nil, List.take_succ_cons, List.take_zero, List.all_cons, List.all_nil, rowLt, hadC_no, hls, Bool.true_or, Bool.and_true, Bool.true_and]; rfl) rfl h
  · have hb : decide (((i : Nat) : Int) < (l.length : Nat)) = false := decide_eq_false (by omega)
    have he : chkL mst hs0 l = some hs := by rw [ha, List.drop_eq_nil_of_le (by omega)]; rfl
    exact W.sx hm hF 17 1000 20 [.b 17 8 0 false] [decide (((i : Nat) : Int) < (l.length : Nat)) = false] (.exit 2) [(0, I .i64 mst), (5, .mp 0), (11, ls), (12, I .i64 2), (13, I .i64 jj)] [hadO hs] (by kernel_rfl) ⟨hb, trivial⟩ (hex hs he)
theorem w_right (mst : Int) (a b : List Key) (ha0 : a.length ≤ 4611686018427387) (hb0 : b.length ≤ 4611686018427387) : Spec0 Try.prog 17 [I .i64 mst, .im 1 [KL a, KL b]] (B (rightV mst a b)) := by
  have hla := Eq.symm (fm_len (c := keyC) (e := 2) (fun _ => rfl) a)
  have hlb := Eq.symm (fm_len (c := keyC) (e := 2) (fun _ => rfl) b)
  have hra := w_rising a ha0
  have hrb := w_rising b hb0
  refine Spec0.walk Try.func17 rfl rfl ?_
  refine W.sxP hm hF 17 2 1000 20 [] [] [(0, I .i64 mst), (1, .im 1 [KL a, KL b]), (5, .mp 0)] [hadO []] (by kernel_rfl) trivial ?_
  refine W.seq ?_
  refine W.seq ?_
  refine W.sx hm hF 17 1000 20 [] [] .normal [(0, I .i64 mst), (5, .mp 0), (11, .im 1 [KL a, KL b]), (12, I .i64 2), (13, I .i64 0)] [hadO []] (by kernel_rfl) trivial (fun σ h => W.weaken h ?_)
  refine W.block ?_
  refine W.loopN 2 ?_
  refine W.sxP hm hF 17 2 1000 20 [] [] [(0, I .i64 mst), (5, .mp 0), (11, .im 1 [KL a, KL b]), (12, I .i64 2), (13, I .i64 0)] [hadO []] (by kernel_rfl) trivial ?_
  refine W.seq ?_
  refine W.block ?_
  cases hva : risV a
  · have hv : rightV mst a b = false := by unfold rightV; rw [hva]; rfl
    rw [hv]
    rw [hva] at hra
    exact W.sxR hm hF 17 1000 20 [.c 17 5 1 (B false)] [Spec0 Try.prog 28 [KL a] (B false)] [.tmp 4] .ret (B false) (by kernel_rfl) ⟨hra, trivial⟩ (fun σ xs h1 h2 => retK.mk (.inl rfl) h1 h2)
  rw [hva] at hra
  refine W.sxP hm hF 17 3 1000 20 [.c 17 5 1 (B true), .n 17 7 1 a.length] [a.length * 2 = (a.flatMap keyC).length, 0 < 2, Spec0 Try.prog 28 [KL a] (B true)] [(0, I .i64 mst), (5, .mp 0), (11, .im 1 [KL a, KL b]), (12, I .i64 2), (13, I .i64 0), (20, KL a), (21, I .i64 (a.length : Nat)), (22, I .i64 ((0 : Nat) : Int))] [hadO []] (by kernel_rfl) ⟨hla, by decide, hra, trivial⟩ ?_
  refine W.block ?_
  refine rg_inner mst 0 a (.im 1 [KL a, KL b]) rfl [] ha0 _ (fun he σ xs h1 h2 => ?_) (fun hsa hea σ h => W.weaken h ?_)
  · have hv : rightV mst a b = false := by unfold rightV; rw [hva, he]; rfl
    rw [hv]
    exact retK.mk (.inl rfl) h1 h2
  refine W.sx hm hF 17 1000 20 [] [] .normal [(0, I .i64 mst), (5, .mp 0), (11, .im 1 [KL a, KL b]), (12, I .i64 2), (13, I .i64 1)] [hadO hsa] (by kernel_rfl) trivial (fun σ h => W.weaken h ?_)
  refine W.sxP hm hF 17 2 1000 20 [] [] [(0, I .i64 mst), (5, .mp 0), (11, .im 1 [KL a, KL b]), (12, I .i64 2), (13, I .i64 1)] [hadO hsa] (by kernel_rfl) trivial ?_
  refine W.seq ?_
  refine W.block ?_
  cases hvb : risV b
  · have hv : rightV mst a b = false := by unfold rightV; rw [hva, hea]; simp only; rw [hvb]; rfl
    rw [hv]
    rw [hvb] at hrb
    exact W.sxR hm hF 17 1000 20 [.c 17 5 1 (B false)] [Spec0 Try.prog 28 [KL b] (B false)] [.tmp 4] .ret (B false) (by kernel_rfl) ⟨hrb, trivial⟩ (fun σ xs h1 h2 => retK.mk (.inl rfl) h1 h2)
  rw [hvb] at hrb
  refine W.sxP hm hF 17 3 1000 20 [.c 17 5 1 (B true), .n 17 7 1 b.length] [b.length * 2 = (b.flatMap keyC).length, 0 < 2, Spec0 Try.prog 28 [KL b] (B true)] [(0, I .i64 mst), (5, .mp 0), (11, .im 1 [KL a, KL b]), (12, I .i64 2), (13, I .i64 1), (20, KL b), (21, I .i64 (b.length : Nat)), (22, I .i64 ((0 : Nat) : Int))] [hadO hsa] (by kernel_rfl) ⟨hlb, by decide, hrb, trivial⟩ ?_
  refine W.block ?_
  refine rg_inner mst 1 b (.im 1 [KL a, KL b]) rfl hsa hb0 _ (fun he σ xs h1 h2 => ?_) (fun hsb heb σ h => W.weaken h ?_)
  · have hv : rightV mst a b = false := by unfold rightV; rw [hva, hea]; simp only; rw [hvb, he]; rfl
    rw [hv]
    exact retK.mk (.inl rfl) h1 h2
  refine W.sx hm hF 17 1000 20 [] [] .normal [(0, I .i64 mst), (5, .mp 0), (11, .im 1 [KL a, KL b]), (12, I .i64 2), (13, I .i64 2)] [hadO hsb] (by kernel_rfl) trivial (fun σ h => W.weaken h ?_)

  refine W.sx hm hF 17 1000 20 [] [] (.exit 0) [] [hadO hsb] (by kernel_rfl) trivial (fun σ h => W.weaken h ?_)
  have hv : rightV mst a b = true := by unfold rightV; rw [hva, hea]; simp only; rw [hvb, heb]; rfl
  rw [hv]
  exact W.sxR hm hF 17 1000 20 [] [] [.tmp 4] .ret (B true) (by kernel_rfl) trivial (fun σ xs h1 h2 => retK.mk (.inl rfl) h1 h2)

end Go.Proofs.Ytlfedjannhceaaa
