/-
  Numbers given to those that have none: give.
-/
import Derived.Test.YtlfedjannhceaaaKQU2
set_option linter.unusedVariables false
set_option linter.unusedSimpArgs false
set_option maxRecDepth 100000
set_option maxHeartbeats 1000000
namespace Go.Proofs.Ytlfedjannhceaaa
open Go Go.SL Go.Proofs
theorem fm_set1 : ∀ (l : List Key) {i : Nat} {k : Key} (x : Int), l[i]? = some k → splice (l.flatMap keyC) (0 + i * 2 + 1) [I .i64 x] = (l.set i ⟨k.name, x⟩).flatMap keyC
  | [], i, k, x, h => by simp at h
  | a :: l, 0, k, x, h => by
    simp only [List.getElem?_cons_zero, Option.some.injEq] at h
    subst h
    simp [splice, keyC]
  | a :: l, i + 1, k, x, h => by
    simp only [List.getElem?_cons_succ] at h
    have ih := fm_set1 l x h
    unfold splice at ih ⊢
    have e : 0 + (i + 1) * 2 + 1 = (0 + i * 2 + 1) + 2 := by omega
    rw [e]
    simp only [List.flatMap_cons, List.set_cons_succ, keyC, List.cons_append, List.nil_append, List.length_cons, List.length_nil] at ih ⊢
    rw [show 0 + i * 2 + 1 + 2 + (0 + 1) = (0 + i * 2 + 1 + (0 + 1)) + 2 by omega]
    simp only [List.take_succ_cons, List.drop_succ_cons, List.cons_append, ih]
theorem fm_cell1 {l : List Key} {i : Nat} {k : Key} (h : l[i]? = some k) : (l.flatMap keyC)[0 + i * 2 + 1]? = some (AV.sc (.int .i64 k.num)) := by
  rw [Nat.zero_add]; exact fm_cell (c := keyC) (fun _ => rfl) _ h (by decide) rfl
theorem fm_bound1 {l : List Key} {i : Nat} (h : i < l.length) : 0 + i * 2 + 1 + 1 ≤ (l.flatMap keyC).length := by rw [fm_len (c := keyC) (e := 2) (fun _ => rfl)]; omega
def cntN (hs : List Int) (n : Int) : Nat := (hs.filter fun a => decide (n ≤ a)).length
theorem cntN_lt : ∀ {hs : List Int} {n : Int}, n ∈ hs → cntN hs (n + 1) < cntN hs n := by
  intro hs n h
  have hle : ∀ hs : List Int, cntN hs (n + 1) ≤ cntN hs n := by
    intro hs
    induction hs with
    | nil => exact Nat.le_refl _
    | cons a hs ih =>
      unfold cntN at ih ⊢
      by_cases h1 : n + 1 ≤ a
      · rw [List.filter_cons_of_pos (by simpa using h1), List.filter_cons_of_pos (by simp; omega)]
        simp only [List.length_cons]; omega
      · rw [List.filter_cons_of_neg (by simpa using h1)]
        by_cases h2 : n ≤ a
        · rw [List.filter_cons_of_pos (by simpa using h2)]; simp only [List.length_cons]; omega
        · rw [List.filter_cons_of_neg (by simpa using h2)]; exact ih
  induction hs with
  | nil => simp at h
  | cons a hs ih =>
    by_cases ha : n = a
    · subst ha
      have := hle hs
      unfold cntN at this ⊢
      rw [List.filter_cons_of_neg (by simp; omega), List.filter_cons_of_pos (by simp)]
      simp only [List.length_cons]; omega
    · have h' : n ∈ hs := by simpa [ha] using h
      have := ih h'
      unfold cntN at this ⊢
      by_cases h1 : n + 1 ≤ a
      · rw [List.filter_cons_of_pos (by simpa using h1), List.filter_cons_of_pos (by simp; omega)]
        simp only [List.length_cons]; omega
      · rw [List.filter_cons_of_neg (by simpa using h1)]
        by_cases h2 : n ≤ a
        · rw [List.filter_cons_of_pos (by simpa using h2)]; simp only [List.length_cons]; omega
        · rw [List.filter_cons_of_neg (by simpa using h2)]; exact this
/-- The first number from n on that is not had. -/
def nfree (hs : List Int) (n : Int) : Int := if h : n ∈ hs then nfree hs (n + 1) else n
termination_by cntN hs n
decreasing_by exact cntN_lt h
theorem nfree_in {hs : List Int} {n : Int} (h : n ∈ hs) : nfree hs n = nfree hs (n + 1) := by rw [nfree, dif_pos h]
theorem nfree_out {hs : List Int} {n : Int} (h : n ∉ hs) : nfree hs n = n := by rw [nfree, dif_neg h]
/-- Numbers for those that have none. -/
def giveL : List Int → Int → List Key → List Int × Int × List Key
  | hs, nx, [] => (hs, nx, [])
  | hs, nx, k :: l => if k.num > 0 then ((giveL hs nx l).1, (giveL hs nx l).2.1, k :: (giveL hs nx l).2.2)
    else ((giveL (hs ++ [nfree hs nx]) (nfree hs nx) l).1, (giveL (hs ++ [nfree hs nx]) (nfree hs nx) l).2.1, ⟨k.name, nfree hs nx⟩ :: (giveL (hs ++ [nfree hs nx]) (nfree hs nx) l).2.2)
theorem giveL_len : ∀ (l : List Key) (hs : List Int) (nx : Int), (giveL hs nx l).2.2.length = l.length
  | [], _, _ => rfl
  | k :: l, hs, nx => by
    unfold giveL
    split <;> simp [giveL_len l]

theorem w_give (l0 : List Key) (hs0 : List Int) (nx0 mx C : Int) (hC : C ≤ 1099511627776) (hb0 : ∀ a ∈ hs0, a ≤ C) (hn0 : 0 ≤ nx0) (hn1 : nx0 ≤ C + 1) (hl00 : l0.length ≤ 4398046511104) :
    SL.Spec Try.prog 21 [.ptr 1 0, .sl 2 0 l0.length] [hadO hs0, poolO nx0 mx, .row 2 (l0.flatMap keyC)] (SL.is (B (decide ((giveL hs0 nx0 l0).2.1 ≤ mx))) [hadO (giveL hs0 nx0 l0).1, poolO (giveL hs0 nx0 l0).2.1 mx, .row 2 ((giveL hs0 nx0 l0).2.2.flatMap keyC)]) := by
  refine Spec.walk Try.func21 rfl rfl ?_
  refine W.sxP hm hF 21 1 1000 20 [] [] [(0, .ptr 1 0), (1, .sl 2 0 l0.length)] [hadO hs0, poolO nx0 mx, .row 2 (l0.flatMap keyC)] (by kernel_rfl) trivial ?_
  refine W.seq ?_
  refine W.seq ?_
  refine W.sx hm hF 21 1000 20 [] [] .normal [(0, .ptr 1 0), (1, .sl 2 0 l0.length), (7, I .i64 (l0.length : Nat)), (8, I .i64 0)] [hadO hs0, poolO nx0 mx, .row 2 (l0.flatMap keyC)] (by kernel_rfl) trivial (fun σ h => W.weaken h ?_)
  refine W.block ?_
  refine W.loop (fun q : Nat × List Int × Int × List Key => ⟨tbl [(0, .ptr 1 0), (1, .sl 2 0 q.2.2.2.length), (7, I .i64 (q.2.2.2.length : Nat)), (8, I .i64 ((q.1 : Nat) : Int))], [hadO q.2.1, poolO q.2.2.1 mx, .row 2 (q.2.2.2.flatMap keyC)]⟩)
    (fun q => q.1 ≤ l0.length ∧ q.2.2.2.length = l0.length ∧ giveL hs0 nx0 l0 = ((giveL q.2.1 q.2.2.1 (q.2.2.2.drop q.1)).1, (giveL q.2.1 q.2.2.1 (q.2.2.2.drop q.1)).2.1, q.2.2.2.take q.1 ++ (giveL q.2.1 q.2.2.1 (q.2.2.2.drop q.1)).2.2) ∧ (∀ a ∈ q.2.1, a ≤ C + (q.1 : Nat)) ∧ 0 ≤ q.2.2.1 ∧ q.2.2.1 ≤ C + 1 + (q.1 : Nat)) (fun q => l0.length - q.1) (0, hs0, nx0, l0)
    ⟨Nat.zero_le _, rfl, by simp, by simpa using hb0, hn0, by simpa using hn1⟩ (Le.refl _) ?_
  rintro ⟨i, hs, nx, l⟩ ⟨hi, hll, hg, hb, hp0, hp1⟩
  simp only at hi hll hg hb hp0 hp1
  have hno := hadC_no hs
  have hl0 : l.length ≤ 4611686018427387 := by omega
  by_cases hlt0 : i < l0.length
  · have hlt : i < l.length := by omega
    obtain ⟨k, hget⟩ : ∃ k, l[i]? = some k := ⟨_, List.getElem?_eq_getElem hlt⟩
    have hdr := drop_get hget
    cases hk : decide (k.num > 0) with
    | true =>
      have hkk : k.num > 0 := of_decide_eq_true hk
      refine W.sx hm hF 21 1000 20 [.b 21 2 0 true, .j 21 4 2 0 i, .l 21 4 4 (I .i64 k.num), .b 21 4 5 true, .x 21 9 0 (Xt.na (i + 1))] [i + 1 < cap IntKind.i64, i + 1 = i + 1, decide (k.num > 0) = true, (List.flatMap keyC l)[0 + i * 2 + 1]? = some (I .i64 k.num), (↑i : Int) = (↑i : Int), i < List.length l, decide ((↑i : Int) < (↑(List.length l) : Int)) = true] .normal [(0, .ptr 1 0), (1, .sl 2 0 l.length), (7, I .i64 (l.length : Nat)), (8, I .i64 ((i + 1 : Nat) : Int))] [hadO hs, poolO nx mx, .row 2 (l.flatMap keyC)] (by kernel_rfl) ⟨(by simp [cap] <;> omega), (by rfl), (by assumption), (by exact fm_cell1 hget), (by rfl), (by assumption), (by simp <;> omega), trivial⟩ (fun σ h => ⟨(i + 1, hs, nx, l), ?_, by simp only; omega, h⟩)
      refine ⟨by omega, hll, ?_, fun a ha => by have := hb a ha; simp only; omega, hp0, by simp only; omega⟩
      rw [hg, hdr, giveL, if_pos hkk]
      simp only [List.take_add_one, hget, Option.toList_some, List.append_assoc, List.singleton_append]
    | false =>
      have hkk : ¬ k.num > 0 := of_decide_eq_false hk
      refine W.sxP hm hF 21 2 1000 20 [.b 21 2 0 true] [decide ((↑i : Int) < (↑(List.length l) : Int)) = true] [(0, .ptr 1 0), (1, .sl 2 0 l.length), (7, I .i64 (l.length : Nat)), (8, I .i64 ((i : Nat) : Int))] [hadO hs, poolO nx mx, .row 2 (l.flatMap keyC)] (by kernel_rfl) ⟨(by simp <;> omega), trivial⟩ ?_
      refine W.seq ?_
      refine W.block ?_
      refine W.sxP hm hF 21 2 1000 20 [.j 21 4 2 0 i, .l 21 4 4 (I .i64 k.num), .b 21 4 5 false] [decide (k.num > 0) = false, (List.flatMap keyC l)[0 + i * 2 + 1]? = some (I .i64 k.num), (↑i : Int) = (↑i : Int), i < List.length l] [(0, .ptr 1 0), (1, .sl 2 0 l.length), (7, I .i64 (l.length : Nat)), (8, I .i64 ((i : Nat) : Int)), (5, I .i64 (i : Nat))] [hadO hs, poolO nx mx, .row 2 (l.flatMap keyC)] (by kernel_rfl) ⟨(by assumption), (by exact fm_cell1 hget), (by rfl), (by assumption), trivial⟩ ?_
      refine W.seq ?_
      refine W.block ?_
      refine W.loop (fun n1 : Int => ⟨tbl [(0, .ptr 1 0), (1, .sl 2 0 l.length), (7, I .i64 (l.length : Nat)), (8, I .i64 ((i : Nat) : Int)), (5, I .i64 (i : Nat))], [hadO hs, poolO n1 mx, .row 2 (l.flatMap keyC)]⟩) (fun n1 => nfree hs n1 = nfree hs nx ∧ nx ≤ n1 ∧ n1 ≤ C + 1 + (i : Nat)) (fun n1 => cntN hs n1) nx ⟨rfl, Int.le_refl _, hp1⟩ (Le.refl _) ?_
      rintro n1 ⟨g1, g2, g3⟩
      by_cases hm1 : n1 ∈ hs
      · obtain ⟨j, q1, q2, q3⟩ := had_some hm1
        have hA : findAV Try.prog 3 (I .i64 n1) ((hadC hs).take (List.range hs.length).length) 0 = some (some j) := by rw [had_find, q1]
        have hy := hadC_val q2
        have hbn := hb n1 hm1
        have hw : IntKind.i64.wrap (n1 + 1) = n1 + 1 := IntWalk.i64_in _ (by omega)
        exact W.sx hm hF 21 1000 20 [.x 21 5 8 (Xt.mk (some j) (B true) [] []), .z 21 6 4 (n1 + 1)] [IntKind.wrap IntKind.i64 (n1 + 1) = n1 + 1, findAV Try.prog 3 (I .i64 n1) (List.take (List.length (List.range hs.length)) (hadC hs)) 0 = some (some j), (hadC hs)[List.length (List.range hs.length) + j]? = some (B true)] .normal [(0, .ptr 1 0), (1, .sl 2 0 l.length), (7, I .i64 (l.length : Nat)), (8, I .i64 ((i : Nat) : Int)), (5, I .i64 (i : Nat))] [hadO hs, poolO (n1 + 1) mx, .row 2 (l.flatMap keyC)] (by kernel_rfl) ⟨(by assumption), (by assumption), (by assumption), trivial⟩ (fun σ h => ⟨n1 + 1, ⟨by rw [← nfree_in hm1]; exact g1, by omega, by omega⟩, cntN_lt hm1, h⟩)
      · have hA : findAV Try.prog 3 (I .i64 n1) ((hadC hs).take (List.range hs.length).length) 0 = some none := by rw [had_find, had_no hm1]
        have hm2 : nfree hs nx = n1 := by rw [← g1, nfree_out hm1]
        refine W.sx hm hF 21 1000 20 [.x 21 5 8 (Xt.mk none (B true) [] [])] [findAV Try.prog 3 (I .i64 n1) (List.take (List.length (List.range hs.length)) (hadC hs)) 0 = some none] (.exit 2) [(0, .ptr 1 0), (1, .sl 2 0 l.length), (7, I .i64 (l.length : Nat)), (8, I .i64 ((i : Nat) : Int)), (5, I .i64 (i : Nat))] [hadO hs, poolO n1 mx, .row 2 (l.flatMap keyC)] (by kernel_rfl) ⟨(by assumption), trivial⟩ (fun σ h => W.weaken h ?_)
        obtain ⟨hs2, hh2⟩ : ∃ h, h = hs ++ [n1] := ⟨_, rfl⟩
        have hB : updB none (List.range hs.length) hs.length = List.range hs2.length := by rw [hh2]; exact had_upd_births hs n1
        have hC2 : updV (List.range hs.length).length none (I .i64 n1) (B true) (hadC hs) = hadC hs2 := by rw [hh2]; exact had_upd_new hs n1
        have hD : ∀ j, (none : Option Nat) = some j → (hadC hs)[j]? = some (I .i64 n1) := fun j e => by simp at e
        have hK : updK none hs.length = hs2.length := by rw [hh2]; simp [updK]
        obtain ⟨l2, hl2⟩ : ∃ q, q = l.set i ⟨k.name, n1⟩ := ⟨_, rfl⟩
        have hl2n : l2.length = l.length := by rw [hl2]; simp
        refine W.sx hm hF 21 1000 20 [.x 21 7 8 (Xt.mk none (B true) (List.range hs2.length) (hadC hs2)), .r 21 7 8, .j 21 8 6 0 i, .x 21 8 8 (Xt.st (List.flatMap keyC l2))] [0 + i * 2 + 1 + 1 ≤ List.length (List.flatMap keyC l), splice (List.flatMap keyC l) (0 + i * 2 + 1) [I .i64 n1] = List.flatMap keyC l2, (↑i : Int) = (↑i : Int), i < List.length l, List.all [AObj.ob (Shp.map (List.range hs.length) hs.length) (hadC hs), AObj.row 1 [AV.mp 0, I .i64 n1, I .i64 mx], AObj.row 2 (List.flatMap keyC l)] (rowLt (List.length [AObj.ob (Shp.map (List.range hs.length) hs.length) (hadC hs), AObj.row 1 [AV.mp 0, I .i64 n1, I .i64 mx], AObj.row 2 (List.flatMap keyC l)])) = true, findAV Try.prog 3 (I .i64 n1) (List.take (List.length (List.range hs.length)) (hadC hs)) 0 = some none, updB none (List.range hs.length) hs.length = (List.range hs2.length), updV (List.length (List.range hs.length)) none (I .i64 n1) (B true) (hadC hs) = (hadC hs2), ∀ (j : Nat), none = some j → (hadC hs)[j]? = some (I .i64 n1)] .normal [(0, .ptr 1 0), (1, .sl 2 0 l.length), (7, I .i64 (l.length : Nat)), (8, I .i64 ((i : Nat) : Int))] [.ob (.map (List.range hs2.length) (updK none hs.length)) (hadC hs2), poolO n1 mx, .row 2 (l2.flatMap keyC)] (by kernel_rfl) ⟨(by exact fm_bound1 hlt), (by subst hl2; exact fm_set1 l _ (by assumption)), (by rfl), (by assumption), (by first | (simp only [List.all_cons, List.all_nil, rowLt, hno, fm_no (c := keyC) (fun _ => rfl), Bool.true_or, Bool.and_true, Bool.true_and]; rfl) | omega | decide | simp), (by assumption), (by assumption), (by assumption), (by assumption), trivial⟩ (fun σ h => W.weaken h ?_)
        rw [hK]
        refine W.sx hm hF 21 1000 20 [.z 21 9 0 ((i + 1 : Nat) : Int)] [IntKind.i64.wrap (((i : Nat) : Int) + 1) = ((i + 1 : Nat) : Int)] .normal [(0, .ptr 1 0), (1, .sl 2 0 l.length), (7, I .i64 (l.length : Nat)), (8, I .i64 ((i + 1 : Nat) : Int))] [.ob (.map (List.range hs2.length) hs2.length) (hadC hs2), poolO n1 mx, .row 2 (l2.flatMap keyC)] (by kernel_rfl) ⟨i64_n i (by omega), trivial⟩ (fun σ h => ⟨(i + 1, hs2, n1, l2), ?_, by simp only; omega, ?_⟩)
        · refine ⟨by omega, by simp only; omega, ?_, fun a ha => ?_, by simp only; omega, by simp only; omega⟩
          · simp only
            rw [hg, hdr, giveL, if_neg hkk, hm2, ← hh2]
            have e1 : l2.drop (i + 1) = l.drop (i + 1) := by rw [hl2, List.drop_set_of_lt (by omega)]
            have e2 : l2.take (i + 1) = l.take i ++ [⟨k.name, n1⟩] := by
              rw [hl2, List.take_add_one, List.getElem?_set_self hlt, List.take_set_of_le (Nat.le_refl _)]; rfl
            rw [e1, e2]
            simp only [List.append_assoc, List.singleton_append]
          · simp only at ha ⊢
            rw [hh2] at ha
            rcases List.mem_append.1 ha with ha | ha
            · have := hb a ha; omega
            · simp only [List.mem_singleton] at ha; omega
        · simp only [hl2n]; exact h
  · have hie : i = l.length := by omega
    have hbb : decide (((i : Nat) : Int) < (l.length : Nat)) = false := decide_eq_false (by omega)
    refine W.sx hm hF 21 1000 20 [.b 21 2 0 false] [decide (((i : Nat) : Int) < (l.length : Nat)) = false] (.exit 0) [(0, .ptr 1 0)] [hadO hs, poolO nx mx, .row 2 (l.flatMap keyC)] (by kernel_rfl) ⟨hbb, trivial⟩ (fun σ h => W.weaken h ?_)
    have hg2 : giveL hs0 nx0 l0 = (hs, nx, l) := by
      rw [hg, hie, List.drop_length, List.take_length]
      simp [giveL]
    rw [hg2]
    exact W.sx hm hF 21 1000 20 [] [] .ret [(4, B (decide (nx ≤ mx)))] [hadO hs, poolO nx mx, .row 2 (l.flatMap keyC)] (by kernel_rfl) trivial (fun σ h => retK.rows (is := [0, 1, 2]) (.inl rfl) h rfl rfl (by simp only [List.map_cons, List.map_nil, hadO_ren, keys_ren]; rfl) (by simp) (by decide) rfl ⟨rfl, rfl⟩)

end Go.Proofs.Ytlfedjannhceaaa
