/-
  Check; stay and give wherever their rows stand.
-/
import Derived.Test.YtlfedjannhceaaaKHU2
set_option linter.unusedVariables false
set_option linter.unusedSimpArgs false
set_option maxRecDepth 100000
set_option maxHeartbeats 1000000
namespace Go.Proofs.Ytlfedjannhceaaa
open Go Go.SL Go.Proofs
theorem bw2 {hp : List AObj} {o : Nat} {x y : AV} {xs ys : List AV} (ho : hp[o]? = some (.row 1 [x, y])) (hn : noOwnL [x, y] = true) (t : Bw hp xs ys) : Bw hp (.sl o 0 2 :: xs) (.im 1 [x, y] :: ys) := Bw.sl (off := 0) (len := 2) ho (Nat.le_refl _) hn t
theorem ck_1 (a b c d : List Key)(h1 : Spec0 Try.prog 17 [I .i64 16777215, .im 1 [KL a, KL b]] (B false)) : Spec0 Try.prog 8 [.agg [KL a, KL b, KL c, KL d]] (I .i64 (Int.ofNat 190)) := sx0 hm hF 1000 20 [.h 8 1 5 [I IntKind.i64 16777215, AV.im 1 [KL a, KL b]] (B false)] [Bw [AObj.row 1 [AV.im 2 (List.flatMap keyC a), AV.im 2 (List.flatMap keyC b), AV.im 2 (List.flatMap keyC c), AV.im 2 (List.flatMap keyC d)], AObj.row 1 [AV.im 2 (List.flatMap keyC a), AV.im 2 (List.flatMap keyC b)]] [I .i64 (Int.ofNat 16777215), AV.sl 1 0 2] [I IntKind.i64 16777215, AV.im 1 [KL a, KL b]], Spec0 Try.prog 17 [I IntKind.i64 16777215, AV.im 1 [KL a, KL b]] (B false)] (by kernel_rfl) ⟨(by exact .keep rfl (bw2 rfl rfl .nil)), (by assumption), trivial⟩
theorem ck_2 (a b c d : List Key)(h1 : Spec0 Try.prog 17 [I .i64 16777215, .im 1 [KL a, KL b]] (B true))(h2 : Spec0 Try.prog 17 [I .i64 65535, .im 1 [KL c, KL d]] (B false)) : Spec0 Try.prog 8 [.agg [KL a, KL b, KL c, KL d]] (I .i64 (Int.ofNat 190)) := sx0 hm hF 1000 20 [.h 8 1 5 [I IntKind.i64 16777215, AV.im 1 [KL a, KL b]] (B true), .h 8 1 13 [I IntKind.i64 65535, AV.im 1 [KL c, KL d]] (B false)] [Bw [AObj.row 1 [AV.im 2 (List.flatMap keyC a), AV.im 2 (List.flatMap keyC b), AV.im 2 (List.flatMap keyC c), AV.im 2 (List.flatMap keyC d)], AObj.row 1 [AV.im 2 (List.flatMap keyC a), AV.im 2 (List.flatMap keyC b)], AObj.row 1 [AV.im 2 (List.flatMap keyC c), AV.im 2 (List.flatMap keyC d)]] [I .i64 (Int.ofNat 65535), AV.sl 2 0 2] [I IntKind.i64 65535, AV.im 1 [KL c, KL d]], Spec0 Try.prog 17 [I IntKind.i64 65535, AV.im 1 [KL c, KL d]] (B false), Bw [AObj.row 1 [AV.im 2 (List.flatMap keyC a), AV.im 2 (List.flatMap keyC b), AV.im 2 (List.flatMap keyC c), AV.im 2 (List.flatMap keyC d)], AObj.row 1 [AV.im 2 (List.flatMap keyC a), AV.im 2 (List.flatMap keyC b)]] [I .i64 (Int.ofNat 16777215), AV.sl 1 0 2] [I IntKind.i64 16777215, AV.im 1 [KL a, KL b]], Spec0 Try.prog 17 [I IntKind.i64 16777215, AV.im 1 [KL a, KL b]] (B true)] (by kernel_rfl) ⟨(by exact .keep rfl (bw2 rfl rfl .nil)), (by assumption), (by exact .keep rfl (bw2 rfl rfl .nil)), (by assumption), trivial⟩
theorem ck_3 (a b c d : List Key)(h1 : Spec0 Try.prog 17 [I .i64 16777215, .im 1 [KL a, KL b]] (B true))(h2 : Spec0 Try.prog 17 [I .i64 65535, .im 1 [KL c, KL d]] (B true)) : Spec0 Try.prog 8 [.agg [KL a, KL b, KL c, KL d]] (I .i64 (Int.ofNat 0)) := sx0 hm hF 1000 20 [.h 8 1 5 [I IntKind.i64 16777215, AV.im 1 [KL a, KL b]] (B true), .h 8 1 13 [I IntKind.i64 65535, AV.im 1 [KL c, KL d]] (B true)] [Bw [AObj.row 1 [AV.im 2 (List.flatMap keyC a), AV.im 2 (List.flatMap keyC b), AV.im 2 (List.flatMap keyC c), AV.im 2 (List.flatMap keyC d)], AObj.row 1 [AV.im 2 (List.flatMap keyC a), AV.im 2 (List.flatMap keyC b)], AObj.row 1 [AV.im 2 (List.flatMap keyC c), AV.im 2 (List.flatMap keyC d)]] [I .i64 (Int.ofNat 65535), AV.sl 2 0 2] [I IntKind.i64 65535, AV.im 1 [KL c, KL d]], Spec0 Try.prog 17 [I IntKind.i64 65535, AV.im 1 [KL c, KL d]] (B true), Bw [AObj.row 1 [AV.im 2 (List.flatMap keyC a), AV.im 2 (List.flatMap keyC b), AV.im 2 (List.flatMap keyC c), AV.im 2 (List.flatMap keyC d)], AObj.row 1 [AV.im 2 (List.flatMap keyC a), AV.im 2 (List.flatMap keyC b)]] [I .i64 (Int.ofNat 16777215), AV.sl 1 0 2] [I IntKind.i64 16777215, AV.im 1 [KL a, KL b]], Spec0 Try.prog 17 [I IntKind.i64 16777215, AV.im 1 [KL a, KL b]] (B true)] (by kernel_rfl) ⟨(by exact .keep rfl (bw2 rfl rfl .nil)), (by assumption), (by exact .keep rfl (bw2 rfl rfl .nil)), (by assumption), trivial⟩
def checkV (a b c d : List Key) : Bool := rightV 16777215 a b && rightV 65535 c d
theorem w_Check (a b c d : List Key) (ha : a.length ≤ 4611686018427387) (hb : b.length ≤ 4611686018427387) (hc : c.length ≤ 4611686018427387) (hd : d.length ≤ 4611686018427387) : Spec0 Try.prog 8 [.agg [KL a, KL b, KL c, KL d]] (I .i64 (if checkV a b c d = true then 0 else 190)) := by
  have h1 := w_right 16777215 a b ha hb
  have h2 := w_right 65535 c d hc hd
  unfold checkV
  cases e1 : rightV 16777215 a b
  · rw [e1] at h1; exact ck_1 a b c d h1
  · rw [e1] at h1
    cases e2 : rightV 65535 c d
    · rw [e2] at h2; exact ck_2 a b c d h1 h2
    · rw [e2] at h2; exact ck_3 a b c d h1 h2

theorem stay_at {hp : List AObj} {m p : Nat} (old : List Key) (rows : List Rw) (kind nx mx : Int) (hs : List Int) (hl0 : rows.length ≤ 1034834473170) (hold : old.length ≤ 4611686018427387) (hm : hp[m]? = some (hadO hs)) (hp0 : hp[p]? = some (.row 1 [.mp m, I .i64 nx, I .i64 mx])) (hne : m ≠ p) :
    SL.Spec Try.prog 20 [.ptr p 0, KL old, RL rows, I .i64 kind] hp (SL.is (.sl hp.length 0 (sortK (stayF old kind hs rows).2).length) ((hp.set m (hadO (stayF old kind hs rows).1)).set p (.row 1 [.mp m, I .i64 nx, I .i64 mx]) ++ [.row 2 ((sortK (stayF old kind hs rows).2).flatMap keyC)])) := by
  have lt : ∀ {o : Nat} {x : AObj}, hp[o]? = some x → o < hp.length := fun {o x} h => by
    rcases Nat.lt_or_ge o hp.length with g | g
    · exact g
    · rw [List.getElem?_eq_none g] at h; simp at h
  have h := Spec.frame (hp := hp) (ys := [.ptr p 0, KL old, RL rows, I .i64 kind]) [m, p] (w_stay old rows kind nx mx hs hl0 hold) rfl (fun j q x h1 h2 => by
    match j, h1, h2 with
    | 0, h1, h2 =>
      simp only [List.getElem?_cons_zero, Option.some.injEq] at h1 h2
      subst h1; subst h2
      rw [hm, hadO_ren]
    | 1, h1, h2 =>
      simp only [List.getElem?_cons_succ, List.getElem?_cons_zero, Option.some.injEq] at h1 h2
      subst h1; subst h2
      rw [hp0]; rfl
    | j + 2, h1, h2 => simp at h1) (fun q hq => by
      simp only [List.mem_cons, List.not_mem_nil, or_false] at hq
      rcases hq with rfl | rfl
      · exact lt hm
      · exact lt hp0) (by simp [hne]) rfl
  simp only [List.map_cons, List.map_nil, hadO_ren, keys_ren] at h
  have e : (sortK (stayF old kind hs rows).2).length = (stayF old kind hs rows).2.length := (sortK_perm _).length_eq
  rw [e]
  exact h
theorem give_at {hp : List AObj} {m p q : Nat} (l0 : List Key) (hs0 : List Int) (nx0 mx C : Int) (hC : C ≤ 1099511627776) (hb0 : ∀ a ∈ hs0, a ≤ C) (hn0 : 0 ≤ nx0) (hn1 : nx0 ≤ C + 1) (hl00 : l0.length ≤ 4398046511104)
    (hm : hp[m]? = some (hadO hs0)) (hp0 : hp[p]? = some (.row 1 [.mp m, I .i64 nx0, I .i64 mx])) (hq : hp[q]? = some (.row 2 (l0.flatMap keyC))) (hne : m ≠ p) (hne2 : m ≠ q) (hne3 : p ≠ q) :
    SL.Spec Try.prog 21 [.ptr p 0, .sl q 0 l0.length] hp (SL.is (B (decide ((giveL hs0 nx0 l0).2.1 ≤ mx))) (((hp.set m (hadO (giveL hs0 nx0 l0).1)).set p (.row 1 [.mp m, I .i64 (giveL hs0 nx0 l0).2.1, I .i64 mx])).set q (.row 2 ((giveL hs0 nx0 l0).2.2.flatMap keyC)))) := by
  have lt : ∀ {o : Nat} {x : AObj}, hp[o]? = some x → o < hp.length := fun {o x} h => by
    rcases Nat.lt_or_ge o hp.length with g | g
    · exact g
    · rw [List.getElem?_eq_none g] at h; simp at h
  have h := Spec.frame (hp := hp) (ys := [.ptr p 0, .sl q 0 l0.length]) [m, p, q] (w_give l0 hs0 nx0 mx C hC hb0 hn0 hn1 hl00) rfl (fun j o x h1 h2 => by
    match j, h1, h2 with
    | 0, h1, h2 =>
      simp only [List.getElem?_cons_zero, Option.some.injEq] at h1 h2
      subst h1; subst h2
      rw [hm, hadO_ren]
    | 1, h1, h2 =>
      simp only [List.getElem?_cons_succ, List.getElem?_cons_zero, Option.some.injEq] at h1 h2
      subst h1; subst h2
      rw [hp0]; rfl
    | 2, h1, h2 =>
      simp only [List.getElem?_cons_succ, List.getElem?_cons_zero, Option.some.injEq] at h1 h2
      subst h1; subst h2
      rw [hq, keys_ren]
    | j + 3, h1, h2 => simp at h1) (fun o ho => by
      simp only [List.mem_cons, List.not_mem_nil, or_false] at ho
      rcases ho with rfl | rfl | rfl
      · exact lt hm
      · exact lt hp0
      · exact lt hq) (by simp [hne, hne2, hne3]) rfl
  simp only [List.map_cons, List.map_nil, hadO_ren, keys_ren] at h
  have e := List.append_nil (((hp.set m (hadO (giveL hs0 nx0 l0).1)).set p (.row 1 [.mp m, I .i64 (giveL hs0 nx0 l0).2.1, I .i64 mx])).set q (.row 2 ((giveL hs0 nx0 l0).2.2.flatMap keyC)))
  rw [← e]
  exact h

end Go.Proofs.Ytlfedjannhceaaa
