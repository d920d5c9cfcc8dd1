/-
  Check: what is in form.
-/
import Derived.Test.YtbimmnnjnlfddaaDoorX1
set_option linter.unusedVariables false
set_option linter.unusedSimpArgs false
set_option maxRecDepth 100000
set_option maxHeartbeats 1000000
namespace Go.Proofs.YtbimmnnjnlfddaaDoor
open Go Go.SL Go.Proofs
def bad (a : Int) (t : Term) : Bool := decide (t.f ≤ a) || (decide (t.f > 28) || (t.m == 0 || (decide (t.m > allI t.f.toNat) || uandn t.v t.m != 0)))
/-- Is it in form behind field a? -/
def chk : Int → List Term → Bool
  | _, [] => true
  | a, t :: l => !bad a t && chk t.f l
def okC (l : List Term) : Int := cond (chk 0 l) 0 90
theorem drop_get {α : Type} {l : List α} {i : Nat} {a : α} (h : l[i]? = some a) : l.drop i = a :: l.drop (i + 1) := by
  have hlt : i < l.length := by
    rcases Nat.lt_or_ge i l.length with g | g
    · exact g
    · simp [List.getElem?_eq_none g] at h
  rw [List.drop_eq_getElem_cons hlt]
  rw [List.getElem?_eq_getElem hlt] at h
  injection h with h; rw [h]
theorem chk_bad {l : List Term} {a : Int} {i : Nat} {t : Term} (h : chk 0 l = chk a (l.drop i)) (ht : l[i]? = some t) (hb : bad a t = true) : okC l = 90 := by
  unfold okC; rw [h, drop_get ht]; simp [chk, hb]
theorem chk_ok {l : List Term} {a : Int} {i : Nat} {t : Term} (h : chk 0 l = chk a (l.drop i)) (ht : l[i]? = some t) (hb : bad a t = false) : chk 0 l = chk t.f (l.drop (i + 1)) := by
  rw [h, drop_get ht]; simp [chk, hb]
theorem chk_end {l : List Term} {a : Int} {i : Nat} (h : chk 0 l = chk a (l.drop i)) (hi : i = l.length) : okC l = 0 := by
  unfold okC; rw [h, hi, List.drop_length]; rfl
theorem bad_or {a : Int} {t : Term} : bad a t = true ↔ (t.f ≤ a ∨ t.f > 28 ∨ t.m = 0 ∨ t.m > allI t.f.toNat ∨ uandn t.v t.m ≠ 0) := by
  simp [bad]
theorem w_allZ (x : Int) (h1 : 1 ≤ x) (h2 : x ≤ 28) : Spec0 Tryd.prog 24 [I .i64 x] (I .u64 (allI x.toNat)) := by
  obtain ⟨k, rfl⟩ := Int.eq_ofNat_of_zero_le (show 0 ≤ x by omega)
  exact w_all k (by omega) (by omega)
theorem w_rallZ (x : Int) (h1 : 1 ≤ x) (h2 : x ≤ 28) : Spec0 Tryd.prog 28 [I .i64 x] (I .u64 (allI x.toNat)) := by
  obtain ⟨k, rfl⟩ := Int.eq_ofNat_of_zero_le (show 0 ≤ x by omega)
  exact w_rall k (by omega) (by omega)
theorem w_Check (l : List Term) (hl0 : l.length ≤ 140737488351232) : Spec0 Tryd.prog 17 [TL l] (I .i64 (okC l)) := by
  have hl := (fm_len tC_len l).symm
  refine Spec0.walk Tryd.func17 rfl rfl ?_
  refine W.sxP hm hF 17 2 1000 20 [] [] [(0, TL l), (3, I .i64 0)] [] (by kernel_rfl) trivial ?_
  refine W.seq ?_
  refine W.seq ?_
  refine W.sx hm hF 17 1000 20 [.n 17 2 1 l.length] [l.length * 3 = (l.flatMap tC).length, 0 < 3] .normal [(3, I .i64 0), (6, TL l), (7, I .i64 (l.length : Nat)), (8, I .i64 0)] [] (by kernel_rfl) ⟨hl, by decide, trivial⟩ (fun σ h => W.weaken h ?_)
  refine W.block ?_
  refine W.loopD 0 (fun x : Nat × Int => ⟨tbl [(3, I .i64 x.2), (6, TL l), (7, I .i64 (l.length : Nat)), (8, I .i64 (x.1 : Nat))], []⟩) (fun x => x.1 ≤ l.length ∧ 0 ≤ x.2 ∧ x.2 ≤ 28 ∧ chk 0 l = chk x.2 (l.drop x.1)) (fun x => l.length - x.1) (0, 0) ⟨Nat.zero_le _, by decide, by decide, by simp⟩ rfl (Le.refl _) ?_
  rintro ⟨i, a⟩ ⟨hi, ha0, ha1, ha⟩
  simp only at hi ha0 ha1 ha
  by_cases hlt : i < l.length
  · have hb : decide (((i : Nat) : Int) < (l.length : Nat)) = true := decide_eq_true (by omega)
    obtain ⟨t, hget⟩ : ∃ t, l[i]? = some t := ⟨_, List.getElem?_eq_getElem hlt⟩
    cases g1 : decide (t.f ≤ a)
    · cases g2 : decide (t.f > 28)
      · have k1 := of_decide_eq_false g1
        have k2 := of_decide_eq_false g2
        have hall := w_allZ t.f (by omega) (by omega)
        cases g3 : t.m == 0
        · cases g4 : decide (t.m > allI t.f.toNat)
          · cases g5 : uandn t.v t.m != 0
            · exact W.sx hm hF 17 1000 20 [.b 17 3 0 true, .j 17 4 0 l.length i, .l 17 4 1 (.agg (tC t)), .b 17 5 3 false, .b 17 5 7 false, .b 17 5 12 false, .c 17 5 19 (I .u64 (allI t.f.toNat)), .b 17 5 20 false, .b 17 5 28 false, .z 17 8 0 ((i + 1 : Nat) : Int)] [IntKind.i64.wrap (((i : Nat) : Int) + 1) = ((i + 1 : Nat) : Int), (uandn t.v t.m != 0) = false, (decide (t.m > allI t.f.toNat)) = false, Spec0 Tryd.prog 24 [I .i64 t.f] (I .u64 (allI t.f.toNat)), (t.m == 0) = false, (decide (t.f > 28)) = false, (decide (t.f ≤ a)) = false, ((l.flatMap tC).drop (i * 3)).take 3 = tC t, i * 3 + 3 ≤ (l.flatMap tC).length, l.length * 3 = (l.flatMap tC).length, 0 < 3, ((i : Nat) : Int) = (i : Int), i < l.length, (decide (((i : Nat) : Int) < (l.length : Nat))) = true] .normal [(3, I .i64 t.f), (6, TL l), (7, I .i64 (l.length : Nat)), (8, I .i64 ((i + 1 : Nat) : Int))] [.row 1 (tC t)] (by kernel_rfl) ⟨i64_n i (by omega), g5, g4, hall, g3, g2, g1, fm_at tC_len l hget, fm_bound tC_len l hlt, hl, by decide, rfl, hlt, hb, trivial⟩ (fun σ h => ⟨(i + 1, t.f), ⟨hlt, by simp only; omega, by simp only; omega, chk_ok ha hget (by simp only [bad, g1, g2, g3, g4, g5, Bool.or_self])⟩, by simp only; omega, LeD.mk rfl rfl h⟩)
            · have k5 : uandn t.v t.m ≠ 0 := by simpa using g5
              exact W.sxR hm hF 17 1000 20 [.b 17 3 0 true, .j 17 4 0 l.length i, .l 17 4 1 (.agg (tC t)), .b 17 5 3 false, .b 17 5 7 false, .b 17 5 12 false, .c 17 5 19 (I .u64 (allI t.f.toNat)), .b 17 5 20 false, .b 17 5 28 true] [(uandn t.v t.m != 0) = true, (decide (t.m > allI t.f.toNat)) = false, Spec0 Tryd.prog 24 [I .i64 t.f] (I .u64 (allI t.f.toNat)), (t.m == 0) = false, (decide (t.f > 28)) = false, (decide (t.f ≤ a)) = false, ((l.flatMap tC).drop (i * 3)).take 3 = tC t, i * 3 + 3 ≤ (l.flatMap tC).length, l.length * 3 = (l.flatMap tC).length, 0 < 3, ((i : Nat) : Int) = (i : Int), i < l.length, (decide (((i : Nat) : Int) < (l.length : Nat))) = true] [.tmp 2] .ret (I .i64 90) (by kernel_rfl) ⟨g5, g4, hall, g3, g2, g1, fm_at tC_len l hget, fm_bound tC_len l hlt, hl, by decide, rfl, hlt, hb, trivial⟩ (fun σ xs h1 h2 => by rw [chk_bad ha hget (bad_or.2 (by omega))]; exact retK.mk (.inl rfl) h1 h2)
          · have k4 := of_decide_eq_true g4
            exact W.sxR hm hF 17 1000 20 [.b 17 3 0 true, .j 17 4 0 l.length i, .l 17 4 1 (.agg (tC t)), .b 17 5 3 false, .b 17 5 7 false, .b 17 5 12 false, .c 17 5 19 (I .u64 (allI t.f.toNat)), .b 17 5 20 true] [(decide (t.m > allI t.f.toNat)) = true, Spec0 Tryd.prog 24 [I .i64 t.f] (I .u64 (allI t.f.toNat)), (t.m == 0) = false, (decide (t.f > 28)) = false, (decide (t.f ≤ a)) = false, ((l.flatMap tC).drop (i * 3)).take 3 = tC t, i * 3 + 3 ≤ (l.flatMap tC).length, l.length * 3 = (l.flatMap tC).length, 0 < 3, ((i : Nat) : Int) = (i : Int), i < l.length, (decide (((i : Nat) : Int) < (l.length : Nat))) = true] [.tmp 2] .ret (I .i64 90) (by kernel_rfl) ⟨g4, hall, g3, g2, g1, fm_at tC_len l hget, fm_bound tC_len l hlt, hl, by decide, rfl, hlt, hb, trivial⟩ (fun σ xs h1 h2 => by rw [chk_bad ha hget (bad_or.2 (by omega))]; exact retK.mk (.inl rfl) h1 h2)
        · have k3 : t.m = 0 := by simpa using g3
          exact W.sxR hm hF 17 1000 20 [.b 17 3 0 true, .j 17 4 0 l.length i, .l 17 4 1 (.agg (tC t)), .b 17 5 3 false, .b 17 5 7 false, .b 17 5 12 true] [(t.m == 0) = true, (decide (t.f > 28)) = false, (decide (t.f ≤ a)) = false, ((l.flatMap tC).drop (i * 3)).take 3 = tC t, i * 3 + 3 ≤ (l.flatMap tC).length, l.length * 3 = (l.flatMap tC).length, 0 < 3, ((i : Nat) : Int) = (i : Int), i < l.length, (decide (((i : Nat) : Int) < (l.length : Nat))) = true] [.tmp 2] .ret (I .i64 90) (by kernel_rfl) ⟨g3, g2, g1, fm_at tC_len l hget, fm_bound tC_len l hlt, hl, by decide, rfl, hlt, hb, trivial⟩ (fun σ xs h1 h2 => by rw [chk_bad ha hget (bad_or.2 (by omega))]; exact retK.mk (.inl rfl) h1 h2)
      · have k2 := of_decide_eq_true g2
        exact W.sxR hm hF 17 1000 20 [.b 17 3 0 true, .j 17 4 0 l.length i, .l 17 4 1 (.agg (tC t)), .b 17 5 3 false, .b 17 5 7 true] [(decide (t.f > 28)) = true, (decide (t.f ≤ a)) = false, ((l.flatMap tC).drop (i * 3)).take 3 = tC t, i * 3 + 3 ≤ (l.flatMap tC).length, l.length * 3 = (l.flatMap tC).length, 0 < 3, ((i : Nat) : Int) = (i : Int), i < l.length, (decide (((i : Nat) : Int) < (l.length : Nat))) = true] [.tmp 2] .ret (I .i64 90) (by kernel_rfl) ⟨g2, g1, fm_at tC_len l hget, fm_bound tC_len l hlt, hl, by decide, rfl, hlt, hb, trivial⟩ (fun σ xs h1 h2 => by rw [chk_bad ha hget (bad_or.2 (by omega))]; exact retK.mk (.inl rfl) h1 h2)
    · have k1 := of_decide_eq_true g1
      exact W.sxR hm hF 17 1000 20 [.b 17 3 0 true, .j 17 4 0 l.length i, .l 17 4 1 (.agg (tC t)), .b 17 5 3 true] [(decide (t.f ≤ a)) = true, ((l.flatMap tC).drop (i * 3)).take 3 = tC t, i * 3 + 3 ≤ (l.flatMap tC).length, l.length * 3 = (l.flatMap tC).length, 0 < 3, ((i : Nat) : Int) = (i : Int), i < l.length, (decide (((i : Nat) : Int) < (l.length : Nat))) = true] [.tmp 2] .ret (I .i64 90) (by kernel_rfl) ⟨g1, fm_at tC_len l hget, fm_bound tC_len l hlt, hl, by decide, rfl, hlt, hb, trivial⟩ (fun σ xs h1 h2 => by rw [chk_bad ha hget (bad_or.2 (by omega))]; exact retK.mk (.inl rfl) h1 h2)
  · have hb : decide (((i : Nat) : Int) < (l.length : Nat)) = false := decide_eq_false (by omega)
    refine W.sx hm hF 17 1000 20 [.b 17 3 0 false] [decide (((i : Nat) : Int) < (l.length : Nat)) = false] (.exit 0) [] [] (by kernel_rfl) ⟨hb, trivial⟩ (fun σ h => W.weaken h ?_)
    rw [chk_end ha (by omega)]
    exact W.sxR hm hF 17 1000 20 [] [] [.tmp 2] .ret (I .i64 0) (by kernel_rfl) trivial (fun σ xs h1 h2 => retK.mk (.inl rfl) h1 h2)
theorem i64_p (i : Nat) (h : 0 < i) (h2 : i < 4611686018427387904) : IntKind.i64.wrap (((i : Nat) : Int) - 1) = ((i - 1 : Nat) : Int) := by rw [IntWalk.i64_in _ (by omega)]; omega
theorem w_RCheck (l : List Term) (hl0 : l.length ≤ 140737488351232) : Spec0 Tryd.prog 20 [TL l] (I .i64 (okC l)) := by
  have hl := (fm_len tC_len l).symm
  refine Spec0.walk Tryd.func20 rfl rfl ?_
  refine W.sxP hm hF 20 1 1000 20 [] [] [(0, TL l)] [] (by kernel_rfl) trivial ?_
  refine W.seq ?_
  refine W.seq ?_
  refine W.sx hm hF 20 1000 20 [] [] .normal [(0, TL l), (3, I .i64 0)] [] (by kernel_rfl) trivial (fun σ h => W.weaken h ?_)
  refine W.block ?_
  refine W.loopD 0 (fun x : Nat × Int => ⟨tbl [(0, TL l), (3, I .i64 (x.1 : Nat))], []⟩) (fun x => x.1 ≤ l.length ∧ 0 ≤ x.2 ∧ x.2 ≤ 28 ∧ (x.1 = 0 → x.2 = 0) ∧ (∀ p, 0 < x.1 → l[x.1 - 1]? = some p → x.2 = p.f) ∧ chk 0 l = chk x.2 (l.drop x.1)) (fun x => l.length - x.1) (0, 0) ⟨Nat.zero_le _, by decide, by decide, fun _ => rfl, fun _ h => absurd h (by simp), by simp⟩ rfl (Le.refl _) ?_
  rintro ⟨i, a⟩ ⟨hi, ha0, ha1, hz, hpv, ha⟩
  simp only at hi ha0 ha1 hz hpv ha
  by_cases hlt : i < l.length
  · have hb : decide (((i : Nat) : Int) < (l.length : Nat)) = true := decide_eq_true (by omega)
    obtain ⟨t, hget⟩ : ∃ t, l[i]? = some t := ⟨_, List.getElem?_eq_getElem hlt⟩
    cases g1 : !isF t.f
    · have k1 : 1 ≤ t.f ∧ t.f ≤ 28 := by simpa [isF] using g1
      have hall := w_rallZ t.f (by omega) (by omega)
      cases g3 : t.m == 0
      · have k3 : t.m ≠ 0 := by simpa using g3
        cases g4 : decide (t.m > allI t.f.toNat)
        · have k4 := of_decide_eq_false g4
          cases g5 : uandn t.v t.m != 0
          · have k5 : uandn t.v t.m = 0 := by simpa using g5
            cases g6 : decide (((i : Nat) : Int) > 0)
            · have k6 := of_decide_eq_false g6
              have kz := hz (by omega)
              exact W.sx hm hF 20 1000 20 [.n 20 2 2 l.length, .b 20 2 3 true, .j 20 4 2 l.length i, .l 20 4 3 (.agg (tC t)), .c 20 5 2 (B (isF t.f)), .b 20 5 3 false, .b 20 5 7 false, .c 20 5 14 (I .u64 (allI t.f.toNat)), .b 20 5 15 false, .b 20 5 23 false, .b 20 5 27 false, .z 20 3 1 ((i + 1 : Nat) : Int)] [IntKind.i64.wrap (((i : Nat) : Int) + 1) = ((i + 1 : Nat) : Int), (decide (((i : Nat) : Int) > 0)) = false, (uandn t.v t.m != 0) = false, (decide (t.m > allI t.f.toNat)) = false, Spec0 Tryd.prog 28 [I .i64 t.f] (I .u64 (allI t.f.toNat)), (t.m == 0) = false, (!isF t.f) = false, Spec0 Tryd.prog 27 [I .i64 t.f] (B (isF t.f)), ((l.flatMap tC).drop (i * 3)).take 3 = tC t, i * 3 + 3 ≤ (l.flatMap tC).length, l.length * 3 = (l.flatMap tC).length, 0 < 3, ((i : Nat) : Int) = (i : Int), i < l.length, (decide (((i : Nat) : Int) < (l.length : Nat))) = true, l.length * 3 = (l.flatMap tC).length, 0 < 3] .normal [(0, TL l), (3, I .i64 ((i + 1 : Nat) : Int))] [.row 1 (tC t)] (by kernel_rfl) ⟨i64_n i (by omega), g6, g5, g4, hall, g3, g1, w_is t.f, fm_at tC_len l hget, fm_bound tC_len l hlt, hl, by decide, rfl, hlt, hb, hl, by decide, trivial⟩ (fun σ h => ⟨(i + 1, t.f), ⟨hlt, by simp only; omega, by simp only; omega, fun h => absurd h (by simp), fun q _ hq => by simp only [Nat.add_sub_cancel] at hq; rw [hget] at hq; injection hq with hq; rw [hq], chk_ok ha hget (by rw [Bool.eq_false_iff]; intro hbd; have := bad_or.1 hbd; omega)⟩, by simp only; omega, LeD.mk rfl rfl h⟩)
            · have k6 := of_decide_eq_true g6
              obtain ⟨p, hp⟩ : ∃ p, l[i - 1]? = some p := ⟨_, List.getElem?_eq_getElem (by omega)⟩
              have kp := hpv p (by omega) hp
              cases g7 : decide (p.f ≥ t.f)
              · have k7 := of_decide_eq_false g7
                exact W.sx hm hF 20 1000 20 [.n 20 2 2 l.length, .b 20 2 3 true, .j 20 4 2 l.length i, .l 20 4 3 (.agg (tC t)), .c 20 5 2 (B (isF t.f)), .b 20 5 3 false, .b 20 5 7 false, .c 20 5 14 (I .u64 (allI t.f.toNat)), .b 20 5 15 false, .b 20 5 23 false, .b 20 5 27 true, .z 20 5 31 ((i - 1 : Nat) : Int), .j 20 5 32 l.length (i - 1), .l 20 5 34 (I .i64 p.f), .b 20 5 37 false, .z 20 3 1 ((i + 1 : Nat) : Int)] [IntKind.i64.wrap (((i : Nat) : Int) + 1) = ((i + 1 : Nat) : Int), (decide (p.f ≥ t.f)) = false, (l.flatMap tC)[(i - 1) * 3 + 0]? = some (I .i64 p.f), l.length * 3 = (l.flatMap tC).length, 0 < 3, ((i - 1 : Nat) : Int) = ((i - 1 : Nat) : Int), i - 1 < l.length, IntKind.i64.wrap (((i : Nat) : Int) - 1) = ((i - 1 : Nat) : Int), (decide (((i : Nat) : Int) > 0)) = true, (uandn t.v t.m != 0) = false, (decide (t.m > allI t.f.toNat)) = false, Spec0 Tryd.prog 28 [I .i64 t.f] (I .u64 (allI t.f.toNat)), (t.m == 0) = false, (!isF t.f) = false, Spec0 Tryd.prog 27 [I .i64 t.f] (B (isF t.f)), ((l.flatMap tC).drop (i * 3)).take 3 = tC t, i * 3 + 3 ≤ (l.flatMap tC).length, l.length * 3 = (l.flatMap tC).length, 0 < 3, ((i : Nat) : Int) = (i : Int), i < l.length, (decide (((i : Nat) : Int) < (l.length : Nat))) = true, l.length * 3 = (l.flatMap tC).length, 0 < 3] .normal [(0, TL l), (3, I .i64 ((i + 1 : Nat) : Int))] [.row 1 (tC t)] (by kernel_rfl) ⟨i64_n i (by omega), g7, fm_cell tC_len l hp (by decide) rfl, hl, by decide, rfl, by omega, i64_p i (by omega) (by omega), g6, g5, g4, hall, g3, g1, w_is t.f, fm_at tC_len l hget, fm_bound tC_len l hlt, hl, by decide, rfl, hlt, hb, hl, by decide, trivial⟩ (fun σ h => ⟨(i + 1, t.f), ⟨hlt, by simp only; omega, by simp only; omega, fun h => absurd h (by simp), fun q _ hq => by simp only [Nat.add_sub_cancel] at hq; rw [hget] at hq; injection hq with hq; rw [hq], chk_ok ha hget (by rw [Bool.eq_false_iff]; intro hbd; have := bad_or.1 hbd; omega)⟩, by simp only; omega, LeD.mk rfl rfl h⟩)
              · have k7 := of_decide_eq_true g7
                exact W.sxR hm hF 20 1000 20 [.n 20 2 2 l.length, .b 20 2 3 true, .j 20 4 2 l.length i, .l 20 4 3 (.agg (tC t)), .c 20 5 2 (B (isF t.f)), .b 20 5 3 false, .b 20 5 7 false, .c 20 5 14 (I .u64 (allI t.f.toNat)), .b 20 5 15 false, .b 20 5 23 false, .b 20 5 27 true, .z 20 5 31 ((i - 1 : Nat) : Int), .j 20 5 32 l.length (i - 1), .l 20 5 34 (I .i64 p.f), .b 20 5 37 true] [(decide (p.f ≥ t.f)) = true, (l.flatMap tC)[(i - 1) * 3 + 0]? = some (I .i64 p.f), l.length * 3 = (l.flatMap tC).length, 0 < 3, ((i - 1 : Nat) : Int) = ((i - 1 : Nat) : Int), i - 1 < l.length, IntKind.i64.wrap (((i : Nat) : Int) - 1) = ((i - 1 : Nat) : Int), (decide (((i : Nat) : Int) > 0)) = true, (uandn t.v t.m != 0) = false, (decide (t.m > allI t.f.toNat)) = false, Spec0 Tryd.prog 28 [I .i64 t.f] (I .u64 (allI t.f.toNat)), (t.m == 0) = false, (!isF t.f) = false, Spec0 Tryd.prog 27 [I .i64 t.f] (B (isF t.f)), ((l.flatMap tC).drop (i * 3)).take 3 = tC t, i * 3 + 3 ≤ (l.flatMap tC).length, l.length * 3 = (l.flatMap tC).length, 0 < 3, ((i : Nat) : Int) = (i : Int), i < l.length, (decide (((i : Nat) : Int) < (l.length : Nat))) = true, l.length * 3 = (l.flatMap tC).length, 0 < 3] [.tmp 2] .ret (I .i64 90) (by kernel_rfl) ⟨g7, fm_cell tC_len l hp (by decide) rfl, hl, by decide, rfl, by omega, i64_p i (by omega) (by omega), g6, g5, g4, hall, g3, g1, w_is t.f, fm_at tC_len l hget, fm_bound tC_len l hlt, hl, by decide, rfl, hlt, hb, hl, by decide, trivial⟩ (fun σ xs h1 h2 => by rw [chk_bad ha hget (bad_or.2 (by omega))]; exact retK.mk (.inl rfl) h1 h2)
          · have k5 : uandn t.v t.m ≠ 0 := by simpa using g5
            exact W.sxR hm hF 20 1000 20 [.n 20 2 2 l.length, .b 20 2 3 true, .j 20 4 2 l.length i, .l 20 4 3 (.agg (tC t)), .c 20 5 2 (B (isF t.f)), .b 20 5 3 false, .b 20 5 7 false, .c 20 5 14 (I .u64 (allI t.f.toNat)), .b 20 5 15 false, .b 20 5 23 true] [(uandn t.v t.m != 0) = true, (decide (t.m > allI t.f.toNat)) = false, Spec0 Tryd.prog 28 [I .i64 t.f] (I .u64 (allI t.f.toNat)), (t.m == 0) = false, (!isF t.f) = false, Spec0 Tryd.prog 27 [I .i64 t.f] (B (isF t.f)), ((l.flatMap tC).drop (i * 3)).take 3 = tC t, i * 3 + 3 ≤ (l.flatMap tC).length, l.length * 3 = (l.flatMap tC).length, 0 < 3, ((i : Nat) : Int) = (i : Int), i < l.length, (decide (((i : Nat) : Int) < (l.length : Nat))) = true, l.length * 3 = (l.flatMap tC).length, 0 < 3] [.tmp 2] .ret (I .i64 90) (by kernel_rfl) ⟨g5, g4, hall, g3, g1, w_is t.f, fm_at tC_len l hget, fm_bound tC_len l hlt, hl, by decide, rfl, hlt, hb, hl, by decide, trivial⟩ (fun σ xs h1 h2 => by rw [chk_bad ha hget (bad_or.2 (by omega))]; exact retK.mk (.inl rfl) h1 h2)
        · have k4 := of_decide_eq_true g4
          exact W.sxR hm hF 20 1000 20 [.n 20 2 2 l.length, .b 20 2 3 true, .j 20 4 2 l.length i, .l 20 4 3 (.agg (tC t)), .c 20 5 2 (B (isF t.f)), .b 20 5 3 false, .b 20 5 7 false, .c 20 5 14 (I .u64 (allI t.f.toNat)), .b 20 5 15 true] [(decide (t.m > allI t.f.toNat)) = true, Spec0 Tryd.prog 28 [I .i64 t.f] (I .u64 (allI t.f.toNat)), (t.m == 0) = false, (!isF t.f) = false, Spec0 Tryd.prog 27 [I .i64 t.f] (B (isF t.f)), ((l.flatMap tC).drop (i * 3)).take 3 = tC t, i * 3 + 3 ≤ (l.flatMap tC).length, l.length * 3 = (l.flatMap tC).length, 0 < 3, ((i : Nat) : Int) = (i : Int), i < l.length, (decide (((i : Nat) : Int) < (l.length : Nat))) = true, l.length * 3 = (l.flatMap tC).length, 0 < 3] [.tmp 2] .ret (I .i64 90) (by kernel_rfl) ⟨g4, hall, g3, g1, w_is t.f, fm_at tC_len l hget, fm_bound tC_len l hlt, hl, by decide, rfl, hlt, hb, hl, by decide, trivial⟩ (fun σ xs h1 h2 => by rw [chk_bad ha hget (bad_or.2 (by omega))]; exact retK.mk (.inl rfl) h1 h2)
      · have k3 : t.m = 0 := by simpa using g3
        exact W.sxR hm hF 20 1000 20 [.n 20 2 2 l.length, .b 20 2 3 true, .j 20 4 2 l.length i, .l 20 4 3 (.agg (tC t)), .c 20 5 2 (B (isF t.f)), .b 20 5 3 false, .b 20 5 7 true] [(t.m == 0) = true, (!isF t.f) = false, Spec0 Tryd.prog 27 [I .i64 t.f] (B (isF t.f)), ((l.flatMap tC).drop (i * 3)).take 3 = tC t, i * 3 + 3 ≤ (l.flatMap tC).length, l.length * 3 = (l.flatMap tC).length, 0 < 3, ((i : Nat) : Int) = (i : Int), i < l.length, (decide (((i : Nat) : Int) < (l.length : Nat))) = true, l.length * 3 = (l.flatMap tC).length, 0 < 3] [.tmp 2] .ret (I .i64 90) (by kernel_rfl) ⟨g3, g1, w_is t.f, fm_at tC_len l hget, fm_bound tC_len l hlt, hl, by decide, rfl, hlt, hb, hl, by decide, trivial⟩ (fun σ xs h1 h2 => by rw [chk_bad ha hget (bad_or.2 (by omega))]; exact retK.mk (.inl rfl) h1 h2)
    · have k1 : t.f < 1 ∨ 28 < t.f := by simpa [isF] using g1
      exact W.sxR hm hF 20 1000 20 [.n 20 2 2 l.length, .b 20 2 3 true, .j 20 4 2 l.length i, .l 20 4 3 (.agg (tC t)), .c 20 5 2 (B (isF t.f)), .b 20 5 3 true] [(!isF t.f) = true, Spec0 Tryd.prog 27 [I .i64 t.f] (B (isF t.f)), ((l.flatMap tC).drop (i * 3)).take 3 = tC t, i * 3 + 3 ≤ (l.flatMap tC).length, l.length * 3 = (l.flatMap tC).length, 0 < 3, ((i : Nat) : Int) = (i : Int), i < l.length, (decide (((i : Nat) : Int) < (l.length : Nat))) = true, l.length * 3 = (l.flatMap tC).length, 0 < 3] [.tmp 2] .ret (I .i64 90) (by kernel_rfl) ⟨g1, w_is t.f, fm_at tC_len l hget, fm_bound tC_len l hlt, hl, by decide, rfl, hlt, hb, hl, by decide, trivial⟩ (fun σ xs h1 h2 => by rw [chk_bad ha hget (bad_or.2 (by omega))]; exact retK.mk (.inl rfl) h1 h2)
  · have hb : decide (((i : Nat) : Int) < (l.length : Nat)) = false := decide_eq_false (by omega)
    refine W.sx hm hF 20 1000 20 [.n 20 2 2 l.length, .b 20 2 3 false] [decide (((i : Nat) : Int) < (l.length : Nat)) = false, l.length * 3 = (l.flatMap tC).length, 0 < 3] (.exit 0) [] [] (by kernel_rfl) ⟨hb, hl, by decide, trivial⟩ (fun σ h => W.weaken h ?_)
    rw [chk_end ha (by omega)]
    exact W.sxR hm hF 20 1000 20 [] [] [.tmp 2] .ret (I .i64 0) (by kernel_rfl) trivial (fun σ xs h1 h2 => retK.mk (.inl rfl) h1 h2)
end Go.Proofs.YtbimmnnjnlfddaaDoor
