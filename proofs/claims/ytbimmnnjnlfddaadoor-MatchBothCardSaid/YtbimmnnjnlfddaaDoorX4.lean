/-
  The reference's And.
-/
import Derived.Test.YtbimmnnjnlfddaaDoorX3
set_option linter.unusedVariables false
set_option linter.unusedSimpArgs false
set_option maxRecDepth 100000
set_option maxHeartbeats 1000000
namespace Go.Proofs.YtbimmnnjnlfddaaDoor
open Go Go.SL Go.Proofs
/-- The term of a field; none: nothing. -/
def tmF (l : List Term) (f : Int) : Term := (l.find? (fun t => t.f == f)).getD ⟨f, 0, 0⟩
theorem tmF_f (l : List Term) (f : Int) : (tmF l f).f = f := by
  unfold tmF
  cases h : l.find? (fun t => t.f == f) with
  | none => rfl
  | some t => have := List.find?_some h; simpa using this
theorem find_ok {l : List Term} {f : Int} {i : Nat} {t : Term} (h : l.find? (fun t => t.f == f) = (l.drop i).find? (fun t => t.f == f)) (ht : l[i]? = some t) (hf : (t.f == f) = true) : tmF l f = t := by
  unfold tmF; rw [h, drop_get ht, List.find?_cons, hf]; rfl
theorem find_no {l : List Term} {f : Int} {i : Nat} {t : Term} (h : l.find? (fun t => t.f == f) = (l.drop i).find? (fun t => t.f == f)) (ht : l[i]? = some t) (hf : (t.f == f) = false) : l.find? (fun t => t.f == f) = (l.drop (i + 1)).find? (fun t => t.f == f) := by
  rw [h, drop_get ht, List.find?_cons, hf]
theorem find_end {l : List Term} {f : Int} {i : Nat} (h : l.find? (fun t => t.f == f) = (l.drop i).find? (fun t => t.f == f)) (hi : i = l.length) : tmF l f = ⟨f, 0, 0⟩ := by
  unfold tmF; rw [h, hi, List.drop_length]; rfl
theorem w_term (l : List Term) (f : Int) (hl0 : l.length ≤ 140737488351232) : Spec0 Tryd.prog 23 [TL l, I .i64 f] (.agg (tC (tmF l f))) := by
  refine Spec0.walk Tryd.func23 rfl rfl ?_
  refine W.sxP hm hF 23 1 1000 20 [] [] [(0, TL l), (1, I .i64 f), (4, .ptr 0 0)] [.row 1 [I .i64 0, I .u64 0, I .u64 0]] (by kernel_rfl) trivial ?_
  refine W.seq ?_
  refine W.seq ?_
  refine W.sx hm hF 23 1000 20 [] [] .normal [(0, TL l), (1, I .i64 f), (4, .ptr 0 0), (5, I .i64 (0))] [.row 1 [I .i64 0, I .u64 0, I .u64 0]] (by kernel_rfl) trivial (fun σ h => W.weaken h ?_)
  refine W.block ?_
  refine W.loop (fun i : Nat => ⟨tbl [(0, TL l), (1, I .i64 f), (4, .ptr 0 0), (5, I .i64 ((i : Nat)))], [.row 1 [I .i64 0, I .u64 0, I .u64 0]]⟩) (fun i => i ≤ l.length ∧ l.find? (fun t => t.f == f) = (l.drop i).find? (fun t => t.f == f)) (fun i => l.length - i) 0 ⟨Nat.zero_le _, by simp⟩ (Le.refl _) ?_
  rintro i ⟨hi, ha⟩
  by_cases hlt : i < l.length
  · have hb : decide (((i : Nat) : Int) < (l.length : Nat)) = true := decide_eq_true (by omega)
    obtain ⟨t, hget⟩ : ∃ t, l[i]? = some t := ⟨_, List.getElem?_eq_getElem hlt⟩
    cases g1 : t.f == f
    · exact W.sx hm hF 23 1000 20 [.n 23 2 2 l.length, .b 23 2 3 true, .j 23 4 2 l.length i, .l 23 4 4 (I .i64 t.f), .b 23 4 6 false, .z 23 3 1 ((i + 1 : Nat) : Int)] [IntKind.i64.wrap (((i : Nat) : Int) + 1) = ((i + 1 : Nat) : Int), (t.f == f) = false, (l.flatMap tC)[i * 3 + 0]? = some (I .i64 t.f), l.length * 3 = (l.flatMap tC).length, 0 < 3, ((i : Nat) : Int) = (i : Int), i < l.length, (decide (((i : Nat) : Int) < (l.length : Nat))) = true, l.length * 3 = (l.flatMap tC).length, 0 < 3] .normal [(0, TL l), (1, I .i64 f), (4, .ptr 0 0), (5, I .i64 ((i + 1 : Nat)))] [.row 1 [I .i64 0, I .u64 0, I .u64 0]] (by kernel_rfl) ⟨i64_n i (by omega), g1, fm_cell tC_len l hget (by decide) rfl, (fm_len tC_len l).symm, by decide, rfl, hlt, hb, (fm_len tC_len l).symm, by decide, trivial⟩ (fun σ h => ⟨i + 1, ⟨hlt, find_no ha hget g1⟩, by omega, h⟩)
    · rw [find_ok ha hget g1]
      exact W.sxR hm hF 23 1000 20 [.n 23 2 2 l.length, .b 23 2 3 true, .j 23 4 2 l.length i, .l 23 4 4 (I .i64 t.f), .b 23 4 6 true, .j 23 5 2 l.length i, .l 23 5 3 (.agg (tC t))] [((l.flatMap tC).drop (i * 3)).take 3 = tC t, i * 3 + 3 ≤ (l.flatMap tC).length, l.length * 3 = (l.flatMap tC).length, 0 < 3, ((i : Nat) : Int) = (i : Int), i < l.length, (t.f == f) = true, (l.flatMap tC)[i * 3 + 0]? = some (I .i64 t.f), l.length * 3 = (l.flatMap tC).length, 0 < 3, ((i : Nat) : Int) = (i : Int), i < l.length, (decide (((i : Nat) : Int) < (l.length : Nat))) = true, l.length * 3 = (l.flatMap tC).length, 0 < 3] [.cell 4 52] .ret (.agg (tC t)) (by kernel_rfl) ⟨fm_at tC_len l hget, fm_bound tC_len l hlt, (fm_len tC_len l).symm, by decide, rfl, hlt, g1, fm_cell tC_len l hget (by decide) rfl, (fm_len tC_len l).symm, by decide, rfl, hlt, hb, (fm_len tC_len l).symm, by decide, trivial⟩ (fun σ xs h1 h2 => retK.mk (.inl rfl) h1 h2)
  · have hb : decide (((i : Nat) : Int) < (l.length : Nat)) = false := decide_eq_false (by omega)
    refine W.sx hm hF 23 1000 20 [.n 23 2 2 l.length, .b 23 2 3 false] [decide (((i : Nat) : Int) < (l.length : Nat)) = false, l.length * 3 = (l.flatMap tC).length, 0 < 3] (.exit 0) [(1, I .i64 f), (4, .ptr 0 0)] [.row 1 [I .i64 0, I .u64 0, I .u64 0]] (by kernel_rfl) ⟨hb, (fm_len tC_len l).symm, by decide, trivial⟩ (fun σ h => W.weaken h ?_)
    rw [find_end ha (by omega)]
    exact W.sxR hm hF 23 1000 20 [] [] [.cell 4 52] .ret (.agg (tC ⟨f, 0, 0⟩)) (by kernel_rfl) trivial (fun σ xs h1 h2 => retK.mk (.inl rfl) h1 h2)
/-- What the reference's And makes of the fields from k on; n: how many. -/
def rgo (a b : List Term) : Nat → Nat → Option (List Term)
  | 0, _ => some []
  | n + 1, k => cond (clash (tmF a k) (tmF b k)) none (cond (uor (tmF a k).m (tmF b k).m != 0) ((rgo a b n (k + 1)).map (mk2 (tmF a k) (tmF b k) :: ·)) (rgo a b n (k + 1)))
def randV (a b : List Term) : List Term × Bool × Int := cond (chk 0 a && chk 0 b) (match rgo a b 28 1 with | some r => (r, true, 0) | none => ([], false, 0)) ([], false, 90)
theorem rgo_s (a b : List Term) {k : Nat} (h : k ≤ 28) : rgo a b (29 - k) k = cond (clash (tmF a k) (tmF b k)) none (cond (uor (tmF a k).m (tmF b k).m != 0) ((rgo a b (29 - (k + 1)) (k + 1)).map (mk2 (tmF a k) (tmF b k) :: ·)) (rgo a b (29 - (k + 1)) (k + 1))) := by
  rw [show 29 - k = (29 - (k + 1)) + 1 by omega]; rfl
theorem mk2_k (a b : List Term) (k : Int) : mk2 (tmF a k) (tmF b k) = ⟨k, uor (tmF a k).v (tmF b k).v, uor (tmF a k).m (tmF b k).m⟩ := by unfold mk2; rw [tmF_f]
def SR (a b : List Term) (x : Nat × List Term) : SS := ⟨tbl [(0, TL a), (1, TL b), (7, .sl 0 0 x.2.length), (8, I .i64 (x.1 : Nat))], [.row 3 (x.2.flatMap tC)]⟩
theorem w_RAnd (a b : List Term) (hla : a.length ≤ 140737488351232) (hlb : b.length ≤ 140737488351232) : Spec0 Tryd.prog 13 [TL a, TL b] (R3 (randV a b)) := by
  have hca := w_RCheck a hla
  have hcb := w_RCheck b hlb
  refine Spec0.walk Tryd.func13 rfl rfl ?_
  by_cases hab : chk 0 a && chk 0 b
  · have h0 := Bool.and_eq_true_iff.1 hab
    have ea : okC a = 0 := by unfold okC; rw [h0.1]; rfl
    have eb : okC b = 0 := by unfold okC; rw [h0.2]; rfl
    rw [ea] at hca
    rw [eb] at hcb
    have eR : randV a b = andO (rgo a b 28 1) := by unfold randV; rw [hab]; rfl
    rw [eR]
    generalize hR : rgo a b 28 1 = R
    refine W.sxP hm hF 13 3 1000 20 [.c 13 1 1 (I .i64 0), .c 13 1 5 (I .i64 0)] [_, _] [(0, TL a), (1, TL b), (7, .nil)] [] (by kernel_rfl) ⟨hcb, hca, trivial⟩ ?_
    refine W.seq ?_
    refine W.seq ?_
    refine W.sx hm hF 13 1000 20 [] [] .normal [(0, TL a), (1, TL b), (7, .nil), (8, I .i64 1)] [] (by kernel_rfl) trivial (fun σ h => W.weaken h ?_)
    refine W.block ?_
    refine W.loopE (SR a b) (fun x => 1 ≤ x.1 ∧ x.1 ≤ 29 ∧ x.2.length ≤ x.1 ∧ (rgo a b (29 - x.1) x.1).map (x.2 ++ ·) = R) (fun x => 29 - x.1) 3 rfl (1, []) ⟨by decide, by decide, by decide, by simp only [List.nil_append, Option.map_id']; exact hR⟩ (Le.refl _) ?_
    rintro ⟨k, out⟩ ⟨k1, k2, k3, hr⟩
    simp only at k1 k2 k3 hr
    unfold SR
    simp only
    by_cases hk : k ≤ 28
    · have hb : decide (((k : Nat) : Int) ≤ 28) = true := decide_eq_true (by omega)
      rw [rgo_s a b hk] at hr
      cases g1 : (uand (uand (uxor (tmF a k).v (tmF b k).v) (tmF a k).m) (tmF b k).m != 0)
      · rw [show clash (tmF a k) (tmF b k) = false from g1] at hr
        cases g2 : uor (tmF a k).m (tmF b k).m != 0
        · rw [g2] at hr
          exact W.sx hm hF 13 1000 20 [.b 13 5 1 true, .c 13 7 2 (.agg (tC (tmF a k))), .c 13 7 5 (.agg (tC (tmF b k))), .b 13 8 11 false, .b 13 10 5 false, .z 13 6 1 ((k + 1 : Nat) : Int)] [IntKind.i64.wrap (((k : Nat) : Int) + 1) = ((k + 1 : Nat) : Int), (uor (tmF a k).m (tmF b k).m != 0) = false, ((uand (uand (uxor (tmF a k).v (tmF b k).v) (tmF a k).m) (tmF b k).m != 0)) = false, Spec0 Tryd.prog 23 [TL b, I .i64 (k : Nat)] (.agg (tC (tmF b k))), Spec0 Tryd.prog 23 [TL a, I .i64 (k : Nat)] (.agg (tC (tmF a k))), (decide (((k : Nat) : Int) ≤ 28)) = true] .normal [(0, TL a), (1, TL b), (7, .sl 0 0 out.length), (8, I .i64 ((k + 1 : Nat)))] [.row 3 (out.flatMap tC), .row 1 (tC (tmF a k)), .row 1 (tC (tmF b k))] (by kernel_rfl) ⟨i64_n k (by omega), g2, g1, w_term b k hlb, w_term a k hla, hb, trivial⟩ (fun σ h => ⟨(k + 1, out), [0], ⟨by simp only; omega, by simp only; omega, by simp only; omega, hr⟩, by simp only; omega, LeM.mk' (out := [(0, TL a), (1, TL b), (7, .sl 0 0 out.length), (8, I .i64 ((k + 1 : Nat)))]) (hp := [.row 3 (out.flatMap tC), .row 1 (tC (tmF a k)), .row 1 (tC (tmF b k))]) rfl rfl (by simp) (by decide) (by intro r hr; rw [List.mem_singleton] at hr; subst hr; exact fm_no tC_no _) h⟩)
        · rw [g2] at hr
          simp only [cond_false, cond_true, omap, mk2_k] at hr
          exact W.sx hm hF 13 1000 20 [.b 13 5 1 true, .c 13 7 2 (.agg (tC (tmF a k))), .c 13 7 5 (.agg (tC (tmF b k))), .b 13 8 11 false, .b 13 10 5 true, .p 13 11 14 1 (out ++ [(⟨(k : Nat), uor (tmF a k).v (tmF b k).v, uor (tmF a k).m (tmF b k).m⟩ : Term)]).length (tC ((⟨(k : Nat), uor (tmF a k).v (tmF b k).v, uor (tmF a k).m (tmF b k).m⟩ : Term))) ((out ++ [(⟨(k : Nat), uor (tmF a k).v (tmF b k).v, uor (tmF a k).m (tmF b k).m⟩ : Term)]).flatMap tC), .z 13 6 1 ((k + 1 : Nat) : Int)] [IntKind.i64.wrap (((k : Nat) : Int) + 1) = ((k + 1 : Nat) : Int), 1 = 1, tC ((⟨(k : Nat), uor (tmF a k).v (tmF b k).v, uor (tmF a k).m (tmF b k).m⟩ : Term)) = tC ((⟨(k : Nat), uor (tmF a k).v (tmF b k).v, uor (tmF a k).m (tmF b k).m⟩ : Term)), 0 + out.length * 3 = (out.flatMap tC).length, (out ++ [(⟨(k : Nat), uor (tmF a k).v (tmF b k).v, uor (tmF a k).m (tmF b k).m⟩ : Term)]).length * 24 ≤ 140737488355328, out.length + 1 = (out ++ [(⟨(k : Nat), uor (tmF a k).v (tmF b k).v, uor (tmF a k).m (tmF b k).m⟩ : Term)]).length, (out.flatMap tC).drop 0 ++ tC ((⟨(k : Nat), uor (tmF a k).v (tmF b k).v, uor (tmF a k).m (tmF b k).m⟩ : Term)) = (out ++ [(⟨(k : Nat), uor (tmF a k).v (tmF b k).v, uor (tmF a k).m (tmF b k).m⟩ : Term)]).flatMap tC, (uor (tmF a k).m (tmF b k).m != 0) = true, ((uand (uand (uxor (tmF a k).v (tmF b k).v) (tmF a k).m) (tmF b k).m != 0)) = false, Spec0 Tryd.prog 23 [TL b, I .i64 (k : Nat)] (.agg (tC (tmF b k))), Spec0 Tryd.prog 23 [TL a, I .i64 (k : Nat)] (.agg (tC (tmF a k))), (decide (((k : Nat) : Int) ≤ 28)) = true] .normal [(0, TL a), (1, TL b), (7, .sl 4 0 (out ++ [(⟨(k : Nat), uor (tmF a k).v (tmF b k).v, uor (tmF a k).m (tmF b k).m⟩ : Term)]).length), (8, I .i64 ((k + 1 : Nat)))] [.dead, .row 1 (tC (tmF a k)), .row 1 (tC (tmF b k)), .row 3 (tC (⟨(k : Nat), uor (tmF a k).v (tmF b k).v, uor (tmF a k).m (tmF b k).m⟩ : Term)), .row 3 ((out ++ [(⟨(k : Nat), uor (tmF a k).v (tmF b k).v, uor (tmF a k).m (tmF b k).m⟩ : Term)]).flatMap tC)] (by kernel_rfl) ⟨i64_n k (by omega), rfl, rfl, by rw [fm_len tC_len]; omega, by rw [List.length_append, List.length_singleton]; omega, by simp, fm_app1 out ((⟨(k : Nat), uor (tmF a k).v (tmF b k).v, uor (tmF a k).m (tmF b k).m⟩ : Term)), g2, g1, w_term b k hlb, w_term a k hla, hb, trivial⟩ (fun σ h => ⟨(k + 1, out ++ [(⟨(k : Nat), uor (tmF a k).v (tmF b k).v, uor (tmF a k).m (tmF b k).m⟩ : Term)]), [4], ⟨by simp only; omega, by simp only; omega, by simp only [List.length_append, List.length_singleton]; omega, hr⟩, by simp only; omega, LeM.mk' (out := [(0, TL a), (1, TL b), (7, .sl 4 0 (out ++ [(⟨(k : Nat), uor (tmF a k).v (tmF b k).v, uor (tmF a k).m (tmF b k).m⟩ : Term)]).length), (8, I .i64 ((k + 1 : Nat)))]) (hp := [.dead, .row 1 (tC (tmF a k)), .row 1 (tC (tmF b k)), .row 3 (tC (⟨(k : Nat), uor (tmF a k).v (tmF b k).v, uor (tmF a k).m (tmF b k).m⟩ : Term)), .row 3 ((out ++ [(⟨(k : Nat), uor (tmF a k).v (tmF b k).v, uor (tmF a k).m (tmF b k).m⟩ : Term)]).flatMap tC)]) rfl rfl (by simp) (by decide) (by intro r hr; rw [List.mem_singleton] at hr; subst hr; exact fm_no tC_no _) h⟩)
      · rw [show clash (tmF a k) (tmF b k) = true from g1] at hr
        subst hr
        exact W.sx hm hF 13 1000 20 [.b 13 5 1 true, .c 13 7 2 (.agg (tC (tmF a k))), .c 13 7 5 (.agg (tC (tmF b k))), .b 13 8 11 true] [((uand (uand (uxor (tmF a k).v (tmF b k).v) (tmF a k).m) (tmF b k).m != 0)) = true, Spec0 Tryd.prog 23 [TL b, I .i64 (k : Nat)] (.agg (tC (tmF b k))), Spec0 Tryd.prog 23 [TL a, I .i64 (k : Nat)] (.agg (tC (tmF a k))), (decide (((k : Nat) : Int) ≤ 28)) = true] .ret [(4, .nil), (5, B false), (6, I .i64 0)] [.row 3 (out.flatMap tC), .row 1 (tC (tmF a k)), .row 1 (tC (tmF b k))] (by kernel_rfl) ⟨g1, w_term b k hlb, w_term a k hla, hb, trivial⟩ (fun σ h => retK.fzN (.inl rfl) h rfl (.keep rfl) (fun _ _ _ _ => nil_im3))
    · have hb : decide (((k : Nat) : Int) ≤ 28) = false := decide_eq_false (by omega)
      have hr' : R = some out := by rw [← hr, show 29 - k = 0 by omega]; simp [rgo]
      subst hr'
      refine W.sx hm hF 13 1000 20 [.b 13 5 1 false] [decide (((k : Nat) : Int) ≤ 28) = false] (.exit 0) [(7, .sl 0 0 out.length)] [.row 3 (out.flatMap tC)] (by kernel_rfl) ⟨hb, trivial⟩ (fun σ h => W.weaken h ?_)
      exact W.sx hm hF 13 1000 20 [] [] .ret [(4, .sl 0 0 out.length), (5, B true), (6, I .i64 0)] [.row 3 (out.flatMap tC)] (by kernel_rfl) trivial (fun σ h => retK.fz (.inl rfl) h rfl (Fz.tl rfl rfl rfl rfl))
  · have hv : randV a b = ([], false, 90) := by unfold randV; rw [Bool.eq_false_iff.2 hab]; rfl
    rw [hv]
    cases h1 : chk 0 a
    · have ea : okC a = 90 := by unfold okC; rw [h1]; rfl
      rw [ea] at hca
      exact W.sx hm hF 13 1000 20 [.c 13 1 1 (I .i64 90)] [_] .ret [(4, .nil), (5, B false), (6, I .i64 90)] [] (by kernel_rfl) ⟨hca, trivial⟩ (fun σ h => by exact retK.fzN (.inl rfl) h rfl (.keep rfl) (fun _ _ _ _ => nil_im3))
    · have h2 : chk 0 b = false := by simpa [h1] using hab
      have ea : okC a = 0 := by unfold okC; rw [h1]; rfl
      have eb : okC b = 90 := by unfold okC; rw [h2]; rfl
      rw [ea] at hca
      rw [eb] at hcb
      exact W.sx hm hF 13 1000 20 [.c 13 1 1 (I .i64 0), .c 13 1 5 (I .i64 90)] [_, _] .ret [(4, .nil), (5, B false), (6, I .i64 90)] [] (by kernel_rfl) ⟨hcb, hca, trivial⟩ (fun σ h => by exact retK.fzN (.inl rfl) h rfl (.keep rfl) (fun _ _ _ _ => nil_im3))
end Go.Proofs.YtbimmnnjnlfddaaDoor
