/-
  What the readers of tunnels' data answer.
-/
import Derived.Test.YtkhpligflffamaaLMq3
import Derived.Test.YtkhpligflffamaaINq3
set_option linter.unusedVariables false
set_option linter.unusedSimpArgs false
set_option maxRecDepth 100000
set_option maxHeartbeats 1000000
namespace Go.Proofs.Ytkhpligflffamaa
open Go Go.SL Go.Proofs
theorem exc {n : Nat} {l : List UInt8} (h : n + 1 ≤ l.length) : ∃ x t, l = x :: t ∧ n ≤ t.length := by
  cases l with
  | nil => simp at h
  | cons x t => exact ⟨x, t, rfl, by simpa using h⟩
theorem and128 : ∀ n, n < 256 → (decide (128 ≤ n)) = (!decide (n &&& 128 = 0)) := by decide
theorem w_inner (s : ByteArray) (hs : s.size ≤ 100000) : Spec0 Try.prog 28 [S s] (rdK (vnS s) (oamS s) (s.extract (zS s) s.size) (rdR s)) := by
  by_cases h1 : s.size < 8
  · rw [rdR, if_pos h1]; exact w_in_b1 s hs h1
  by_cases h2 : s.size < zS s
  · rw [rdR, if_neg h1, if_pos h2]; exact w_in_b2 s hs (by omega) h2
  have hl := ba_len s
  have e1 : be (List.take 3 (List.drop 4 s.data.toList)) = vnS s := by
    unfold vnS
    have h8 : 7 + 1 ≤ s.data.toList.length := by omega
    generalize s.data.toList = dl at h8
    obtain ⟨x0, l0, rfl, r0⟩ := exc (n := 7) h8
    obtain ⟨x1, l1, rfl, r1⟩ := exc (n := 6) r0
    obtain ⟨x2, l2, rfl, r2⟩ := exc (n := 5) r1
    obtain ⟨x3, l3, rfl, r3⟩ := exc (n := 4) r2
    obtain ⟨x4, l4, rfl, r4⟩ := exc (n := 3) r3
    obtain ⟨x5, l5, rfl, r5⟩ := exc (n := 2) r4
    obtain ⟨x6, l6, rfl, r6⟩ := exc (n := 1) r5
    show be [x4, x5, x6] = x4.toNat * 65536 + x5.toNat * 256 + x6.toNat
    simp only [be, List.foldl]; omega
  have e2 : (decide ((((List.getD s.data.toList 1 0).toNat : Nat) : Int) ≥ 128)) = oamS s := by
    unfold oamS
    have h := and128 (List.getD s.data.toList 1 0).toNat (UInt8.toNat_lt _)
    generalize (List.getD s.data.toList 1 0).toNat = x at *
    have a : decide (((x : Nat) : Int) ≥ 128) = decide (128 ≤ x) := by rw [decide_eq_decide]; omega
    rw [a, h]
    cases hd : decide (x &&& 128 = 0)
    · have := of_decide_eq_false hd
      simp; omega
    · have := of_decide_eq_true hd
      rw [this]; rfl
  have e3 : popt ((s.data.toList.take (zS s)).drop 8) = rdR s := by
    rw [rdR, if_neg h1, if_neg h2, ex_data, List.drop_take]
  have e4 : (⟨(List.take (s.size - zS s) (List.drop (zS s) s.data.toList)).toArray⟩ : ByteArray) = s.extract (zS s) s.size := by
    apply ByteArray.ext
    apply Array.toList_inj.1
    rw [ex_data]
  have h := w_inner_aux s hs (by omega) (by omega) _ _ _ e1 e2 e3
  rw [e4] at h
  exact h
theorem popt_okA : ∀ (n : Nat) (l : List UInt8) (os : List Opt), l.length ≤ n → popt l = some os → os.all okO = true ∧ (os.flatMap opB).length = l.length := by
  intro n
  induction n with
  | zero =>
    intro l os hl h
    obtain rfl := List.eq_nil_of_length_eq_zero (show l.length = 0 by omega)
    rw [popt, if_pos rfl] at h
    injection h with h; subst h; exact ⟨rfl, rfl⟩
  | succ n ih =>
    intro l os hl h
    rw [popt] at h
    split at h
    · rename_i e; injection h with h; subst h; subst e; exact ⟨rfl, rfl⟩
    split at h
    · simp at h
    split at h
    · simp at h
    rename_i e1 e2 e3
    cases hq : popt (l.drop (4 + 4 * ((l.getD 3 0).toNat % 32))) with
    | none => rw [hq] at h; simp at h
    | some os' =>
      rw [hq] at h; simp only [Option.map_some, Option.some.injEq] at h; subst h
      obtain ⟨i1, i2⟩ := ih _ _ (by rw [List.length_drop]; omega) hq
      have b0 := byte_le (l.getD 0 0)
      have b1 := byte_le (l.getD 1 0)
      have b2 := byte_le (l.getD 2 0)
      have sz : (⟨(List.take (4 * ((l.getD 3 0).toNat % 32)) (List.drop 4 l)).toArray⟩ : ByteArray).size = 4 * ((l.getD 3 0).toNat % 32) := by rw [ba_szL, List.length_take, List.length_drop]; omega
      refine ⟨by rw [List.all_cons, i1, (okO_iff _).2 ⟨by simp only; omega, by simp only; omega, by simp only; omega, by simp only; omega, by simp only [sz]; omega, by simp only [sz]; omega⟩]; rfl, ?_⟩
      have lo : ∀ o : Opt, (opB o).length = 4 + o.d.size := fun o => by unfold opB; rw [List.length_append, ba_len]; simp only [List.length_cons, List.length_nil]
      rw [List.flatMap_cons, List.length_append, i2, List.length_drop, lo]
      simp only [sz]; omega
theorem rd_okA {s : ByteArray} {os : List Opt} (h : rdR s = some os) : okA os ∧ os.length ≤ 4611686018427387 ∧ ∀ o ∈ os, o.d.size ≤ 200000000000000 := by
  unfold rdR at h
  split at h
  · simp at h
  split at h
  · simp at h
  rename_i h1 h2
  have lz : (s.extract 8 (zS s)).data.toList.length ≤ 252 := by rw [ba_len, ex_size _ (by omega)]; unfold zS; omega
  obtain ⟨a, b⟩ := popt_okA _ _ _ (Nat.le_refl _) h
  refine ⟨⟨a, by omega⟩, ?_, fun o ho => ?_⟩
  · have : ∀ l : List Opt, l.length ≤ (l.flatMap opB).length := fun l => by
      induction l with
      | nil => exact Nat.le_refl _
      | cons o l ih =>
        have lo : (opB o).length = 4 + o.d.size := by unfold opB; rw [List.length_append, ba_len]; simp only [List.length_cons, List.length_nil]
        rw [List.flatMap_cons, List.length_append, List.length_cons]; omega
    have := this os
    omega
  · have := (okO_iff o).1 (List.all_eq_true.1 a o ho)
    omega
theorem vnS_le (s : ByteArray) : vnS s ≤ 16777215 := by
  unfold vnS
  have b0 := byte_le (s.data.toList.getD 4 0); have b1 := byte_le (s.data.toList.getD 5 0); have b2 := byte_le (s.data.toList.getD 6 0)
  omega
theorem enc_c (src dst sp vn : Nat) (oam : Bool) (l : List Opt) (fr : ByteArray) (h1 : src < 4294967296) (h2 : dst < 4294967296) (hsp : sp ≤ 65535) (hvn : vn ≤ 16777215) (hl0 : l.length ≤ 4611686018427387) (hz0 : ∀ o ∈ l, o.d.size ≤ 200000000000000) (ha : okA l) (hfr : fr.size ≤ 140737488351232) :
    (∃ A : List UInt8, A.length ≤ 65535 ∧ Spec0 Try.prog 7 [.agg [I .u32 (src : Nat), I .u32 (dst : Nat), I .i64 (sp : Nat), I .i64 (vn : Nat), B oam, OL l, S fr]] (.tup [.im 1 (A.map byteAV), I .i64 0]) ∧ Spec0 Try.prog 8 [.agg [I .u32 (src : Nat), I .u32 (dst : Nat), I .i64 (sp : Nat), I .i64 (vn : Nat), B oam, OL l, S fr]] (.tup [.im 1 (A.map byteAV), I .i64 0])) ∨
    (∃ e : Int, e ≠ 0 ∧ Spec0 Try.prog 7 [.agg [I .u32 (src : Nat), I .u32 (dst : Nat), I .i64 (sp : Nat), I .i64 (vn : Nat), B oam, OL l, S fr]] (.tup [.nil, I .i64 e]) ∧ Spec0 Try.prog 8 [.agg [I .u32 (src : Nat), I .u32 (dst : Nat), I .i64 (sp : Nat), I .i64 (vn : Nat), B oam, OL l, S fr]] (.tup [.nil, I .i64 e])) := by
  by_cases c5 : 9018 < fr.size
  · have hO := w_options l hl0 hz0
    rw [if_pos ha] at hO
    exact .inr ⟨3, by decide, w_En_f src dst (sp : Nat) (vn : Nat) oam l fr hfr _ _ ha.2 hO (by omega) (by omega) (by omega) (by omega) c5, w_rEn src dst sp vn oam l fr hsp hvn hl0 hz0 hfr _ (fun h => absurd ha h) (fun _ _ => rfl) (fun _ h => by omega)⟩
  · obtain ⟨L, hL, _, e1, e2, _⟩ := tun_ok src dst sp vn oam l fr h1 h2 hsp hvn hl0 hz0 ha (by omega)
    exact .inl ⟨L, hL, e1, e2⟩
theorem vrl1 {F : Nat → Prop} {μ : List Nm} {w : World} {vs : List Value} {a b c d e g : AV} (H : VRL F μ w [.agg [a, b, c, d, e, .nil, g]] vs) : VRL F μ w [.agg [a, b, c, d, e, .im 3 [], g]] vs := by
  cases H with
  | cons H T =>
    refine .cons ?_ T
    cases H with
    | @agg _ zs H =>
      refine .agg ?_
      generalize zs.toList = l at H ⊢
      cases H with | cons h1 H => cases H with | cons h2 H => cases H with | cons h3 H => cases H with | cons h4 H => cases H with | cons h5 H => cases H with | cons h6 H => exact .cons h1 (.cons h2 (.cons h3 (.cons h4 (.cons h5 (.cons (nil_im h6) H)))))
theorem nilArg {k : Nat} {a b c d e g K : AV} (h : Spec0 Try.prog k [.agg [a, b, c, d, e, OL [], g]] K) : Spec0 Try.prog k [.agg [a, b, c, d, e, .nil, g]] K :=
  fun F μ w args' hr ha => h F μ w args' hr (vrl1 ha)

end Go.Proofs.Ytkhpligflffamaa
