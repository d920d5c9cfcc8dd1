/-
  Plain laws of numbers' bytes and of check sums.
-/
import Derived.Test.YtkhpligflffamaaW0q3
set_option linter.unusedVariables false
set_option linter.unusedSimpArgs false
set_option maxRecDepth 100000
set_option maxHeartbeats 1000000
namespace Go.Proofs.Ytkhpligflffamaa
open Go Go.SL Go.Proofs
/-- A place's weight in the sum. -/
def wt (i : Nat) : Nat := if i % 2 = 0 then 256 else 1
theorem ws_succ (l : List UInt8) (i : Nat) : ws l (i + 1) = ws l i + (l.getD i 0).toNat * wt i := by
  simp only [ws, wt]; split <;> simp
theorem ws_set {l : List UInt8} {i : Nat} {v : UInt8} : ∀ n, i < n → i < l.length → ws (l.set i v) n + (l.getD i 0).toNat * wt i = ws l n + v.toNat * wt i := by
  have hlow : ∀ n, n ≤ i → ws (l.set i v) n = ws l n := by
    intro n
    induction n with
    | zero => intro _; rfl
    | succ n ih =>
      intro h
      rw [ws_succ, ws_succ, ih (by omega)]
      have : (l.set i v).getD n 0 = l.getD n 0 := by simp [List.getD, List.getElem?_set_ne (show i ≠ n by omega)]
      rw [this]
  intro n
  induction n with
  | zero => intro h; omega
  | succ n ih =>
    intro h hl
    rw [ws_succ, ws_succ]
    by_cases hn : i = n
    · subst hn
      rw [hlow i (Nat.le_refl _)]
      have : (l.set i v).getD i 0 = v := by simp [List.getD, hl]
      rw [this]; omega
    · have h1 := ih (by omega) hl
      have : (l.set i v).getD n 0 = l.getD n 0 := by simp [List.getD, List.getElem?_set_ne hn]
      rw [this]; omega
theorem fo_pos {x : Nat} (h : 0 < x) : 1 ≤ fo x ∧ fo x ≤ 65535 ∧ (fo x) % 65535 = x % 65535 := by
  unfold fo; rw [if_neg (by omega)]; omega
theorem fo_top {x : Nat} : fo x = 65535 ↔ 0 < x ∧ x % 65535 = 0 := by
  unfold fo; split <;> omega
theorem getD_ne {l : List UInt8} {i j : Nat} {v : UInt8} (h : i ≠ j) : (l.set i v).getD j 0 = l.getD j 0 := by
  rw [List.getD_eq_getElem?_getD, List.getD_eq_getElem?_getD, List.getElem?_set_ne h]
theorem ws_ge (l : List UInt8) : ∀ n, 1 ≤ n → (l.getD 0 0).toNat * 256 ≤ ws l n := by
  intro n
  induction n with
  | zero => intro h; omega
  | succ n ih =>
    intro _
    rw [ws_succ]
    rcases Nat.eq_zero_or_pos n with h | h
    · subst h; simp [ws, wt]
    · have := ih h; omega

theorem be_c2 (x y : UInt8) : be [x, y] = x.toNat * 256 + y.toNat := by simp [be]
theorem be_c4 (x y z u : UInt8) : be [x, y, z, u] = ((x.toNat * 256 + y.toNat) * 256 + z.toNat) * 256 + u.toNat := by simp [be]
theorem be_ub2 {n : Nat} (h : n < 65536) : be [ub1 n, ub n] = n := by
  rw [be_c2]; simp only [ub, ub1, UInt8.toNat_ofNat']; omega
theorem be_ub4 {n : Nat} (h : n < 4294967296) : be [ub3 n, ub2 n, ub1 n, ub n] = n := by
  rw [be_c4]; simp only [ub, ub1, ub2, ub3, UInt8.toNat_ofNat']; omega
theorem ub_nat {n : Nat} (h : n ≤ 255) : (ub n).toNat = n := by simp only [ub, UInt8.toNat_ofNat']; omega
/-- A sum that is put in its place makes the sum whole. -/
theorem chk_at {E : List UInt8} {i c s : Nat} (hi : i % 2 = 0) (hl : i + 1 < E.length) (h0 : E.getD i 0 = 0) (h1 : E.getD (i + 1) 0 = 0) (hpos : 0 < s + ws E E.length + c) (hcc : c ≤ 65535) (hc : (c + fo (s + ws E E.length)) % 65535 = 0) :
    fo (s + ws ((E.set i (ub1 c)).set (i + 1) (ub c)) E.length) = 65535 := by
  have g1 := ws_set (l := E) (i := i) (v := ub1 c) E.length (by omega) (by omega)
  have g2 := ws_set (l := E.set i (ub1 c)) (i := i + 1) (v := ub c) E.length (by omega) (by rw [List.length_set]; omega)
  have e11 : (E.set i (ub1 c)).getD (i + 1) 0 = 0 := by rw [getD_ne (by omega)]; exact h1
  rw [h0] at g1
  rw [e11] at g2
  have z : (0 : UInt8).toNat = 0 := rfl
  have w10 : wt i = 256 := by unfold wt; rw [if_pos hi]
  have w11 : wt (i + 1) = 1 := by unfold wt; rw [if_neg (by omega)]
  rw [z, w10] at g1
  rw [z, w11] at g2
  have hp : fo (s + ws E E.length) % 65535 = (s + ws E E.length) % 65535 := by
    rcases Nat.eq_zero_or_pos (s + ws E E.length) with h | h
    · rw [h]; rfl
    · exact (fo_pos h).2.2
  have hb : (ub1 c).toNat * 256 + (ub c).toNat = c := by simp only [ub, ub1, UInt8.toNat_ofNat']; omega
  generalize ws ((E.set i (ub1 c)).set (i + 1) (ub c)) E.length = A at *
  generalize ws (E.set i (ub1 c)) E.length = B at *
  generalize ws E E.length = D at *
  generalize fo (s + D) = G at *
  generalize (ub1 c).toNat = p at *
  generalize (ub c).toNat = q at *
  refine fo_top.2 ?_
  constructor
  · omega
  · omega
end Go.Proofs.Ytkhpligflffamaa
