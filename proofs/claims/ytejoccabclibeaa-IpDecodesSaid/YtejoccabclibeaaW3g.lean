/-
  Contracts of functions of chapter 03: each theorem says what a call of one function answers, for all arguments that its hypotheses let in.
-/
import Derived.Test.YtejoccabclibeaaW3d
import Derived.Test.YtejoccabclibeaaSlW
set_option linter.unusedVariables false
set_option linter.unusedSimpArgs false
set_option maxRecDepth 100000
set_option maxHeartbeats 1000000
namespace Go.Proofs.Ytejoccabclibeaa
open Go Go.SL Go.Proofs

theorem be_lt : ∀ (l : List UInt8), be l < 256 ^ l.length := by
  have key : ∀ (l : List UInt8) (x : Nat), l.foldl (fun x c => x * 256 + c.toNat) x < (x + 1) * 256 ^ l.length := by
    intro l
    induction l with
    | nil => intro x; simp
    | cons c l ih =>
      intro x
      have h1 := ih (x * 256 + c.toNat)
      have h2 := byte_le c
      have h3 : (x * 256 + c.toNat + 1) * 256 ^ l.length ≤ ((x + 1) * 256) * 256 ^ l.length := Nat.mul_le_mul_right _ (by omega)
      simp only [List.foldl_cons, List.length_cons, Nat.pow_succ]
      calc _ < _ := h1
        _ ≤ _ := h3
        _ = _ := by rw [Nat.mul_assoc, Nat.mul_comm 256]
  intro l
  have := key l 0
  simpa [be] using this
theorem be_take {n k : Nat} (l : List UInt8) (h : n ≤ k) : be (l.take n) < 256 ^ k := by
  have h1 := be_lt (l.take n)
  have h2 : (l.take n).length ≤ k := by rw [List.length_take]; omega
  exact Nat.lt_of_lt_of_le h1 (Nat.pow_le_pow_right (by decide) h2)
theorem be2 (l : List UInt8) : be (l.take 2) < 65536 := be_take l (n := 2) (k := 2) (by decide)
theorem be4 (l : List UInt8) : be (l.take 4) < 4294967296 := be_take l (n := 4) (k := 4) (by decide)
theorem w_get2 {l : List UInt8} : Spec0 Try.prog 21 [.im 1 ((l.take 2).map byteAV)] (.sc (.int .u32 ((be (l.take 2) : Nat) : Int))) := by
  have h := w_get (l := l.take 2) (by rw [List.length_take]; omega)
  rwa [Nat.mod_eq_of_lt (by have := be2 l; omega)] at h
theorem w_get4 {l : List UInt8} : Spec0 Try.prog 21 [.im 1 ((l.take 4).map byteAV)] (.sc (.int .u32 ((be (l.take 4) : Nat) : Int))) := by
  have h := w_get (l := l.take 4) (by rw [List.length_take]; omega)
  rwa [Nat.mod_eq_of_lt (by have := be4 l; omega)] at h
theorem w_Num2 {l : List UInt8} : Spec0 Try.prog 24 [.im 1 ((l.take 2).map byteAV)] (.sc (.int .u64 ((be (l.take 2) : Nat) : Int))) := by
  have h := w_Num (l := l.take 2) (by rw [List.length_take]; omega)
  rwa [Nat.mod_eq_of_lt (by have := be2 l; omega)] at h
theorem w_Num4 {l : List UInt8} : Spec0 Try.prog 24 [.im 1 ((l.take 4).map byteAV)] (.sc (.int .u64 ((be (l.take 4) : Nat) : Int))) := by
  have h := w_Num (l := l.take 4) (by rw [List.length_take]; omega)
  rwa [Nat.mod_eq_of_lt (by have := be4 l; omega)] at h
/-- Why a head can't be read; 0 if it can. -/
def decE (l : List UInt8) : Nat :=
  if hdE l ≠ 0 then hdE l else if l.length < be (sub l 2 2) then 20 else if be (sub l 2 2) < hdS l then 21 else if fo (ws (sub l 0 (hdS l)) (sub l 0 (hdS l)).length) ≠ 65535 then 30 else 0
theorem decE_ok {l : List UInt8} (h : decE l = 0) : hdE l = 0 ∧ be (sub l 2 2) ≤ l.length ∧ hdS l ≤ be (sub l 2 2) ∧ fo (ws (sub l 0 (hdS l)) (sub l 0 (hdS l)).length) = 65535 := by
  unfold decE at h
  split at h; · omega
  split at h; · omega
  split at h; · omega
  split at h; · omega
  refine ⟨by omega, by omega, by omega, by omega⟩
theorem hd_form {l : List UInt8} (h : hdE l = 0) : (l.getD 0 0).toNat / 16 = 4 := by
  unfold hdE at h
  split at h; · omega
  split at h; · omega
  omega
theorem hd_zero {l : List UInt8} (h1 : 20 ≤ l.length) (h2 : (l.getD 0 0).toNat / 16 = 4) (h3 : 20 ≤ hdS l) (h4 : hdS l ≤ l.length) : hdE l = 0 := by
  unfold hdE; rw [if_neg (by omega), if_neg (by omega), if_neg (by omega)]
theorem decE_1 {l : List UInt8} (h1 : l.length < 20) : decE l = 20 := by
  have h : hdE l = 20 := by unfold hdE; rw [if_pos h1]
  unfold decE; rw [h]; rfl
theorem decE_2 {l : List UInt8} (h1 : 20 ≤ l.length) (h2 : (l.getD 0 0).toNat / 16 ≠ 4 ∨ hdS l < 20) : decE l = 21 := by
  have h : hdE l = 21 := by unfold hdE; rw [if_neg (by omega), if_pos h2]
  unfold decE; rw [h]; rfl
theorem decE_3 {l : List UInt8} (h1 : 20 ≤ l.length) (h2 : (l.getD 0 0).toNat / 16 = 4) (h3 : 20 ≤ hdS l) (h4 : l.length < hdS l) : decE l = 20 := by
  have h : hdE l = 20 := by unfold hdE; rw [if_neg (by omega), if_neg (by omega), if_pos h4]
  unfold decE; rw [h]; rfl
theorem decE_4 {l : List UInt8} (h0 : hdE l = 0) (h1 : l.length < be (List.take 2 (List.drop 2 l))) : decE l = 20 := by
  unfold decE; rw [if_neg (by omega)]; exact if_pos h1
theorem decE_5 {l : List UInt8} (h0 : hdE l = 0) (h1 : be (List.take 2 (List.drop 2 l)) ≤ l.length) (h2 : be (List.take 2 (List.drop 2 l)) < hdS l) : decE l = 21 := by
  unfold decE; rw [if_neg (by omega)]; exact (if_neg (Nat.not_lt.2 h1)).trans (if_pos h2)
theorem decE_6 {l : List UInt8} (h0 : hdE l = 0) (h1 : be (List.take 2 (List.drop 2 l)) ≤ l.length) (h2 : hdS l ≤ be (List.take 2 (List.drop 2 l))) (h3 : fo (ws (List.take (hdS l) (List.drop 0 l)) (List.take (hdS l) (List.drop 0 l)).length) ≠ 65535) : decE l = 30 := by
  unfold decE; rw [if_neg (by omega)]; exact (if_neg (Nat.not_lt.2 h1)).trans ((if_neg (Nat.not_lt.2 h2)).trans (if_pos h3))
theorem decE_7 {l : List UInt8} (h0 : hdE l = 0) (h1 : be (List.take 2 (List.drop 2 l)) ≤ l.length) (h2 : hdS l ≤ be (List.take 2 (List.drop 2 l))) (h3 : fo (ws (List.take (hdS l) (List.drop 0 l)) (List.take (hdS l) (List.drop 0 l)).length) = 65535) : decE l = 0 := by
  unfold decE; rw [if_neg (by omega)]; exact (if_neg (Nat.not_lt.2 h1)).trans ((if_neg (Nat.not_lt.2 h2)).trans (if_neg (fun h => h h3)))
/-- What a head says. -/
def decAV (l : List UInt8) : List AV :=
  [.sc (.int .i64 (((l.getD 1 0).toNat : Nat) : Int)), .sc (.int .i64 ((be (sub l 4 2) : Nat) : Int)), .sc (.int .i64 ((be (sub l 6 2) : Nat) : Int)), .sc (.int .i64 (((l.getD 8 0).toNat : Nat) : Int)), .sc (.int .i64 (((l.getD 9 0).toNat : Nat) : Int)), .sc (.int .u32 ((be (sub l 12 4) : Nat) : Int)), .sc (.int .u32 ((be (sub l 16 4) : Nat) : Int)), .sc (.string ⟨(sub l 20 (hdS l - 20)).toArray⟩)]
def ip0 : List AV := [.sc (.int .i64 0), .sc (.int .i64 0), .sc (.int .i64 0), .sc (.int .i64 0), .sc (.int .i64 0), .sc (.int .u32 0), .sc (.int .u32 0), .sc (.string ⟨#[]⟩)]

end Go.Proofs.Ytejoccabclibeaa
