/-
  Numbers within bounds.
-/
import Derived.Test.YtcedoopcjlekcaaW0q2
set_option linter.unusedVariables false
set_option linter.unusedSimpArgs false
set_option maxRecDepth 100000
set_option maxHeartbeats 1000000
namespace Go.Proofs.Ytcedoopcjlekcaa
open Go Go.SL Go.Proofs
theorem w_in_l4_a (n m : Int) (h : n < 0) : Spec0 Try.prog 76 [I .i64 n, I .i64 m] (B false) := sx0 hm hF 1000 20 [.b 76 1 1 false] [decide (n ≥ 0) = false] (by kernel_rfl) ⟨(by first | omega | simp <;> omega), trivial⟩
theorem w_in_l4_b (n m : Int) (h : 0 ≤ n) (h2 : n ≤ m) : Spec0 Try.prog 76 [I .i64 n, I .i64 m] (B true) := sx0 hm hF 1000 20 [.b 76 1 1 true, .b 76 1 5 true] [decide (n ≤ m) = true, decide (n ≥ 0) = true] (by kernel_rfl) ⟨(by first | omega | simp <;> omega), (by first | omega | simp <;> omega), trivial⟩
theorem w_in_l4_c (n m : Int) (h : 0 ≤ n) (h2 : m < n) : Spec0 Try.prog 76 [I .i64 n, I .i64 m] (B false) := sx0 hm hF 1000 20 [.b 76 1 1 true, .b 76 1 5 false] [decide (n ≤ m) = false, decide (n ≥ 0) = true] (by kernel_rfl) ⟨(by first | omega | simp <;> omega), (by first | omega | simp <;> omega), trivial⟩
theorem w_in_ip_a (n m : Int) (h : n < 0) : Spec0 Try.prog 73 [I .i64 n, I .i64 m] (B false) := sx0 hm hF 1000 20 [.b 73 1 1 false] [decide (n ≥ 0) = false] (by kernel_rfl) ⟨(by first | omega | simp <;> omega), trivial⟩
theorem w_in_ip_b (n m : Int) (h : 0 ≤ n) (h2 : n ≤ m) : Spec0 Try.prog 73 [I .i64 n, I .i64 m] (B true) := sx0 hm hF 1000 20 [.b 73 1 1 true, .b 73 1 5 true] [decide (n ≤ m) = true, decide (n ≥ 0) = true] (by kernel_rfl) ⟨(by first | omega | simp <;> omega), (by first | omega | simp <;> omega), trivial⟩
theorem w_in_ip_c (n m : Int) (h : 0 ≤ n) (h2 : m < n) : Spec0 Try.prog 73 [I .i64 n, I .i64 m] (B false) := sx0 hm hF 1000 20 [.b 73 1 1 true, .b 73 1 5 false] [decide (n ≤ m) = false, decide (n ≥ 0) = true] (by kernel_rfl) ⟨(by first | omega | simp <;> omega), (by first | omega | simp <;> omega), trivial⟩
theorem w_in_eth_a (n : Int) (h : n < 0) : Spec0 Try.prog 49 [I .i64 n] (B false) := sx0 hm hF 1000 20 [.b 49 1 1 false] [decide (n ≥ 0) = false] (by kernel_rfl) ⟨(by first | omega | simp <;> omega), trivial⟩
theorem w_in_eth_b (n : Int) (h : 0 ≤ n) (h2 : n ≤ 65535) : Spec0 Try.prog 49 [I .i64 n] (B true) := sx0 hm hF 1000 20 [.b 49 1 1 true, .b 49 1 4 true] [decide (n ≤ 65535) = true, decide (n ≥ 0) = true] (by kernel_rfl) ⟨(by first | omega | simp <;> omega), (by first | omega | simp <;> omega), trivial⟩
theorem w_in_eth_c (n : Int) (h : 0 ≤ n) (h2 : 65535 < n) : Spec0 Try.prog 49 [I .i64 n] (B false) := sx0 hm hF 1000 20 [.b 49 1 1 true, .b 49 1 4 false] [decide (n ≤ 65535) = false, decide (n ≥ 0) = true] (by kernel_rfl) ⟨(by first | omega | simp <;> omega), (by first | omega | simp <;> omega), trivial⟩
theorem Spec0.bc {k : Nat} {xs : List AV} {b c : Bool} (h : b = c) (e : Spec0 Try.prog k xs (.sc (.bool b))) : Spec0 Try.prog k xs (.sc (.bool c)) := h ▸ e
theorem ba_data {a b : ByteArray} (h : a.data.toList = b.data.toList) : a = b := by
  cases a; cases b; congr; exact Array.toList_inj.1 h
instance : LawfulBEq ByteArray where
  rfl := bs_self _
  eq_of_beq h := by rw [beq_toListBytes, ByteArray.toList_eq, ByteArray.toList_eq] at h; exact ba_data (beq_iff_eq.1 h)

theorem w_in_l4 {n m : Int} : Spec0 Try.prog 76 [I .i64 n, I .i64 m] (B (decide (0 ≤ n ∧ n ≤ m))) := by
  rcases Int.lt_or_le n 0 with h | h
  · rw [show decide (0 ≤ n ∧ n ≤ m) = false by simp; omega]; exact w_in_l4_a n m h
  · rcases Int.lt_or_le m n with h2 | h2
    · rw [show decide (0 ≤ n ∧ n ≤ m) = false by simp; omega]; exact w_in_l4_c n m h h2
    · rw [show decide (0 ≤ n ∧ n ≤ m) = true by simp; omega]; exact w_in_l4_b n m h h2
theorem w_in_ip {n m : Int} : Spec0 Try.prog 73 [I .i64 n, I .i64 m] (B (decide (0 ≤ n ∧ n ≤ m))) := by
  rcases Int.lt_or_le n 0 with h | h
  · rw [show decide (0 ≤ n ∧ n ≤ m) = false by simp; omega]; exact w_in_ip_a n m h
  · rcases Int.lt_or_le m n with h2 | h2
    · rw [show decide (0 ≤ n ∧ n ≤ m) = false by simp; omega]; exact w_in_ip_c n m h h2
    · rw [show decide (0 ≤ n ∧ n ≤ m) = true by simp; omega]; exact w_in_ip_b n m h h2
theorem w_in_eth {n : Int} : Spec0 Try.prog 49 [I .i64 n] (B (decide (0 ≤ n ∧ n ≤ 65535))) := by
  rcases Int.lt_or_le n 0 with h | h
  · rw [show decide (0 ≤ n ∧ n ≤ 65535) = false by simp; omega]; exact w_in_eth_a n h
  · rcases Int.lt_or_le 65535 n with h2 | h2
    · rw [show decide (0 ≤ n ∧ n ≤ 65535) = false by simp; omega]; exact w_in_eth_c n h h2
    · rw [show decide (0 ≤ n ∧ n ≤ 65535) = true by simp; omega]; exact w_in_eth_b n h h2
end Go.Proofs.Ytcedoopcjlekcaa
