/-
  Options and their bytes.
-/
import Derived.Test.YtkhpligflffamaaW0q3
set_option linter.unusedVariables false
set_option linter.unusedSimpArgs false
set_option maxRecDepth 100000
set_option maxHeartbeats 1000000
namespace Go.Proofs.Ytkhpligflffamaa
open Go Go.SL Go.Proofs
structure Opt where
  c : Int
  k : Int
  d : ByteArray
def oC (o : Opt) : List AV := [I .i64 o.c, I .i64 o.k, S o.d]
theorem oC_len (o : Opt) : (oC o).length = 3 := rfl
abbrev OL (l : List Opt) : AV := .im 3 (l.flatMap oC)
/-- May an option be? -/
def okO (o : Opt) : Bool := decide (0 ≤ o.c ∧ o.c ≤ 65535 ∧ 0 ≤ o.k ∧ o.k ≤ 255 ∧ o.d.size ≤ 124 ∧ o.d.size % 4 = 0)
/-- Its bytes. -/
def opB (o : Opt) : List UInt8 := [ub1 o.c.toNat, ub o.c.toNat, ub o.k.toNat, ub (o.d.size / 4)] ++ o.d.data.toList
def crit (o : Opt) : Bool := decide (128 ≤ o.k)
def okA (l : List Opt) : Prop := l.all okO = true ∧ (l.flatMap opB).length ≤ 252
theorem bl_cells (l : List UInt8) : (l.map byteAV).all cellAV = true := by
  induction l with
  | nil => rfl
  | cons b l ih => simp only [List.map_cons, List.all_cons, ih, Bool.and_true]; rfl
theorem bl_all (l : List UInt8) (a n : Nat) : (List.take n (List.drop a (l.map byteAV))).all cellAV = true := by rw [bl_sub]; exact bl_cells _
theorem i64_n1 (n : Nat) (h : n < 4611686018427387904) : IntKind.i64.wrap ((n : Int) + 1) = ((n + 1 : Nat) : Int) := by rw [IntWalk.i64_in _ (by omega)]; rfl
theorem ba_szL (l : List UInt8) : (⟨l.toArray⟩ : ByteArray).size = l.length := rfl
theorem ba_cat (A O : List UInt8) (fr : ByteArray) : (⟨A.toArray⟩ : ByteArray) ++ (⟨O.toArray⟩ : ByteArray) ++ fr = ⟨(A ++ O ++ fr.data.toList).toArray⟩ := by
  apply ByteArray.ext
  simp [ByteArray.data_append]
theorem take_str {A B : List UInt8} {k : Nat} (hk : A.length ≤ k) (h : A = B) : List.take k (List.drop 0 (A.map byteAV)) = B.map byteAV := by
  subst h
  rw [bl_sub, List.drop_zero, List.take_of_length_le hk]
theorem oC_no (o : Opt) : noOwnL (oC o) = true := rfl
theorem os_row (k : Nat) (l : List Opt) : rowLt k (.row 3 (l.flatMap oC)) = true := by simp only [rowLt, fm_no oC_no, Bool.true_or]
theorem ba_len (b : ByteArray) : b.data.toList.length = b.size := by rw [Array.length_toList]; rfl

end Go.Proofs.Ytkhpligflffamaa
