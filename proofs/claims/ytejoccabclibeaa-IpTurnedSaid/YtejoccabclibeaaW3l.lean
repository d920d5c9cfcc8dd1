/-
  Contracts of functions of chapter 03: each theorem says what a call of one function answers, for all arguments that its hypotheses let in.
-/
import Derived.Test.YtejoccabclibeaaW3k
import Derived.Test.YtejoccabclibeaaW3h
import Derived.Test.YtejoccabclibeaaSlY
set_option linter.unusedVariables false
set_option linter.unusedSimpArgs false
set_option maxRecDepth 100000
set_option maxHeartbeats 1000000
namespace Go.Proofs.Ytejoccabclibeaa
open Go Go.SL Go.Proofs

def ipV (a0 a1 a2 a3 a4 a5 a6 : Int) (a7 : ByteArray) : List Value := [.int .i64 a0, .int .i64 a1, .int .i64 a2, .int .i64 a3, .int .i64 a4, .int .u32 a5, .int .u32 a6, .string a7]
def isI (n : Int) : Prop := -9223372036854775808 ≤ n ∧ n ≤ 9223372036854775807
def isU (n : Int) : Prop := 0 ≤ n ∧ n ≤ 4294967295
def ipL (a0 a1 a2 a3 a4 a5 a6 : Int) (a7 : ByteArray) : List (List Lit) := [[.int .i64 a0], [.int .i64 a1], [.int .i64 a2], [.int .i64 a3], [.int .i64 a4], [.int .u32 a5], [.int .u32 a6], [.string a7.data.toList]]
theorem kl_Ip {a0 a1 a2 a3 a4 a5 a6 : Int} {a7 : ByteArray} (h0 : isI a0) (h1 : isI a1) (h2 : isI a2) (h3 : isI a3) (h4 : isI a4) (h5 : isU a5) (h6 : isU a6) (h7 : a7.size ≤ 200000000000000) :
    Try.prog.keyLits 2 31 (ipV a0 a1 a2 a3 a4 a5 a6 a7) = some (ipL a0 a1 a2 a3 a4 a5 a6 a7).flatten :=
  kl_struct Try.underlying31 (by kernel_rfl) (by kernel_rfl)
    (KLF.cons (kl_int Try.underlying3 h0) (KLF.cons (kl_int Try.underlying3 h1) (KLF.cons (kl_int Try.underlying3 h2) (KLF.cons (kl_int Try.underlying3 h3) (KLF.cons (kl_int Try.underlying3 h4)
      (KLF.cons (kl_int Try.underlying29 h5) (KLF.cons (kl_int Try.underlying29 h6) (KLF.cons (kl_string Try.underlying9 (by omega)) KLF.nil))))))))
section
variable {env : Nat → AV} {hp : List AObj} {dst : Option Nat} {ty : TypeId} {pos : String} {after : Array Edge} {guard : Option (Nat × Bool)}
theorem eq_Ip {t' : TypeId} {x y : Operand} {a0 a1 a2 a3 a4 a5 a6 : Int} {a7 : ByteArray} (h0 : isI a0) (h1 : isI a1) (h2 : isI a2) (h3 : isI a3) (h4 : isI a4) (h5 : isU a5) (h6 : isU a6) (h7 : a7.size ≤ 200000000000000)
    (hx : opd env x = .agg ((ipV a0 a1 a2 a3 a4 a5 a6 a7).map AV.sc)) (hy : opd env y = .agg ((ipV a0 a1 a2 a3 a4 a5 a6 a7).map AV.sc)) :
    Step Try.prog ⟨dst, .binOp .eql 31 x y t', ty, pos, after, guard⟩ env hp (is (.sc (.bool true)) hp) :=
  step_eqAgg (m := 2) (D := 2) (D' := 2) (b := true) (by kernel_rfl) (by decide) (by kernel_rfl) hx hy (by kernel_rfl) (by kernel_rfl) (kl_Ip h0 h1 h2 h3 h4 h5 h6 h7) (kl_Ip h0 h1 h2 h3 h4 h5 h6 h7) (by simp)
theorem ne_Ip {t' : TypeId} {x y : Operand} {a0 a1 a2 a3 a4 a5 a6 : Int} {a7 : ByteArray} (h0 : isI a0) (h1 : isI a1) (h2 : isI a2) (h3 : isI a3) (h4 : isI a4) (h5 : isU a5) (h6 : isU a6) (h7 : a7.size ≤ 200000000000000)
    (hx : opd env x = .agg ((ipV a0 a1 a2 a3 a4 a5 a6 a7).map AV.sc)) (hy : opd env y = .agg ((ipV a0 a1 a2 a3 a4 a5 a6 a7).map AV.sc)) :
    Step Try.prog ⟨dst, .binOp .neq 31 x y t', ty, pos, after, guard⟩ env hp (is (.sc (.bool false)) hp) :=
  step_neAgg (m := 2) (D := 2) (D' := 2) (b := true) (by kernel_rfl) (by decide) (by kernel_rfl) hx hy (by kernel_rfl) (by kernel_rfl) (kl_Ip h0 h1 h2 h3 h4 h5 h6 h7) (kl_Ip h0 h1 h2 h3 h4 h5 h6 h7) (by simp)
end
/-- The bytes of the head that was read. -/
def cD (l : List UInt8) : List UInt8 := encB (l.getD 1 0).toNat (be (sub l 4 2)) (be (sub l 6 2)) (l.getD 8 0).toNat (l.getD 9 0).toNat (be (sub l 12 4)) (be (sub l 16 4)) (optsOf l) (be (sub l 2 2) - hdS l)
def optS (l : List UInt8) : ByteArray := ⟨(sub l 20 (hdS l - 20)).toArray⟩
theorem optS_size (l : List UInt8) : (optS l).size = (sub l 20 (hdS l - 20)).length := by unfold optS; rw [ByteArray.size]; simp
theorem w_EncD {l : List UInt8} (h : decE l = 0) : Spec0 Try.prog 12 [.agg (decAV l), .sc (.int .i64 ((be (sub l 2 2) - hdS l : Nat) : Int))] (.tup [.im 1 ((cD l).map byteAV), .sc (.int .i64 0)]) := by
  obtain ⟨h0, hA, hB, hC⟩ := decE_ok h
  obtain ⟨q1, q2, q3⟩ := hd_ok h0
  have e2 := be2 (List.drop 2 l)
  have e4 := be2 (List.drop 4 l)
  have e6 := be2 (List.drop 6 l)
  have e12 := be4 (List.drop 12 l)
  have e16 := be4 (List.drop 16 l)
  have y1 := byte_le (l.getD 1 0)
  have y8 := byte_le (l.getD 8 0)
  have y9 := byte_le (l.getD 9 0)
  have y0 := byte_le (l.getD 0 0)
  have hS : hdS l = 4 * ((l.getD 0 0).toNat % 16) := rfl
  have hz : (optS l).size = hdS l - 20 := by rw [optS_size]; simp only [sub, List.length_take, List.length_drop]; omega
  have := w_EncG (a0 := (l.getD 1 0).toNat) (a1 := be (sub l 4 2)) (a2 := be (sub l 6 2)) (a3 := (l.getD 8 0).toNat) (a4 := (l.getD 9 0).toNat) (a5 := be (sub l 12 4)) (a6 := be (sub l 16 4)) (d := be (sub l 2 2) - hdS l) (a7 := optS l)
    y1 y8 y9 (by simp only [sub]; omega) (by simp only [sub]; omega) e12 e16 (by omega) (by omega) (by simp only [sub] at *; omega)
  exact this
theorem w_DecE {a0 a1 a2 a3 a4 a5 a6 d : Nat} {a7 : ByteArray} {X l : List UInt8} (h0 : a0 ≤ 255) (h3 : a3 ≤ 255) (h4 : a4 ≤ 255) (h1 : a1 ≤ 65535) (h2 : a2 ≤ 65535) (h5 : a5 < 4294967296) (h6 : a6 < 4294967296) (hs : a7.size ≤ 40) (h8 : a7.size % 4 = 0)
    (hd : d + 20 + a7.size ≤ 65535) (hX : d ≤ X.length) (hm : l.length ≤ 200000000000000) (hl : l = encB a0 a1 a2 a3 a4 a5 a6 a7.data.toList d ++ X) :
    Spec0 Try.prog 18 [.im 1 (l.map byteAV)] (.tup [.agg [.sc (.int .i64 ((a0 : Nat) : Int)), .sc (.int .i64 ((a1 : Nat) : Int)), .sc (.int .i64 ((a2 : Nat) : Int)), .sc (.int .i64 ((a3 : Nat) : Int)), .sc (.int .i64 ((a4 : Nat) : Int)), .sc (.int .u32 ((a5 : Nat) : Int)), .sc (.int .u32 ((a6 : Nat) : Int)), .sc (.string a7)], .sc (.int .i64 ((20 + a7.size : Nat) : Int)), .sc (.int .i64 ((20 + a7.size + d : Nat) : Int)), .sc (.int .i64 0)]) := by
  have ho : a7.data.toList.length = a7.size := by rw [Array.length_toList]; rfl
  obtain ⟨r0, r1, r2, r3, r4, r5, r6, r7, r8, r9, r10⟩ := enc_read h0 h3 h4 h1 h2 h5 h6 (by omega) (by omega) (by omega) hX hl
  have h := w_DecG hm r0
  have e7 : (⟨(sub l 20 (hdS l - 20)).toArray⟩ : ByteArray) = a7 := by
    rw [r1, show 20 + a7.data.toList.length - 20 = a7.data.toList.length by omega, r10]
  unfold decAV at h
  rw [e7, r1, r2, r3, r4, r5, r6, r7, r8, r9, ho] at h
  exact h

end Go.Proofs.Ytejoccabclibeaa
