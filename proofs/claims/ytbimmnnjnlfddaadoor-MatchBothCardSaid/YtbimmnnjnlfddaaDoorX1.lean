/-
  Terms, and what the small functions answer for fields 1 to 28.
-/
import Derived.Test.YtbimmnnjnlfddaaDoorXS
import Derived.Test.YtbimmnnjnlfddaaDoorSxI
set_option linter.unusedVariables false
set_option linter.unusedSimpArgs false
set_option maxRecDepth 100000
set_option maxHeartbeats 1000000
namespace Go.Proofs.YtbimmnnjnlfddaaDoor
open Go Go.SL Go.Proofs
structure Term where
  f : Int
  v : Int
  m : Int
def tC (t : Term) : List AV := [I .i64 t.f, I .u64 t.v, I .u64 t.m]
theorem tC_len (t : Term) : (tC t).length = 3 := rfl
theorem tC_no (t : Term) : noOwnL (tC t) = true := rfl
theorem tC_one (t : Term) : (tC t).all cellAV = true := rfl
def uand (x y : Int) : Int := IntKind.u64.wrap ((BitVec.ofInt 64 x &&& BitVec.ofInt 64 y).toNat : Int)
def uor (x y : Int) : Int := IntKind.u64.wrap ((BitVec.ofInt 64 x ||| BitVec.ofInt 64 y).toNat : Int)
def uxor (x y : Int) : Int := IntKind.u64.wrap ((BitVec.ofInt 64 x ^^^ BitVec.ofInt 64 y).toNat : Int)
def uandn (x y : Int) : Int := IntKind.u64.wrap ((BitVec.ofInt 64 x &&& ~~~ BitVec.ofInt 64 y).toNat : Int)
abbrev TL (l : List Term) : AV := .im 3 (l.flatMap tC)
theorem i64_n (n : Nat) (h : n < 4611686018427387904) : IntKind.i64.wrap ((n : Int) + 1) = ((n + 1 : Nat) : Int) := by rw [IntWalk.i64_in _ (by omega)]; rfl
def allI : Nat → Int
  | 1 => 281474976710655
  | 2 => 281474976710655
  | 3 => 65535
  | 4 => 131071
  | 5 => 65535
  | 6 => 281474976710655
  | 7 => 4294967295
  | 8 => 281474976710655
  | 9 => 4294967295
  | 10 => 4294967295
  | 11 => 4294967295
  | 12 => 255
  | 13 => 255
  | 14 => 255
  | 15 => 65535
  | 16 => 255
  | 17 => 255
  | 18 => 65535
  | 19 => 65535
  | 20 => 4095
  | 21 => 255
  | 22 => 16777215
  | 23 => 65535
  | 24 => 65535
  | 25 => 4294967295
  | 26 => 4294967295
  | 27 => 4294967295
  | 28 => 4294967295
  | _ => 0
def needs : Nat → List Term
  | 5 => [⟨3, 2054, 65535⟩]
  | 6 => [⟨3, 2054, 65535⟩]
  | 7 => [⟨3, 2054, 65535⟩]
  | 8 => [⟨3, 2054, 65535⟩]
  | 9 => [⟨3, 2054, 65535⟩]
  | 10 => [⟨3, 2048, 65535⟩]
  | 11 => [⟨3, 2048, 65535⟩]
  | 12 => [⟨3, 2048, 65535⟩]
  | 13 => [⟨3, 2048, 65535⟩]
  | 14 => [⟨3, 2048, 65535⟩]
  | 15 => [⟨3, 2048, 65535⟩]
  | 18 => [⟨3, 2048, 65535⟩]
  | 19 => [⟨3, 2048, 65535⟩]
  | 16 => [⟨3, 2048, 65535⟩, ⟨12, 1, 255⟩]
  | 17 => [⟨3, 2048, 65535⟩, ⟨12, 1, 255⟩]
  | 20 => [⟨3, 2048, 65535⟩, ⟨12, 6, 255⟩]
  | _ => []
theorem all1 : Spec0 Tryd.prog 24 [I .i64 1] (I .u64 (allI 1)) := sx0 hm hF 1000 20 [] [] (by kernel_rfl) trivial
theorem all2 : Spec0 Tryd.prog 24 [I .i64 2] (I .u64 (allI 2)) := sx0 hm hF 1000 20 [] [] (by kernel_rfl) trivial
theorem all3 : Spec0 Tryd.prog 24 [I .i64 3] (I .u64 (allI 3)) := sx0 hm hF 1000 20 [] [] (by kernel_rfl) trivial
theorem all4 : Spec0 Tryd.prog 24 [I .i64 4] (I .u64 (allI 4)) := sx0 hm hF 1000 20 [] [] (by kernel_rfl) trivial
theorem all5 : Spec0 Tryd.prog 24 [I .i64 5] (I .u64 (allI 5)) := sx0 hm hF 1000 20 [] [] (by kernel_rfl) trivial
theorem all6 : Spec0 Tryd.prog 24 [I .i64 6] (I .u64 (allI 6)) := sx0 hm hF 1000 20 [] [] (by kernel_rfl) trivial
theorem all7 : Spec0 Tryd.prog 24 [I .i64 7] (I .u64 (allI 7)) := sx0 hm hF 1000 20 [] [] (by kernel_rfl) trivial
theorem all8 : Spec0 Tryd.prog 24 [I .i64 8] (I .u64 (allI 8)) := sx0 hm hF 1000 20 [] [] (by kernel_rfl) trivial
theorem all9 : Spec0 Tryd.prog 24 [I .i64 9] (I .u64 (allI 9)) := sx0 hm hF 1000 20 [] [] (by kernel_rfl) trivial
theorem all10 : Spec0 Tryd.prog 24 [I .i64 10] (I .u64 (allI 10)) := sx0 hm hF 1000 20 [] [] (by kernel_rfl) trivial
theorem all11 : Spec0 Tryd.prog 24 [I .i64 11] (I .u64 (allI 11)) := sx0 hm hF 1000 20 [] [] (by kernel_rfl) trivial
theorem all12 : Spec0 Tryd.prog 24 [I .i64 12] (I .u64 (allI 12)) := sx0 hm hF 1000 20 [] [] (by kernel_rfl) trivial
theorem all13 : Spec0 Tryd.prog 24 [I .i64 13] (I .u64 (allI 13)) := sx0 hm hF 1000 20 [] [] (by kernel_rfl) trivial
theorem all14 : Spec0 Tryd.prog 24 [I .i64 14] (I .u64 (allI 14)) := sx0 hm hF 1000 20 [] [] (by kernel_rfl) trivial
theorem all15 : Spec0 Tryd.prog 24 [I .i64 15] (I .u64 (allI 15)) := sx0 hm hF 1000 20 [] [] (by kernel_rfl) trivial
theorem all16 : Spec0 Tryd.prog 24 [I .i64 16] (I .u64 (allI 16)) := sx0 hm hF 1000 20 [] [] (by kernel_rfl) trivial
theorem all17 : Spec0 Tryd.prog 24 [I .i64 17] (I .u64 (allI 17)) := sx0 hm hF 1000 20 [] [] (by kernel_rfl) trivial
theorem all18 : Spec0 Tryd.prog 24 [I .i64 18] (I .u64 (allI 18)) := sx0 hm hF 1000 20 [] [] (by kernel_rfl) trivial
theorem all19 : Spec0 Tryd.prog 24 [I .i64 19] (I .u64 (allI 19)) := sx0 hm hF 1000 20 [] [] (by kernel_rfl) trivial
theorem all20 : Spec0 Tryd.prog 24 [I .i64 20] (I .u64 (allI 20)) := sx0 hm hF 1000 20 [] [] (by kernel_rfl) trivial
theorem all21 : Spec0 Tryd.prog 24 [I .i64 21] (I .u64 (allI 21)) := sx0 hm hF 1000 20 [] [] (by kernel_rfl) trivial
theorem all22 : Spec0 Tryd.prog 24 [I .i64 22] (I .u64 (allI 22)) := sx0 hm hF 1000 20 [] [] (by kernel_rfl) trivial
theorem all23 : Spec0 Tryd.prog 24 [I .i64 23] (I .u64 (allI 23)) := sx0 hm hF 1000 20 [] [] (by kernel_rfl) trivial
theorem all24 : Spec0 Tryd.prog 24 [I .i64 24] (I .u64 (allI 24)) := sx0 hm hF 1000 20 [] [] (by kernel_rfl) trivial
theorem all25 : Spec0 Tryd.prog 24 [I .i64 25] (I .u64 (allI 25)) := sx0 hm hF 1000 20 [] [(4 ≤ 9223372036854775807)] (by kernel_rfl) ⟨by decide, trivial⟩
theorem all26 : Spec0 Tryd.prog 24 [I .i64 26] (I .u64 (allI 26)) := sx0 hm hF 1000 20 [] [(4 ≤ 9223372036854775807)] (by kernel_rfl) ⟨by decide, trivial⟩
theorem all27 : Spec0 Tryd.prog 24 [I .i64 27] (I .u64 (allI 27)) := sx0 hm hF 1000 20 [] [(4 ≤ 9223372036854775807)] (by kernel_rfl) ⟨by decide, trivial⟩
theorem all28 : Spec0 Tryd.prog 24 [I .i64 28] (I .u64 (allI 28)) := sx0 hm hF 1000 20 [] [(4 ≤ 9223372036854775807)] (by kernel_rfl) ⟨by decide, trivial⟩
theorem w_all : ∀ k : Nat, 1 ≤ k → k ≤ 28 → Spec0 Tryd.prog 24 [I .i64 ((k : Nat) : Int)] (I .u64 (allI k))
  | 1, _, _ => all1
  | 2, _, _ => all2
  | 3, _, _ => all3
  | 4, _, _ => all4
  | 5, _, _ => all5
  | 6, _, _ => all6
  | 7, _, _ => all7
  | 8, _, _ => all8
  | 9, _, _ => all9
  | 10, _, _ => all10
  | 11, _, _ => all11
  | 12, _, _ => all12
  | 13, _, _ => all13
  | 14, _, _ => all14
  | 15, _, _ => all15
  | 16, _, _ => all16
  | 17, _, _ => all17
  | 18, _, _ => all18
  | 19, _, _ => all19
  | 20, _, _ => all20
  | 21, _, _ => all21
  | 22, _, _ => all22
  | 23, _, _ => all23
  | 24, _, _ => all24
  | 25, _, _ => all25
  | 26, _, _ => all26
  | 27, _, _ => all27
  | 28, _, _ => all28
  | 0, h, _ => absurd h (by decide)
  | k + 29, _, h => absurd h (by omega)
theorem rall1 : Spec0 Tryd.prog 28 [I .i64 1] (I .u64 (allI 1)) := sx0 hm hF 1000 20 [] [] (by kernel_rfl) trivial
theorem rall2 : Spec0 Tryd.prog 28 [I .i64 2] (I .u64 (allI 2)) := sx0 hm hF 1000 20 [] [] (by kernel_rfl) trivial
theorem rall3 : Spec0 Tryd.prog 28 [I .i64 3] (I .u64 (allI 3)) := sx0 hm hF 1000 20 [] [] (by kernel_rfl) trivial
theorem rall4 : Spec0 Tryd.prog 28 [I .i64 4] (I .u64 (allI 4)) := sx0 hm hF 1000 20 [] [] (by kernel_rfl) trivial
theorem rall5 : Spec0 Tryd.prog 28 [I .i64 5] (I .u64 (allI 5)) := sx0 hm hF 1000 20 [] [] (by kernel_rfl) trivial
theorem rall6 : Spec0 Tryd.prog 28 [I .i64 6] (I .u64 (allI 6)) := sx0 hm hF 1000 20 [] [] (by kernel_rfl) trivial
theorem rall7 : Spec0 Tryd.prog 28 [I .i64 7] (I .u64 (allI 7)) := sx0 hm hF 1000 20 [] [] (by kernel_rfl) trivial
theorem rall8 : Spec0 Tryd.prog 28 [I .i64 8] (I .u64 (allI 8)) := sx0 hm hF 1000 20 [] [] (by kernel_rfl) trivial
theorem rall9 : Spec0 Tryd.prog 28 [I .i64 9] (I .u64 (allI 9)) := sx0 hm hF 1000 20 [] [] (by kernel_rfl) trivial
theorem rall10 : Spec0 Tryd.prog 28 [I .i64 10] (I .u64 (allI 10)) := sx0 hm hF 1000 20 [] [] (by kernel_rfl) trivial
theorem rall11 : Spec0 Tryd.prog 28 [I .i64 11] (I .u64 (allI 11)) := sx0 hm hF 1000 20 [] [] (by kernel_rfl) trivial
theorem rall12 : Spec0 Tryd.prog 28 [I .i64 12] (I .u64 (allI 12)) := sx0 hm hF 1000 20 [] [] (by kernel_rfl) trivial
theorem rall13 : Spec0 Tryd.prog 28 [I .i64 13] (I .u64 (allI 13)) := sx0 hm hF 1000 20 [] [] (by kernel_rfl) trivial
theorem rall14 : Spec0 Tryd.prog 28 [I .i64 14] (I .u64 (allI 14)) := sx0 hm hF 1000 20 [] [] (by kernel_rfl) trivial
theorem rall15 : Spec0 Tryd.prog 28 [I .i64 15] (I .u64 (allI 15)) := sx0 hm hF 1000 20 [] [] (by kernel_rfl) trivial
theorem rall16 : Spec0 Tryd.prog 28 [I .i64 16] (I .u64 (allI 16)) := sx0 hm hF 1000 20 [] [] (by kernel_rfl) trivial
theorem rall17 : Spec0 Tryd.prog 28 [I .i64 17] (I .u64 (allI 17)) := sx0 hm hF 1000 20 [] [] (by kernel_rfl) trivial
theorem rall18 : Spec0 Tryd.prog 28 [I .i64 18] (I .u64 (allI 18)) := sx0 hm hF 1000 20 [] [] (by kernel_rfl) trivial
theorem rall19 : Spec0 Tryd.prog 28 [I .i64 19] (I .u64 (allI 19)) := sx0 hm hF 1000 20 [] [] (by kernel_rfl) trivial
theorem rall20 : Spec0 Tryd.prog 28 [I .i64 20] (I .u64 (allI 20)) := sx0 hm hF 1000 20 [] [] (by kernel_rfl) trivial
theorem rall21 : Spec0 Tryd.prog 28 [I .i64 21] (I .u64 (allI 21)) := sx0 hm hF 1000 20 [] [] (by kernel_rfl) trivial
theorem rall22 : Spec0 Tryd.prog 28 [I .i64 22] (I .u64 (allI 22)) := sx0 hm hF 1000 20 [] [] (by kernel_rfl) trivial
theorem rall23 : Spec0 Tryd.prog 28 [I .i64 23] (I .u64 (allI 23)) := sx0 hm hF 1000 20 [] [] (by kernel_rfl) trivial
theorem rall24 : Spec0 Tryd.prog 28 [I .i64 24] (I .u64 (allI 24)) := sx0 hm hF 1000 20 [] [] (by kernel_rfl) trivial
theorem rall25 : Spec0 Tryd.prog 28 [I .i64 25] (I .u64 (allI 25)) := sx0 hm hF 1000 20 [] [] (by kernel_rfl) trivial
theorem rall26 : Spec0 Tryd.prog 28 [I .i64 26] (I .u64 (allI 26)) := sx0 hm hF 1000 20 [] [] (by kernel_rfl) trivial
theorem rall27 : Spec0 Tryd.prog 28 [I .i64 27] (I .u64 (allI 27)) := sx0 hm hF 1000 20 [] [] (by kernel_rfl) trivial
theorem rall28 : Spec0 Tryd.prog 28 [I .i64 28] (I .u64 (allI 28)) := sx0 hm hF 1000 20 [] [] (by kernel_rfl) trivial
theorem w_rall : ∀ k : Nat, 1 ≤ k → k ≤ 28 → Spec0 Tryd.prog 28 [I .i64 ((k : Nat) : Int)] (I .u64 (allI k))
  | 1, _, _ => rall1
  | 2, _, _ => rall2
  | 3, _, _ => rall3
  | 4, _, _ => rall4
  | 5, _, _ => rall5
  | 6, _, _ => rall6
  | 7, _, _ => rall7
  | 8, _, _ => rall8
  | 9, _, _ => rall9
  | 10, _, _ => rall10
  | 11, _, _ => rall11
  | 12, _, _ => rall12
  | 13, _, _ => rall13
  | 14, _, _ => rall14
  | 15, _, _ => rall15
  | 16, _, _ => rall16
  | 17, _, _ => rall17
  | 18, _, _ => rall18
  | 19, _, _ => rall19
  | 20, _, _ => rall20
  | 21, _, _ => rall21
  | 22, _, _ => rall22
  | 23, _, _ => rall23
  | 24, _, _ => rall24
  | 25, _, _ => rall25
  | 26, _, _ => rall26
  | 27, _, _ => rall27
  | 28, _, _ => rall28
  | 0, h, _ => absurd h (by decide)
  | k + 29, _, h => absurd h (by omega)
theorem need1 : Spec0 Tryd.prog 19 [I .i64 1] (.nil) := sx0 hm hF 1000 20 [] [] (by kernel_rfl) trivial
theorem need2 : Spec0 Tryd.prog 19 [I .i64 2] (.nil) := sx0 hm hF 1000 20 [] [] (by kernel_rfl) trivial
theorem need3 : Spec0 Tryd.prog 19 [I .i64 3] (.nil) := sx0 hm hF 1000 20 [] [] (by kernel_rfl) trivial
theorem need4 : Spec0 Tryd.prog 19 [I .i64 4] (.nil) := sx0 hm hF 1000 20 [] [] (by kernel_rfl) trivial
theorem need5 : Spec0 Tryd.prog 19 [I .i64 5] (TL (needs 5)) := sx0 hm hF 1000 20 [] [] (by kernel_rfl) trivial
theorem need6 : Spec0 Tryd.prog 19 [I .i64 6] (TL (needs 6)) := sx0 hm hF 1000 20 [] [] (by kernel_rfl) trivial
theorem need7 : Spec0 Tryd.prog 19 [I .i64 7] (TL (needs 7)) := sx0 hm hF 1000 20 [] [] (by kernel_rfl) trivial
theorem need8 : Spec0 Tryd.prog 19 [I .i64 8] (TL (needs 8)) := sx0 hm hF 1000 20 [] [] (by kernel_rfl) trivial
theorem need9 : Spec0 Tryd.prog 19 [I .i64 9] (TL (needs 9)) := sx0 hm hF 1000 20 [] [] (by kernel_rfl) trivial
theorem need10 : Spec0 Tryd.prog 19 [I .i64 10] (TL (needs 10)) := sx0 hm hF 1000 20 [] [] (by kernel_rfl) trivial
theorem need11 : Spec0 Tryd.prog 19 [I .i64 11] (TL (needs 11)) := sx0 hm hF 1000 20 [] [] (by kernel_rfl) trivial
theorem need12 : Spec0 Tryd.prog 19 [I .i64 12] (TL (needs 12)) := sx0 hm hF 1000 20 [] [] (by kernel_rfl) trivial
theorem need13 : Spec0 Tryd.prog 19 [I .i64 13] (TL (needs 13)) := sx0 hm hF 1000 20 [] [] (by kernel_rfl) trivial
theorem need14 : Spec0 Tryd.prog 19 [I .i64 14] (TL (needs 14)) := sx0 hm hF 1000 20 [] [] (by kernel_rfl) trivial
theorem need15 : Spec0 Tryd.prog 19 [I .i64 15] (TL (needs 15)) := sx0 hm hF 1000 20 [] [] (by kernel_rfl) trivial
theorem need16 : Spec0 Tryd.prog 19 [I .i64 16] (TL (needs 16)) := sx0 hm hF 1000 20 [] [] (by kernel_rfl) trivial
theorem need17 : Spec0 Tryd.prog 19 [I .i64 17] (TL (needs 17)) := sx0 hm hF 1000 20 [] [] (by kernel_rfl) trivial
theorem need18 : Spec0 Tryd.prog 19 [I .i64 18] (TL (needs 18)) := sx0 hm hF 1000 20 [] [] (by kernel_rfl) trivial
theorem need19 : Spec0 Tryd.prog 19 [I .i64 19] (TL (needs 19)) := sx0 hm hF 1000 20 [] [] (by kernel_rfl) trivial
theorem need20 : Spec0 Tryd.prog 19 [I .i64 20] (TL (needs 20)) := sx0 hm hF 1000 20 [] [] (by kernel_rfl) trivial
theorem need21 : Spec0 Tryd.prog 19 [I .i64 21] (.nil) := sx0 hm hF 1000 20 [] [] (by kernel_rfl) trivial
theorem need22 : Spec0 Tryd.prog 19 [I .i64 22] (.nil) := sx0 hm hF 1000 20 [] [] (by kernel_rfl) trivial
theorem need23 : Spec0 Tryd.prog 19 [I .i64 23] (.nil) := sx0 hm hF 1000 20 [] [] (by kernel_rfl) trivial
theorem need24 : Spec0 Tryd.prog 19 [I .i64 24] (.nil) := sx0 hm hF 1000 20 [] [] (by kernel_rfl) trivial
theorem need25 : Spec0 Tryd.prog 19 [I .i64 25] (.nil) := sx0 hm hF 1000 20 [] [] (by kernel_rfl) trivial
theorem need26 : Spec0 Tryd.prog 19 [I .i64 26] (.nil) := sx0 hm hF 1000 20 [] [] (by kernel_rfl) trivial
theorem need27 : Spec0 Tryd.prog 19 [I .i64 27] (.nil) := sx0 hm hF 1000 20 [] [] (by kernel_rfl) trivial
theorem need28 : Spec0 Tryd.prog 19 [I .i64 28] (.nil) := sx0 hm hF 1000 20 [] [] (by kernel_rfl) trivial
theorem w_need : ∀ k : Nat, 1 ≤ k → k ≤ 28 → Spec0 Tryd.prog 19 [I .i64 ((k : Nat) : Int)] (TL (needs k))
  | 1, _, _ => need1.weak fun _ _ _ _ => nil_im
  | 2, _, _ => need2.weak fun _ _ _ _ => nil_im
  | 3, _, _ => need3.weak fun _ _ _ _ => nil_im
  | 4, _, _ => need4.weak fun _ _ _ _ => nil_im
  | 5, _, _ => need5
  | 6, _, _ => need6
  | 7, _, _ => need7
  | 8, _, _ => need8
  | 9, _, _ => need9
  | 10, _, _ => need10
  | 11, _, _ => need11
  | 12, _, _ => need12
  | 13, _, _ => need13
  | 14, _, _ => need14
  | 15, _, _ => need15
  | 16, _, _ => need16
  | 17, _, _ => need17
  | 18, _, _ => need18
  | 19, _, _ => need19
  | 20, _, _ => need20
  | 21, _, _ => need21.weak fun _ _ _ _ => nil_im
  | 22, _, _ => need22.weak fun _ _ _ _ => nil_im
  | 23, _, _ => need23.weak fun _ _ _ _ => nil_im
  | 24, _, _ => need24.weak fun _ _ _ _ => nil_im
  | 25, _, _ => need25.weak fun _ _ _ _ => nil_im
  | 26, _, _ => need26.weak fun _ _ _ _ => nil_im
  | 27, _, _ => need27.weak fun _ _ _ _ => nil_im
  | 28, _, _ => need28.weak fun _ _ _ _ => nil_im
  | 0, h, _ => absurd h (by decide)
  | k + 29, _, h => absurd h (by omega)
theorem rneed1 : Spec0 Tryd.prog 21 [I .i64 1] (.nil) := sx0 hm hF 1000 20 [] [] (by kernel_rfl) trivial
theorem rneed2 : Spec0 Tryd.prog 21 [I .i64 2] (.nil) := sx0 hm hF 1000 20 [] [] (by kernel_rfl) trivial
theorem rneed3 : Spec0 Tryd.prog 21 [I .i64 3] (.nil) := sx0 hm hF 1000 20 [] [] (by kernel_rfl) trivial
theorem rneed4 : Spec0 Tryd.prog 21 [I .i64 4] (.nil) := sx0 hm hF 1000 20 [] [] (by kernel_rfl) trivial
theorem rneed5 : Spec0 Tryd.prog 21 [I .i64 5] (TL (needs 5)) := sx0 hm hF 1000 20 [] [] (by kernel_rfl) trivial
theorem rneed6 : Spec0 Tryd.prog 21 [I .i64 6] (TL (needs 6)) := sx0 hm hF 1000 20 [] [] (by kernel_rfl) trivial
theorem rneed7 : Spec0 Tryd.prog 21 [I .i64 7] (TL (needs 7)) := sx0 hm hF 1000 20 [] [] (by kernel_rfl) trivial
theorem rneed8 : Spec0 Tryd.prog 21 [I .i64 8] (TL (needs 8)) := sx0 hm hF 1000 20 [] [] (by kernel_rfl) trivial
theorem rneed9 : Spec0 Tryd.prog 21 [I .i64 9] (TL (needs 9)) := sx0 hm hF 1000 20 [] [] (by kernel_rfl) trivial
theorem rneed10 : Spec0 Tryd.prog 21 [I .i64 10] (TL (needs 10)) := sx0 hm hF 1000 20 [] [] (by kernel_rfl) trivial
theorem rneed11 : Spec0 Tryd.prog 21 [I .i64 11] (TL (needs 11)) := sx0 hm hF 1000 20 [] [] (by kernel_rfl) trivial
theorem rneed12 : Spec0 Tryd.prog 21 [I .i64 12] (TL (needs 12)) := sx0 hm hF 1000 20 [] [] (by kernel_rfl) trivial
theorem rneed13 : Spec0 Tryd.prog 21 [I .i64 13] (TL (needs 13)) := sx0 hm hF 1000 20 [] [] (by kernel_rfl) trivial
theorem rneed14 : Spec0 Tryd.prog 21 [I .i64 14] (TL (needs 14)) := sx0 hm hF 1000 20 [] [] (by kernel_rfl) trivial
theorem rneed15 : Spec0 Tryd.prog 21 [I .i64 15] (TL (needs 15)) := sx0 hm hF 1000 20 [] [] (by kernel_rfl) trivial
theorem rneed16 : Spec0 Tryd.prog 21 [I .i64 16] (TL (needs 16)) := sx0 hm hF 1000 20 [] [] (by kernel_rfl) trivial
theorem rneed17 : Spec0 Tryd.prog 21 [I .i64 17] (TL (needs 17)) := sx0 hm hF 1000 20 [] [] (by kernel_rfl) trivial
theorem rneed18 : Spec0 Tryd.prog 21 [I .i64 18] (TL (needs 18)) := sx0 hm hF 1000 20 [] [] (by kernel_rfl) trivial
theorem rneed19 : Spec0 Tryd.prog 21 [I .i64 19] (TL (needs 19)) := sx0 hm hF 1000 20 [] [] (by kernel_rfl) trivial
theorem rneed20 : Spec0 Tryd.prog 21 [I .i64 20] (TL (needs 20)) := sx0 hm hF 1000 20 [] [] (by kernel_rfl) trivial
theorem rneed21 : Spec0 Tryd.prog 21 [I .i64 21] (.nil) := sx0 hm hF 1000 20 [] [] (by kernel_rfl) trivial
theorem rneed22 : Spec0 Tryd.prog 21 [I .i64 22] (.nil) := sx0 hm hF 1000 20 [] [] (by kernel_rfl) trivial
theorem rneed23 : Spec0 Tryd.prog 21 [I .i64 23] (.nil) := sx0 hm hF 1000 20 [] [] (by kernel_rfl) trivial
theorem rneed24 : Spec0 Tryd.prog 21 [I .i64 24] (.nil) := sx0 hm hF 1000 20 [] [] (by kernel_rfl) trivial
theorem rneed25 : Spec0 Tryd.prog 21 [I .i64 25] (.nil) := sx0 hm hF 1000 20 [] [] (by kernel_rfl) trivial
theorem rneed26 : Spec0 Tryd.prog 21 [I .i64 26] (.nil) := sx0 hm hF 1000 20 [] [] (by kernel_rfl) trivial
theorem rneed27 : Spec0 Tryd.prog 21 [I .i64 27] (.nil) := sx0 hm hF 1000 20 [] [] (by kernel_rfl) trivial
theorem rneed28 : Spec0 Tryd.prog 21 [I .i64 28] (.nil) := sx0 hm hF 1000 20 [] [] (by kernel_rfl) trivial
theorem w_rneed : ∀ k : Nat, 1 ≤ k → k ≤ 28 → Spec0 Tryd.prog 21 [I .i64 ((k : Nat) : Int)] (TL (needs k))
  | 1, _, _ => rneed1.weak fun _ _ _ _ => nil_im
  | 2, _, _ => rneed2.weak fun _ _ _ _ => nil_im
  | 3, _, _ => rneed3.weak fun _ _ _ _ => nil_im
  | 4, _, _ => rneed4.weak fun _ _ _ _ => nil_im
  | 5, _, _ => rneed5
  | 6, _, _ => rneed6
  | 7, _, _ => rneed7
  | 8, _, _ => rneed8
  | 9, _, _ => rneed9
  | 10, _, _ => rneed10
  | 11, _, _ => rneed11
  | 12, _, _ => rneed12
  | 13, _, _ => rneed13
  | 14, _, _ => rneed14
  | 15, _, _ => rneed15
  | 16, _, _ => rneed16
  | 17, _, _ => rneed17
  | 18, _, _ => rneed18
  | 19, _, _ => rneed19
  | 20, _, _ => rneed20
  | 21, _, _ => rneed21.weak fun _ _ _ _ => nil_im
  | 22, _, _ => rneed22.weak fun _ _ _ _ => nil_im
  | 23, _, _ => rneed23.weak fun _ _ _ _ => nil_im
  | 24, _, _ => rneed24.weak fun _ _ _ _ => nil_im
  | 25, _, _ => rneed25.weak fun _ _ _ _ => nil_im
  | 26, _, _ => rneed26.weak fun _ _ _ _ => nil_im
  | 27, _, _ => rneed27.weak fun _ _ _ _ => nil_im
  | 28, _, _ => rneed28.weak fun _ _ _ _ => nil_im
  | 0, h, _ => absurd h (by decide)
  | k + 29, _, h => absurd h (by omega)
def isF (x : Int) : Bool := decide (x ≥ 1) && decide (x ≤ 28)
theorem w_is (x : Int) : Spec0 Tryd.prog 27 [I .i64 x] (B (isF x)) := by
  unfold isF
  cases h : decide (x ≥ 1)
  · exact sx0 hm hF 1000 20 [.b 27 1 1 false] [decide (x ≥ 1) = false] (by kernel_rfl) ⟨h, trivial⟩
  · exact sx0 hm hF 1000 20 [.b 27 1 1 true] [decide (x ≥ 1) = true] (by kernel_rfl) ⟨h, trivial⟩
end Go.Proofs.YtbimmnnjnlfddaaDoor
