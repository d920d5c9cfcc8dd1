/-
  The contracts of the package field for every number of a field.
-/
import Derived.Test.YtofiaddmnhpkgaaX1
set_option linter.unusedVariables false
set_option maxRecDepth 100000
namespace Go.Proofs.Ytofiaddmnhpkgaa
open Go Go.SL Go.Proofs

def gV (s : Stt) (k : Nat) : Int := cond (hasF s k) (uand (raw s k) (allI k)) 0
def gE (s : Stt) (k : Nat) : Int := cond (hasF s k) 0 81
def setR (s : Stt) (k : Nat) (v m : Int) : Stt × Int :=
  cond (fixd k) (zS, 80) (cond (decide (v > allI k)) (zS, 80) (cond (decide (m > allI k)) (zS, 80) (cond (hasF s k) (putF s (nw (raw s k) (allI k) v m) k, 0) (zS, 81))))
theorem get_of (s : Stt) (k : Nat) (ht : hasF s k = true → Spec0 Try.prog 10 [.agg s.cells, I .i64 ((k : Nat) : Int)] (.tup [I .u64 (uand (raw s k) (allI k)), I .i64 0])) (hf : hasF s k = false → Spec0 Try.prog 10 [.agg s.cells, I .i64 ((k : Nat) : Int)] (.tup [I .u64 0, I .i64 81])) :
    Spec0 Try.prog 10 [.agg s.cells, I .i64 ((k : Nat) : Int)] (.tup [I .u64 (gV s k), I .i64 (gE s k)]) := by
  unfold gV gE
  cases h : hasF s k
  · exact hf h
  · exact ht h
theorem has_of (s : Stt) (k : Nat) (ht : hasF s k = true → Spec0 Try.prog 20 [.agg s.cells, I .i64 ((k : Nat) : Int)] (B true)) (hf : hasF s k = false → Spec0 Try.prog 20 [.agg s.cells, I .i64 ((k : Nat) : Int)] (B false)) : Spec0 Try.prog 20 [.agg s.cells, I .i64 ((k : Nat) : Int)] (B (hasF s k)) := by
  cases h : hasF s k
  · exact hf h
  · exact ht h
theorem set_of (s : Stt) (k : Nat) (v m : Int) (hx : fixd k = false) (hv : decide (v > allI k) = true → Spec0 Try.prog 9 [.agg s.cells, I .i64 ((k : Nat) : Int), I .u64 v, I .u64 m] (.tup [.agg zS.cells, I .i64 80])) (hm' : decide (v > allI k) = false → decide (m > allI k) = true → Spec0 Try.prog 9 [.agg s.cells, I .i64 ((k : Nat) : Int), I .u64 v, I .u64 m] (.tup [.agg zS.cells, I .i64 80]))
    (ht : decide (v > allI k) = false → decide (m > allI k) = false → hasF s k = true → Spec0 Try.prog 9 [.agg s.cells, I .i64 ((k : Nat) : Int), I .u64 v, I .u64 m] (.tup [.agg (putF s (nw (raw s k) (allI k) v m) k).cells, I .i64 0]))
    (hf : decide (v > allI k) = false → decide (m > allI k) = false → hasF s k = false → Spec0 Try.prog 9 [.agg s.cells, I .i64 ((k : Nat) : Int), I .u64 v, I .u64 m] (.tup [.agg zS.cells, I .i64 81])) : Spec0 Try.prog 9 [.agg s.cells, I .i64 ((k : Nat) : Int), I .u64 v, I .u64 m] (.tup [.agg (setR s k v m).1.cells, I .i64 (setR s k v m).2]) := by
  unfold setR
  rw [hx]
  cases h1 : decide (v > allI k)
  · cases h2 : decide (m > allI k)
    · cases h3 : hasF s k
      · exact hf h1 h2 h3
      · exact ht h1 h2 h3
    · exact hm' h1 h2
  · exact hv h1
theorem set_fix (s : Stt) (k : Nat) (v m : Int) (hx : fixd k = true) (h : Spec0 Try.prog 9 [.agg s.cells, I .i64 ((k : Nat) : Int), I .u64 v, I .u64 m] (.tup [.agg zS.cells, I .i64 80])) : Spec0 Try.prog 9 [.agg s.cells, I .i64 ((k : Nat) : Int), I .u64 v, I .u64 m] (.tup [.agg (setR s k v m).1.cells, I .i64 (setR s k v m).2]) := by
  unfold setR; rw [hx]; exact h
theorem band {a b : Bool} {X : Prop} (h : (a && b) = true) (k : a = true → b = true → X) : X := by cases a <;> cases b <;> simp_all
theorem bandF {a b : Bool} {X : Prop} (h : (a && b) = false) (k : a = true → b = false → X) (k' : a = false → X) : X := by cases a <;> cases b <;> simp_all
theorem bport {a b c : Bool} {X : Prop} (h : (a && b || a && c) = true) (k : a = true → b = true → X) (k' : a = true → b = false → c = true → X) : X := by cases a <;> cases b <;> cases c <;> simp_all
theorem bportF {a b c : Bool} {X : Prop} (h : (a && b || a && c) = false) (k : a = true → b = false → c = false → X) (k' : a = false → X) : X := by cases a <;> cases b <;> cases c <;> simp_all
theorem ff {a b : Bool} (h : b = false) : b = true → a = true := fun h' => by rw [h] at h'; simp at h'

theorem get4 (s : Stt) : Spec0 Try.prog 10 [.agg s.cells, I .i64 4] (.tup [I .u64 (uand (raw s 4) (allI 4)), I .i64 0]) := by
  show Spec0 _ _ _ (.tup [I .u64 (uand (cond s.tagged (uor 65536 (IntKind.u64.wrap (iand s.tag 65535))) 0) (allI 4)), I .i64 0])
  cases h : s.tagged
  · exact get4_0false s (by rw [h]; rfl)
  · exact get4_0true s (by rw [h]; rfl)
theorem w_Get (s : Stt) : ∀ k : Nat, 1 ≤ k → k ≤ 28 → Spec0 Try.prog 10 [.agg s.cells, I .i64 ((k : Nat) : Int)] (.tup [I .u64 (gV s k), I .i64 (gE s k)])
  | 1, _, _ => get_of s 1 (fun h => get1_0 s ) (fun h => absurd (show true = false from h) (by decide))
  | 2, _, _ => get_of s 2 (fun h => get2_0 s ) (fun h => absurd (show true = false from h) (by decide))
  | 3, _, _ => get_of s 3 (fun h => get3_0 s ) (fun h => absurd (show true = false from h) (by decide))
  | 4, _, _ => get_of s 4 (fun _ => get4 s) (fun h => absurd (show true = false from h) (by decide))
  | 5, _, _ => get_of s 5 (fun h => get5_0 s h) (fun h => getn5_0 s h)
  | 6, _, _ => get_of s 6 (fun h => get6_0 s h) (fun h => getn6_0 s h)
  | 7, _, _ => get_of s 7 (fun h => get7_0 s h) (fun h => getn7_0 s h)
  | 8, _, _ => get_of s 8 (fun h => get8_0 s h) (fun h => getn8_0 s h)
  | 9, _, _ => get_of s 9 (fun h => get9_0 s h) (fun h => getn9_0 s h)
  | 10, _, _ => get_of s 10 (fun h => get10_0 s h) (fun h => getn10_0 s h)
  | 11, _, _ => get_of s 11 (fun h => get11_0 s h) (fun h => getn11_0 s h)
  | 12, _, _ => get_of s 12 (fun h => get12_0 s h) (fun h => getn12_0 s h)
  | 13, _, _ => get_of s 13 (fun h => get13_0 s h) (fun h => getn13_0 s h)
  | 14, _, _ => get_of s 14 (fun h => get14_0 s h) (fun h => getn14_0 s h)
  | 15, _, _ => get_of s 15 (fun h => get15_0 s h) (fun h => getn15_0 s h)
  | 16, _, _ => get_of s 16 (fun h => band h fun a b => get16_0 s a b) (fun h => bandF h (fun a b => getn16_0 s a b) (fun a => getn16_1 s a))
  | 17, _, _ => get_of s 17 (fun h => band h fun a b => get17_0 s a b) (fun h => bandF h (fun a b => getn17_0 s a b) (fun a => getn17_1 s a))
  | 18, _, _ => get_of s 18 (fun h => bport h (fun a b => get18_0 s a b) (fun a b c => get18_1 s a b c)) (fun h => bportF h (fun a b c => getn18_0 s a b c) (fun a => getn18_1 s a))
  | 19, _, _ => get_of s 19 (fun h => bport h (fun a b => get19_0 s a b) (fun a b c => get19_1 s a b c)) (fun h => bportF h (fun a b c => getn19_0 s a b c) (fun a => getn19_1 s a))
  | 20, _, _ => get_of s 20 (fun h => band h fun a b => get20_0 s a b) (fun h => bandF h (fun a b => getn20_0 s a b) (fun a => getn20_1 s a))
  | 21, _, _ => get_of s 21 (fun h => get21_0 s ) (fun h => absurd (show true = false from h) (by decide))
  | 22, _, _ => get_of s 22 (fun h => get22_0 s ) (fun h => absurd (show true = false from h) (by decide))
  | 23, _, _ => get_of s 23 (fun h => get23_0 s ) (fun h => absurd (show true = false from h) (by decide))
  | 24, _, _ => get_of s 24 (fun h => get24_0 s ) (fun h => absurd (show true = false from h) (by decide))
  | 25, _, _ => get_of s 25 (fun h => get25_0 s ) (fun h => absurd (show true = false from h) (by decide))
  | 26, _, _ => get_of s 26 (fun h => get26_0 s ) (fun h => absurd (show true = false from h) (by decide))
  | 27, _, _ => get_of s 27 (fun h => get27_0 s ) (fun h => absurd (show true = false from h) (by decide))
  | 28, _, _ => get_of s 28 (fun h => get28_0 s ) (fun h => absurd (show true = false from h) (by decide))
  | 0, h, _ => absurd h (by decide)
  | k + 29, _, h => absurd h (by omega)
theorem w_Has (s : Stt) : ∀ k : Nat, 1 ≤ k → k ≤ 28 → Spec0 Try.prog 20 [.agg s.cells, I .i64 ((k : Nat) : Int)] (B (hasF s k))
  | 1, _, _ => has_of s 1 (fun h => has1_0 s ) (fun h => absurd (show true = false from h) (by decide))
  | 2, _, _ => has_of s 2 (fun h => has2_0 s ) (fun h => absurd (show true = false from h) (by decide))
  | 3, _, _ => has_of s 3 (fun h => has3_0 s ) (fun h => absurd (show true = false from h) (by decide))
  | 4, _, _ => has_of s 4 (fun h => has4_0 s ) (fun h => absurd (show true = false from h) (by decide))
  | 5, _, _ => has_of s 5 (fun h => has5_0 s h) (fun h => hasn5_0 s h)
  | 6, _, _ => has_of s 6 (fun h => has6_0 s h) (fun h => hasn6_0 s h)
  | 7, _, _ => has_of s 7 (fun h => has7_0 s h) (fun h => hasn7_0 s h)
  | 8, _, _ => has_of s 8 (fun h => has8_0 s h) (fun h => hasn8_0 s h)
  | 9, _, _ => has_of s 9 (fun h => has9_0 s h) (fun h => hasn9_0 s h)
  | 10, _, _ => has_of s 10 (fun h => has10_0 s h) (fun h => hasn10_0 s h)
  | 11, _, _ => has_of s 11 (fun h => has11_0 s h) (fun h => hasn11_0 s h)
  | 12, _, _ => has_of s 12 (fun h => has12_0 s h) (fun h => hasn12_0 s h)
  | 13, _, _ => has_of s 13 (fun h => has13_0 s h) (fun h => hasn13_0 s h)
  | 14, _, _ => has_of s 14 (fun h => has14_0 s h) (fun h => hasn14_0 s h)
  | 15, _, _ => has_of s 15 (fun h => has15_0 s h) (fun h => hasn15_0 s h)
  | 16, _, _ => has_of s 16 (fun h => band h fun a b => has16_0 s a b) (fun h => bandF h (fun a b => hasn16_0 s a b) (fun a => hasn16_1 s a))
  | 17, _, _ => has_of s 17 (fun h => band h fun a b => has17_0 s a b) (fun h => bandF h (fun a b => hasn17_0 s a b) (fun a => hasn17_1 s a))
  | 18, _, _ => has_of s 18 (fun h => bport h (fun a b => has18_0 s a b) (fun a b c => has18_1 s a b c)) (fun h => bportF h (fun a b c => hasn18_0 s a b c) (fun a => hasn18_1 s a))
  | 19, _, _ => has_of s 19 (fun h => bport h (fun a b => has19_0 s a b) (fun a b c => has19_1 s a b c)) (fun h => bportF h (fun a b c => hasn19_0 s a b c) (fun a => hasn19_1 s a))
  | 20, _, _ => has_of s 20 (fun h => band h fun a b => has20_0 s a b) (fun h => bandF h (fun a b => hasn20_0 s a b) (fun a => hasn20_1 s a))
  | 21, _, _ => has_of s 21 (fun h => has21_0 s ) (fun h => absurd (show true = false from h) (by decide))
  | 22, _, _ => has_of s 22 (fun h => has22_0 s ) (fun h => absurd (show true = false from h) (by decide))
  | 23, _, _ => has_of s 23 (fun h => has23_0 s ) (fun h => absurd (show true = false from h) (by decide))
  | 24, _, _ => has_of s 24 (fun h => has24_0 s ) (fun h => absurd (show true = false from h) (by decide))
  | 25, _, _ => has_of s 25 (fun h => has25_0 s ) (fun h => absurd (show true = false from h) (by decide))
  | 26, _, _ => has_of s 26 (fun h => has26_0 s ) (fun h => absurd (show true = false from h) (by decide))
  | 27, _, _ => has_of s 27 (fun h => has27_0 s ) (fun h => absurd (show true = false from h) (by decide))
  | 28, _, _ => has_of s 28 (fun h => has28_0 s ) (fun h => absurd (show true = false from h) (by decide))
  | 0, h, _ => absurd h (by decide)
  | k + 29, _, h => absurd h (by omega)
theorem w_Bits : ∀ k : Nat, 1 ≤ k → k ≤ 28 → Spec0 Try.prog 8 [I .i64 ((k : Nat) : Int)] (I .i64 (Int.ofNat (bN k)))
  | 1, _, _ => bits1
  | 2, _, _ => bits2
  | 3, _, _ => bits3
  | 4, _, _ => bits4
  | 5, _, _ => bits5
  | 6, _, _ => bits6
  | 7, _, _ => bits7
  | 8, _, _ => bits8
  | 9, _, _ => bits9
  | 10, _, _ => bits10
  | 11, _, _ => bits11
  | 12, _, _ => bits12
  | 13, _, _ => bits13
  | 14, _, _ => bits14
  | 15, _, _ => bits15
  | 16, _, _ => bits16
  | 17, _, _ => bits17
  | 18, _, _ => bits18
  | 19, _, _ => bits19
  | 20, _, _ => bits20
  | 21, _, _ => bits21
  | 22, _, _ => bits22
  | 23, _, _ => bits23
  | 24, _, _ => bits24
  | 25, _, _ => bits25
  | 26, _, _ => bits26
  | 27, _, _ => bits27
  | 28, _, _ => bits28
  | 0, h, _ => absurd h (by decide)
  | k + 29, _, h => absurd h (by omega)
theorem w_Name : ∀ k : Nat, 1 ≤ k → k ≤ 28 → Spec0 Try.prog 13 [I .i64 ((k : Nat) : Int)] (S (nmF k))
  | 1, _, _ => name1
  | 2, _, _ => name2
  | 3, _, _ => name3
  | 4, _, _ => name4
  | 5, _, _ => name5
  | 6, _, _ => name6
  | 7, _, _ => name7
  | 8, _, _ => name8
  | 9, _, _ => name9
  | 10, _, _ => name10
  | 11, _, _ => name11
  | 12, _, _ => name12
  | 13, _, _ => name13
  | 14, _, _ => name14
  | 15, _, _ => name15
  | 16, _, _ => name16
  | 17, _, _ => name17
  | 18, _, _ => name18
  | 19, _, _ => name19
  | 20, _, _ => name20
  | 21, _, _ => name21
  | 22, _, _ => name22
  | 23, _, _ => name23
  | 24, _, _ => name24
  | 25, _, _ => name25
  | 26, _, _ => name26
  | 27, _, _ => name27
  | 28, _, _ => name28
  | 0, h, _ => absurd h (by decide)
  | k + 29, _, h => absurd h (by omega)
theorem set4 (s : Stt) (v m : Int) (h1 : decide (v > allI 4) = false) (h2 : decide (m > allI 4) = false) : Spec0 Try.prog 9 [.agg s.cells, I .i64 4, I .u64 v, I .u64 m] (.tup [.agg (putF s (nw (raw s 4) (allI 4) v m) 4).cells, I .i64 0]) := by
  show Spec0 _ _ _ (.tup [.agg ({ s with tagged := uand (nw (cond s.tagged (uor 65536 (IntKind.u64.wrap (iand s.tag 65535))) 0) (allI 4) v m) 65536 != 0, tag := cond (uand (nw (cond s.tagged (uor 65536 (IntKind.u64.wrap (iand s.tag 65535))) 0) (allI 4) v m) 65536 != 0) (IntKind.i64.wrap (uand (nw (cond s.tagged (uor 65536 (IntKind.u64.wrap (iand s.tag 65535))) 0) (allI 4) v m) 65535)) 0 } : Stt).cells, I .i64 0])
  cases h : s.tagged
  · simp only [cond_false]
    cases h3 : uand (nw 0 (allI 4) v m) 65536 != 0
    · exact set4_falsefalse s v m h1 h2 (by rw [h]; rfl) h3
    · exact set4_falsetrue s v m h1 h2 (by rw [h]; rfl) h3
  · simp only [cond_true]
    cases h3 : uand (nw (uor 65536 (IntKind.u64.wrap (iand s.tag 65535))) (allI 4) v m) 65536 != 0
    · exact set4_truefalse s v m h1 h2 (by rw [h]; rfl) h3
    · exact set4_truetrue s v m h1 h2 (by rw [h]; rfl) h3
theorem w_Set (s : Stt) (v m : Int) : ∀ k : Nat, 1 ≤ k → k ≤ 28 → Spec0 Try.prog 9 [.agg s.cells, I .i64 ((k : Nat) : Int), I .u64 v, I .u64 m] (.tup [.agg (setR s k v m).1.cells, I .i64 (setR s k v m).2])
  | 1, _, _ => set_of s 1 v m rfl (fun p => setv1 s v m p) (fun p q => setm1 s v m p q) (fun p q => fun h => set1_0 s v m p q ) (fun p q => fun h => absurd (show true = false from h) (by decide))
  | 2, _, _ => set_of s 2 v m rfl (fun p => setv2 s v m p) (fun p q => setm2 s v m p q) (fun p q => fun h => set2_0 s v m p q ) (fun p q => fun h => absurd (show true = false from h) (by decide))
  | 3, _, _ => set_fix s 3 v m rfl (setx3 s v m)
  | 4, _, _ => set_of s 4 v m rfl (fun p => setv4 s v m p) (fun p q => setm4 s v m p q) (fun p q => fun _ => set4 s v m p q) (fun p q => fun h => absurd (show true = false from h) (by decide))
  | 5, _, _ => set_of s 5 v m rfl (fun p => setv5 s v m p) (fun p q => setm5 s v m p q) (fun p q => fun h => set5_0 s v m p q h) (fun p q => fun h => setn5_0 s v m p q h)
  | 6, _, _ => set_of s 6 v m rfl (fun p => setv6 s v m p) (fun p q => setm6 s v m p q) (fun p q => fun h => set6_0 s v m p q h) (fun p q => fun h => setn6_0 s v m p q h)
  | 7, _, _ => set_of s 7 v m rfl (fun p => setv7 s v m p) (fun p q => setm7 s v m p q) (fun p q => fun h => set7_0 s v m p q h) (fun p q => fun h => setn7_0 s v m p q h)
  | 8, _, _ => set_of s 8 v m rfl (fun p => setv8 s v m p) (fun p q => setm8 s v m p q) (fun p q => fun h => set8_0 s v m p q h) (fun p q => fun h => setn8_0 s v m p q h)
  | 9, _, _ => set_of s 9 v m rfl (fun p => setv9 s v m p) (fun p q => setm9 s v m p q) (fun p q => fun h => set9_0 s v m p q h) (fun p q => fun h => setn9_0 s v m p q h)
  | 10, _, _ => set_of s 10 v m rfl (fun p => setv10 s v m p) (fun p q => setm10 s v m p q) (fun p q => fun h => set10_0 s v m p q h) (fun p q => fun h => setn10_0 s v m p q h)
  | 11, _, _ => set_of s 11 v m rfl (fun p => setv11 s v m p) (fun p q => setm11 s v m p q) (fun p q => fun h => set11_0 s v m p q h) (fun p q => fun h => setn11_0 s v m p q h)
  | 12, _, _ => set_fix s 12 v m rfl (setx12 s v m)
  | 13, _, _ => set_of s 13 v m rfl (fun p => setv13 s v m p) (fun p q => setm13 s v m p q) (fun p q => fun h => set13_0 s v m p q h) (fun p q => fun h => setn13_0 s v m p q h)
  | 14, _, _ => set_of s 14 v m rfl (fun p => setv14 s v m p) (fun p q => setm14 s v m p q) (fun p q => fun h => set14_0 s v m p q h) (fun p q => fun h => setn14_0 s v m p q h)
  | 15, _, _ => set_fix s 15 v m rfl (setx15 s v m)
  | 16, _, _ => set_of s 16 v m rfl (fun p => setv16 s v m p) (fun p q => setm16 s v m p q) (fun p q => fun h => band h fun a b => set16_0 s v m p q a b) (fun p q => fun h => bandF h (fun a b => setn16_0 s v m p q a b) (fun a => setn16_1 s v m p q a))
  | 17, _, _ => set_of s 17 v m rfl (fun p => setv17 s v m p) (fun p q => setm17 s v m p q) (fun p q => fun h => band h fun a b => set17_0 s v m p q a b) (fun p q => fun h => bandF h (fun a b => setn17_0 s v m p q a b) (fun a => setn17_1 s v m p q a))
  | 18, _, _ => set_of s 18 v m rfl (fun p => setv18 s v m p) (fun p q => setm18 s v m p q) (fun p q => fun h => bport h (fun a b => set18_0 s v m p q a b) (fun a b c => set18_1 s v m p q a b c)) (fun p q => fun h => bportF h (fun a b c => setn18_0 s v m p q a b c) (fun a => setn18_1 s v m p q a))
  | 19, _, _ => set_of s 19 v m rfl (fun p => setv19 s v m p) (fun p q => setm19 s v m p q) (fun p q => fun h => bport h (fun a b => set19_0 s v m p q a b) (fun a b c => set19_1 s v m p q a b c)) (fun p q => fun h => bportF h (fun a b c => setn19_0 s v m p q a b c) (fun a => setn19_1 s v m p q a))
  | 20, _, _ => set_of s 20 v m rfl (fun p => setv20 s v m p) (fun p q => setm20 s v m p q) (fun p q => fun h => band h fun a b => set20_0 s v m p q a b) (fun p q => fun h => bandF h (fun a b => setn20_0 s v m p q a b) (fun a => setn20_1 s v m p q a))
  | 21, _, _ => set_of s 21 v m rfl (fun p => setv21 s v m p) (fun p q => setm21 s v m p q) (fun p q => fun h => set21_0 s v m p q ) (fun p q => fun h => absurd (show true = false from h) (by decide))
  | 22, _, _ => set_of s 22 v m rfl (fun p => setv22 s v m p) (fun p q => setm22 s v m p q) (fun p q => fun h => set22_0 s v m p q ) (fun p q => fun h => absurd (show true = false from h) (by decide))
  | 23, _, _ => set_of s 23 v m rfl (fun p => setv23 s v m p) (fun p q => setm23 s v m p q) (fun p q => fun h => set23_0 s v m p q ) (fun p q => fun h => absurd (show true = false from h) (by decide))
  | 24, _, _ => set_of s 24 v m rfl (fun p => setv24 s v m p) (fun p q => setm24 s v m p q) (fun p q => fun h => set24_0 s v m p q ) (fun p q => fun h => absurd (show true = false from h) (by decide))
  | 25, _, _ => set_of s 25 v m rfl (fun p => setv25 s v m p) (fun p q => setm25 s v m p q) (fun p q => fun h => set25_0 s v m p q ) (fun p q => fun h => absurd (show true = false from h) (by decide))
  | 26, _, _ => set_of s 26 v m rfl (fun p => setv26 s v m p) (fun p q => setm26 s v m p q) (fun p q => fun h => set26_0 s v m p q ) (fun p q => fun h => absurd (show true = false from h) (by decide))
  | 27, _, _ => set_of s 27 v m rfl (fun p => setv27 s v m p) (fun p q => setm27 s v m p q) (fun p q => fun h => set27_0 s v m p q ) (fun p q => fun h => absurd (show true = false from h) (by decide))
  | 28, _, _ => set_of s 28 v m rfl (fun p => setv28 s v m p) (fun p q => setm28 s v m p q) (fun p q => fun h => set28_0 s v m p q ) (fun p q => fun h => absurd (show true = false from h) (by decide))
  | 0, h, _ => absurd h (by decide)
  | k + 29, _, h => absurd h (by omega)
theorem nb {a b : Int} (h : a ≠ b) : (a == b) = false := by simpa using h
theorem w_findX (f : Int) (h1 : -9223372036854775808 ≤ f) (h2 : f ≤ 9223372036854775807) (h : ¬ (1 ≤ f ∧ f ≤ 28)) : Spec0 Try.prog 21 [I .i64 f] (.tup [.agg [S ⟨#[]⟩, I .i64 0, .sc .nilFunc, .sc .nilFunc, .sc .nilFunc], B false]) := by
  have hw : ¬ (IntKind.i64.wrap (f - 25) ≥ 0 ∧ IntKind.i64.wrap (f - 25) ≤ 3) := by
    by_cases h3 : f - 25 < -9223372036854775808
    · have : IntKind.i64.wrap (f - 25) = f - 25 + 18446744073709551616 := by
        have e : IntKind.i64.wrap (f - 25 + 18446744073709551616) = IntKind.i64.wrap (f - 25) := by simp [IntKind.wrap, IntKind.bits, IntKind.signed]
        rw [← e, IntWalk.i64_in _ (by omega)]
      omega
    · rw [IntWalk.i64_in _ (by omega)]; omega
  cases hb : decide (IntKind.i64.wrap (f - 25) ≥ 0)
  · exact find_a f (nb (by omega)) (nb (by omega)) (nb (by omega)) (nb (by omega)) (nb (by omega)) (nb (by omega)) (nb (by omega)) (nb (by omega)) (nb (by omega)) (nb (by omega)) (nb (by omega)) (nb (by omega)) (nb (by omega)) (nb (by omega)) (nb (by omega)) (nb (by omega)) (nb (by omega)) (nb (by omega)) (nb (by omega)) (nb (by omega)) (nb (by omega)) (nb (by omega)) (nb (by omega)) (nb (by omega)) hb
  · have : decide (IntKind.i64.wrap (f - 25) ≤ 3) = false := by
      simp only [decide_eq_true_eq] at hb
      simp only [decide_eq_false_iff_not]
      omega
    exact find_b f (nb (by omega)) (nb (by omega)) (nb (by omega)) (nb (by omega)) (nb (by omega)) (nb (by omega)) (nb (by omega)) (nb (by omega)) (nb (by omega)) (nb (by omega)) (nb (by omega)) (nb (by omega)) (nb (by omega)) (nb (by omega)) (nb (by omega)) (nb (by omega)) (nb (by omega)) (nb (by omega)) (nb (by omega)) (nb (by omega)) (nb (by omega)) (nb (by omega)) (nb (by omega)) (nb (by omega)) hb this
end Go.Proofs.Ytofiaddmnhpkgaa
