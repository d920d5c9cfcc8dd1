/-
  The law NormRanges.
-/
import Derived.Test.YthppdlmildfnnaaGreatDoorRRN1
import Derived.Test.YthppdlmildfnnaaGreatDoorXVN1
set_option linter.unusedVariables false
set_option linter.unusedSimpArgs false
set_option maxRecDepth 100000
set_option maxHeartbeats 1000000
namespace Go.Proofs.YthppdlmildfnnaaGreatDoor
open Go Go.SL Go.Proofs
structure Trm where
  f : Int
  v : Int
  m : Int
def tC (t : Trm) : List AV := [I .i64 t.f, I .u64 t.v, I .u64 t.m]
@[reducible] def TL (l : List Trm) : AV := .im 3 (l.flatMap tC)
def tlC (l : List Trm) : List AV := [TL l]
@[reducible] def TLL (l : List (List Trm)) : AV := .im 1 (l.flatMap tlC)
theorem sat_true (y v m : Nat) (hy : y < 4294967296) (hmv : m < 18446744073709551616) (n1 : IntKind.u64.wrap ((BitVec.ofInt 64 (y : Int) &&& BitVec.ofInt 64 4294967295).toNat : Int) = (y : Nat)) (h : (((y &&& m : Nat) : Int) != (v : Nat)) = false) : Spec0 Tryz.prog 11 [.agg [I .u64 0, I .u64 0, B false, I .i64 0, I .i64 0, B false, I .i64 0, I .u64 0, I .u32 0, I .u64 0, I .u32 0, B false, I .i64 0, I .i64 0, I .i64 0, I .i64 0, I .i64 0, I .u32 0, I .u32 0, S ⟨#[]⟩, I .i64 0, I .i64 0, I .i64 0, I .u32 0, I .i64 0, I .i64 0, B false, I .u32 0, I .u32 0, I .i64 0, I .i64 0, I .i64 0, S ⟨#[]⟩, S ⟨#[]⟩, S ⟨#[]⟩, S ⟨#[]⟩, I .i64 0, I .i64 0, I .i64 0, I .i64 0, I .u32 (y : Nat), I .u32 0, I .u32 0, I .u32 0, I .i64 0, I .u32 0, I .u32 0, I .i64 0, I .i64 0], .im 3 [I .i64 25, I .u64 (v : Nat), I .u64 (m : Nat)]] (B true) := sx0 hm hF 1000 30 [.x 163 1 5 (Xt.na y), .z 29 6 5 (↑y : Int), .z 11 5 6 (↑(y &&& m) : Int), .b 11 5 9 false] [((↑(y &&& m) : Int) != (↑v : Int)) = false, IntKind.wrap IntKind.u64 (↑(BitVec.toNat (BitVec.ofInt 64 (↑y : Int) &&& BitVec.ofInt 64 (↑m : Int))) : Int) = (↑(y &&& m) : Int), IntKind.wrap IntKind.u64 (↑(BitVec.toNat (BitVec.ofInt 64 (↑y : Int) &&& BitVec.ofInt 64 (Int.ofNat 4294967295))) : Int) = (↑y : Int), IntKind.wrap IntKind.u64 (↑y : Int) = (↑y : Int), 4 ≤ 9223372036854775807] (by kernel_rfl) ⟨(by assumption), (by exact and_u (by omega) (by omega)), (by assumption), (by first | (with_reducible exact convN (by simp only [cap]; omega)) | omega | decide | simp), (by omega), trivial⟩
theorem sat_false (y v m : Nat) (hy : y < 4294967296) (hmv : m < 18446744073709551616) (n1 : IntKind.u64.wrap ((BitVec.ofInt 64 (y : Int) &&& BitVec.ofInt 64 4294967295).toNat : Int) = (y : Nat)) (h : (((y &&& m : Nat) : Int) != (v : Nat)) = true) : Spec0 Tryz.prog 11 [.agg [I .u64 0, I .u64 0, B false, I .i64 0, I .i64 0, B false, I .i64 0, I .u64 0, I .u32 0, I .u64 0, I .u32 0, B false, I .i64 0, I .i64 0, I .i64 0, I .i64 0, I .i64 0, I .u32 0, I .u32 0, S ⟨#[]⟩, I .i64 0, I .i64 0, I .i64 0, I .u32 0, I .i64 0, I .i64 0, B false, I .u32 0, I .u32 0, I .i64 0, I .i64 0, I .i64 0, S ⟨#[]⟩, S ⟨#[]⟩, S ⟨#[]⟩, S ⟨#[]⟩, I .i64 0, I .i64 0, I .i64 0, I .i64 0, I .u32 (y : Nat), I .u32 0, I .u32 0, I .u32 0, I .i64 0, I .u32 0, I .u32 0, I .i64 0, I .i64 0], .im 3 [I .i64 25, I .u64 (v : Nat), I .u64 (m : Nat)]] (B false) := sx0 hm hF 1000 30 [.x 163 1 5 (Xt.na y), .z 29 6 5 (↑y : Int), .z 11 5 6 (↑(y &&& m) : Int), .b 11 5 9 true] [((↑(y &&& m) : Int) != (↑v : Int)) = true, IntKind.wrap IntKind.u64 (↑(BitVec.toNat (BitVec.ofInt 64 (↑y : Int) &&& BitVec.ofInt 64 (↑m : Int))) : Int) = (↑(y &&& m) : Int), IntKind.wrap IntKind.u64 (↑(BitVec.toNat (BitVec.ofInt 64 (↑y : Int) &&& BitVec.ofInt 64 (Int.ofNat 4294967295))) : Int) = (↑y : Int), IntKind.wrap IntKind.u64 (↑y : Int) = (↑y : Int), 4 ≤ 9223372036854775807] (by kernel_rfl) ⟨(by assumption), (by exact and_u (by omega) (by omega)), (by assumption), (by first | (with_reducible exact convN (by simp only [cap]; omega)) | omega | decide | simp), (by omega), trivial⟩
theorem nr_ne1 (f1 w1 : Nat) (L : List (Nat × Nat)) (f a t x : Int) (hlv : Spec0 Tryz.prog 8 [] (B true)) (y : Int) (hy : IntKind.u32.wrap x = y) (h1 : Spec0 Tryz.prog 7 [I .i64 f, I .u64 a, I .u64 t] (BL f1 w1 L)) (h2 : Spec0 Tryz.prog 10 [I .i64 f, I .u64 a, I .u64 t] (BL f1 w1 L)) (hs : Spec0 Tryz.prog 9 [BL f1 w1 L, BL f1 w1 L] (B true)) (h : f ≠ 25) : Spec0 Tryz.prog 3 [I .i64 f, I .u64 a, I .u64 t, I .u64 x] (B true) := sx0 hm hF 1000 30 [.c 3 1 3 (AV.im 1 (List.flatMap (blkC f1 w1) L)), .c 3 2 0 (B true), .c 3 2 7 (AV.im 1 (List.flatMap (blkC f1 w1) L)), .c 3 2 8 (B true), .z 3 4 1 y, .b 3 5 1 true] [(f != 25) = true, IntKind.wrap IntKind.u32 x = y, Spec0 Tryz.prog 9 [BL f1 w1 L, BL f1 w1 L] (B true), Spec0 Tryz.prog 10 [I IntKind.i64 f, I IntKind.u64 a, I IntKind.u64 t] (AV.im 1 (List.flatMap (blkC f1 w1) L)), Spec0 Tryz.prog 8 [] (B true), Spec0 Tryz.prog 7 [I IntKind.i64 f, I IntKind.u64 a, I IntKind.u64 t] (AV.im 1 (List.flatMap (blkC f1 w1) L))] (by kernel_rfl) ⟨(by first | omega | simp <;> omega), (by assumption), hs, h2, hlv, h1, trivial⟩
theorem i64_n9 (n : Nat) (h : n < 4611686018427387904) : IntKind.i64.wrap ((n : Int) + 1) = ((n + 1 : Nat) : Int) := by rw [IntWalk.i64_in _ (by omega)]; rfl
theorem w_same (L : List (List Trm)) (hl0 : L.length ≤ 4611686018427387) (hr1 : ∀ r ∈ L, r.length ≤ 4611686018427387) : Spec0 Tryz.prog 9 [TLL L, TLL L] (B true) := by
  refine Spec0.walk Tryz.func9 rfl rfl ?_
  refine W.sxP hm hF 9 2 1000 20 [.n 9 1 1 (List.length L), .n 9 1 3 (List.length L), .b 9 1 4 false] [((((List.length L) : Nat) : Int) != (((List.length L) : Nat) : Int)) = false, List.length L * 1 = List.length (List.flatMap tlC L), 0 < 1, List.length L * 1 = List.length (List.flatMap tlC L), 0 < 1] [(0, TLL L), (1, TLL L)] [] (by kernel_rfl) ⟨(by simp <;> omega), (by exact Eq.symm (fm_len (c := (tlC)) (fun _ => rfl) _)), (by omega), (by exact Eq.symm (fm_len (c := (tlC)) (fun _ => rfl) _)), (by omega), trivial⟩ ?_
  refine W.seq ?_
  refine W.seq ?_
  refine W.sx hm hF 9 1000 20 [] [] .normal [(0, TLL L), (1, TLL L), (5, I .i64 0)] [] (by kernel_rfl) trivial (fun σ h => W.weaken h ?_)
  refine W.block ?_
  refine W.loop (fun i : Nat => ⟨tbl [(0, TLL L), (1, TLL L), (5, I .i64 (i : Nat))], []⟩) (fun i => i ≤ L.length) (fun i => L.length - i) 0 (Nat.zero_le _) (Le.refl _) ?_
  intro i hi
  by_cases hlt : i < L.length
  · obtain ⟨r, hget⟩ : ∃ r, L[i]? = some r := ⟨_, List.getElem?_eq_getElem hlt⟩
    have hr0 := hr1 r (List.mem_of_getElem? hget)
    refine W.sxP hm hF 9 1 1000 20 [.n 9 4 2 (List.length L), .b 9 4 3 true] [decide (((i : Nat) : Int) < (((List.length L) : Nat) : Int)) = true, List.length L * 1 = List.length (List.flatMap tlC L), 0 < 1] [(0, TLL L), (1, TLL L), (5, I .i64 (i : Nat))] [] (by kernel_rfl) ⟨(by simp <;> omega), (by exact Eq.symm (fm_len (c := (tlC)) (fun _ => rfl) _)), (by omega), trivial⟩ ?_
    refine W.seq ?_
    refine W.block ?_
    refine W.sxP hm hF 9 2 1000 20 [.j 9 6 2 (List.length L) i, .l 9 6 3 (AV.im 3 (List.flatMap tC r)), .n 9 6 4 (List.length r), .j 9 6 7 (List.length L) i, .l 9 6 8 (AV.im 3 (List.flatMap tC r)), .n 9 6 9 (List.length r), .b 9 6 10 false] [((((List.length r) : Nat) : Int) != (((List.length r) : Nat) : Int)) = false, List.length r * 3 = List.length (List.flatMap tC r), 0 < 3, (List.flatMap tlC L)[i * 1]? = some (AV.im 3 (List.flatMap tC r)), List.length L * 1 = List.length (List.flatMap tlC L), 0 < 1, ((i : Nat) : Int) = ((i : Nat) : Int), i < List.length L, List.length r * 3 = List.length (List.flatMap tC r), 0 < 3, (List.flatMap tlC L)[i * 1]? = some (AV.im 3 (List.flatMap tC r)), List.length L * 1 = List.length (List.flatMap tlC L), 0 < 1, ((i : Nat) : Int) = ((i : Nat) : Int), i < List.length L] [(0, TLL L), (1, TLL L), (5, I .i64 (i : Nat)), (6, I .i64 ((0 : Nat) : Int))] [] (by kernel_rfl) ⟨(by simp <;> omega), (by exact Eq.symm (fm_len (c := (tC)) (fun _ => rfl) _)), (by omega), (by have := fm_cell (c := (tlC)) (k := 0) (fun _ => rfl) _ (by assumption) (by decide) rfl; rw [Nat.add_zero] at this; exact this), (by exact Eq.symm (fm_len (c := (tlC)) (fun _ => rfl) _)), (by omega), (by first | (simp) | omega | decide | simp), (by assumption), (by exact Eq.symm (fm_len (c := (tC)) (fun _ => rfl) _)), (by omega), (by have := fm_cell (c := (tlC)) (k := 0) (fun _ => rfl) _ (by assumption) (by decide) rfl; rw [Nat.add_zero] at this; exact this), (by exact Eq.symm (fm_len (c := (tlC)) (fun _ => rfl) _)), (by omega), (by first | (simp) | omega | decide | simp), (by assumption), trivial⟩ ?_
    refine W.block ?_
    refine W.loop (fun j : Nat => ⟨tbl [(0, TLL L), (1, TLL L), (5, I .i64 (i : Nat)), (6, I .i64 (j : Nat))], []⟩) (fun j => j ≤ r.length) (fun j => r.length - j) 0 (Nat.zero_le _) (Le.refl _) ?_
    intro j hj1
    by_cases hj : j < r.length
    · obtain ⟨t, hjt⟩ : ∃ t, r[j]? = some t := ⟨_, List.getElem?_eq_getElem hj⟩
      exact W.sx hm hF 9 1000 20 [.j 9 9 3 (List.length L) i, .l 9 9 4 (AV.im 3 (List.flatMap tC r)), .n 9 9 5 (List.length r), .b 9 9 6 true, .j 9 11 2 (List.length L) i, .l 9 11 3 (AV.im 3 (List.flatMap tC r)), .j 9 11 5 (List.length r) j, .l 9 11 6 (AV.agg (tC t)), .j 9 11 9 (List.length L) i, .l 9 11 10 (AV.im 3 (List.flatMap tC r)), .j 9 11 12 (List.length r) j, .l 9 11 13 (AV.agg (tC t)), .b 9 11 14 false, .x 9 10 1 (Xt.na (j + 1))] [j + 1 < cap IntKind.i64, j + 1 = j + 1, (!(t.f == t.f && (t.v == t.v && (t.m == t.m && true)))) = false, List.take 3 (List.drop (j * 3) (List.flatMap tC r)) = tC t, j * 3 + 3 ≤ List.length (List.flatMap tC r), List.length r * 3 = List.length (List.flatMap tC r), 0 < 3, ((j : Nat) : Int) = ((j : Nat) : Int), j < List.length r, (List.flatMap tlC L)[i * 1]? = some (AV.im 3 (List.flatMap tC r)), List.length L * 1 = List.length (List.flatMap tlC L), 0 < 1, ((i : Nat) : Int) = ((i : Nat) : Int), i < List.length L, List.take 3 (List.drop (j * 3) (List.flatMap tC r)) = tC t, j * 3 + 3 ≤ List.length (List.flatMap tC r), List.length r * 3 = List.length (List.flatMap tC r), 0 < 3, ((j : Nat) : Int) = ((j : Nat) : Int), j < List.length r, (List.flatMap tlC L)[i * 1]? = some (AV.im 3 (List.flatMap tC r)), List.length L * 1 = List.length (List.flatMap tlC L), 0 < 1, ((i : Nat) : Int) = ((i : Nat) : Int), i < List.length L, decide (((j : Nat) : Int) < (((List.length r) : Nat) : Int)) = true, List.length r * 3 = List.length (List.flatMap tC r), 0 < 3, (List.flatMap tlC L)[i * 1]? = some (AV.im 3 (List.flatMap tC r)), List.length L * 1 = List.length (List.flatMap tlC L), 0 < 1, ((i : Nat) : Int) = ((i : Nat) : Int), i < List.length L] .normal [(0, TLL L), (1, TLL L), (5, I .i64 (i : Nat)), (6, I .i64 ((j + 1 : Nat) : Int))] [] (by kernel_rfl) ⟨(by simp [cap] <;> omega), (by rfl), (by simp <;> omega), (by exact fm_at (c := (tC)) (fun _ => rfl) _ (by assumption)), (by exact fm_bound (c := (tC)) (fun _ => rfl) _ (by omega)), (by exact Eq.symm (fm_len (c := (tC)) (fun _ => rfl) _)), (by omega), (by first | (simp) | omega | decide | simp), (by assumption), (by have := fm_cell (c := (tlC)) (k := 0) (fun _ => rfl) _ (by assumption) (by decide) rfl; rw [Nat.add_zero] at this; exact this), (by exact Eq.symm (fm_len (c := (tlC)) (fun _ => rfl) _)), (by omega), (by first | (simp) | omega | decide | simp), (by assumption), (by exact fm_at (c := (tC)) (fun _ => rfl) _ (by assumption)), (by exact fm_bound (c := (tC)) (fun _ => rfl) _ (by omega)), (by exact Eq.symm (fm_len (c := (tC)) (fun _ => rfl) _)), (by omega), (by first | (simp) | omega | decide | simp), (by assumption), (by have := fm_cell (c := (tlC)) (k := 0) (fun _ => rfl) _ (by assumption) (by decide) rfl; rw [Nat.add_zero] at this; exact this), (by exact Eq.symm (fm_len (c := (tlC)) (fun _ => rfl) _)), (by omega), (by first | (simp) | omega | decide | simp), (by assumption), (by simp <;> omega), (by exact Eq.symm (fm_len (c := (tC)) (fun _ => rfl) _)), (by omega), (by have := fm_cell (c := (tlC)) (k := 0) (fun _ => rfl) _ (by assumption) (by decide) rfl; rw [Nat.add_zero] at this; exact this), (by exact Eq.symm (fm_len (c := (tlC)) (fun _ => rfl) _)), (by omega), (by first | (simp) | omega | decide | simp), (by assumption), trivial⟩ (fun σ h => ⟨j + 1, hj, by omega, h⟩)
    · refine W.sx hm hF 9 1000 20 [.j 9 9 3 (List.length L) i, .l 9 9 4 (AV.im 3 (List.flatMap tC r)), .n 9 9 5 (List.length r), .b 9 9 6 false] [decide (((j : Nat) : Int) < (((List.length r) : Nat) : Int)) = false, List.length r * 3 = List.length (List.flatMap tC r), 0 < 3, (List.flatMap tlC L)[i * 1]? = some (AV.im 3 (List.flatMap tC r)), List.length L * 1 = List.length (List.flatMap tlC L), 0 < 1, ((i : Nat) : Int) = ((i : Nat) : Int), i < List.length L] (.exit 2) [(0, TLL L), (1, TLL L), (5, I .i64 (i : Nat))] [] (by kernel_rfl) ⟨(by simp <;> omega), (by exact Eq.symm (fm_len (c := (tC)) (fun _ => rfl) _)), (by omega), (by have := fm_cell (c := (tlC)) (k := 0) (fun _ => rfl) _ (by assumption) (by decide) rfl; rw [Nat.add_zero] at this; exact this), (by exact Eq.symm (fm_len (c := (tlC)) (fun _ => rfl) _)), (by omega), (by first | (simp) | omega | decide | simp), (by assumption), trivial⟩ (fun σ h => W.weaken h ?_)
      exact W.sx hm hF 9 1000 20 [.z 9 5 1 ((i + 1 : Nat) : Int)] [IntKind.i64.wrap (((i : Nat) : Int) + 1) = ((i + 1 : Nat) : Int)] .normal [(0, TLL L), (1, TLL L), (5, I .i64 ((i + 1 : Nat) : Int))] [] (by kernel_rfl) ⟨i64_n9 i (by omega), trivial⟩ (fun σ h => ⟨i + 1, hlt, by omega, h⟩)
  have hbb : decide (((i : Nat) : Int) < (L.length : Nat)) = false := decide_eq_false (by omega)
  refine W.sx hm hF 9 1000 20 [.n 9 4 2 L.length, .b 9 4 3 false] [decide (((i : Nat) : Int) < (L.length : Nat)) = false, L.length * 1 = (L.flatMap tlC).length, 0 < 1] (.exit 0) [] [] (by kernel_rfl) ⟨hbb, Eq.symm (fm_len (c := tlC) (fun _ => rfl) _), by decide, trivial⟩ (fun σ h => W.weaken h ?_)
  exact W.sxR hm hF 9 1000 20 [] [] [.tmp 4] .ret (B true) (by kernel_rfl) trivial (fun σ xs h1 h2 => retK.mk (.inl rfl) h1 h2)
theorem blk_terms (f w : Nat) (L : List (Nat × Nat)) : L.flatMap (blkC f w) = (L.map fun b => [(⟨(f : Nat), (b.1 : Nat), ((2 ^ w - 2 ^ b.2 : Nat) : Int)⟩ : Trm)]).flatMap tlC := by
  rw [List.flatMap_map]; rfl
theorem w_sameB (f w : Nat) (L : List (Nat × Nat)) (h : L.length ≤ 98) : Spec0 Tryz.prog 9 [BL f w L, BL f w L] (B true) := by
  have := w_same (L.map fun b => [(⟨(f : Nat), (b.1 : Nat), ((2 ^ w - 2 ^ b.2 : Nat) : Int)⟩ : Trm)]) (by rw [List.length_map]; omega) (fun r hr => by obtain ⟨b, _, rfl⟩ := List.mem_map.1 hr; simp)
  simp only [TLL] at this
  rw [← blk_terms] at this
  exact this
theorem blk_le (w t : Nat) : ∀ (n a : Nat), ∀ b ∈ blkF w t n a, b.2 ≤ w
  | 0, _, b, h => by simp [blkF] at h
  | n + 1, a, b, h => by
    simp only [blkF] at h
    rcases List.mem_cons.1 h with rfl | h
    · have := lowG_le w a (t - a); simp only; omega
    · split at h
      · simp at h
      · exact blk_le w t n _ b h
theorem nil_bl {f w : Nat} {k : Nat} {xs : List AV} (h : Spec0 Tryz.prog k xs .nil) : Spec0 Tryz.prog k xs (BL f w []) := Spec0.weak h (fun _ _ _ _ => nil_im)
/-- What both make of numbers from one to another. -/
theorem w_both (f a t : Int) (f1 : -9223372036854775808 ≤ f) (f2 : f ≤ 9223372036854775807) (a1 : 0 ≤ a) (t1 : 0 ≤ t) (t2 : t < 18446744073709551616) : ∃ (k w : Nat) (L : List (Nat × Nat)), Spec0 Tryz.prog 7 [I .i64 f, I .u64 a, I .u64 t] (BL k w L) ∧ Spec0 Tryz.prog 10 [I .i64 f, I .u64 a, I .u64 t] (BL k w L) ∧ L.length ≤ 98 ∧
    (f = 25 → k = 25 ∧ w = 32 ∧ (∀ y : Nat, y < 4294967296 → cntB 32 y L = if a ≤ (y : Int) ∧ (y : Int) ≤ t ∧ t < 4294967296 then 1 else 0) ∧ ∀ b ∈ L, b.2 ≤ 32) := by
  by_cases hf : 1 ≤ f ∧ f ≤ 28
  · obtain ⟨k, rfl⟩ := Int.eq_ofNat_of_zero_le (show 0 ≤ f by omega)
    obtain ⟨p, rfl⟩ := Int.eq_ofNat_of_zero_le a1
    obtain ⟨q, rfl⟩ := Int.eq_ofNat_of_zero_le t1
    have hk1 : 1 ≤ k := by omega
    have hk2 : k ≤ 28 := by omega
    have hb := w_bits k hk1 hk2
    have hal := w_all k hk1 hk2
    have hral := w_rall k hk1 hk2
    have his := is_of (k : Int) hf.1 hf.2
    obtain ⟨w0, w1⟩ := wd_pos k hk1 hk2
    have h25 : ((k : Nat) : Int) = 25 → wdF k = 32 := fun h => by
      have : k = 25 := by omega
      rw [this]; rfl
    generalize wdF k = w at hb hal hral w0 w1 h25
    have hpw := two_pos w
    by_cases hlt : q < p
    · refine ⟨k, w, [], nil_bl (rng_lt w w0 (k : Nat) (p : Nat) (q : Nat) hb (by omega)), nil_bl (rr_lt (k : Nat) (p : Nat) (q : Nat) his (by omega)), by simp, fun h => ⟨by omega, h25 h, fun y hy => ?_, by simp⟩⟩
      rw [if_neg (by omega)]; rfl
    · by_cases hbig : q > 2 ^ w - 1
      · refine ⟨k, w, [], nil_bl (rng_big w w0 (k : Nat) (p : Nat) (q : Nat) hb (by omega) _ hal (by omega)), nil_bl (rr_big (k : Nat) (p : Nat) (q : Nat) his (by omega) _ hral (by omega)), by simp, fun h => ⟨by omega, h25 h, fun y hy => ?_, by simp⟩⟩
        have e := h25 h
        subst e
        have e2 : (2 : Nat) ^ 32 = 4294967296 := by decide
        rw [if_neg (by omega)]; rfl
      · refine ⟨k, w, blks w q p, w_Range k w p q w0 w1 hb hal (by omega) (by omega), w_rRange k w p q w0 w1 his hral (by omega) (by omega), blks_few w0 w1 (by omega) (by omega), fun h => ⟨by omega, h25 h, fun y hy => ?_, fun b hb => ?_⟩⟩
        · have e := h25 h
          subst e
          have e2 : (2 : Nat) ^ 32 = 4294967296 := by decide
          have := cnt_blks (w := 32) (t := q) (x := y) (by decide) (by omega) (by omega) (q - p + 1) p (by omega) (by omega)
          unfold blks
          rw [this]
          by_cases c : p ≤ y ∧ y ≤ q
          · rw [if_pos c, if_pos (by omega)]
          · rw [if_neg c, if_neg (by omega)]
        · have := blk_le w q _ _ b hb
          have e := h25 h
          omega
  · have h0 : Spec0 Tryz.prog 24 [I .i64 f] (I .i64 0) := by
      by_cases hl : f < 1
      · by_cases hc : -9223372036854775783 ≤ f
        · exact bits0l0 f f1 f2 hl hc
        · exact bits0l1 f f1 f2 hl (by omega)
      · exact bits0g0 f f1 f2 (by omega) (by omega)
    have h1 : Spec0 Tryz.prog 27 [I .i64 f] (B false) := by
      by_cases hl : f < 1
      · exact is0l f f1 f2 hl
      · exact is0g f f1 f2 (by omega)
    exact ⟨0, 0, [], nil_bl (rng_bad f a t h0), nil_bl (rr_bad f a t h1), by simp, fun h => absurd h (by omega)⟩
theorem cnt_next (w x : Nat) {L : List (Nat × Nat)} {i : Nat} {q : Nat × Nat} (h : L[i]? = some q) : cntB w x (L.take (i + 1)) = cntB w x (L.take i) + if x &&& (2 ^ w - 2 ^ q.2) = q.1 then 1 else 0 := by
  unfold cntB
  rw [List.take_add_one, h, List.filter_append, List.length_append]
  congr 1
  simp only [Option.toList_some, List.filter_cons, List.filter_nil, beq_iff_eq]
  split <;> rfl
theorem cnt_le (w x : Nat) (L : List (Nat × Nat)) : cntB w x L ≤ L.length := List.length_filter_le _ _
theorem and32 {y : Nat} (h : y < 4294967296) : IntKind.u64.wrap ((BitVec.ofInt 64 (y : Int) &&& BitVec.ofInt 64 4294967295).toNat : Int) = (y : Nat) := by
  have h1 := and_u (a := y) (b := 4294967295) (by omega) (by decide)
  have h2 : y &&& 4294967295 = y := by
    have := Nat.and_two_pow_sub_one_eq_mod y 32
    simp only [show (2 : Nat) ^ 32 - 1 = 4294967295 by decide, show (2 : Nat) ^ 32 = 4294967296 by decide] at this
    rw [this]; omega
  rw [h2] at h1
  exact h1
theorem w_NormRanges (f a t x : Int) (f1 : -9223372036854775808 ≤ f) (f2 : f ≤ 9223372036854775807) (a1 : 0 ≤ a) (t1 : 0 ≤ t) (t2 : t < 18446744073709551616) (x1 : 0 ≤ x) (x2 : x < 18446744073709551616) : Spec0 Tryz.prog 3 [I .i64 f, I .u64 a, I .u64 t, I .u64 x] (B true) := by
  obtain ⟨k, w, L, h1, h2, hL, h3⟩ := w_both f a t f1 f2 a1 t1 t2
  have hlv := w_lives
  by_cases hf : f = 25
  · obtain ⟨rfl, rfl, hc, hb⟩ := h3 hf
    subst hf
    have hs := w_sameB 25 32 L hL
    obtain ⟨x, rfl⟩ := Int.eq_ofNat_of_zero_le x1
    obtain ⟨y, hyd⟩ : ∃ y, y = x % 4294967296 := ⟨_, rfl⟩
    have hy2 : y < 4294967296 := by omega
    have hy : IntKind.u32.wrap (x : Int) = (y : Nat) := by rw [IntKind.wrap_u32]; omega
    have hcy := hc y hy2
    refine Spec0.walk Tryz.func3 rfl rfl ?_
    refine W.sxP hm hF 3 5 1000 20 [.c 3 1 3 (AV.im 1 (List.flatMap (blkC 25 32) L)), .c 3 2 0 (B true), .c 3 2 7 (AV.im 1 (List.flatMap (blkC 25 32) L)), .c 3 2 8 (B true), .z 3 4 1 ((y : Nat) : Int)] [IntKind.wrap IntKind.u32 ((x : Nat) : Int) = ((y : Nat) : Int), Spec0 Tryz.prog 9 [BL 25 32 L, BL 25 32 L] (B true), Spec0 Tryz.prog 10 [I IntKind.i64 25, I IntKind.u64 a, I IntKind.u64 t] (AV.im 1 (List.flatMap (blkC 25 32) L)), Spec0 Tryz.prog 8 [] (B true), Spec0 Tryz.prog 7 [I IntKind.i64 25, I IntKind.u64 a, I IntKind.u64 t] (AV.im 1 (List.flatMap (blkC 25 32) L))] [(1, I .u64 a), (2, I .u64 t), (3, I .u64 (x : Nat)), (9, BL 25 32 L), (10, .ptr 0 0)] [.row 1 [I .u64 0, I .u64 0, B false, I .i64 0, I .i64 0, B false, I .i64 0, I .u64 0, I .u32 0, I .u64 0, I .u32 0, B false, I .i64 0, I .i64 0, I .i64 0, I .i64 0, I .i64 0, I .u32 0, I .u32 0, S ⟨#[]⟩, I .i64 0, I .i64 0, I .i64 0, I .u32 0, I .i64 0, I .i64 0, B false, I .u32 0, I .u32 0, I .i64 0, I .i64 0, I .i64 0, S ⟨#[]⟩, S ⟨#[]⟩, S ⟨#[]⟩, S ⟨#[]⟩, I .i64 0, I .i64 0, I .i64 0, I .i64 0, I .u32 (y : Nat), I .u32 0, I .u32 0, I .u32 0, I .i64 0, I .u32 0, I .u32 0, I .i64 0, I .i64 0]] (by kernel_rfl) ⟨(by assumption), hs, h2, hlv, h1, trivial⟩ ?_
    clear h1 h2 hs hlv
    refine W.sxP hm hF 3 1 1000 20 [] [] [(1, I .u64 a), (2, I .u64 t), (3, I .u64 (x : Nat)), (9, BL 25 32 L), (10, .ptr 0 0), (11, I .i64 0)] [.row 1 [I .u64 0, I .u64 0, B false, I .i64 0, I .i64 0, B false, I .i64 0, I .u64 0, I .u32 0, I .u64 0, I .u32 0, B false, I .i64 0, I .i64 0, I .i64 0, I .i64 0, I .i64 0, I .u32 0, I .u32 0, S ⟨#[]⟩, I .i64 0, I .i64 0, I .i64 0, I .u32 0, I .i64 0, I .i64 0, B false, I .u32 0, I .u32 0, I .i64 0, I .i64 0, I .i64 0, S ⟨#[]⟩, S ⟨#[]⟩, S ⟨#[]⟩, S ⟨#[]⟩, I .i64 0, I .i64 0, I .i64 0, I .i64 0, I .u32 (y : Nat), I .u32 0, I .u32 0, I .u32 0, I .i64 0, I .u32 0, I .u32 0, I .i64 0, I .i64 0]] (by kernel_rfl) trivial ?_
    refine W.seq ?_
    refine W.seq ?_
    refine W.sx hm hF 3 1000 20 [] [] .normal [(1, I .u64 a), (2, I .u64 t), (3, I .u64 (x : Nat)), (9, BL 25 32 L), (10, .ptr 0 0), (11, I .i64 ((0 : Nat) : Int)), (12, I .i64 ((0 : Nat) : Int))] [.row 1 [I .u64 0, I .u64 0, B false, I .i64 0, I .i64 0, B false, I .i64 0, I .u64 0, I .u32 0, I .u64 0, I .u32 0, B false, I .i64 0, I .i64 0, I .i64 0, I .i64 0, I .i64 0, I .u32 0, I .u32 0, S ⟨#[]⟩, I .i64 0, I .i64 0, I .i64 0, I .u32 0, I .i64 0, I .i64 0, B false, I .u32 0, I .u32 0, I .i64 0, I .i64 0, I .i64 0, S ⟨#[]⟩, S ⟨#[]⟩, S ⟨#[]⟩, S ⟨#[]⟩, I .i64 0, I .i64 0, I .i64 0, I .i64 0, I .u32 (y : Nat), I .u32 0, I .u32 0, I .u32 0, I .i64 0, I .u32 0, I .u32 0, I .i64 0, I .i64 0]] (by kernel_rfl) trivial (fun σ h => W.weaken h ?_)
    refine W.block ?_
    refine W.loopD 1 (fun i : Nat => ⟨tbl [(1, I .u64 a), (2, I .u64 t), (3, I .u64 (x : Nat)), (9, BL 25 32 L), (10, .ptr 0 0), (11, I .i64 ((cntB 32 y (L.take i) : Nat) : Int)), (12, I .i64 ((i : Nat) : Int))], [.row 1 [I .u64 0, I .u64 0, B false, I .i64 0, I .i64 0, B false, I .i64 0, I .u64 0, I .u32 0, I .u64 0, I .u32 0, B false, I .i64 0, I .i64 0, I .i64 0, I .i64 0, I .i64 0, I .u32 0, I .u32 0, S ⟨#[]⟩, I .i64 0, I .i64 0, I .i64 0, I .u32 0, I .i64 0, I .i64 0, B false, I .u32 0, I .u32 0, I .i64 0, I .i64 0, I .i64 0, S ⟨#[]⟩, S ⟨#[]⟩, S ⟨#[]⟩, S ⟨#[]⟩, I .i64 0, I .i64 0, I .i64 0, I .i64 0, I .u32 (y : Nat), I .u32 0, I .u32 0, I .u32 0, I .i64 0, I .u32 0, I .u32 0, I .i64 0, I .i64 0]]⟩) (fun i => i ≤ L.length) (fun i => L.length - i) 0 (Nat.zero_le _) rfl (Le.refl _) ?_
    intro i hi
    obtain ⟨n, hn0⟩ : ∃ n, n = cntB 32 y (L.take i) := ⟨_, rfl⟩
    have hn : n ≤ i := by have := cnt_le 32 y (L.take i); rw [List.length_take] at this; omega
    rw [← hn0]
    by_cases hlt : i < L.length
    · obtain ⟨q, hget⟩ : ∃ q, L[i]? = some q := ⟨_, List.getElem?_eq_getElem hlt⟩
      have hl0 : L.length ≤ 98 := hL
      have hX := cnt_next 32 y hget
      rw [← hn0] at hX
      have hql := hb q (List.mem_of_getElem? hget)
      have hpq := two_pos q.2
      have e32 : (2 : Nat) ^ 32 = 4294967296 := by decide
      by_cases hsq : y &&& (2 ^ 32 - 2 ^ q.2) = q.1
      · have hsat := sat_true y q.1 (2 ^ 32 - 2 ^ q.2) hy2 (by omega) (and32 hy2) (by rw [hsq]; simp)
        rw [if_pos hsq] at hX
        exact W.sx hm hF 3 1000 20 [.n 3 9 2 (List.length L), .b 3 9 3 true, .j 3 11 3 (List.length L) i, .l 3 11 4 (AV.im 3 [I IntKind.i64 25, I IntKind.u64 ((q.fst : Nat) : Int), I IntKind.u64 (((2 ^ 32 - 2 ^ q.snd) : Nat) : Int)]), .c 3 11 5 (B true), .x 3 12 1 (Xt.na (n + 1)), .x 3 10 1 (Xt.na (i + 1))] [i + 1 < cap IntKind.i64, i + 1 = i + 1, n + 1 < cap IntKind.i64, n + 1 = n + 1, Spec0 Tryz.prog 11   [AV.agg       (let y :=         let y :=           let y_1 := [I IntKind.u32 0, I IntKind.u32 0, I IntKind.i64 0, I IntKind.u32 0, I IntKind.u32 0, I IntKind.i64 0, I IntKind.i64 0];           I IntKind.i64 0 :: I IntKind.i64 0 :: I IntKind.i64 0 :: I IntKind.i64 0 :: I IntKind.u32 ((y : Nat) : Int) :: I IntKind.u32 0 :: y_1;         let y := I IntKind.i64 0 :: I IntKind.i64 0 :: S (ByteArray.mk #[]) :: S (ByteArray.mk #[]) :: S (ByteArray.mk #[]) :: S (ByteArray.mk #[]) :: y;         I IntKind.i64 0 :: I IntKind.i64 0 :: B false :: I IntKind.u32 0 :: I IntKind.u32 0 :: I IntKind.i64 0 :: y;       let y :=         let y := I IntKind.u32 0 :: S (ByteArray.mk #[]) :: I IntKind.i64 0 :: I IntKind.i64 0 :: I IntKind.i64 0 :: I IntKind.u32 0 :: y;         I IntKind.i64 0 :: I IntKind.i64 0 :: I IntKind.i64 0 :: I IntKind.i64 0 :: I IntKind.i64 0 :: I IntKind.u32 0 :: y;       let y := I IntKind.i64 0 :: I IntKind.u64 0 :: I IntKind.u32 0 :: I IntKind.u64 0 :: I IntKind.u32 0 :: B false :: y;       I IntKind.u64 0 :: I IntKind.u64 0 :: B false :: I IntKind.i64 0 :: I IntKind.i64 0 :: B false :: y),     AV.im 3 [I IntKind.i64 25, I IntKind.u64 ((q.fst : Nat) : Int), I IntKind.u64 (((2 ^ 32 - 2 ^ q.snd) : Nat) : Int)]]   (B true), (List.flatMap (blkC 25 32) L)[i * 1]? = some (AV.im 3 [I IntKind.i64 25, I IntKind.u64 ((q.fst : Nat) : Int), I IntKind.u64 (((4294967296 - 2 ^ q.snd) : Nat) : Int)]), List.length L * 1 = List.length (List.flatMap (blkC 25 32) L), 0 < 1, ((i : Nat) : Int) = ((i : Nat) : Int), i < List.length L, decide (((i : Nat) : Int) < (((List.length L) : Nat) : Int)) = true, List.length L * 1 = List.length (List.flatMap (blkC 25 32) L), 0 < 1] .normal [(1, I .u64 a), (2, I .u64 t), (3, I .u64 (x : Nat)), (9, BL 25 32 L), (10, .ptr 0 0), (11, I .i64 ((n + 1 : Nat) : Int)), (12, I .i64 ((i + 1 : Nat) : Int))] [AObj.row 1 [I .u64 (Int.ofNat 0), I .u64 (Int.ofNat 0), B false, I .i64 (Int.ofNat 0), I .i64 (Int.ofNat 0), B false, I .i64 (Int.ofNat 0), I .u64 (Int.ofNat 0), I .u32 (Int.ofNat 0), I .u64 (Int.ofNat 0), I .u32 (Int.ofNat 0), B false, I .i64 (Int.ofNat 0), I .i64 (Int.ofNat 0), I .i64 (Int.ofNat 0), I .i64 (Int.ofNat 0), I .i64 (Int.ofNat 0), I .u32 (Int.ofNat 0), I .u32 (Int.ofNat 0), S (ByteArray.mk #[]), I .i64 (Int.ofNat 0), I .i64 (Int.ofNat 0), I .i64 (Int.ofNat 0), I .u32 (Int.ofNat 0), I .i64 (Int.ofNat 0), I .i64 (Int.ofNat 0), B false, I .u32 (Int.ofNat 0), I .u32 (Int.ofNat 0), I .i64 (Int.ofNat 0), I .i64 (Int.ofNat 0), I .i64 (Int.ofNat 0), S (ByteArray.mk #[]), S (ByteArray.mk #[]), S (ByteArray.mk #[]), S (ByteArray.mk #[]), I .i64 (Int.ofNat 0), I .i64 (Int.ofNat 0), I .i64 (Int.ofNat 0), I .i64 (Int.ofNat 0), I .u32 ((y : Nat) : Int), I .u32 (Int.ofNat 0), I .u32 (Int.ofNat 0), I .u32 (Int.ofNat 0), I .i64 (Int.ofNat 0), I .u32 (Int.ofNat 0), I .u32 (Int.ofNat 0), I .i64 (Int.ofNat 0), I .i64 (Int.ofNat 0)]] (by kernel_rfl) ⟨(by simp [cap] <;> omega), (by rfl), (by simp [cap] <;> omega), (by rfl), hsat, (by exact fm_cell (c := blkC 25 32) (k := 0) (fun _ => rfl) _ hget (by decide) rfl), (by exact Eq.symm (fm_len (c := (blkC 25 32)) (fun _ => rfl) _)), (by omega), (by first | (simp) | omega | decide | simp), (by assumption), (by simp <;> omega), (by exact Eq.symm (fm_len (c := (blkC 25 32)) (fun _ => rfl) _)), (by omega), trivial⟩ (fun σ h => ⟨i + 1, hlt, by omega, by rw [hX]; exact LeD.mk rfl rfl h⟩)
      · have hsat := sat_false y q.1 (2 ^ 32 - 2 ^ q.2) hy2 (by omega) (and32 hy2) (by
          have : ((y &&& (2 ^ 32 - 2 ^ q.2) : Nat) : Int) ≠ (q.1 : Int) := by omega
          simpa using this)
        rw [if_neg hsq] at hX
        exact W.sx hm hF 3 1000 20 [.n 3 9 2 (List.length L), .b 3 9 3 true, .j 3 11 3 (List.length L) i, .l 3 11 4 (AV.im 3 [I IntKind.i64 25, I IntKind.u64 ((q.fst : Nat) : Int), I IntKind.u64 (((2 ^ 32 - 2 ^ q.snd) : Nat) : Int)]), .c 3 11 5 (B false), .x 3 10 1 (Xt.na (i + 1))] [i + 1 < cap IntKind.i64, i + 1 = i + 1, Spec0 Tryz.prog 11   [AV.agg       (let y :=         let y :=           let y_1 := [I IntKind.u32 0, I IntKind.u32 0, I IntKind.i64 0, I IntKind.u32 0, I IntKind.u32 0, I IntKind.i64 0, I IntKind.i64 0];           I IntKind.i64 0 :: I IntKind.i64 0 :: I IntKind.i64 0 :: I IntKind.i64 0 :: I IntKind.u32 ((y : Nat) : Int) :: I IntKind.u32 0 :: y_1;         let y := I IntKind.i64 0 :: I IntKind.i64 0 :: S (ByteArray.mk #[]) :: S (ByteArray.mk #[]) :: S (ByteArray.mk #[]) :: S (ByteArray.mk #[]) :: y;         I IntKind.i64 0 :: I IntKind.i64 0 :: B false :: I IntKind.u32 0 :: I IntKind.u32 0 :: I IntKind.i64 0 :: y;       let y :=         let y := I IntKind.u32 0 :: S (ByteArray.mk #[]) :: I IntKind.i64 0 :: I IntKind.i64 0 :: I IntKind.i64 0 :: I IntKind.u32 0 :: y;         I IntKind.i64 0 :: I IntKind.i64 0 :: I IntKind.i64 0 :: I IntKind.i64 0 :: I IntKind.i64 0 :: I IntKind.u32 0 :: y;       let y := I IntKind.i64 0 :: I IntKind.u64 0 :: I IntKind.u32 0 :: I IntKind.u64 0 :: I IntKind.u32 0 :: B false :: y;       I IntKind.u64 0 :: I IntKind.u64 0 :: B false :: I IntKind.i64 0 :: I IntKind.i64 0 :: B false :: y),     AV.im 3 [I IntKind.i64 25, I IntKind.u64 ((q.fst : Nat) : Int), I IntKind.u64 (((2 ^ 32 - 2 ^ q.snd) : Nat) : Int)]]   (B false), (List.flatMap (blkC 25 32) L)[i * 1]? = some (AV.im 3 [I IntKind.i64 25, I IntKind.u64 ((q.fst : Nat) : Int), I IntKind.u64 (((4294967296 - 2 ^ q.snd) : Nat) : Int)]), List.length L * 1 = List.length (List.flatMap (blkC 25 32) L), 0 < 1, ((i : Nat) : Int) = ((i : Nat) : Int), i < List.length L, decide (((i : Nat) : Int) < (((List.length L) : Nat) : Int)) = true, List.length L * 1 = List.length (List.flatMap (blkC 25 32) L), 0 < 1] .normal [(1, I .u64 a), (2, I .u64 t), (3, I .u64 (x : Nat)), (9, BL 25 32 L), (10, .ptr 0 0), (11, I .i64 ((n : Nat) : Int)), (12, I .i64 ((i + 1 : Nat) : Int))] [AObj.row 1 [I .u64 (Int.ofNat 0), I .u64 (Int.ofNat 0), B false, I .i64 (Int.ofNat 0), I .i64 (Int.ofNat 0), B false, I .i64 (Int.ofNat 0), I .u64 (Int.ofNat 0), I .u32 (Int.ofNat 0), I .u64 (Int.ofNat 0), I .u32 (Int.ofNat 0), B false, I .i64 (Int.ofNat 0), I .i64 (Int.ofNat 0), I .i64 (Int.ofNat 0), I .i64 (Int.ofNat 0), I .i64 (Int.ofNat 0), I .u32 (Int.ofNat 0), I .u32 (Int.ofNat 0), S (ByteArray.mk #[]), I .i64 (Int.ofNat 0), I .i64 (Int.ofNat 0), I .i64 (Int.ofNat 0), I .u32 (Int.ofNat 0), I .i64 (Int.ofNat 0), I .i64 (Int.ofNat 0), B false, I .u32 (Int.ofNat 0), I .u32 (Int.ofNat 0), I .i64 (Int.ofNat 0), I .i64 (Int.ofNat 0), I .i64 (Int.ofNat 0), S (ByteArray.mk #[]), S (ByteArray.mk #[]), S (ByteArray.mk #[]), S (ByteArray.mk #[]), I .i64 (Int.ofNat 0), I .i64 (Int.ofNat 0), I .i64 (Int.ofNat 0), I .i64 (Int.ofNat 0), I .u32 ((y : Nat) : Int), I .u32 (Int.ofNat 0), I .u32 (Int.ofNat 0), I .u32 (Int.ofNat 0), I .i64 (Int.ofNat 0), I .u32 (Int.ofNat 0), I .u32 (Int.ofNat 0), I .i64 (Int.ofNat 0), I .i64 (Int.ofNat 0)]] (by kernel_rfl) ⟨(by simp [cap] <;> omega), (by rfl), hsat, (by exact fm_cell (c := blkC 25 32) (k := 0) (fun _ => rfl) _ hget (by decide) rfl), (by exact Eq.symm (fm_len (c := (blkC 25 32)) (fun _ => rfl) _)), (by omega), (by first | (simp) | omega | decide | simp), (by assumption), (by simp <;> omega), (by exact Eq.symm (fm_len (c := (blkC 25 32)) (fun _ => rfl) _)), (by omega), trivial⟩ (fun σ h => ⟨i + 1, hlt, by omega, by rw [hX]; exact LeD.mk rfl rfl h⟩)
    · have hbb : decide (((i : Nat) : Int) < (L.length : Nat)) = false := decide_eq_false (by omega)
      rw [List.take_of_length_le (by omega)] at hn0
      refine W.sx hm hF 3 1000 20 [.n 3 9 2 L.length, .b 3 9 3 false] [decide (((i : Nat) : Int) < (L.length : Nat)) = false, L.length * 1 = (L.flatMap (blkC 25 32)).length, 0 < 1] (.exit 0) [(1, I .u64 a), (2, I .u64 t), (3, I .u64 (x : Nat)), (11, I .i64 (n : Nat))] [.row 1 [I .u64 0, I .u64 0, B false, I .i64 0, I .i64 0, B false, I .i64 0, I .u64 0, I .u32 0, I .u64 0, I .u32 0, B false, I .i64 0, I .i64 0, I .i64 0, I .i64 0, I .i64 0, I .u32 0, I .u32 0, S ⟨#[]⟩, I .i64 0, I .i64 0, I .i64 0, I .u32 0, I .i64 0, I .i64 0, B false, I .u32 0, I .u32 0, I .i64 0, I .i64 0, I .i64 0, S ⟨#[]⟩, S ⟨#[]⟩, S ⟨#[]⟩, S ⟨#[]⟩, I .i64 0, I .i64 0, I .i64 0, I .i64 0, I .u32 (y : Nat), I .u32 0, I .u32 0, I .u32 0, I .i64 0, I .u32 0, I .u32 0, I .i64 0, I .i64 0]] (by kernel_rfl) ⟨hbb, Eq.symm (fm_len (c := blkC 25 32) (fun _ => rfl) _), by decide, trivial⟩ (fun σ h => W.weaken h ?_)
      rw [hcy] at hn0
      by_cases c1 : (y : Int) ≥ a
      · by_cases c2 : (y : Int) ≤ t
        · by_cases c3 : t < 4294967296
          · rw [if_pos ⟨c1, c2, c3⟩] at hn0
            subst hn0
            exact W.sxR hm hF 3 1000 20 [.z 3 13 1 ((y : Nat) : Int), .x 3 13 2 (Xt.na y), .b 3 13 4 true, .z 3 13 7 ((y : Nat) : Int), .x 3 13 8 (Xt.na y), .b 3 13 10 true, .b 3 13 14 true] [decide (t < 4294967296) = true, decide (((y : Nat) : Int) ≤ t) = true, IntKind.wrap IntKind.u64 ((y : Nat) : Int) = ((y : Nat) : Int), IntKind.wrap IntKind.u32 ((x : Nat) : Int) = ((y : Nat) : Int), decide (((y : Nat) : Int) ≥ a) = true, IntKind.wrap IntKind.u64 ((y : Nat) : Int) = ((y : Nat) : Int), IntKind.wrap IntKind.u32 ((x : Nat) : Int) = ((y : Nat) : Int)] [.tmp 8] .ret (B true) (by kernel_rfl) ⟨(by simp <;> omega), (by simp <;> omega), (by exact IntWalk.u64_in _ (by omega)), (by assumption), (by simp <;> omega), (by exact IntWalk.u64_in _ (by omega)), (by assumption), trivial⟩ (fun σ xs h1 h2 => retK.mk (.inl rfl) h1 h2)
          · rw [if_neg (fun h => c3 h.2.2)] at hn0
            subst hn0
            exact W.sxR hm hF 3 1000 20 [.z 3 13 1 ((y : Nat) : Int), .x 3 13 2 (Xt.na y), .b 3 13 4 true, .z 3 13 7 ((y : Nat) : Int), .x 3 13 8 (Xt.na y), .b 3 13 10 true, .b 3 13 14 false] [decide (t < 4294967296) = false, decide (((y : Nat) : Int) ≤ t) = true, IntKind.wrap IntKind.u64 ((y : Nat) : Int) = ((y : Nat) : Int), IntKind.wrap IntKind.u32 ((x : Nat) : Int) = ((y : Nat) : Int), decide (((y : Nat) : Int) ≥ a) = true, IntKind.wrap IntKind.u64 ((y : Nat) : Int) = ((y : Nat) : Int), IntKind.wrap IntKind.u32 ((x : Nat) : Int) = ((y : Nat) : Int)] [.tmp 8] .ret (B true) (by kernel_rfl) ⟨(by simp <;> omega), (by simp <;> omega), (by exact IntWalk.u64_in _ (by omega)), (by assumption), (by simp <;> omega), (by exact IntWalk.u64_in _ (by omega)), (by assumption), trivial⟩ (fun σ xs h1 h2 => retK.mk (.inl rfl) h1 h2)
        · rw [if_neg (fun h => c2 h.2.1)] at hn0
          subst hn0
          exact W.sxR hm hF 3 1000 20 [.z 3 13 1 ((y : Nat) : Int), .x 3 13 2 (Xt.na y), .b 3 13 4 true, .z 3 13 7 ((y : Nat) : Int), .x 3 13 8 (Xt.na y), .b 3 13 10 false] [decide (((y : Nat) : Int) ≤ t) = false, IntKind.wrap IntKind.u64 ((y : Nat) : Int) = ((y : Nat) : Int), IntKind.wrap IntKind.u32 ((x : Nat) : Int) = ((y : Nat) : Int), decide (((y : Nat) : Int) ≥ a) = true, IntKind.wrap IntKind.u64 ((y : Nat) : Int) = ((y : Nat) : Int), IntKind.wrap IntKind.u32 ((x : Nat) : Int) = ((y : Nat) : Int)] [.tmp 8] .ret (B true) (by kernel_rfl) ⟨(by simp <;> omega), (by exact IntWalk.u64_in _ (by omega)), (by assumption), (by simp <;> omega), (by exact IntWalk.u64_in _ (by omega)), (by assumption), trivial⟩ (fun σ xs h1 h2 => retK.mk (.inl rfl) h1 h2)
      · rw [if_neg (fun h => c1 h.1)] at hn0
        subst hn0
        exact W.sxR hm hF 3 1000 20 [.z 3 13 1 ((y : Nat) : Int), .x 3 13 2 (Xt.na y), .b 3 13 4 false] [decide (((y : Nat) : Int) ≥ a) = false, IntKind.wrap IntKind.u64 ((y : Nat) : Int) = ((y : Nat) : Int), IntKind.wrap IntKind.u32 ((x : Nat) : Int) = ((y : Nat) : Int)] [.tmp 8] .ret (B true) (by kernel_rfl) ⟨(by simp <;> omega), (by exact IntWalk.u64_in _ (by omega)), (by assumption), trivial⟩ (fun σ xs h1 h2 => retK.mk (.inl rfl) h1 h2)
  · exact nr_ne1 k w L f a t x hlv _ rfl h1 h2 (w_sameB k w L hL) hf

end Go.Proofs.YthppdlmildfnnaaGreatDoor
