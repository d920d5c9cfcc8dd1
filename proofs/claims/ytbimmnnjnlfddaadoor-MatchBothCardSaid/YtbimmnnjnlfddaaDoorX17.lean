/-
  Satisfies.
-/
import Derived.Test.YtbimmnnjnlfddaaDoorX16
import Derived.Test.YtbimmnnjnlfddaaDoorX12
set_option linter.unusedVariables false
set_option linter.unusedSimpArgs false
set_option maxRecDepth 100000
set_option maxHeartbeats 1000000
namespace Go.Proofs.YtbimmnnjnlfddaaDoor
open Go Go.SL Go.Proofs
def fV (s : Stt) (f : Int) : Int := gV s f.toNat
def fE (s : Stt) (f : Int) : Int := gE s f.toNat
theorem w_GetZ (s : Stt) (x : Int) (h1 : 1 ≤ x) (h2 : x ≤ 28) : Spec0 Tryd.prog 25 [.agg s.cells, I .i64 x] (.tup [I .u64 (fV s x), I .i64 (fE s x)]) := by
  unfold fV fE
  obtain ⟨k, rfl⟩ := Int.eq_ofNat_of_zero_le (show 0 ≤ x by omega)
  exact w_Get s k (by omega) (by omega)
theorem w_Sat (s : Stt) (l : List Term) (hl0 : l.length ≤ 140737488351232) (hk : chk 0 l = true) : Spec0 Tryd.prog 18 [.agg s.cells, TL l] (B (satL (fV s) (fE s) l)) := by
  have hl := (fm_len tC_len l).symm
  unfold satL
  refine Spec0.walk Tryd.func18 rfl rfl ?_
  refine W.sxP hm hF 18 1 1000 20 [] [] [(1, TL l), (2, .ptr 0 0)] [.row 1 s.cells] (by kernel_rfl) trivial ?_
  refine W.seq ?_
  refine W.seq ?_
  refine W.sx hm hF 18 1000 20 [.n 18 1 1 l.length] [l.length * 3 = (l.flatMap tC).length, 0 < 3] .normal [(2, .ptr 0 0), (9, TL l), (10, I .i64 (l.length : Nat)), (11, I .i64 0)] [.row 1 s.cells] (by kernel_rfl) ⟨hl, by decide, trivial⟩ (fun σ h => W.weaken h ?_)
  refine W.block ?_
  refine W.loopD 1 (fun i : Nat => ⟨tbl [(2, .ptr 0 0), (9, TL l), (10, I .i64 (l.length : Nat)), (11, I .i64 (i : Nat))], [.row 1 s.cells]⟩) (fun i => i ≤ l.length ∧ (l.take i).all (satT (fV s) (fE s)) = true) (fun i => l.length - i) 0 ⟨Nat.zero_le _, by simp⟩ rfl (Le.refl _) ?_
  rintro i ⟨hi, ha⟩
  by_cases hlt : i < l.length
  · have hb : decide (((i : Nat) : Int) < (l.length : Nat)) = true := decide_eq_true (by omega)
    obtain ⟨t, hget⟩ : ∃ t, l[i]? = some t := ⟨_, List.getElem?_eq_getElem hlt⟩
    have hf := chk_mem (by decide) hk t (List.mem_of_getElem? hget)
    have hG := w_GetZ s t.f (by omega) (by omega)
    cases q1 : fE s t.f != 0
    · cases q2 : uand (fV s t.f) t.m != t.v
      · exact W.sx hm hF 18 1000 20 [.b 18 2 0 true, .j 18 3 0 l.length i, .l 18 3 1 (.agg (tC t)), .c 18 4 3 (.tup [I .u64 (fV s t.f), I .i64 (fE s t.f)]), .b 18 5 1 false, .b 18 5 9 false, .z 18 7 0 ((i + 1 : Nat) : Int)] [IntKind.i64.wrap (((i : Nat) : Int) + 1) = ((i + 1 : Nat) : Int), (uand (fV s t.f) t.m != t.v) = false, (fE s t.f != 0) = false, Spec0 Tryd.prog 25 [.agg s.cells, I .i64 t.f] (.tup [I .u64 (fV s t.f), I .i64 (fE s t.f)]), ((l.flatMap tC).drop (i * 3)).take 3 = tC t, i * 3 + 3 ≤ (l.flatMap tC).length, l.length * 3 = (l.flatMap tC).length, 0 < 3, ((i : Nat) : Int) = (i : Int), i < l.length, decide (((i : Nat) : Int) < (l.length : Nat)) = true] .normal [(2, .ptr 0 0), (9, TL l), (10, I .i64 (l.length : Nat)), (11, I .i64 (i + 1 : Nat))] [.row 1 s.cells, .row 1 (tC t)] (by kernel_rfl) ⟨i64_n i (by omega), q2, q1, hG, fm_at tC_len l hget, fm_bound tC_len l hlt, (fm_len tC_len l).symm, by decide, rfl, hlt, hb, trivial⟩ (fun σ h => ⟨i + 1, ⟨hlt, by rw [all_take ha hget]; simp only [satT, q1, q2]; rfl⟩, by omega, LeD.mk rfl rfl h⟩)
      · rw [all_no hget (by simp only [satT, q1, q2]; rfl)]
        exact W.sxR hm hF 18 1000 20 [.b 18 2 0 true, .j 18 3 0 l.length i, .l 18 3 1 (.agg (tC t)), .c 18 4 3 (.tup [I .u64 (fV s t.f), I .i64 (fE s t.f)]), .b 18 5 1 false, .b 18 5 9 true] [(uand (fV s t.f) t.m != t.v) = true, (fE s t.f != 0) = false, Spec0 Tryd.prog 25 [.agg s.cells, I .i64 t.f] (.tup [I .u64 (fV s t.f), I .i64 (fE s t.f)]), ((l.flatMap tC).drop (i * 3)).take 3 = tC t, i * 3 + 3 ≤ (l.flatMap tC).length, l.length * 3 = (l.flatMap tC).length, 0 < 3, ((i : Nat) : Int) = (i : Int), i < l.length, decide (((i : Nat) : Int) < (l.length : Nat)) = true] [.tmp 4] .ret (B false) (by kernel_rfl) ⟨q2, q1, hG, fm_at tC_len l hget, fm_bound tC_len l hlt, (fm_len tC_len l).symm, by decide, rfl, hlt, hb, trivial⟩ (fun σ xs h1 h2 => retK.mk (.inl rfl) h1 h2)
    · rw [all_no hget (by simp only [satT, q1]; rfl)]
      exact W.sxR hm hF 18 1000 20 [.b 18 2 0 true, .j 18 3 0 l.length i, .l 18 3 1 (.agg (tC t)), .c 18 4 3 (.tup [I .u64 (fV s t.f), I .i64 (fE s t.f)]), .b 18 5 1 true] [(fE s t.f != 0) = true, Spec0 Tryd.prog 25 [.agg s.cells, I .i64 t.f] (.tup [I .u64 (fV s t.f), I .i64 (fE s t.f)]), ((l.flatMap tC).drop (i * 3)).take 3 = tC t, i * 3 + 3 ≤ (l.flatMap tC).length, l.length * 3 = (l.flatMap tC).length, 0 < 3, ((i : Nat) : Int) = (i : Int), i < l.length, decide (((i : Nat) : Int) < (l.length : Nat)) = true] [.tmp 4] .ret (B false) (by kernel_rfl) ⟨q1, hG, fm_at tC_len l hget, fm_bound tC_len l hlt, (fm_len tC_len l).symm, by decide, rfl, hlt, hb, trivial⟩ (fun σ xs h1 h2 => retK.mk (.inl rfl) h1 h2)
  · have hb : decide (((i : Nat) : Int) < (l.length : Nat)) = false := decide_eq_false (by omega)
    have hall : l.all (satT (fV s) (fE s)) = true := by rw [show i = l.length by omega, List.take_length] at ha; exact ha
    rw [hall]
    refine W.sx hm hF 18 1000 20 [.b 18 2 0 false] [decide (((i : Nat) : Int) < (l.length : Nat)) = false] (.exit 0) [] [.row 1 s.cells] (by kernel_rfl) ⟨hb, trivial⟩ (fun σ h => W.weaken h ?_)
    exact W.sxR hm hF 18 1000 20 [] [] [.tmp 4] .ret (B true) (by kernel_rfl) trivial (fun σ xs h1 h2 => retK.mk (.inl rfl) h1 h2)
end Go.Proofs.YtbimmnnjnlfddaaDoor
