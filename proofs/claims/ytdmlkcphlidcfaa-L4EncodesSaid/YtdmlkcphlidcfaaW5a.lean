/-
  Contracts of functions of chapter 04: each theorem says what a call of one function answers, for all arguments that its hypotheses let in.
-/
import Derived.Test.YtdmlkcphlidcfaaW4z
set_option linter.unusedVariables false
set_option linter.unusedSimpArgs false
set_option maxRecDepth 100000
set_option maxHeartbeats 1000000
namespace Go.Proofs.Ytdmlkcphlidcfaa
open Go Go.SL Go.Proofs

theorem ba_nil {s : ByteArray} (h : s.data.toList = (⟨#[]⟩ : ByteArray).data.toList) : s = ⟨#[]⟩ := by
  cases s with
  | mk d => congr 1; exact Array.ext' h
/-- A packet that may be. -/
def okL4 (a0 : Int) (a1 : Int) (a2 : Int) (a3 : Int) (a4 : Int) (a5 : Int) (a6 : Bool) (a7 : Int) (a8 : Int) (a9 : Int) (a10 : Int) (a11 : Int) (a12 : ByteArray) (a13 : ByteArray) : Prop := (a0 = 0 ∧ (a1 = 0 ∧ a2 = 0 ∧ a3 = 0 ∧ a4 = 0 ∧ a5 = 0 ∧ a6 = false ∧ a7 = 0 ∧ a8 = 0 ∧ a9 = 0 ∧ a10 = 0 ∧ a11 = 0 ∧ a12 = ⟨#[]⟩) ∧ ((a13.size ≤ 65515))) ∨ (a0 = 1 ∧ (a4 = 0 ∧ a5 = 0 ∧ a6 = false ∧ a7 = 0 ∧ a8 = 0 ∧ a9 = 0 ∧ a10 = 0 ∧ a11 = 0 ∧ a12 = ⟨#[]⟩) ∧ ((0 ≤ a1 ∧ a1 ≤ 255) ∧ (0 ≤ a2 ∧ a2 ≤ 255) ∧ (a13.size ≤ 65507))) ∨ (a0 = 2 ∧ (a1 = 0 ∧ a2 = 0 ∧ a3 = 0 ∧ a7 = 0 ∧ a8 = 0 ∧ a9 = 0 ∧ a10 = 0 ∧ a11 = 0 ∧ a12 = ⟨#[]⟩) ∧ ((0 ≤ a4 ∧ a4 ≤ 65535) ∧ (0 ≤ a5 ∧ a5 ≤ 65535) ∧ (a13.size ≤ 65507))) ∨ (a0 = 3 ∧ (a1 = 0 ∧ a2 = 0 ∧ a3 = 0 ∧ a6 = false) ∧ ((0 ≤ a4 ∧ a4 ≤ 65535) ∧ (0 ≤ a5 ∧ a5 ≤ 65535) ∧ (0 ≤ a10 ∧ a10 ≤ 65535) ∧ (0 ≤ a11 ∧ a11 ≤ 65535) ∧ (0 ≤ a9 ∧ a9 ≤ 4095) ∧ (a12.size ≤ 40) ∧ (a12.size % 4 = 0) ∧ (a13.size + 20 + a12.size ≤ 65515)))

theorem w_ChkX {a0 : Int} {a1 : Int} {a2 : Int} {a3 : Int} {a4 : Int} {a5 : Int} {a6 : Bool} {a7 : Int} {a8 : Int} {a9 : Int} {a10 : Int} {a11 : Int} {a12 : ByteArray} {a13 : ByteArray} (g0 : isI a0) (g1 : isI a1) (g2 : isI a2) (g3 : isU a3) (g4 : isI a4) (g5 : isI a5) (g7 : isU a7) (g8 : isU a8) (g9 : isI a9) (g10 : isI a10) (g11 : isI a11) (g12 : a12.size ≤ 200000000000000) (g13 : a13.size ≤ 200000000000000) (h : ¬ okL4 a0 a1 a2 a3 a4 a5 a6 a7 a8 a9 a10 a11 a12 a13) : Spec0 Try.prog 13 [.agg [.sc (.int .i64 a0), .sc (.int .i64 a1), .sc (.int .i64 a2), .sc (.int .u32 a3), .sc (.int .i64 a4), .sc (.int .i64 a5), .sc (.bool a6), .sc (.int .u32 a7), .sc (.int .u32 a8), .sc (.int .i64 a9), .sc (.int .i64 a10), .sc (.int .i64 a11), .sc (.string a12), .sc (.string a13)]] (.sc (.int .i64 1)) := by
  by_cases k0 : a0 = 0
  · subst k0
    by_cases hz : a1 = 0 ∧ a2 = 0 ∧ a3 = 0 ∧ a4 = 0 ∧ a5 = 0 ∧ a6 = false ∧ a7 = 0 ∧ a8 = 0 ∧ a9 = 0 ∧ a10 = 0 ∧ a11 = 0 ∧ a12 = ⟨#[]⟩
    · obtain ⟨rfl, rfl, rfl, rfl, rfl, rfl, rfl, rfl, rfl, rfl, rfl, rfl⟩ := hz
      exact w_ChkR0 g13 (fun hr => h (.inl ⟨rfl, ⟨rfl, rfl, rfl, rfl, rfl, rfl, rfl, rfl, rfl, rfl, rfl, rfl⟩, hr⟩))
    · exact w_ChkN0 g1 g2 g3 g4 g5 g7 g8 g9 g10 g11 g12 g13 (fun ⟨z0, z1, z2, z3, z4, z5, z6, z7, z8, z9, z10, z11, z12, z13⟩ => hz ⟨z1, z2, z3, z4, z5, z6, z7, z8, z9, z10, z11, (ba_nil z12)⟩)
  by_cases k1 : a0 = 1
  · subst k1
    by_cases hz : a4 = 0 ∧ a5 = 0 ∧ a6 = false ∧ a7 = 0 ∧ a8 = 0 ∧ a9 = 0 ∧ a10 = 0 ∧ a11 = 0 ∧ a12 = ⟨#[]⟩
    · obtain ⟨rfl, rfl, rfl, rfl, rfl, rfl, rfl, rfl, rfl⟩ := hz
      exact w_ChkR1 g1 g2 g3 g13 (fun hr => h (.inr (.inl ⟨rfl, ⟨rfl, rfl, rfl, rfl, rfl, rfl, rfl, rfl, rfl⟩, hr⟩)))
    · exact w_ChkN1 g1 g2 g3 g4 g5 g7 g8 g9 g10 g11 g12 g13 (fun ⟨z0, z1, z2, z3, z4, z5, z6, z7, z8, z9, z10, z11, z12, z13⟩ => hz ⟨z4, z5, z6, z7, z8, z9, z10, z11, (ba_nil z12)⟩)
  by_cases k2 : a0 = 2
  · subst k2
    by_cases hz : a1 = 0 ∧ a2 = 0 ∧ a3 = 0 ∧ a7 = 0 ∧ a8 = 0 ∧ a9 = 0 ∧ a10 = 0 ∧ a11 = 0 ∧ a12 = ⟨#[]⟩
    · obtain ⟨rfl, rfl, rfl, rfl, rfl, rfl, rfl, rfl, rfl⟩ := hz
      exact w_ChkR2 g4 g5 g13 (fun hr => h (.inr (.inr (.inl ⟨rfl, ⟨rfl, rfl, rfl, rfl, rfl, rfl, rfl, rfl, rfl⟩, hr⟩))))
    · exact w_ChkN2 g1 g2 g3 g4 g5 g7 g8 g9 g10 g11 g12 g13 (fun ⟨z0, z1, z2, z3, z4, z5, z6, z7, z8, z9, z10, z11, z12, z13⟩ => hz ⟨z1, z2, z3, z7, z8, z9, z10, z11, (ba_nil z12)⟩)
  by_cases k3 : a0 = 3
  · subst k3
    by_cases hz : a1 = 0 ∧ a2 = 0 ∧ a3 = 0 ∧ a6 = false
    · obtain ⟨rfl, rfl, rfl, rfl⟩ := hz
      exact w_ChkR3 g4 g5 g7 g8 g9 g10 g11 g12 g13 (fun hr => h (.inr (.inr (.inr ⟨rfl, ⟨rfl, rfl, rfl, rfl⟩, hr⟩))))
    · exact w_ChkN3 g1 g2 g3 g4 g5 g7 g8 g9 g10 g11 g12 g13 (fun ⟨z0, z1, z2, z3, z4, z5, z6, z7, z8, z9, z10, z11, z12, z13⟩ => hz ⟨z1, z2, z3, z6⟩)
  exact w_ChkK ⟨k0, k1, k2, k3⟩

theorem w_EncX {src dst : Nat} {a0 : Int} {a1 : Int} {a2 : Int} {a3 : Int} {a4 : Int} {a5 : Int} {a6 : Bool} {a7 : Int} {a8 : Int} {a9 : Int} {a10 : Int} {a11 : Int} {a12 : ByteArray} {a13 : ByteArray} (g0 : isI a0) (g1 : isI a1) (g2 : isI a2) (g3 : isU a3) (g4 : isI a4) (g5 : isI a5) (g7 : isU a7) (g8 : isU a8) (g9 : isI a9) (g10 : isI a10) (g11 : isI a11) (g12 : a12.size ≤ 200000000000000) (g13 : a13.size ≤ 200000000000000) (h : ¬ okL4 a0 a1 a2 a3 a4 a5 a6 a7 a8 a9 a10 a11 a12 a13) : Spec0 Try.prog 11 [.sc (.int .u32 ((src : Nat) : Int)), .sc (.int .u32 ((dst : Nat) : Int)), .agg [.sc (.int .i64 a0), .sc (.int .i64 a1), .sc (.int .i64 a2), .sc (.int .u32 a3), .sc (.int .i64 a4), .sc (.int .i64 a5), .sc (.bool a6), .sc (.int .u32 a7), .sc (.int .u32 a8), .sc (.int .i64 a9), .sc (.int .i64 a10), .sc (.int .i64 a11), .sc (.string a12), .sc (.string a13)]] (.tup [.im 1 (([] : List UInt8).map byteAV), .sc (.int .i64 1)]) := by
  refine Spec.body Try.func11 rfl (Nat.le_of_ble_eq_true rfl) ?_
  refine W.seq ?_
  refine W.region ?_
  refine WO.opA rfl rfl rfl rfl (al_boxA rfl rfl) rfl rfl ?_
  refine WO.put 5 (.ptr 0 0) rfl ?_
  refine WO.op rfl rfl rfl rfl (as_nil rfl) ?_
  refine WO.op rfl rfl rfl rfl (as_sc rfl) ?_
  refine WO.nil ?_
  refine W.seq ?_
  refine W.seq ?_
  refine W.to [(0, _), (1, _), (2, _), (5, _), (6, _), (7, _)] [_] rfl ⟨(by exact sh_sc rfl), (by exact sh_sc rfl), (by exact sh_agg rfl), (by exact sh_ptr rfl), (by exact sh_nil rfl), (by exact sh_sc rfl), trivial⟩ ?_
  refine W.region ?_
  refine WO.op rfl rfl rfl rfl (step_loadA Try.isAgg25 Try.sizeOf25 rfl rfl (by exact Nat.le_refl _)) ?_
  refine WO.put 14 (.agg [.sc (.int .i64 a0), .sc (.int .i64 a1), .sc (.int .i64 a2), .sc (.int .u32 a3), .sc (.int .i64 a4), .sc (.int .i64 a5), .sc (.bool a6), .sc (.int .u32 a7), .sc (.int .u32 a8), .sc (.int .i64 a9), .sc (.int .i64 a10), .sc (.int .i64 a11), .sc (.string a12), .sc (.string a13)]) (by kernel_rfl) ?_
  refine WO.op rfl rfl rfl rfl (step_pure Try.call13 rfl (by (repeat (first | exact Nl.nil | refine Nl.keep (by rfl) ?_))) (w_ChkX g0 g1 g2 g3 g4 g5 g7 g8 g9 g10 g11 g12 g13 h) (by repeat (rfl))) ?_
  refine WO.op rfl rfl rfl rfl (as_sc rfl) ?_
  refine WO.nil ?_
  refine W.seq ?_
  refine W.to [(0, _), (1, _), (2, _), (5, _), (6, _), (7, _), (8, _)] [_] rfl ⟨(by exact sh_sc rfl), (by exact sh_sc rfl), (by exact sh_agg rfl), (by exact sh_ptr rfl), (by exact sh_nil rfl), (by exact sh_sc rfl), (by exact sh_sc rfl), trivial⟩ ?_
  refine W.region ?_
  refine WO.op rfl rfl rfl rfl (mv_sc rfl) ?_
  refine WO.op rfl rfl rfl rfl (step_int2 rfl rfl rfl) ?_
  refine WO.put 17 (.sc (.bool true)) (by kernel_rfl) ?_
  refine WO.nil ?_
  refine W.condT rfl ?_
  refine W.seq ?_
  refine W.to [(0, _), (1, _), (2, _), (5, _), (6, _), (7, _), (8, _), (17, _)] [_] rfl ⟨(by exact sh_sc rfl), (by exact sh_sc rfl), (by exact sh_agg rfl), (by exact sh_ptr rfl), (by exact sh_nil rfl), (by exact sh_sc rfl), (by exact sh_sc rfl), (by exact sh_sc rfl), trivial⟩ ?_
  refine W.region ?_
  refine WO.op rfl rfl rfl rfl (mv_sc rfl) ?_
  refine WO.op rfl rfl rfl rfl (as_nil rfl) ?_
  refine WO.op rfl rfl rfl rfl (as_sc rfl) ?_
  refine WO.nil ?_
  refine W.wk 6 (.im 1 (([] : List UInt8).map byteAV)) Wk.noneB ?_
  refine W.ret ?_
  refine ⟨.inl rfl, ?_⟩
  exact ret0 (Res.tmp rfl (Res.tmp rfl Res.nil)) (.keep rfl)

end Go.Proofs.Ytdmlkcphlidcfaa
