/-
  The law ActHops: hops take the time to live down to 1, one by one.
-/
import Derived.Test.YtmihiknppifkdaaGreatXS
import Derived.Test.YtmihiknppifkdaaGreatSxG
set_option linter.unusedVariables false
set_option linter.unusedSimpArgs false
set_option maxRecDepth 100000
set_option maxHeartbeats 1000000
namespace Go.Proofs.YtmihiknppifkdaaGreat
open Go Go.SL Go.Proofs

theorem w_lives : Spec0 Tryz.prog 8 [] (B true) := sx0 hm hF 1000 20 [] [] (by kernel_rfl) trivial
def hopA : AV := .agg [I .i64 3, I .i64 0, I .i64 0, I .u64 0, I .u64 0, I .i64 0, I .i64 0, .nil, .nil, I .u64 0, I .u32 0, I .u32 0, I .u32 0, I .u32 0, I .u32 0]
theorem st_noip (s : Stt) (h : s.isIp = false) : Spec0 Tryz.prog 7 [.agg s.cells, hopA] (.tup [.agg zS.cells, I .i64 81]) := sx0 hm hF 1000 20 [.b 28 1 2 false] [s.isIp = false] (by kernel_rfl) ⟨h, trivial⟩
theorem st_ttl (s : Stt) (h : s.isIp = true) (h1 : decide (s.ttl ≤ 1) = true) : Spec0 Tryz.prog 7 [.agg s.cells, hopA] (.tup [.agg zS.cells, I .i64 111]) := sx0 hm hF 1000 20 [.b 28 1 2 true, .b 28 3 4 true] [decide (s.ttl ≤ 1) = true, s.isIp = true] (by kernel_rfl) ⟨h1, h, trivial⟩
theorem st_ok (s : Stt) (h : s.isIp = true) (h1 : decide (s.ttl ≤ 1) = false) : Spec0 Tryz.prog 7 [.agg s.cells, hopA] (.tup [.agg ({ s with ttl := IntKind.i64.wrap (s.ttl - 1) } : Stt).cells, I .i64 0]) := sx0 hm hF 1000 20 [.b 28 1 2 true, .b 28 3 4 false] [decide (s.ttl ≤ 1) = false, s.isIp = true] (by kernel_rfl) ⟨h1, h, trivial⟩
@[reducible] def setT (s : Stt) (t : Int) : Stt := { s with ttl := t }
theorem i64_n1 (n : Nat) (h : n < 1000) : IntKind.i64.wrap ((n : Int) + 1) = ((n + 1 : Nat) : Int) := by rw [IntWalk.i64_in _ (by omega)]; rfl
theorem eqT (s : Stt) (a b : Int) (h : a = b) : (!eqSt (setT s a) (setT s b)) = false := by rw [h, eqSt_self]; rfl
@[reducible] def hT (s : Stt) (n : Nat) : SS := ⟨tbl [(1, .ptr 0 0), (2, B false), (3, .ptr 1 0), (4, I .i64 ((n : Nat) : Int))], [.row 1 s.cells, .row 1 (setT s (s.ttl - (n : Nat))).cells]⟩
theorem w_ActHops (s : Stt) (h1 : -9223372036854775808 ≤ s.ttl) (h2 : s.ttl ≤ 9223372036854775807) : Spec0 Tryz.prog 4 [.agg s.cells] (B true) := by
  refine Spec0.walk Tryz.func4 rfl rfl ?_
  refine W.sxP hm hF 4 3 1000 20 [.c 4 1 0 (B true)] [Spec0 Tryz.prog 8 [] (B true)] [(1, .ptr 0 0), (2, B false), (3, .ptr 1 0)] [.row 1 s.cells, .row 1 s.cells] (by kernel_rfl) ⟨w_lives, trivial⟩ ?_
  refine W.seq ?_
  refine W.seq ?_
  refine W.sx hm hF 4 1000 20 [] [] .normal [(1, .ptr 0 0), (2, B false), (3, .ptr 1 0), (4, I .i64 0)] [.row 1 s.cells, .row 1 s.cells] (by kernel_rfl) trivial (fun σ hl => W.weaken hl ?_)
  refine W.block ?_
  have hs0 : setT s (s.ttl - ((0 : Nat) : Int)) = s := by simp [setT]
  refine W.loopD 2 (fun n : Nat => hT s n) (fun n => n ≤ 300 ∧ (n = 0 ∨ (n : Int) + 1 ≤ s.ttl)) (fun n => 300 - n) 0 ⟨by omega, .inl rfl⟩ rfl (by unfold hT; rw [hs0]; exact Le.refl _) ?_
  rintro n ⟨n1, n2⟩
  by_cases hn : n < 300
  · have hlt : decide (((n : Nat) : Int) < 300) = true := decide_eq_true (by omega)
    cases hip : s.isIp
    · exact W.sxR hm hF 4 1000 20 [.b 4 5 1 true, .c 4 7 2 (.tup [.agg zS.cells, I .i64 81]), .b 4 8 2 false, .b 4 9 5 true] [eqSt zS zS = true, s.isIp = false, Spec0 Tryz.prog 7 [.agg (setT s (s.ttl - (n : Nat))).cells, hopA] (.tup [.agg zS.cells, I .i64 81]), decide (((n : Nat) : Int) < 300) = true] [.tmp 2] .ret (B true) (by kernel_rfl)
        ⟨eqSt_self _, hip, st_noip _ hip, hlt, trivial⟩ (fun σ xs h1 h2 => retK.mk (.inl rfl) h1 h2)
    · by_cases ht : s.ttl - (n : Nat) ≤ 1
      · exact W.sxR hm hF 4 1000 20 [.b 4 5 1 true, .c 4 7 2 (.tup [.agg zS.cells, I .i64 111]), .b 4 8 2 true, .b 4 10 4 true, .b 4 11 5 true] [eqSt zS zS = true, decide (s.ttl - (n : Nat) < 2) = true, s.isIp = true, Spec0 Tryz.prog 7 [.agg (setT s (s.ttl - (n : Nat))).cells, hopA] (.tup [.agg zS.cells, I .i64 111]), decide (((n : Nat) : Int) < 300) = true] [.tmp 2] .ret (B true) (by kernel_rfl)
          ⟨eqSt_self _, decide_eq_true (by omega), hip, st_ttl _ hip (decide_eq_true ht), hlt, trivial⟩ (fun σ xs h1 h2 => retK.mk (.inl rfl) h1 h2)
      · have hw : IntKind.i64.wrap (s.ttl - (n : Nat) - 1) = s.ttl - ((n + 1 : Nat) : Int) := by rw [IntWalk.i64_in _ (by omega)]; omega
        refine W.sx hm hF 4 1000 20 [.b 4 5 1 true, .c 4 7 2 (.tup [.agg (setT s (IntKind.i64.wrap (s.ttl - (n : Nat) - 1))).cells, I .i64 0]), .b 4 8 2 true, .b 4 10 4 false, .b 4 12 12 false, .b 4 15 2 false, .z 4 17 4 (s.ttl - ((n + 1 : Nat) : Int)), .z 4 6 1 ((n + 1 : Nat) : Int)]
          [IntKind.i64.wrap (((n : Nat) : Int) + 1) = ((n + 1 : Nat) : Int), IntKind.i64.wrap (s.ttl - (n : Nat) - 1) = s.ttl - ((n + 1 : Nat) : Int), (!eqSt (setT s (s.ttl - (n : Nat))) (setT s (s.ttl - (n : Nat)))) = false, (IntKind.i64.wrap (s.ttl - (n : Nat) - 1) != IntKind.i64.wrap (s.ttl - (n : Nat) - 1)) = false, decide (s.ttl - (n : Nat) < 2) = false, s.isIp = true, Spec0 Tryz.prog 7 [.agg (setT s (s.ttl - (n : Nat))).cells, hopA] (.tup [.agg (setT s (IntKind.i64.wrap (s.ttl - (n : Nat) - 1))).cells, I .i64 0]), decide (((n : Nat) : Int) < 300) = true]
          .normal [(1, .ptr 0 0), (2, B false), (3, .ptr 1 0), (4, I .i64 ((n + 1 : Nat) : Int))] [.row 1 s.cells, .row 1 (setT s (s.ttl - ((n + 1 : Nat) : Int))).cells, .row 1 (setT s (s.ttl - (n : Nat))).cells] (by kernel_rfl)
          ⟨i64_n1 n (by omega), hw, eqT s _ _ rfl, by simp, decide_eq_false (by omega), hip, st_ok _ hip (decide_eq_false ht), hlt, trivial⟩ (fun σ hl => ⟨n + 1, ⟨by omega, .inr (by omega)⟩, by omega, LeD.mk rfl rfl hl⟩)
  · have hn' : n = 300 := by omega
    subst hn'
    refine W.sx hm hF 4 1000 20 [] [] (.exit 0) [(1, .ptr 0 0), (2, B false)] [.row 1 s.cells, .row 1 (setT s (s.ttl - (300 : Nat))).cells] (by kernel_rfl) trivial (fun σ h => W.weaken h ?_)
    exact W.sxR hm hF 4 1000 20 [.b 4 18 4 true] [decide (s.ttl > 255) = true] [.tmp 2] .ret (B true) (by kernel_rfl) ⟨decide_eq_true (by omega), trivial⟩ (fun σ xs h1 h2 => retK.mk (.inl rfl) h1 h2)

end Go.Proofs.YtmihiknppifkdaaGreat
