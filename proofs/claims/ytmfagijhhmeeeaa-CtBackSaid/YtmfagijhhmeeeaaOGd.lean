/-
  The tuple of any packet.
-/
import Derived.Test.YtmfagijhhmeeeaaOFd
set_option linter.unusedVariables false
set_option linter.unusedSimpArgs false
set_option maxRecDepth 100000
set_option maxHeartbeats 1000000
namespace Go.Proofs.Ytmfagijhhmeeeaa
open Go Go.SL Go.Proofs
def isT (p : Pkt) : Prop := p.isIp = true ∧ (iand p.frag 16383 == 0) = true ∧ (p.kind = 2 ∨ p.kind = 3 ∨ p.kind = 1 ∧ (p.typ = 8 ∨ p.typ = 0) ∧ p.code = 0)
def tupV (p : Pkt) : Tup := if p.kind = 1 then ⟨p.proto, p.isrc, p.idst, p.rest / 65536, p.rest / 65536⟩ else ⟨p.proto, p.isrc, p.idst, p.sport, p.dport⟩
theorem id_fdiv (p : Pkt) (r0 : 0 ≤ p.rest) (r1 : p.rest ≤ 4294967295) : IntKind.wrap IntKind.i64 (Int.fdiv p.rest (2 ^ min (Int.toNat 16) (IntKind.bits IntKind.u32))) = p.rest / 65536 := by
  have e : ((2 : Int) ^ min (Int.toNat 16) (IntKind.bits IntKind.u32)) = 65536 := by decide
  rw [e, Int.fdiv_eq_ediv_of_nonneg _ (by decide)]
  exact IntWalk.i64_in _ (by omega)
theorem of_no (p : Pkt) (h : ¬ isT p) : Spec0 Try.prog 10 [.agg p.cells] (.tup [.agg zT.cells, B false]) := by
  by_cases hi : p.isIp = true
  · by_cases hf : (iand p.frag 16383 == 0) = true
    · by_cases h2 : p.kind = 2
      · exact (h ⟨hi, hf, .inl h2⟩).elim
      by_cases h3 : p.kind = 3
      · exact (h ⟨hi, hf, .inr (.inl h3)⟩).elim
      by_cases h1 : p.kind = 1
      · by_cases h8 : p.typ = 8
        · by_cases h0 : p.code = 0
          · exact (h ⟨hi, hf, .inr (.inr ⟨h1, .inl h8, h0⟩)⟩).elim
          · exact of4 p hi hf h1 h8 h0
        · by_cases h9 : p.typ = 0
          · by_cases h0 : p.code = 0
            · exact (h ⟨hi, hf, .inr (.inr ⟨h1, .inr h9, h0⟩)⟩).elim
            · exact of5 p hi hf h1 h9 h0
          · exact of3 p hi hf h1 h8 h9
      · exact of2 p hi hf h2 h3 h1
    · exact of1 p hi (Bool.eq_false_iff.2 hf)
  · exact of0 p (Bool.eq_false_iff.2 hi)
theorem of_ok (p : Pkt) (h : isT p) (r0 : 0 ≤ p.rest) (r1 : p.rest ≤ 4294967295) : Spec0 Try.prog 10 [.agg p.cells] (.tup [.agg (tupV p).cells, B true]) := by
  obtain ⟨hi, hf, h2 | h3 | ⟨h1, h8 | h8, h0⟩⟩ := h
  · have := of8 p hi hf h2
    simpa only [tupV, Tup.cells, h2, if_neg (show ¬ ((2 : Int) = 1) by decide)] using this
  · have := of9 p hi hf h3
    simpa only [tupV, Tup.cells, h3, if_neg (show ¬ ((3 : Int) = 1) by decide)] using this
  · have := of6 p hi hf h1 h8 h0
    rw [id_fdiv p r0 r1] at this
    simpa only [tupV, Tup.cells, h1, if_pos] using this
  · have := of7 p hi hf h1 h8 h0
    rw [id_fdiv p r0 r1] at this
    simpa only [tupV, Tup.cells, h1, if_pos] using this
end Go.Proofs.Ytmfagijhhmeeeaa
