/-
  A string's bytes as a new slice.
-/
import Derived.Test.YtbimmnnjnlfddaaDoorSlZ
import Derived.Laws.IdiomStrings
set_option linter.unusedVariables false
set_option linter.unusedSectionVars false
namespace Go.SL
open Go
variable [Tabs]
variable {P : Program} {env : Nat → AV} {hp : List AObj} {dst : Option Nat} {ty : TypeId} {pos : String} {after : Array Edge} {guard : Option (Nat × Bool)}

theorem grown_ge (w : World) (n old : Nat) (e : TypeId) : n ≤ grownCap w n old e := by
  unfold grownCap
  simp [Question.cut]

theorem al_strB {s t e : TypeId} {x : Operand} {b : ByteArray} (hs : P.underlying s = some .string) (ht : P.underlying t = some (.slice e)) (he : P.underlying e = some (.int .u8)) (hx : opd env x = .sc (.string b)) :
    StepAl P ⟨dst, .convert s t x, ty, pos, after, guard⟩ env 1 (b.data.toList.map byteAV) (fun k => .sl k 0 b.size) := by
  intro F μ w a hen
  have hv := hen.sc hx
  have hr := run_bytes_of_string w s t e b hs ht he
  have hc := grown_ge w b.size 0 e
  generalize grownCap w b.size 0 e = cap at hr hc
  have hsz : (bytesRow b cap).size = cap := by
    unfold bytesRow
    rw [Array.size_append, Array.size_map, Array.size_replicate]
    show b.size + _ = _
    omega
  have hl : (b.data.toList.map byteAV).length = b.size := by rw [List.length_map, Array.length_toList]; rfl
  refine ⟨.slice (some ⟨w.heap.size, 0, none⟩) b.size cap, w.drew.alloc (.cells (bytesRow b cap) e ((bytesRow b cap).size, (bytesRow b cap).size + 1)), bytesRow b cap, e, ((bytesRow b cap).size, (bytesRow b cap).size + 1), ?_, rfl, ⟨rfl, rfl⟩, ?_, by rw [hl, hsz]; exact hc, fun i hi h => by omega, fun F' μ' k hk => ?_⟩
  · simp only [execOp, hv, Sem.run_bind, hr, Result.andThen_ok]
    rfl
  · have e1 : (bytesRow b cap).toList.take (b.data.toList.map byteAV).length = b.data.toList.map fun c => .int .u8 c.toNat := by
      rw [hl]
      unfold bytesRow
      rw [Array.toList_append, Array.toList_map]
      exact List.take_left' (by rw [List.length_map, Array.length_toList]; rfl)
    rw [e1]
    exact bytes_rel _
  · exact .sl (base := 0) (off := 0) hk (by rw [hsz]; omega) hc
end Go.SL
