/-
  The given statement, proved from the contract of the law: whatever the arguments, the call returns true and each argument reads as it did. No condition.
-/
import Derived.Test.YtmihiknppifkdaaGreatX1
import Derived.Test.YtmihiknppifkdaaGreatX6
set_option linter.unusedVariables false
set_option linter.unusedSimpArgs false
set_option maxRecDepth 100000
set_option maxHeartbeats 1000000
namespace Go.Proofs.YtmihiknppifkdaaGreat
open Go Go.SL Go.Proofs
open Go.ChangeShapes Go.WideShapes Go.ChangeAt Go.RowKit

def isWays (x : AV) : Prop := ∃ w : List Way, x = .im 2 (w.flatMap wayC) ∧ w.length ≤ 140737488351232
theorem ways_of : ∀ {rows : List (List AV)}, (∀ r ∈ rows, r.length = 2 ∧ Fit [.int .u32, .int .i64] r) → ∃ w : List Way, rows.flatten = w.flatMap wayC ∧ w.length = rows.length
  | [], _ => ⟨[], rfl, rfl⟩
  | r :: rows, h => by
    obtain ⟨w, h1, h2⟩ := ways_of fun x hx => h x (List.mem_cons_of_mem _ hx)
    obtain ⟨_, _, _, rfl, ⟨a, rfl, _⟩, _, _, rfl, ⟨b, rfl, _⟩, h3⟩ := h r List.mem_cons_self
    simp only [Fit] at h3
    subst h3
    exact ⟨⟨a, b⟩ :: w, by rw [List.flatten_cons, h1, List.flatMap_cons]; rfl, by simp [h2]⟩
theorem rv_Ways (W : World) : RdV Tryz.prog W 39 isWays := by
  refine RdV.mono' (rv_slice (k := 2) Tryz.underlying39 (by kernel_rfl) (by decide) (rd_leaves 60 51 [.int .u32, .int .i64] (by kernel_rfl))) ?_
  rintro x ⟨rows, rfl, h1, h2⟩
  obtain ⟨w, h3, h4⟩ := ways_of h2
  refine ⟨w, by rw [h3], ?_⟩
  have : Tryz.prog.bytesOf 51 = 16 := by kernel_rfl
  rw [this] at h1
  simp only [reachBytes] at h1
  omega

set_option maxRecDepth 100000 in
theorem actPicks_lifted (os : Os) (started : os.Started) (H : Type) (enc : TypeId × Value → H) :
    ReturnsInHanded {} Tryz.checked os 3 .any (Rows.actPicksSpec.pre6 enc Tryz.prog Tryz.f3 Rows.actPicksRow.domain false) (Rows.actPicksSpec.post enc Tryz.prog Tryz.f3 false true false false) :=
  law_row (C := Tryz.checked) (tb := 4) (Ss := [isStt, isWays]) Tryz.own started (by kernel_rfl) Tryz.func3
    (ChangeSpec.witness6 (enc := enc) (C := Tryz.checked) false ⟨#[], #[.agg #[.int .u64 0, .int .u64 0, .bool false, .int .i64 0, .int .i64 0, .bool false, .int .i64 0, .int .u64 0, .int .u32 0, .int .u64 0, .int .u32 0, .bool false, .int .i64 0, .int .i64 0, .int .i64 0, .int .i64 0, .int .i64 0, .int .u32 0, .int .u32 0, .string ⟨#[]⟩, .int .i64 0, .int .i64 0, .int .i64 0, .int .u32 0, .int .i64 0, .int .i64 0, .bool false, .int .u32 0, .int .u32 0, .int .i64 0, .int .i64 0, .int .i64 0, .string ⟨#[]⟩, .string ⟨#[]⟩, .string ⟨#[]⟩, .string ⟨#[]⟩, .int .i64 0, .int .i64 0, .int .i64 0, .int .i64 0, .int .u32 0, .int .u32 0, .int .u32 0, .int .u32 0, .int .i64 0, .int .u32 0, .int .u32 0, .int .i64 0, .int .i64 0], .slice none 0 0], []⟩ 8 (by kernel_rfl) (by kernel_rfl) (by kernel_rfl) (by kernel_rfl))
    rfl rfl Tryz.underlying4 (fun ds h => by match ds, h with | [d0, d1], _ => rfl) Tryz.laidOut (by kernel_rfl) (fun W => ⟨rv_Stt W, rv_Ways W, trivial⟩)
    (fun xs g0 => by
      obtain ⟨_, _, rfl, k0, g1⟩ := All1.inv g0
      obtain ⟨_, _, rfl, k1, g2⟩ := All1.inv g1
      have g99 := All1.inv0 g2
      subst g99
      obtain ⟨s, rfl, hs⟩ := k0
      obtain ⟨w, rfl, hw⟩ := k1
      exact w_ActPicks s w hw)
theorem actPicks_holds : Rows.ActPicksSaid :=
  OpenClaim.holds_of_wide 3 Tryz.f3 rfl rfl rfl rfl rfl rfl rfl ⟨rfl, rfl, rfl, rfl, rfl⟩ rfl rfl rfl rfl rfl (by kernel_rfl) Tryz.func3 (by kernel_rfl)
    (of_decide_eq_true (by kernel_rfl)) (by unfold Func.isWrapper; first | (rw [if_pos (by decide +kernel)]; kernel_rfl) | (rw [if_neg (by decide +kernel)]; exact ⟨rfl, rfl⟩))
    (fun os started H enc _ => actPicks_lifted os started H enc)

end Go.Proofs.YtmihiknppifkdaaGreat
