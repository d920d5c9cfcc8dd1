/-
  The given statement, proved from the contract of the law: whatever the arguments, the call returns true and each argument reads as it did. No condition.
-/
import Derived.Test.YtmfagijhhmeeeaaX1c
import Derived.Test.YtmfagijhhmeeeaaCEc
set_option linter.unusedVariables false
set_option linter.unusedSimpArgs false
set_option maxRecDepth 100000
set_option maxHeartbeats 1000000
namespace Go.Proofs.Ytmfagijhhmeeeaa
open Go Go.SL Go.Proofs
open Go.ChangeShapes Go.WideShapes Go.ChangeAt Go.RowKit
def isInts (x : AV) : Prop := ∃ l : List Int, x = WL l ∧ l.length ≤ 17592186043904
theorem ints_of : ∀ {rows : List (List AV)}, (∀ r ∈ rows, r.length = 1 ∧ Fit [.int .i64] r) → ∃ l : List Int, rows.flatten = l.flatMap i1 ∧ l.length = rows.length
  | [], _ => ⟨[], rfl, rfl⟩
  | r :: rows, h => by
    obtain ⟨l, h1, h2⟩ := ints_of fun x hx => h x (List.mem_cons_of_mem _ hx)
    obtain ⟨_, _, _, rfl, ⟨a, rfl, ka⟩, h3⟩ := h r List.mem_cons_self
    simp only [Fit] at h3
    subst h3
    exact ⟨a :: l, by rw [List.flatten_cons, h1, List.flatMap_cons]; rfl, by simp [h2]⟩
theorem rv_Ints (W : World) : RdV Try.prog W 52 isInts := by
  refine RdV.mono' (rv_slice (k := 1) Try.underlying52 (by kernel_rfl) (by decide) (rd_leaves 60 3 [.int .i64] (by kernel_rfl))) ?_
  rintro x ⟨rows, rfl, h1, h2⟩
  obtain ⟨l, h3, h4⟩ := ints_of h2
  refine ⟨l, by rw [h3], ?_⟩
  have : Try.prog.bytesOf 3 = 8 := by kernel_rfl
  rw [this] at h1
  simp only [reachBytes] at h1
  omega

set_option maxRecDepth 100000 in
theorem ctExpires_lifted (os : Os) (started : os.Started) (H : Type) (enc : TypeId × Value → H) :
    ReturnsInHanded {} Try.checked os 5 .any (Rows.ctExpiresSpec.pre6 enc Try.prog Try.f5 Rows.ctExpiresRow.domain false) (Rows.ctExpiresSpec.post enc Try.prog Try.f5 false true false false) :=
  law_row (C := Try.checked) (tb := 4) (Ss := [isPkt, isInts]) Try.own started (by kernel_rfl) Try.func5
    (ChangeSpec.witness6 (enc := enc) (C := Try.checked) false ⟨#[], #[.agg #[.int .u64 0, .int .u64 0, .bool false, .int .i64 0, .int .i64 0, .bool false, .int .i64 0, .int .u64 0, .int .u32 0, .int .u64 0, .int .u32 0, .bool false, .int .i64 0, .int .i64 0, .int .i64 0, .int .i64 0, .int .i64 0, .int .u32 0, .int .u32 0, .string ⟨#[]⟩, .int .i64 0, .int .i64 0, .int .i64 0, .int .u32 0, .int .i64 0, .int .i64 0, .bool false, .int .u32 0, .int .u32 0, .int .i64 0, .int .i64 0, .int .i64 0, .string ⟨#[]⟩, .string ⟨#[]⟩, .string ⟨#[]⟩, .string ⟨#[]⟩], .slice none 0 0], []⟩ 8 (by kernel_rfl) (by kernel_rfl) (by kernel_rfl) (by kernel_rfl))
    rfl rfl Try.underlying4 (fun ds h => by match ds, h with | [d0, d1], _ => rfl) Try.laidOut (by kernel_rfl) (fun W g xs h => by cases h) (fun W => ⟨rv_Pkt W, rv_Ints W, trivial⟩)
    (fun xs g0 => by
      obtain ⟨_, _, rfl, k0, g1⟩ := All1.inv g0
      obtain ⟨_, _, rfl, k1, g2⟩ := All1.inv g1
      have g99 := All1.inv0 g2
      subst g99
      obtain ⟨p, rfl, hp⟩ := k0
      obtain ⟨l, rfl, hl⟩ := k1
      exact w_CtExpires p l (by simp only [Pkt.ok] at hp; obtain ⟨_, hp⟩ := hp; omega) (by simp only [Pkt.ok] at hp; omega) hl)
theorem ctExpires_holds : Rows.CtExpiresSaid :=
  OpenClaim.holds_of_wide 5 Try.f5 rfl rfl rfl rfl rfl rfl rfl ⟨rfl, rfl, rfl, rfl, rfl⟩ rfl rfl rfl rfl rfl (by kernel_rfl) Try.func5 (by kernel_rfl)
    (of_decide_eq_true (by kernel_rfl)) (by unfold Func.isWrapper; first | (rw [if_pos (by decide +kernel)]; kernel_rfl) | (rw [if_neg (by decide +kernel)]; exact ⟨rfl, rfl⟩))
    (fun os started H enc _ => ctExpires_lifted os started H enc)

end Go.Proofs.Ytmfagijhhmeeeaa
