/-
  The given statement, proved from the contract of the law: whatever the arguments, the call returns true and each argument reads as it did. No condition.
-/
import Derived.Test.YtlfedjannhceaaaX1c
import Derived.Test.YtlfedjannhceaaaKUc
set_option linter.unusedVariables false
set_option linter.unusedSimpArgs false
set_option maxRecDepth 100000
set_option maxHeartbeats 1000000
namespace Go.Proofs.Ytlfedjannhceaaa
open Go Go.SL Go.Proofs
open Go.ChangeShapes Go.WideShapes Go.ChangeAt Go.RowKit
theorem all2_nil {ps : List (List AV)} (h : All2 [] ps) : ps = [] := by
  cases ps with
  | nil => rfl
  | cons a l => exact h.elim
theorem ways_of : ∀ {rows : List (List AV)}, (∀ r ∈ rows, r.length = 2 ∧ Fit [.int .u32, .int .i64] r) → ∃ w : List Way, rows.flatten = w.flatMap wayC
  | [], _ => ⟨[], rfl⟩
  | r :: rows, h => by
    obtain ⟨w, h1⟩ := ways_of fun x hx => h x (List.mem_cons_of_mem _ hx)
    obtain ⟨_, _, _, rfl, ⟨a, rfl, _⟩, _, _, rfl, ⟨b, rfl, _⟩, h3⟩ := h r List.mem_cons_self
    simp only [Fit] at h3
    subst h3
    exact ⟨⟨a, b⟩ :: w, by rw [List.flatten_cons, h1, List.flatMap_cons]; rfl⟩
def isRw (r : List AV) : Prop := ∃ q : Rw, r = rowC q
theorem rd_Rw (W : World) : Rd Try.prog W 47 isRw := by
  refine Rd.mono (rd_struct Try.underlying47 (by kernel_rfl) (RdF.cons (rd_int Try.underlying3) (RdF.cons (rd_string Try.underlying9) (RdF.cons (rd_string Try.underlying9) (RdF.cons (rd_string Try.underlying9) (RdF.cons (rd_string Try.underlying9) (RdF.cons (rd_int Try.underlying43) (RdF.cons (rd_int Try.underlying44) (RdF.cons (rd_int Try.underlying44) (RdF.cons (rd_int Try.underlying3) (RdF.cons (rd_int Try.underlying3) (RdF.cons (rd_bool Try.underlying4) (RdF.cons (rd_bool Try.underlying4) (RdF.cons (rd_slice (k := 2) Try.underlying45 (by kernel_rfl) (by decide) (rd_leaves 60 112 [.int .u32, .int .i64] (by kernel_rfl))) RdF.nil)))))))))))))) ?_
  rintro x ⟨parts, rfl, g0⟩
  obtain ⟨_, _, rfl, ⟨a0, rfl, k0⟩, g1⟩ := All2.inv g0
  obtain ⟨_, _, rfl, ⟨a1, rfl, k1⟩, g2⟩ := All2.inv g1
  obtain ⟨_, _, rfl, ⟨a2, rfl, k2⟩, g3⟩ := All2.inv g2
  obtain ⟨_, _, rfl, ⟨a3, rfl, k3⟩, g4⟩ := All2.inv g3
  obtain ⟨_, _, rfl, ⟨a4, rfl, k4⟩, g5⟩ := All2.inv g4
  obtain ⟨_, _, rfl, ⟨a5, rfl, k5⟩, g6⟩ := All2.inv g5
  obtain ⟨_, _, rfl, ⟨a6, rfl, k6⟩, g7⟩ := All2.inv g6
  obtain ⟨_, _, rfl, ⟨a7, rfl, k7⟩, g8⟩ := All2.inv g7
  obtain ⟨_, _, rfl, ⟨a8, rfl, k8⟩, g9⟩ := All2.inv g8
  obtain ⟨_, _, rfl, ⟨a9, rfl, k9⟩, g10⟩ := All2.inv g9
  obtain ⟨_, _, rfl, ⟨a10, rfl⟩, g11⟩ := All2.inv g10
  obtain ⟨_, _, rfl, ⟨a11, rfl⟩, g12⟩ := All2.inv g11
  obtain ⟨_, _, rfl, hr, g13⟩ := All2.inv g12
  have h0 := all2_nil g13
  subst h0
  obtain ⟨rows, rfl, _, h2⟩ := hr
  obtain ⟨w, e1⟩ := ways_of h2
  exact ⟨⟨a0, a1, a2, a3, a4, a5, a6, a7, a8, a9, a10, a11, w⟩, by rw [e1]; rfl⟩
theorem rws_of : ∀ {rows : List (List AV)}, (∀ r ∈ rows, r.length = 13 ∧ isRw r) → ∃ l : List Rw, rows.flatten = l.flatMap rowC ∧ l.length = rows.length
  | [], _ => ⟨[], rfl, rfl⟩
  | r :: rows, h => by
    obtain ⟨l, h1, h2⟩ := rws_of fun x hx => h x (List.mem_cons_of_mem _ hx)
    obtain ⟨_, q, rfl⟩ := h r List.mem_cons_self
    exact ⟨q :: l, by rw [List.flatten_cons, h1, List.flatMap_cons], by simp [h2]⟩
def isRws (x : AV) : Prop := ∃ l : List Rw, x = RL l ∧ l.length ≤ 1034834473170
theorem rv_Rws (W : World) : RdV Try.prog W 31 isRws := by
  refine RdV.mono' (rv_slice (k := 13) Try.underlying31 (by kernel_rfl) (by decide) (rd_Rw W)) ?_
  rintro x ⟨rows, rfl, h1, h2⟩
  obtain ⟨l, h3, h4⟩ := rws_of h2
  refine ⟨l, by rw [h3], ?_⟩
  have : Try.prog.bytesOf 47 = 136 := by kernel_rfl
  rw [this] at h1
  simp only [reachBytes] at h1
  omega

end Go.Proofs.Ytlfedjannhceaaa
