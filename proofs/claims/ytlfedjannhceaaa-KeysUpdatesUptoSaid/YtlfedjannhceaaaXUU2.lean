/-
  The given statement, proved from the contract of the law: whatever the arguments, the call returns true and each argument reads as it did. No condition.
-/
import Derived.Test.YtlfedjannhceaaaRows
import Derived.Test.YtlfedjannhceaaaSuU2
import Derived.Test.YtlfedjannhceaaaRLU2
set_option linter.unusedVariables false
set_option linter.unusedSimpArgs false
set_option maxRecDepth 100000
set_option maxHeartbeats 1000000
namespace Go.Proofs.Ytlfedjannhceaaa
open Go Go.SL Go.Proofs
open Go.ChangeShapes Go.WideShapes Go.ChangeAt Go.RowKit
theorem Try.own : ownKnob Try.prog.godebug = none := by kernel_rfl
theorem Try.laidOut : laidOutB Try.prog = true := by kernel_rfl
theorem bulk_mem {H : Type} : ∀ {ds : List (DataW H)} {d : DataW H}, d ∈ ds → Rows.uptoBulk d ≤ Rows.uptoBulkAll ds
  | [], _, h => by simp at h
  | x :: ds, d, h => by
    unfold Rows.uptoBulkAll
    rcases List.mem_cons.1 h with rfl | h
    · omega
    · have := bulk_mem h; omega
theorem bulk_pos {H : Type} (d : DataW H) : 1 ≤ Rows.uptoBulk d := by
  cases d with
  | lit l => cases l <;> simp only [Rows.uptoBulk] <;> omega
  | nil => simp only [Rows.uptoBulk]; omega
  | ptr d => simp only [Rows.uptoBulk]; omega
  | slice a b => simp only [Rows.uptoBulk]; omega
  | agg a => simp only [Rows.uptoBulk]; omega
  | iface a b => simp only [Rows.uptoBulk]; omega
  | map a => simp only [Rows.uptoBulk]; omega
  | held a => simp only [Rows.uptoBulk]; omega
theorem bulk_len {H : Type} : ∀ ds : List (DataW H), ds.length ≤ Rows.uptoBulkAll ds
  | [] => Nat.zero_le _
  | d :: ds => by
    have := bulk_len ds
    have := bulk_pos d
    unfold Rows.uptoBulkAll
    simp only [List.length_cons]; omega
instance : Bulk where
  bk := fun d => Rows.uptoBulk d
  str := fun H b => by show b.length ≤ Rows.uptoBulk _; simp only [Rows.uptoBulk]; omega
  sl := fun H a b => by
    show a.length ≤ Rows.uptoBulk _ ∧ ∀ d ∈ a, Rows.uptoBulk d ≤ Rows.uptoBulk _
    have := bulk_len a
    simp only [Rows.uptoBulk]
    exact ⟨by omega, fun d hd => by have := bulk_mem hd; omega⟩
  agg := fun H a d hd => by
    show Rows.uptoBulk d ≤ Rows.uptoBulk _
    have := bulk_mem hd
    simp only [Rows.uptoBulk]; omega
theorem bulk_of {H : Type} (ds : List (DataW H)) (h : Rows.uptoSmall H ds = true) (d : DataW H) (hd : d ∈ ds) : Bulk.bk d ≤ bkM := by
  have h1 : Rows.uptoBulkAll ds ≤ 1048576 := of_decide_eq_true h
  have := bulk_mem hd
  show Rows.uptoBulk d ≤ 1048576
  omega
theorem all2_nil {ps : List (List AV)} (h : All2 [] ps) : ps = [] := by
  cases ps with
  | nil => rfl
  | cons a l => exact h.elim
theorem ways_of : ∀ {rows : List (List AV)}, (∀ r ∈ rows, r.length = 2 ∧ FitU [.int .u32, .int .i64] r) → ∃ w : List Way, rows.flatten = w.flatMap wayC
  | [], _ => ⟨[], rfl⟩
  | r :: rows, h => by
    obtain ⟨w, h1⟩ := ways_of fun x hx => h x (List.mem_cons_of_mem _ hx)
    obtain ⟨_, _, _, rfl, ⟨a, rfl, _⟩, _, _, rfl, ⟨b, rfl, _⟩, h3⟩ := h r List.mem_cons_self
    simp only [FitU] at h3
    subst h3
    exact ⟨⟨a, b⟩ :: w, by rw [List.flatten_cons, h1, List.flatMap_cons]; rfl⟩
def isRw (r : List AV) : Prop := ∃ q : Rw, r = rowC q
theorem rd_Rw (W : World) : RdU Try.prog W 47 isRw := by
  refine RdU.mono (rd_structU Try.underlying47 (by kernel_rfl) (RdFU.cons (rd_intU Try.underlying3) (RdFU.cons (rd_stringU Try.underlying9) (RdFU.cons (rd_stringU Try.underlying9) (RdFU.cons (rd_stringU Try.underlying9) (RdFU.cons (rd_stringU Try.underlying9) (RdFU.cons (rd_intU Try.underlying43) (RdFU.cons (rd_intU Try.underlying44) (RdFU.cons (rd_intU Try.underlying44) (RdFU.cons (rd_intU Try.underlying3) (RdFU.cons (rd_intU Try.underlying3) (RdFU.cons (rd_boolU Try.underlying4) (RdFU.cons (rd_boolU Try.underlying4) (RdFU.cons (rd_sliceU (k := 2) Try.underlying45 (by kernel_rfl) (by decide) (rd_leavesU 60 112 [.int .u32, .int .i64] (by kernel_rfl))) RdFU.nil)))))))))))))) ?_
  rintro x ⟨parts, rfl, g0⟩
  obtain ⟨_, _, rfl, ⟨a0, rfl, k0⟩, g1⟩ := All2.inv g0
  obtain ⟨_, _, rfl, ⟨a1, rfl, k1⟩, g2⟩ := All2.inv g1
  obtain ⟨_, _, rfl, ⟨a2, rfl, k2⟩, g3⟩ := All2.inv g2
  obtain ⟨_, _, rfl, ⟨a3, rfl, k3⟩, g4⟩ := All2.inv g3
  obtain ⟨_, _, rfl, ⟨a4, rfl, k4⟩, g5⟩ := All2.inv g4
  obtain ⟨_, _, rfl, ⟨a5, rfl, k5⟩, g6⟩ := All2.inv g5
  obtain ⟨_, _, rfl, ⟨a6, rfl, k6⟩, g7⟩ := All2.inv g6
  obtain ⟨_, _, rfl, ⟨a7, rfl, k7⟩, g8⟩ := All2.inv g7
  obtain ⟨_, _, rfl, ⟨a8, rfl, k8⟩, g9⟩ := All2.inv g8
  obtain ⟨_, _, rfl, ⟨a9, rfl, k9⟩, g10⟩ := All2.inv g9
  obtain ⟨_, _, rfl, ⟨a10, rfl⟩, g11⟩ := All2.inv g10
  obtain ⟨_, _, rfl, ⟨a11, rfl⟩, g12⟩ := All2.inv g11
  obtain ⟨_, _, rfl, hr, g13⟩ := All2.inv g12
  have h0 := all2_nil g13
  subst h0
  obtain ⟨rows, rfl, _, h2⟩ := hr
  obtain ⟨w, e1⟩ := ways_of h2
  exact ⟨⟨a0, a1, a2, a3, a4, a5, a6, a7, a8, a9, a10, a11, w⟩, by rw [e1]; rfl⟩
theorem rws_of : ∀ {rows : List (List AV)}, (∀ r ∈ rows, r.length = 13 ∧ isRw r) → ∃ l : List Rw, rows.flatten = l.flatMap rowC ∧ l.length = rows.length
  | [], _ => ⟨[], rfl, rfl⟩
  | r :: rows, h => by
    obtain ⟨l, h1, h2⟩ := rws_of fun x hx => h x (List.mem_cons_of_mem _ hx)
    obtain ⟨_, q, rfl⟩ := h r List.mem_cons_self
    exact ⟨q :: l, by rw [List.flatten_cons, h1, List.flatMap_cons], by simp [h2]⟩
theorem keys_of : ∀ {rows : List (List AV)}, (∀ r ∈ rows, r.length = 2 ∧ FitU [.str, .int .i64] r) → ∃ l : List Key, rows.flatten = l.flatMap keyC ∧ l.length = rows.length ∧ ∀ o ∈ l, -9223372036854775808 ≤ o.num ∧ o.num ≤ 9223372036854775807
  | [], _ => ⟨[], rfl, rfl, fun t h => absurd h (by simp)⟩
  | r :: rows, h => by
    obtain ⟨l, h1, h2, h5⟩ := keys_of fun x hx => h x (List.mem_cons_of_mem _ hx)
    obtain ⟨_, _, _, rfl, ⟨a, rfl, ka⟩, _, _, rfl, ⟨b, rfl, kb⟩, h3⟩ := h r List.mem_cons_self
    simp only [FitU] at h3
    subst h3
    refine ⟨⟨a, b⟩ :: l, by rw [List.flatten_cons, h1, List.flatMap_cons]; rfl, by simp [h2], fun t ht => ?_⟩
    rcases List.mem_cons.1 ht with rfl | ht
    · exact kb
    · exact h5 t ht
def isLL (x : AV) : Prop := ∃ ll : List (List Rw), x = LL ll ∧ ll.length ≤ 1048576 ∧ ∀ r ∈ ll, r.length ≤ 1048576
theorem rd_KLU (W : World) : RdU Try.prog W 22 fun xs => ∃ l : List Key, xs = [KL l] ∧ l.length ≤ 1048576 := by
  refine RdU.mono (rd_sliceU (k := 2) Try.underlying22 (by kernel_rfl) (by decide) (rd_leavesU 60 37 [.str, .int .i64] (by kernel_rfl))) ?_
  rintro x ⟨rows, rfl, h1, h2⟩
  obtain ⟨l, h3, h4, h5⟩ := keys_of h2
  exact ⟨l, by rw [h3], by rw [h4]; exact h1⟩
def isK4 (x : AV) : Prop := ∃ k : K4, x = .agg [KL k.k1, KL k.k2, KL k.k3, KL k.k4] ∧ k.ok
theorem rv_K4 (W : World) : RdVU Try.prog W 24 isK4 := by
  refine RdVU.mono' (rv_structU Try.underlying24 (by kernel_rfl) (RdFU.cons (rd_KLU W) (RdFU.cons (rd_KLU W) (RdFU.cons (rd_KLU W) (RdFU.cons (rd_KLU W) RdFU.nil))))) ?_
  rintro x ⟨parts, rfl, g0⟩
  obtain ⟨_, _, rfl, ⟨a, rfl, ka⟩, g1⟩ := All2.inv g0
  obtain ⟨_, _, rfl, ⟨b, rfl, kb⟩, g2⟩ := All2.inv g1
  obtain ⟨_, _, rfl, ⟨c, rfl, kc⟩, g3⟩ := All2.inv g2
  obtain ⟨_, _, rfl, ⟨d, rfl, kd⟩, g4⟩ := All2.inv g3
  have h0 := all2_nil g4
  subst h0
  exact ⟨⟨a, b, c, d⟩, rfl, ka, kb, kc, kd⟩
theorem rd_RLU (W : World) : RdU Try.prog W 31 fun xs => ∃ l : List Rw, xs = [RL l] ∧ l.length ≤ 1048576 := by
  refine RdU.mono (rd_sliceU (k := 13) Try.underlying31 (by kernel_rfl) (by decide) (rd_Rw W)) ?_
  rintro x ⟨rows, rfl, h1, h2⟩
  obtain ⟨l, h3, h4⟩ := rws_of h2
  exact ⟨l, by rw [h3], by rw [h4]; exact h1⟩
theorem lls_of : ∀ {rows : List (List AV)}, (∀ r ∈ rows, r.length = 1 ∧ ∃ l : List Rw, r = [RL l] ∧ l.length ≤ 1048576) → ∃ ll : List (List Rw), rows.flatten = ll.flatMap lrC ∧ ll.length = rows.length ∧ ∀ r ∈ ll, r.length ≤ 1048576
  | [], _ => ⟨[], rfl, rfl, by simp⟩
  | r :: rows, h => by
    obtain ⟨l, h1, h2, h3⟩ := lls_of fun x hx => h x (List.mem_cons_of_mem _ hx)
    obtain ⟨_, q, rfl, hq⟩ := h r List.mem_cons_self
    refine ⟨q :: l, by rw [List.flatten_cons, h1, List.flatMap_cons]; rfl, by simp [h2], fun r hr => ?_⟩
    rcases List.mem_cons.1 hr with rfl | hr
    · exact hq
    · exact h3 r hr
theorem rv_LL (W : World) : RdVU Try.prog W 25 isLL := by
  refine RdVU.mono' (rv_sliceU (k := 1) Try.underlying25 (by kernel_rfl) (by decide) (rd_RLU W)) ?_
  rintro x ⟨rows, rfl, h1, h2⟩
  obtain ⟨l, h3, h4, h5⟩ := lls_of h2
  exact ⟨l, by rw [h3], by rw [h4]; exact h1, h5⟩

set_option maxRecDepth 100000 in
theorem keysUpdates_lifted (os : Os) (started : os.Started) (H : Type) (enc : TypeId × Value → H) (F : Stop.Interp) :
    ReturnsInHanded {} Try.checked os 3 .any ((Rows.OpenSpec.upto Rows.keysUpdatesSpec).pre6 enc Try.prog Try.f3 Rows.keysUpdatesUptoRow.domain false) (((Rows.OpenSpec.upto Rows.keysUpdatesSpec).at F).post enc Try.prog Try.f3 false true false false) :=
  law_rowU (C := Try.checked) (tb := 4) (s := Rows.keysUpdatesSpec) (kd := Rows.uptoSmall) (Ss := [isK4, isLL]) rfl bulk_of Try.own started (by kernel_rfl) Try.func3
    (OpenSpec.witness (enc := enc) (C := Try.checked) (s := Rows.OpenSpec.upto Rows.keysUpdatesSpec) (k := Rows.uptoSmall) rfl false ⟨#[], #[.agg #[.slice none 0 0, .slice none 0 0, .slice none 0 0, .slice none 0 0], .slice none 0 0], []⟩ 8 (by kernel_rfl) (by kernel_rfl) (by kernel_rfl)
      (x := ([.agg [.nil, .nil, .nil, .nil], .nil], [], [])) (by kernel_rfl) rfl (by kernel_rfl))
    rfl rfl Try.underlying4 (fun ds h => by match ds, h with | [d0, d1], _ => rfl) Try.laidOut (by kernel_rfl) (fun W g xs h => by cases h) (fun W => ⟨rv_K4 W, rv_LL W, trivial⟩)
    (fun xs g0 => by
      obtain ⟨_, _, rfl, k0, g1⟩ := All1.inv g0
      obtain ⟨_, _, rfl, k1, g2⟩ := All1.inv g1
      have g99 := All1.inv0 g2
      subst g99
      obtain ⟨k, rfl, hk⟩ := k0
      obtain ⟨ll, rfl, hl, hr⟩ := k1
      exact w_KeysUpdates k ll hk hl hr)
theorem keysUpdates_holds : Rows.KeysUpdatesUptoSaid :=
  OpenClaim.holds_of_cond 3 Try.f3 rfl rfl rfl rfl rfl rfl rfl ⟨rfl, rfl, rfl, rfl, rfl⟩ rfl rfl rfl rfl rfl (by kernel_rfl) Try.func3 (by kernel_rfl)
    (of_decide_eq_true (by kernel_rfl)) (by unfold Func.isWrapper; first | (rw [if_pos (by decide +kernel)]; kernel_rfl) | (rw [if_neg (by decide +kernel)]; exact ⟨rfl, rfl⟩))
    (fun os started H enc _ F => keysUpdates_lifted os started H enc F)

end Go.Proofs.Ytlfedjannhceaaa
