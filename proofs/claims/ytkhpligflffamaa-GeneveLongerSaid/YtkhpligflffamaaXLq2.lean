/-
  The given statement, proved from the contract of the law: whatever the arguments, the call returns true and each argument reads as it did. No condition.
-/
import Derived.Test.YtkhpligflffamaaRows
import Derived.Test.YtkhpligflffamaaLMq2
set_option linter.unusedVariables false
set_option linter.unusedSimpArgs false
set_option maxRecDepth 100000
set_option maxHeartbeats 1000000
namespace Go.Proofs.Ytkhpligflffamaa
open Go Go.SL Go.Proofs
open Go.ChangeShapes Go.WideShapes Go.ChangeAt Go.RowKit
theorem Try.own : ownKnob Try.prog.godebug = none := by kernel_rfl
theorem Try.laidOut : laidOutB Try.prog = true := by kernel_rfl
def isK (k : IntKind) (x : AV) : Prop := ∃ n : Int, x = .sc (.int k n) ∧ k.min ≤ n ∧ n ≤ k.max
def isBytes (x : AV) : Prop := ∃ l : List UInt8, x = .im 1 (l.map byteAV) ∧ l.length ≤ 140737488351232
theorem All2.inv' {S : List AV → Prop} {Ss : List (List AV → Prop)} : ∀ {xs : List (List AV)}, All2 (S :: Ss) xs → ∃ p ps, xs = p :: ps ∧ S p ∧ All2 Ss ps
  | [], h => h.elim
  | p :: ps, ⟨h1, h2⟩ => ⟨p, ps, rfl, h1, h2⟩
theorem All2.inv0' : ∀ {xs : List (List AV)}, All2 [] xs → xs = []
  | [], _ => rfl
  | _ :: _, h => h.elim
theorem opts_of : ∀ {rows : List (List AV)}, (∀ r ∈ rows, r.length = 3 ∧ Fit [.int .i64, .int .i64, .str] r) → ∃ l : List Opt, rows.flatten = l.flatMap oC ∧ l.length = rows.length ∧ ∀ o ∈ l, o.d.size ≤ reachBytes
  | [], _ => ⟨[], rfl, rfl, fun t h => absurd h (by simp)⟩
  | r :: rows, h => by
    obtain ⟨l, h1, h2, h5⟩ := opts_of fun x hx => h x (List.mem_cons_of_mem _ hx)
    obtain ⟨_, _, _, rfl, ⟨a, rfl, ka⟩, _, _, rfl, ⟨b, rfl, kb⟩, _, _, rfl, ⟨c, rfl, kc⟩, h3⟩ := h r List.mem_cons_self
    simp only [Fit] at h3
    subst h3
    refine ⟨⟨a, b, c⟩ :: l, by rw [List.flatten_cons, h1, List.flatMap_cons]; rfl, by simp [h2], fun t ht => ?_⟩
    rcases List.mem_cons.1 ht with rfl | ht
    · exact kc
    · exact h5 t ht
def isTun (x : AV) : Prop := ∃ (src dst sp vn : Int) (oam : Bool) (l : List Opt) (fr : ByteArray), x = .agg [I .u32 src, I .u32 dst, I .i64 sp, I .i64 vn, B oam, OL l, S fr] ∧ (0 ≤ src ∧ src < 4294967296) ∧ (0 ≤ dst ∧ dst < 4294967296) ∧ l.length ≤ 4611686018427387 ∧ (∀ o ∈ l, o.d.size ≤ 200000000000000) ∧ fr.size ≤ 140737488351232
theorem rv_Tun (W : World) : RdV Try.prog W 25 isTun := by
  refine RdV.mono' (rv_struct Try.underlying25 (by kernel_rfl) (RdF.cons (rd_int Try.underlying22) (RdF.cons (rd_int Try.underlying22) (RdF.cons (rd_int Try.underlying3) (RdF.cons (rd_int Try.underlying3) (RdF.cons (rd_bool Try.underlying4) (RdF.cons (rd_slice (k := 3) Try.underlying23 (by kernel_rfl) (by decide) (rd_leaves 60 39 [.int .i64, .int .i64, .str] (by kernel_rfl))) (RdF.cons (rd_string Try.underlying9) RdF.nil)))))))) ?_
  rintro x ⟨parts, rfl, h⟩
  obtain ⟨_, _, rfl, ⟨a1, rfl, k1⟩, g1⟩ := All2.inv' h
  obtain ⟨_, _, rfl, ⟨a2, rfl, k2⟩, g2⟩ := All2.inv' g1
  obtain ⟨_, _, rfl, ⟨a3, rfl, k3⟩, g3⟩ := All2.inv' g2
  obtain ⟨_, _, rfl, ⟨a4, rfl, k4⟩, g4⟩ := All2.inv' g3
  obtain ⟨_, _, rfl, ⟨b, rfl⟩, g5⟩ := All2.inv' g4
  obtain ⟨_, _, rfl, hr, g6⟩ := All2.inv' g5
  obtain ⟨_, _, rfl, ⟨s, rfl, k7⟩, g7⟩ := All2.inv' g6
  have h0 := All2.inv0' g7
  subst h0
  obtain ⟨rows, rfl, h1, h2⟩ := hr
  obtain ⟨l, e1, e2, e3⟩ := opts_of h2
  have : Try.prog.bytesOf 39 = 32 := by kernel_rfl
  rw [this] at h1
  simp only [reachBytes] at h1 e3 k7
  refine ⟨a1, a2, a3, a4, b, l, s, by rw [e1]; rfl, ⟨k1.1, ?_⟩, ⟨k2.1, ?_⟩, by omega, fun o ho => Nat.le_trans (e3 o ho) (by decide), by simpa using k7⟩
  · have : IntKind.u32.max = 4294967295 := rfl
    have := k1.2; omega
  · have : IntKind.u32.max = 4294967295 := rfl
    have := k2.2; omega
theorem rv_By (W : World) : RdV Try.prog W 26 isBytes := RdV.mono' (rv_bytes Try.underlying26 Try.underlying5 (by kernel_rfl) (by kernel_rfl)) fun x ⟨l, h1, h2⟩ => ⟨l, h1, by simpa [reachBytes] using h2⟩
theorem rv_I64 (W : World) : RdV Try.prog W 3 (isK .i64) := rv_int Try.underlying3

set_option maxRecDepth 100000 in
theorem geneveLonger_lifted (os : Os) (started : os.Started) (H : Type) (enc : TypeId × Value → H) :
    ReturnsInHanded {} Try.checked os 5 .any (Rows.geneveLongerSpec.pre6 enc Try.prog Try.f5 Rows.geneveLongerRow.domain false) (Rows.geneveLongerSpec.post enc Try.prog Try.f5 false true false false) :=
  law_row (C := Try.checked) (tb := 4) (Ss := [isTun, isBytes, isK .i64]) Try.own started (by kernel_rfl) Try.func5
    (ChangeSpec.witness6 (enc := enc) (C := Try.checked) false ⟨#[], #[.agg #[.int .u32 0, .int .u32 0, .int .i64 0, .int .i64 0, .bool false, .slice none 0 0, .string ⟨#[]⟩], .slice none 0 0, .int .i64 0], []⟩ 8 (by kernel_rfl) (by kernel_rfl) (by kernel_rfl) (by kernel_rfl))
    rfl rfl Try.underlying4 (fun ds h => by match ds, h with | [d0, d1, d2], _ => rfl) Try.laidOut (by kernel_rfl) (fun W g xs h => by cases h) (fun W => ⟨rv_Tun W, rv_By W, rv_I64 W, trivial⟩)
    (fun xs g0 => by
      obtain ⟨_, _, rfl, k0, g1⟩ := All1.inv g0
      obtain ⟨_, _, rfl, k1, g2⟩ := All1.inv g1
      obtain ⟨_, _, rfl, k2, g3⟩ := All1.inv g2
      have g99 := All1.inv0 g3
      subst g99
      obtain ⟨src, dst, sp, vn, oam, l, fr, rfl, q1, q2, hl0, hz0, hfr⟩ := k0
      obtain ⟨m, rfl, hm⟩ := k1
      obtain ⟨z, rfl, _⟩ := k2
      exact w_GeneveLonger src dst sp vn z oam l fr m q1 q2 hl0 hz0 hfr hm)
theorem geneveLonger_holds : Rows.GeneveLongerSaid :=
  OpenClaim.holds_of_wide 5 Try.f5 rfl rfl rfl rfl rfl rfl rfl ⟨rfl, rfl, rfl, rfl, rfl⟩ rfl rfl rfl rfl rfl (by kernel_rfl) Try.func5 (by kernel_rfl)
    (of_decide_eq_true (by kernel_rfl)) (by unfold Func.isWrapper; first | (rw [if_pos (by decide +kernel)]; kernel_rfl) | (rw [if_neg (by decide +kernel)]; exact ⟨rfl, rfl⟩))
    (fun os started H enc _ => geneveLonger_lifted os started H enc)

end Go.Proofs.Ytkhpligflffamaa
