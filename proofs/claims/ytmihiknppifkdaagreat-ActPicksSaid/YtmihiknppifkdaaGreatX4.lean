/-
  Lists of ways, and what act.ways answers.
-/
import Derived.Test.YtmihiknppifkdaaGreatXS
import Derived.Test.YtmihiknppifkdaaGreatSxH
set_option linter.unusedVariables false
set_option linter.unusedSimpArgs false
set_option maxRecDepth 100000
set_option maxHeartbeats 1000000
namespace Go.Proofs.YtmihiknppifkdaaGreat
open Go Go.SL Go.Proofs

structure Way where
  ip : Int
  port : Int
def wayC (a : Way) : List AV := [I .u32 a.ip, I .i64 a.port]
theorem wayC_len (a : Way) : (wayC a).length = 2 := rfl
def inP (x : Int) : Bool := decide (x ≥ 0) && decide (x ≤ 65535)
def waysOk (w : List Way) : Bool := w.all (fun a => inP a.port) && (decide ((w.length : Int) ≥ 1) && decide ((w.length : Int) ≤ 64))
theorem w_within (x : Int) : Spec0 Tryz.prog 73 [I .i64 x, I .i64 65535] (B (inP x)) := by
  unfold inP
  cases h : decide (x ≥ 0)
  · exact sx0 hm hF 1000 20 [.b 73 1 1 false] [decide (x ≥ 0) = false] (by kernel_rfl) ⟨h, trivial⟩
  · exact sx0 hm hF 1000 20 [.b 73 1 1 true] [decide (x ≥ 0) = true] (by kernel_rfl) ⟨h, trivial⟩
theorem i64_n (n : Nat) (h : n < 4611686018427387904) : IntKind.i64.wrap ((n : Int) + 1) = ((n + 1 : Nat) : Int) := by rw [IntWalk.i64_in _ (by omega)]; rfl
theorem all_take {α : Type} {p : α → Bool} {w : List α} {i : Nat} {a : α} (h : (w.take i).all p = true) (hi : w[i]? = some a) : (w.take (i + 1)).all p = p a := by
  rw [List.take_add_one, hi, List.all_append, h]; simp
theorem all_no {α : Type} {p : α → Bool} {w : List α} {i : Nat} {a : α} (hi : w[i]? = some a) (h : p a = false) : w.all p = false := by
  rw [List.all_eq_false]
  exact ⟨a, List.mem_of_getElem? hi, by simpa using h⟩
theorem w_ways (w : List Way) (hw : w.length ≤ 140737488351232) : Spec0 Tryz.prog 78 [.im 2 (w.flatMap wayC)] (B (waysOk w)) := by
  have hl := fm_len wayC_len w
  refine Spec0.walk Tryz.func78 rfl rfl ?_
  refine W.sxP hm hF 78 1 1000 20 [] [] [(0, .im 2 (w.flatMap wayC)), (2, B false)] [] (by kernel_rfl) trivial ?_
  refine W.seq ?_
  refine W.seq ?_
  refine W.sx hm hF 78 1000 20 [.n 78 1 1 w.length] [w.length * 2 = (w.flatMap wayC).length, 0 < 2] .normal [(0, .im 2 (w.flatMap wayC)), (5, .im 2 (w.flatMap wayC)), (6, I .i64 (w.length : Nat)), (7, I .i64 0)] [] (by kernel_rfl) ⟨hl.symm, by decide, trivial⟩ (fun σ h => W.weaken h ?_)
  refine W.block ?_
  refine W.loopD 0 (fun i : Nat => ⟨tbl [(0, .im 2 (w.flatMap wayC)), (5, .im 2 (w.flatMap wayC)), (6, I .i64 (w.length : Nat)), (7, I .i64 (i : Nat))], []⟩) (fun i => i ≤ w.length ∧ (w.take i).all (fun a => inP a.port) = true) (fun i => w.length - i) 0 ⟨Nat.zero_le _, by simp⟩ rfl (Le.refl _) ?_
  rintro i ⟨hi, ha⟩
  by_cases hlt : i < w.length
  · have hb : decide (((i : Nat) : Int) < (w.length : Nat)) = true := decide_eq_true (by omega)
    obtain ⟨a, hget⟩ : ∃ a, w[i]? = some a := ⟨_, List.getElem?_eq_getElem hlt⟩
    cases hp : inP a.port
    · refine W.sxR hm hF 78 1000 20 [.b 78 2 0 true, .j 78 3 0 w.length i, .l 78 3 1 (.agg (wayC a)), .c 78 4 2 (B (inP a.port)), .b 78 4 3 true]
        [(!inP a.port) = true, _, ((w.flatMap wayC).drop (i * 2)).take 2 = wayC a, i * 2 + 2 ≤ (w.flatMap wayC).length, w.length * 2 = (w.flatMap wayC).length, 0 < 2, ((i : Nat) : Int) = (i : Int), i < w.length, decide (((i : Nat) : Int) < (w.length : Nat)) = true] [.tmp 2] .ret (B false) (by kernel_rfl)
        ⟨by rw [hp]; rfl, w_within a.port, fm_at wayC_len w hget, fm_bound wayC_len w hlt, hl.symm, by decide, rfl, hlt, hb, trivial⟩ (fun σ xs h1 h2 => ?_)
      have : waysOk w = false := by unfold waysOk; rw [all_no hget hp]; rfl
      rw [this]
      exact retK.mk (.inl rfl) h1 h2
    · exact W.sx hm hF 78 1000 20 [.b 78 2 0 true, .j 78 3 0 w.length i, .l 78 3 1 (.agg (wayC a)), .c 78 4 2 (B (inP a.port)), .b 78 4 3 false, .z 78 6 0 ((i + 1 : Nat) : Int)]
        [IntKind.i64.wrap (((i : Nat) : Int) + 1) = ((i + 1 : Nat) : Int), (!inP a.port) = false, _, ((w.flatMap wayC).drop (i * 2)).take 2 = wayC a, i * 2 + 2 ≤ (w.flatMap wayC).length, w.length * 2 = (w.flatMap wayC).length, 0 < 2, ((i : Nat) : Int) = (i : Int), i < w.length, decide (((i : Nat) : Int) < (w.length : Nat)) = true]
        .normal [(0, .im 2 (w.flatMap wayC)), (5, .im 2 (w.flatMap wayC)), (6, I .i64 (w.length : Nat)), (7, I .i64 ((i + 1 : Nat) : Int))] [.row 1 (wayC a)] (by kernel_rfl)
        ⟨i64_n i (by omega), by rw [hp]; rfl, w_within a.port, fm_at wayC_len w hget, fm_bound wayC_len w hlt, hl.symm, by decide, rfl, hlt, hb, trivial⟩ (fun σ h => ⟨i + 1, ⟨by omega, by rw [all_take ha hget]; exact hp⟩, by omega, LeD.mk rfl rfl h⟩)
  · have hie : i = w.length := by omega
    have hall : w.all (fun a => inP a.port) = true := by rw [hie, List.take_length] at ha; exact ha
    have hb : decide (((i : Nat) : Int) < (w.length : Nat)) = false := decide_eq_false (by omega)
    refine W.sx hm hF 78 1000 20 [.b 78 2 0 false] [decide (((i : Nat) : Int) < (w.length : Nat)) = false] (.exit 0) [(0, .im 2 (w.flatMap wayC))] [] (by kernel_rfl) ⟨hb, trivial⟩ (fun σ h => W.weaken h ?_)
    have hok : waysOk w = (decide ((w.length : Int) ≥ 1) && decide ((w.length : Int) ≤ 64)) := by unfold waysOk; rw [hall]; rfl
    rw [hok]
    cases h1 : decide ((w.length : Int) ≥ 1)
    · exact W.sxR hm hF 78 1000 20 [.n 78 7 1 w.length, .b 78 7 2 false] [decide ((w.length : Int) ≥ 1) = false, w.length * 2 = (w.flatMap wayC).length, 0 < 2] [.tmp 2] .ret (B false) (by kernel_rfl) ⟨h1, hl.symm, by decide, trivial⟩ (fun σ xs h1 h2 => retK.mk (.inl rfl) h1 h2)
    · exact W.sxR hm hF 78 1000 20 [.n 78 7 1 w.length, .b 78 7 2 true, .n 78 7 5 w.length] [w.length * 2 = (w.flatMap wayC).length, 0 < 2, decide ((w.length : Int) ≥ 1) = true, w.length * 2 = (w.flatMap wayC).length, 0 < 2] [.tmp 2] .ret (B (decide ((w.length : Int) ≤ 64))) (by kernel_rfl) ⟨hl.symm, by decide, h1, hl.symm, by decide, trivial⟩ (fun σ xs h1 h2 => retK.mk (.inl rfl) h1 h2)

end Go.Proofs.YtmihiknppifkdaaGreat
