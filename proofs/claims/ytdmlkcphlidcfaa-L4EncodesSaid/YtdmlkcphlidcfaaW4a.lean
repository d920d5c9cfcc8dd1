/-
  Contracts of functions of chapter 04: each theorem says what a call of one function answers, for all arguments that its hypotheses let in.
-/
import Derived.Test.YtdmlkcphlidcfaaSlAa
import Derived.Test.YtdmlkcphlidcfaaChecked
set_option linter.unusedVariables false
set_option linter.unusedSimpArgs false
set_option maxRecDepth 100000
set_option maxHeartbeats 1000000
namespace Go.Proofs.Ytdmlkcphlidcfaa
open Go Go.SL Go.Proofs

/-- A number of bytes, the highest first. -/
def be (l : List UInt8) : Nat := l.foldl (fun x c => x * 256 + c.toNat) 0
theorem be_snoc {l : List UInt8} {i : Nat} (h : i < l.length) : be (l.take (i + 1)) = be (l.take i) * 256 + (l.getD i 0).toNat := by
  unfold be
  rw [List.take_succ_eq_append_getElem h, List.foldl_append]
  simp [List.getD, h]
theorem or_byte {x : Nat} {c : UInt8} : (x % 4294967296 * 2 ^ 8) % 4294967296 ||| c.toNat = (x * 256 + c.toNat) % 4294967296 := by
  have h := byte_le c
  have h1 : (x % 4294967296 * 2 ^ 8) % 4294967296 = 2 ^ 8 * (x % 16777216) := by omega
  rw [h1, ← Nat.two_pow_add_eq_or_of_lt (by omega)]
  omega

/-- One's complement: what goes beyond a word is added again. -/
def fo (x : Nat) : Nat := if x = 0 then 0 else (x - 1) % 65535 + 1
theorem fo_small {x : Nat} (h : x ≤ 65535) : fo x = x := by unfold fo; split <;> omega
theorem fo_step {x : Nat} : fo (x % 65536 + x / 65536) = fo x := by
  unfold fo
  split <;> split <;> omega
theorem fo_le (x : Nat) : fo x ≤ 65535 := by unfold fo; split <;> omega
theorem fo_add (x y : Nat) : fo (fo x + y) = fo (x + y) := by unfold fo; split <;> split <;> split <;> omega
theorem and16 (x : Nat) : x &&& 65535 = x % 65536 := Nat.and_two_pow_sub_one_eq_mod x 16

/-- The words' sum up to place i. -/
def ws (l : List UInt8) : Nat → Nat
  | 0 => 0
  | i + 1 => ws l i + (if i % 2 = 0 then (l.getD i 0).toNat * 256 else (l.getD i 0).toNat)
theorem ws_even {l : List UInt8} {i : Nat} (h : i % 2 = 0) : ws l (i + 1) = ws l i + (l.getD i 0).toNat * 2 ^ 8 := by simp only [ws]; rw [if_pos h]
theorem ws_odd {l : List UInt8} {i : Nat} (h : i % 2 ≠ 0) : ws l (i + 1) = ws l i + (l.getD i 0).toNat := by simp only [ws]; rw [if_neg h]
theorem ws_le (l : List UInt8) (i : Nat) : ws l i ≤ i * 65280 := by
  induction i with
  | zero => exact Nat.zero_le _
  | succ i ih => simp only [ws]; have := byte_le (l.getD i 0); split <;> omega


theorem fo_add2 {a b : Nat} (ha : a ≤ 65535) (hb : b ≤ 65535) : (65536 ≤ a + b → fo (a + b) = a + b - 65535) ∧ (a + b < 65536 → fo (a + b) = a + b) := by
  unfold fo
  constructor <;> intro h <;> split <;> omega
theorem ws_two {l : List UInt8} {i : Nat} (h : 2 * i + 1 < l.length) : fo (ws l (min (2 * (i + 1)) l.length)) = fo (fo (ws l (min (2 * i) l.length)) + ((l.getD (2 * i) 0).toNat * 256 + (l.getD (2 * i + 1) 0).toNat)) := by
  rw [fo_add, Nat.min_eq_left (by omega), Nat.min_eq_left (by omega)]
  have e : 2 * (i + 1) = 2 * i + 1 + 1 := by omega
  rw [e]
  simp only [ws]
  rw [if_pos (by omega), if_neg (by omega)]
  congr 1; omega
theorem ws_last {l : List UInt8} {i : Nat} (h : 2 * i < l.length) (h2 : l.length ≤ 2 * i + 1) : fo (ws l (min (2 * (i + 1)) l.length)) = fo (fo (ws l (min (2 * i) l.length)) + (l.getD (2 * i) 0).toNat * 256) := by
  rw [fo_add, Nat.min_eq_right (by omega), Nat.min_eq_left (by omega)]
  have e : l.length = 2 * i + 1 := by omega
  rw [e]
  simp only [ws]
  rw [if_pos (by omega)]
theorem be_next {l : List UInt8} {i : Nat} (h : i < l.length) : be (l.take (i + 1)) % 18446744073709551616 = be (l.take i) % 18446744073709551616 * 256 % 18446744073709551616 + (l.getD i 0).toNat := by
  have hb := byte_le (l.getD i 0); rw [be_snoc h]; omega

theorem w_get {l : List UInt8} (hl : l.length ≤ 4611686018427387904) : Spec0 Try.prog 19 [.im 1 (l.map byteAV)] (.sc (.int .u32 ((be l % 4294967296 : Nat) : Int))) := by
  refine Spec.body Try.func19 rfl (Nat.le_of_ble_eq_true rfl) ?_
  refine W.seq ?_
  refine W.region ?_
  refine WO.op rfl rfl rfl rfl (as_sc rfl) ?_
  refine WO.nil ?_
  refine W.seq ?_
  refine W.to [(0, _), (2, _)] [] rfl ⟨(by exact sh_im rfl), (by exact sh_sc rfl), trivial⟩ ?_
  refine W.region ?_
  refine WO.op rfl rfl rfl rfl (as_sc rfl) ?_
  refine WO.nil ?_
  refine W.seq ?_
  refine W.seq ?_
  refine W.to [(0, _), (2, _), (3, _)] [] rfl ⟨(by exact sh_im rfl), (by exact sh_sc rfl), (by exact sh_sc rfl), trivial⟩ ?_
  refine W.region ?_
  refine WO.op rfl rfl rfl rfl (mv_im rfl) ?_
  refine WO.op rfl rfl rfl rfl (step_lenB Try.runUnderlying23 rfl) ?_
  refine WO.op rfl rfl rfl rfl (mv_sc rfl) ?_
  refine WO.nil ?_
  refine W.block ?_
  refine W.loop (α := Nat) (fun i => ⟨tbl [(3, .sc (.int .u32 ((be (l.take i) % 4294967296 : Nat) : Int))), (6, .im 1 (l.map byteAV)), (7, .sc (.int .i64 ((l.length : Nat) : Int))), (8, .sc (.int .i64 ((i : Nat) : Int)))], []⟩) (fun i => i ≤ l.length) (fun i => l.length - i) (0) (Nat.zero_le _) (Le.eqs rfl ⟨rfl, rfl, rfl, rfl, trivial⟩) ?_
  intro i hi
  have hb := byte_le (l.getD i 0)
  refine W.seq ?_
  refine W.to [(3, _), (6, _), (7, _), (8, _)] [] rfl ⟨(by exact sh_sc rfl), (by exact sh_im rfl), (by exact sh_sc rfl), (by exact sh_sc rfl), trivial⟩ ?_
  refine W.region ?_
  refine WO.op rfl rfl rfl rfl (step_int2 rfl rfl rfl) ?_
  refine WO.nil ?_
  refine W.seq ?_
  refine W.cond rfl (fun h1 => ?_) (fun h1 => ?_)
  · try simp only [decide_eq_true_eq, decide_eq_false_iff_not, Bool.not_eq_true', Bool.not_eq_false', beq_iff_eq, bne_iff_ne, beq_eq_false_iff_ne, bne_eq_false_iff_eq, gt_iff_lt, ge_iff_le, Int.not_lt, Int.not_le] at h1
    refine W.skip ?_
    refine W.seq ?_
    refine W.block ?_
    refine W.seq ?_
    refine W.to [(3, _), (6, _), (7, _), (8, _), (9, _)] [] rfl ⟨(by exact sh_sc rfl), (by exact sh_im rfl), (by exact sh_sc rfl), (by exact sh_sc rfl), (by exact sh_sc rfl), trivial⟩ ?_
    refine W.region ?_
    refine WO.op rfl rfl rfl rfl (step_idxB Try.runUnderlying23 Try.sizeOf5 rfl rfl (by (exact rfl)) (by omega)) ?_
    refine WO.op rfl rfl rfl rfl (step_loadB Try.isAgg5 rfl (by omega)) ?_
    refine WO.op rfl rfl rfl rfl (as_sc rfl) ?_
    refine WO.nil ?_
    refine W.to [(3, _), (5, _), (6, _), (7, _), (8, _), (9, _)] [] rfl ⟨(by exact sh_sc rfl), (by exact sh_sc rfl), (by exact sh_im rfl), (by exact sh_sc rfl), (by exact sh_sc rfl), (by exact sh_sc rfl), trivial⟩ ?_
    refine W.region ?_
    refine WO.op rfl rfl rfl rfl (mv_sc rfl) ?_
    refine WO.op rfl rfl rfl rfl (step_shlM (s := 8) rfl rfl (by decide) (by exact modN32 _)) ?_
    refine WO.op rfl rfl rfl rfl (mv_sc rfl) ?_
    refine WO.op rfl rfl rfl rfl (step_convR Try.runUnderlying5 Try.runUnderlying22 rfl (by exact convN (by (simp only [cap]; omega)))) ?_
    refine WO.op rfl rfl rfl rfl (step_orN rfl rfl (by (simp only [cap]; omega)) (by (simp only [cap]; omega))) ?_
    refine WO.op rfl rfl rfl rfl (as_sc rfl) ?_
    refine WO.nil ?_
    refine W.to [(3, _), (5, _), (6, _), (7, _), (8, _), (9, _)] [] rfl ⟨(by exact sh_sc rfl), (by exact sh_sc rfl), (by exact sh_im rfl), (by exact sh_sc rfl), (by exact sh_sc rfl), (by exact sh_sc rfl), trivial⟩ ?_
    refine W.region ?_
    refine WO.op rfl rfl rfl rfl (step_addN (q := 1) rfl rfl (by (simp only [cap]; omega))) ?_
    refine WO.op rfl rfl rfl rfl (mv_sc rfl) ?_
    refine WO.nil ?_
    exact ⟨i + 1, (by omega), (by omega), Le.eqs rfl ⟨congrArg (fun z : Nat => AV.sc (.int .u32 (z : Int))) ((or_byte (x := be (l.take i)) (c := l.getD i 0)).trans (by rw [be_snoc (by omega)])), rfl, rfl, rfl, trivial⟩⟩
  · try simp only [decide_eq_true_eq, decide_eq_false_iff_not, Bool.not_eq_true', Bool.not_eq_false', beq_iff_eq, bne_iff_ne, beq_eq_false_iff_ne, bne_eq_false_iff_eq, gt_iff_lt, ge_iff_le, Int.not_lt, Int.not_le] at h1
    have : i = l.length := by omega
    subst this
    rw [List.take_length]
    refine W.exit ?_
    refine W.seq ?_
    refine W.to [(3, _), (6, _), (7, _), (8, _), (9, _)] [] rfl ⟨(by exact sh_sc rfl), (by exact sh_im rfl), (by exact sh_sc rfl), (by exact sh_sc rfl), (by exact sh_sc rfl), trivial⟩ ?_
    refine W.region ?_
    refine WO.op rfl rfl rfl rfl (mv_sc rfl) ?_
    refine WO.op rfl rfl rfl rfl (as_sc rfl) ?_
    refine WO.nil ?_
    refine W.ret ?_
    refine ⟨.inl rfl, ?_⟩
    exact ret0 (Res.tmp rfl Res.nil) (.keep rfl)

theorem w_fold {x : Nat} (hx : x < 18446744073709551616) : Spec0 Try.prog 35 [.sc (.int .u64 ((x : Nat) : Int))] (.sc (.int .u16 ((fo x : Nat) : Int))) := by
  refine Spec.body Try.func35 rfl (Nat.le_of_ble_eq_true rfl) ?_
  refine W.seq ?_
  refine W.region ?_
  refine WO.op rfl rfl rfl rfl (as_sc rfl) ?_
  refine WO.nil ?_
  refine W.scope (α := Nat) (fun y => ⟨tbl [(0, .sc (.int .u64 ((y : Nat) : Int)))], []⟩) (fun _ => 0) (fun y => fo y = fo x ∧ y < 18446744073709551616) (fun y => y) ?_ ?_
  · refine W.seq ?_
    refine W.label ?_
    refine W.seq ?_
    refine W.seq ?_
    refine W.to [(0, _), (2, _)] [] rfl ⟨(by exact sh_sc rfl), (by exact sh_sc rfl), trivial⟩ ?_
    refine W.region ?_
    refine WO.op rfl rfl rfl rfl (mv_sc rfl) ?_
    refine WO.op rfl rfl rfl rfl (step_int2 rfl rfl rfl) ?_
    refine WO.nil ?_
    refine W.cond rfl (fun h1 => ?_) (fun h1 => ?_)
    · try simp only [decide_eq_true_eq, decide_eq_false_iff_not, Bool.not_eq_true', Bool.not_eq_false', beq_iff_eq, bne_iff_ne, beq_eq_false_iff_ne, bne_eq_false_iff_eq, gt_iff_lt, ge_iff_le, Int.not_lt, Int.not_le] at h1
      refine W.seq ?_
      refine W.to [(0, _), (2, _), (4, _)] [] rfl ⟨(by exact sh_sc rfl), (by exact sh_sc rfl), (by exact sh_sc rfl), trivial⟩ ?_
      refine W.region ?_
      refine WO.op rfl rfl rfl rfl (mv_sc rfl) ?_
      refine WO.op rfl rfl rfl rfl (step_andN (q := 65535) rfl rfl (by (simp only [cap]; omega)) (by (simp only [cap]; omega))) ?_
      refine WO.put 6 (.sc (.int .u64 ((x % 65536 : Nat) : Int))) (congrArg (fun z : Nat => AV.sc (.int .u64 (z : Int))) (and16 _)) ?_
      refine WO.op rfl rfl rfl rfl (mv_sc rfl) ?_
      refine WO.op rfl rfl rfl rfl (step_shrN (s := 16) rfl rfl (by (simp only [cap]; omega))) ?_
      refine WO.op rfl rfl rfl rfl (step_addN rfl rfl (by (simp only [cap]; omega))) ?_
      refine WO.op rfl rfl rfl rfl (as_sc rfl) ?_
      refine WO.nil ?_
      refine W.goto ?_
      exact ⟨x % 65536 + x / 65536, ⟨fo_step, by omega⟩, rfl, Le.eqs rfl ⟨rfl, trivial⟩⟩
    · try simp only [decide_eq_true_eq, decide_eq_false_iff_not, Bool.not_eq_true', Bool.not_eq_false', beq_iff_eq, bne_iff_ne, beq_eq_false_iff_ne, bne_eq_false_iff_eq, gt_iff_lt, ge_iff_le, Int.not_lt, Int.not_le] at h1
      refine W.skip ?_
      refine W.seq ?_
      refine W.to [(0, _), (2, _), (4, _)] [] rfl ⟨(by exact sh_sc rfl), (by exact sh_sc rfl), (by exact sh_sc rfl), trivial⟩ ?_
      refine W.region ?_
      refine WO.op rfl rfl rfl rfl (mv_sc rfl) ?_
      refine WO.op rfl rfl rfl rfl (step_convR Try.runUnderlying55 Try.runUnderlying37 rfl (by exact convN (by (simp only [cap]; omega)))) ?_
      refine WO.op rfl rfl rfl rfl (as_sc rfl) ?_
      refine WO.nil ?_
      refine W.ret ?_
      refine ⟨.inl rfl, ?_⟩
      rw [fo_small (x := x) (by omega)]
      exact ret0 (Res.tmp rfl Res.nil) (.keep rfl)
  · intro y hy
    refine ⟨_, rfl, ?_⟩
    obtain ⟨hy1, hy2⟩ := hy
    refine W.seq ?_
    refine W.skip ?_
    refine W.seq ?_
    refine W.seq ?_
    refine W.to [(0, _)] [] rfl ⟨(by exact sh_sc rfl), trivial⟩ ?_
    refine W.region ?_
    refine WO.op rfl rfl rfl rfl (mv_sc rfl) ?_
    refine WO.op rfl rfl rfl rfl (step_int2 rfl rfl rfl) ?_
    refine WO.nil ?_
    refine W.cond rfl (fun h2 => ?_) (fun h2 => ?_)
    · try simp only [decide_eq_true_eq, decide_eq_false_iff_not, Bool.not_eq_true', Bool.not_eq_false', beq_iff_eq, bne_iff_ne, beq_eq_false_iff_ne, bne_eq_false_iff_eq, gt_iff_lt, ge_iff_le, Int.not_lt, Int.not_le] at h2
      refine W.seq ?_
      refine W.to [(0, _), (4, _)] [] rfl ⟨(by exact sh_sc rfl), (by exact sh_sc rfl), trivial⟩ ?_
      refine W.region ?_
      refine WO.op rfl rfl rfl rfl (mv_sc rfl) ?_
      refine WO.op rfl rfl rfl rfl (step_andN (q := 65535) rfl rfl (by (simp only [cap]; omega)) (by (simp only [cap]; omega))) ?_
      refine WO.put 6 (.sc (.int .u64 ((y % 65536 : Nat) : Int))) (congrArg (fun z : Nat => AV.sc (.int .u64 (z : Int))) (and16 _)) ?_
      refine WO.op rfl rfl rfl rfl (mv_sc rfl) ?_
      refine WO.op rfl rfl rfl rfl (step_shrN (s := 16) rfl rfl (by (simp only [cap]; omega))) ?_
      refine WO.op rfl rfl rfl rfl (step_addN rfl rfl (by (simp only [cap]; omega))) ?_
      refine WO.op rfl rfl rfl rfl (as_sc rfl) ?_
      refine WO.nil ?_
      refine W.goto ?_
      exact ⟨y % 65536 + y / 65536, ⟨by rw [fo_step]; exact hy1, by omega⟩, rfl, (by omega), Le.eqs rfl ⟨rfl, trivial⟩⟩
    · try simp only [decide_eq_true_eq, decide_eq_false_iff_not, Bool.not_eq_true', Bool.not_eq_false', beq_iff_eq, bne_iff_ne, beq_eq_false_iff_ne, bne_eq_false_iff_eq, gt_iff_lt, ge_iff_le, Int.not_lt, Int.not_le] at h2
      refine W.skip ?_
      refine W.seq ?_
      refine W.to [(0, _), (4, _)] [] rfl ⟨(by exact sh_sc rfl), (by exact sh_sc rfl), trivial⟩ ?_
      refine W.region ?_
      refine WO.op rfl rfl rfl rfl (mv_sc rfl) ?_
      refine WO.op rfl rfl rfl rfl (step_convR Try.runUnderlying55 Try.runUnderlying37 rfl (by exact convN (by (simp only [cap]; omega)))) ?_
      refine WO.op rfl rfl rfl rfl (as_sc rfl) ?_
      refine WO.nil ?_
      refine W.ret ?_
      refine ⟨.inl rfl, ?_⟩
      rw [← hy1, fo_small (x := y) (by omega)]
      exact ret0 (Res.tmp rfl Res.nil) (.keep rfl)

theorem w_Sum {l : List UInt8} (hl : l.length ≤ 200000000000000) : Spec0 Try.prog 18 [.im 1 (l.map byteAV)] (.sc (.int .u16 ((fo (ws l l.length) : Nat) : Int))) := by
  refine Spec.body Try.func18 rfl (Nat.le_of_ble_eq_true rfl) ?_
  refine W.seq ?_
  refine W.region ?_
  refine WO.op rfl rfl rfl rfl (as_sc rfl) ?_
  refine WO.nil ?_
  refine W.seq ?_
  refine W.to [(0, _), (2, _)] [] rfl ⟨(by exact sh_im rfl), (by exact sh_sc rfl), trivial⟩ ?_
  refine W.region ?_
  refine WO.op rfl rfl rfl rfl (as_sc rfl) ?_
  refine WO.nil ?_
  refine W.seq ?_
  refine W.seq ?_
  refine W.to [(0, _), (2, _), (3, _)] [] rfl ⟨(by exact sh_im rfl), (by exact sh_sc rfl), (by exact sh_sc rfl), trivial⟩ ?_
  refine W.region ?_
  refine WO.op rfl rfl rfl rfl (mv_im rfl) ?_
  refine WO.op rfl rfl rfl rfl (step_lenB Try.runUnderlying23 rfl) ?_
  refine WO.op rfl rfl rfl rfl (mv_sc rfl) ?_
  refine WO.nil ?_
  refine W.block ?_
  refine W.loop (α := Nat) (fun i => ⟨tbl [(3, .sc (.int .u64 ((ws l i : Nat) : Int))), (6, .im 1 (l.map byteAV)), (7, .sc (.int .i64 ((l.length : Nat) : Int))), (8, .sc (.int .i64 ((i : Nat) : Int)))], []⟩) (fun i => i ≤ l.length) (fun i => l.length - i) (0) (Nat.zero_le _) (Le.eqs rfl ⟨rfl, rfl, rfl, rfl, trivial⟩) ?_
  intro i hi
  have hb := byte_le (l.getD i 0)
  have hw := ws_le l i
  refine W.seq ?_
  refine W.to [(3, _), (6, _), (7, _), (8, _)] [] rfl ⟨(by exact sh_sc rfl), (by exact sh_im rfl), (by exact sh_sc rfl), (by exact sh_sc rfl), trivial⟩ ?_
  refine W.region ?_
  refine WO.op rfl rfl rfl rfl (step_int2 rfl rfl rfl) ?_
  refine WO.nil ?_
  refine W.seq ?_
  refine W.cond rfl (fun h1 => ?_) (fun h1 => ?_)
  · try simp only [decide_eq_true_eq, decide_eq_false_iff_not, Bool.not_eq_true', Bool.not_eq_false', beq_iff_eq, bne_iff_ne, beq_eq_false_iff_ne, bne_eq_false_iff_eq, gt_iff_lt, ge_iff_le, Int.not_lt, Int.not_le] at h1
    refine W.skip ?_
    refine W.seq ?_
    refine W.block ?_
    refine W.seq ?_
    refine W.to [(3, _), (6, _), (7, _), (8, _), (9, _)] [] rfl ⟨(by exact sh_sc rfl), (by exact sh_im rfl), (by exact sh_sc rfl), (by exact sh_sc rfl), (by exact sh_sc rfl), trivial⟩ ?_
    refine W.region ?_
    refine WO.op rfl rfl rfl rfl (mv_sc rfl) ?_
    refine WO.op rfl rfl rfl rfl (step_idxB Try.runUnderlying23 Try.sizeOf5 rfl rfl (by (exact rfl)) (by omega)) ?_
    refine WO.op rfl rfl rfl rfl (step_loadB Try.isAgg5 rfl (by omega)) ?_
    refine WO.op rfl rfl rfl rfl (as_sc rfl) ?_
    refine WO.op rfl rfl rfl rfl (as_sc rfl) ?_
    refine WO.nil ?_
    refine W.seq ?_
    refine W.to [(3, _), (4, _), (5, _), (6, _), (7, _), (8, _), (9, _)] [] rfl ⟨(by exact sh_sc rfl), (by exact sh_sc rfl), (by exact sh_sc rfl), (by exact sh_im rfl), (by exact sh_sc rfl), (by exact sh_sc rfl), (by exact sh_sc rfl), trivial⟩ ?_
    refine W.region ?_
    refine WO.op rfl rfl rfl rfl (mv_sc rfl) ?_
    refine WO.op rfl rfl rfl rfl (step_remN (q := 2) rfl rfl (by omega)) ?_
    refine WO.op rfl rfl rfl rfl (step_int2 rfl rfl rfl) ?_
    refine WO.nil ?_
    refine W.cond rfl (fun h2 => ?_) (fun h2 => ?_)
    · try simp only [decide_eq_true_eq, decide_eq_false_iff_not, Bool.not_eq_true', Bool.not_eq_false', beq_iff_eq, bne_iff_ne, beq_eq_false_iff_ne, bne_eq_false_iff_eq, gt_iff_lt, ge_iff_le, Int.not_lt, Int.not_le] at h2
      refine W.to [(3, _), (4, _), (5, _), (6, _), (7, _), (8, _), (9, _), (15, _)] [] rfl ⟨(by exact sh_sc rfl), (by exact sh_sc rfl), (by exact sh_sc rfl), (by exact sh_im rfl), (by exact sh_sc rfl), (by exact sh_sc rfl), (by exact sh_sc rfl), (by exact sh_sc rfl), trivial⟩ ?_
      refine W.region ?_
      refine WO.op rfl rfl rfl rfl (mv_sc rfl) ?_
      refine WO.op rfl rfl rfl rfl (mv_sc rfl) ?_
      refine WO.op rfl rfl rfl rfl (step_convR Try.runUnderlying5 Try.runUnderlying55 rfl (by exact convN (by (simp only [cap]; omega)))) ?_
      refine WO.op rfl rfl rfl rfl (step_shlN (s := 8) rfl rfl (by decide) (by (simp only [cap]; omega))) ?_
      refine WO.op rfl rfl rfl rfl (step_addN rfl rfl (by (simp only [cap]; omega))) ?_
      refine WO.op rfl rfl rfl rfl (as_sc rfl) ?_
      refine WO.nil ?_
      refine W.to [(3, _), (4, _), (5, _), (6, _), (7, _), (8, _), (9, _), (15, _)] [] rfl ⟨(by exact sh_sc rfl), (by exact sh_sc rfl), (by exact sh_sc rfl), (by exact sh_im rfl), (by exact sh_sc rfl), (by exact sh_sc rfl), (by exact sh_sc rfl), (by exact sh_sc rfl), trivial⟩ ?_
      refine W.region ?_
      refine WO.op rfl rfl rfl rfl (step_addN (q := 1) rfl rfl (by (simp only [cap]; omega))) ?_
      refine WO.op rfl rfl rfl rfl (mv_sc rfl) ?_
      refine WO.nil ?_
      exact ⟨i + 1, (by omega), (by omega), Le.eqs rfl ⟨(by exact congrArg (fun z : Nat => AV.sc (.int .u64 (z : Int))) (ws_even (by omega)).symm), rfl, rfl, rfl, trivial⟩⟩
    · try simp only [decide_eq_true_eq, decide_eq_false_iff_not, Bool.not_eq_true', Bool.not_eq_false', beq_iff_eq, bne_iff_ne, beq_eq_false_iff_ne, bne_eq_false_iff_eq, gt_iff_lt, ge_iff_le, Int.not_lt, Int.not_le] at h2
      refine W.to [(3, _), (4, _), (5, _), (6, _), (7, _), (8, _), (9, _), (15, _)] [] rfl ⟨(by exact sh_sc rfl), (by exact sh_sc rfl), (by exact sh_sc rfl), (by exact sh_im rfl), (by exact sh_sc rfl), (by exact sh_sc rfl), (by exact sh_sc rfl), (by exact sh_sc rfl), trivial⟩ ?_
      refine W.region ?_
      refine WO.op rfl rfl rfl rfl (mv_sc rfl) ?_
      refine WO.op rfl rfl rfl rfl (mv_sc rfl) ?_
      refine WO.op rfl rfl rfl rfl (step_convR Try.runUnderlying5 Try.runUnderlying55 rfl (by exact convN (by (simp only [cap]; omega)))) ?_
      refine WO.op rfl rfl rfl rfl (step_addN rfl rfl (by (simp only [cap]; omega))) ?_
      refine WO.op rfl rfl rfl rfl (as_sc rfl) ?_
      refine WO.nil ?_
      refine W.to [(3, _), (4, _), (5, _), (6, _), (7, _), (8, _), (9, _), (15, _)] [] rfl ⟨(by exact sh_sc rfl), (by exact sh_sc rfl), (by exact sh_sc rfl), (by exact sh_im rfl), (by exact sh_sc rfl), (by exact sh_sc rfl), (by exact sh_sc rfl), (by exact sh_sc rfl), trivial⟩ ?_
      refine W.region ?_
      refine WO.op rfl rfl rfl rfl (step_addN (q := 1) rfl rfl (by (simp only [cap]; omega))) ?_
      refine WO.op rfl rfl rfl rfl (mv_sc rfl) ?_
      refine WO.nil ?_
      exact ⟨i + 1, (by omega), (by omega), Le.eqs rfl ⟨(by exact congrArg (fun z : Nat => AV.sc (.int .u64 (z : Int))) (ws_odd (by omega)).symm), rfl, rfl, rfl, trivial⟩⟩
  · try simp only [decide_eq_true_eq, decide_eq_false_iff_not, Bool.not_eq_true', Bool.not_eq_false', beq_iff_eq, bne_iff_ne, beq_eq_false_iff_ne, bne_eq_false_iff_eq, gt_iff_lt, ge_iff_le, Int.not_lt, Int.not_le] at h1
    have : i = l.length := by omega
    subst this
    refine W.exit ?_
    refine W.seq ?_
    refine W.to [(3, _), (6, _), (7, _), (8, _), (9, _)] [] rfl ⟨(by exact sh_sc rfl), (by exact sh_im rfl), (by exact sh_sc rfl), (by exact sh_sc rfl), (by exact sh_sc rfl), trivial⟩ ?_
    refine W.region ?_
    refine WO.op rfl rfl rfl rfl (mv_sc rfl) ?_
    refine WO.op rfl rfl rfl rfl (step_pure Try.call35 rfl (by (repeat (first | exact Nl.nil | refine Nl.keep (by rfl) ?_))) (w_fold (by omega)) (by repeat (rfl))) ?_
    refine WO.op rfl rfl rfl rfl (as_sc rfl) ?_
    refine WO.nil ?_
    refine W.ret ?_
    refine ⟨.inl rfl, ?_⟩
    exact ret0 (Res.tmp rfl Res.nil) (.keep rfl)

theorem w_Check {l : List UInt8} (hl : l.length ≤ 200000000000000) : Spec0 Try.prog 29 [.im 1 (l.map byteAV)] (.sc (.int .u16 ((65535 - fo (ws l l.length) : Nat) : Int))) := by
  refine Spec.body Try.func29 rfl (Nat.le_of_ble_eq_true rfl) ?_
  have hf := fo_le (ws l l.length)
  refine W.seq ?_
  refine W.region ?_
  refine WO.op rfl rfl rfl rfl (as_sc rfl) ?_
  refine WO.nil ?_
  refine W.seq ?_
  refine W.to [(0, _), (2, _)] [] rfl ⟨(by exact sh_im rfl), (by exact sh_sc rfl), trivial⟩ ?_
  refine W.region ?_
  refine WO.op rfl rfl rfl rfl (mv_im rfl) ?_
  refine WO.op rfl rfl rfl rfl (step_pure Try.call18 rfl (by (repeat (first | exact Nl.nil | refine Nl.keep (by exact noOwn_im) ?_))) (w_Sum hl) (by repeat (rfl))) ?_
  refine WO.op rfl rfl rfl rfl (step_not16 rfl (by omega)) ?_
  refine WO.op rfl rfl rfl rfl (as_sc rfl) ?_
  refine WO.nil ?_
  refine W.ret ?_
  refine ⟨.inl rfl, ?_⟩
  exact ret0 (Res.tmp rfl Res.nil) (.keep rfl)

theorem w_within {x y : Int} : Spec0 Try.prog 33 [.sc (.int .i64 x), .sc (.int .i64 y)] (.sc (.bool (decide (0 ≤ x ∧ x ≤ y)))) := by
  refine Spec.body Try.func33 rfl (Nat.le_of_ble_eq_true rfl) ?_
  refine W.seq ?_
  refine W.region ?_
  refine WO.op rfl rfl rfl rfl (as_sc rfl) ?_
  refine WO.nil ?_
  refine W.seq ?_
  refine W.to [(0, _), (1, _), (4, _)] [] rfl ⟨(by exact sh_sc rfl), (by exact sh_sc rfl), (by exact sh_sc rfl), trivial⟩ ?_
  refine W.region ?_
  refine WO.op rfl rfl rfl rfl (mv_sc rfl) ?_
  refine WO.op rfl rfl rfl rfl (step_int2 rfl rfl rfl) ?_
  refine WO.op rfl rfl rfl rfl (mv_sc rfl) ?_
  refine WO.spl 7 rfl (fun h1 => ?_) (fun h1 => ?_)
  · try simp only [decide_eq_true_eq, decide_eq_false_iff_not, Bool.not_eq_true', Bool.not_eq_false', beq_iff_eq, bne_iff_ne, beq_eq_false_iff_ne, bne_eq_false_iff_eq, gt_iff_lt, ge_iff_le, Int.not_lt, Int.not_le] at h1
    refine WO.op rfl rfl rfl rfl (mv_sc rfl) ?_
    refine WO.op rfl rfl rfl rfl (mv_sc rfl) ?_
    refine WO.op rfl rfl rfl rfl (step_int2 rfl rfl rfl) ?_
    refine WO.op rfl rfl rfl rfl (pk_t rfl rfl rfl) ?_
    refine WO.op rfl rfl rfl rfl (as_sc rfl) ?_
    refine WO.nil ?_
    refine W.ret ?_
    refine ⟨.inl rfl, ?_⟩
    rw [show decide (0 ≤ x ∧ x ≤ y) = decide (x ≤ y) from decide_eq_decide.2 ⟨fun h => h.2, fun h => ⟨by omega, h⟩⟩]
    exact ret0 (Res.tmp rfl Res.nil) (.keep rfl)
  · try simp only [decide_eq_true_eq, decide_eq_false_iff_not, Bool.not_eq_true', Bool.not_eq_false', beq_iff_eq, bne_iff_ne, beq_eq_false_iff_ne, bne_eq_false_iff_eq, gt_iff_lt, ge_iff_le, Int.not_lt, Int.not_le] at h1
    refine WO.sk rfl rfl rfl rfl ?_
    refine WO.sk rfl rfl rfl rfl ?_
    refine WO.sk rfl rfl rfl rfl ?_
    refine WO.op rfl rfl rfl rfl (pk_f rfl rfl rfl) ?_
    refine WO.op rfl rfl rfl rfl (as_sc rfl) ?_
    refine WO.nil ?_
    refine W.ret ?_
    refine ⟨.inl rfl, ?_⟩
    rw [show decide (0 ≤ x ∧ x ≤ y) = false from decide_eq_false (by omega)]
    exact ret0 (Res.tmp rfl Res.nil) (.keep rfl)

theorem w_Add {a b : Nat} (ha : a ≤ 65535) (hb : b ≤ 65535) : Spec0 Try.prog 24 [.sc (.int .u16 ((a : Nat) : Int)), .sc (.int .u16 ((b : Nat) : Int))] (.sc (.int .u16 ((fo (a + b) : Nat) : Int))) := by
  refine Spec.body Try.func24 rfl (Nat.le_of_ble_eq_true rfl) ?_
  have hf := fo_add2 ha hb
  refine W.seq ?_
  refine W.region ?_
  refine WO.op rfl rfl rfl rfl (as_sc rfl) ?_
  refine WO.nil ?_
  refine W.seq ?_
  refine W.to [(0, _), (1, _), (4, _)] [] rfl ⟨(by exact sh_sc rfl), (by exact sh_sc rfl), (by exact sh_sc rfl), trivial⟩ ?_
  refine W.region ?_
  refine WO.op rfl rfl rfl rfl (mv_sc rfl) ?_
  refine WO.op rfl rfl rfl rfl (step_convR Try.runUnderlying37 Try.runUnderlying22 rfl (by exact convN (by (simp only [cap]; omega)))) ?_
  refine WO.op rfl rfl rfl rfl (mv_sc rfl) ?_
  refine WO.op rfl rfl rfl rfl (step_convR Try.runUnderlying37 Try.runUnderlying22 rfl (by exact convN (by (simp only [cap]; omega)))) ?_
  refine WO.op rfl rfl rfl rfl (step_addN rfl rfl (by (simp only [cap]; omega))) ?_
  refine WO.op rfl rfl rfl rfl (as_sc rfl) ?_
  refine WO.nil ?_
  refine W.seq ?_
  refine W.seq ?_
  refine W.to [(0, _), (1, _), (4, _), (5, _)] [] rfl ⟨(by exact sh_sc rfl), (by exact sh_sc rfl), (by exact sh_sc rfl), (by exact sh_sc rfl), trivial⟩ ?_
  refine W.region ?_
  refine WO.op rfl rfl rfl rfl (mv_sc rfl) ?_
  refine WO.op rfl rfl rfl rfl (step_int2 rfl rfl rfl) ?_
  refine WO.nil ?_
  refine W.cond rfl (fun h1 => ?_) (fun h1 => ?_)
  · try simp only [decide_eq_true_eq, decide_eq_false_iff_not, Bool.not_eq_true', Bool.not_eq_false', beq_iff_eq, bne_iff_ne, beq_eq_false_iff_ne, bne_eq_false_iff_eq, gt_iff_lt, ge_iff_le, Int.not_lt, Int.not_le] at h1
    refine W.to [(0, _), (1, _), (4, _), (5, _), (12, _)] [] rfl ⟨(by exact sh_sc rfl), (by exact sh_sc rfl), (by exact sh_sc rfl), (by exact sh_sc rfl), (by exact sh_sc rfl), trivial⟩ ?_
    refine W.region ?_
    refine WO.op rfl rfl rfl rfl (mv_sc rfl) ?_
    refine WO.op rfl rfl rfl rfl (step_subN (q := 65535) rfl rfl (by omega) (by (simp only [cap]; omega))) ?_
    refine WO.op rfl rfl rfl rfl (as_sc rfl) ?_
    refine WO.nil ?_
    refine W.seq ?_
    refine W.to [(0, _), (1, _), (4, _), (5, _), (12, _)] [] rfl ⟨(by exact sh_sc rfl), (by exact sh_sc rfl), (by exact sh_sc rfl), (by exact sh_sc rfl), (by exact sh_sc rfl), trivial⟩ ?_
    refine W.region ?_
    refine WO.op rfl rfl rfl rfl (mv_sc rfl) ?_
    refine WO.op rfl rfl rfl rfl (step_convR Try.runUnderlying22 Try.runUnderlying37 rfl (by exact convN (by (simp only [cap]; omega)))) ?_
    refine WO.op rfl rfl rfl rfl (as_sc rfl) ?_
    refine WO.nil ?_
    refine W.ret ?_
    refine ⟨.inl rfl, ?_⟩
    (rw [hf.1 (by omega)]; exact ret0 (Res.tmp rfl Res.nil) (.keep rfl))
  · try simp only [decide_eq_true_eq, decide_eq_false_iff_not, Bool.not_eq_true', Bool.not_eq_false', beq_iff_eq, bne_iff_ne, beq_eq_false_iff_ne, bne_eq_false_iff_eq, gt_iff_lt, ge_iff_le, Int.not_lt, Int.not_le] at h1
    refine W.skip ?_
    refine W.seq ?_
    refine W.to [(0, _), (1, _), (4, _), (5, _), (12, _)] [] rfl ⟨(by exact sh_sc rfl), (by exact sh_sc rfl), (by exact sh_sc rfl), (by exact sh_sc rfl), (by exact sh_sc rfl), trivial⟩ ?_
    refine W.region ?_
    refine WO.op rfl rfl rfl rfl (mv_sc rfl) ?_
    refine WO.op rfl rfl rfl rfl (step_convR Try.runUnderlying22 Try.runUnderlying37 rfl (by exact convN (by (simp only [cap]; omega)))) ?_
    refine WO.op rfl rfl rfl rfl (as_sc rfl) ?_
    refine WO.nil ?_
    refine W.ret ?_
    refine ⟨.inl rfl, ?_⟩
    (rw [hf.2 (by omega)]; exact ret0 (Res.tmp rfl Res.nil) (.keep rfl))

theorem w_refSum {l : List UInt8} (hl : l.length ≤ 200000000000000) : Spec0 Try.prog 22 [.im 1 (l.map byteAV)] (.sc (.int .u16 ((fo (ws l l.length) : Nat) : Int))) := by
  refine Spec.body Try.func22 rfl (Nat.le_of_ble_eq_true rfl) ?_
  refine W.seq ?_
  refine W.region ?_
  refine WO.op rfl rfl rfl rfl (as_sc rfl) ?_
  refine WO.nil ?_
  refine W.seq ?_
  refine W.to [(0, _), (2, _)] [] rfl ⟨(by exact sh_im rfl), (by exact sh_sc rfl), trivial⟩ ?_
  refine W.region ?_
  refine WO.op rfl rfl rfl rfl (as_sc rfl) ?_
  refine WO.nil ?_
  refine W.seq ?_
  refine W.seq ?_
  refine W.to [(0, _), (2, _), (3, _)] [] rfl ⟨(by exact sh_im rfl), (by exact sh_sc rfl), (by exact sh_sc rfl), trivial⟩ ?_
  refine W.region ?_
  refine WO.op rfl rfl rfl rfl (as_sc rfl) ?_
  refine WO.nil ?_
  refine W.block ?_
  refine W.loop (α := Nat) (fun i => ⟨tbl [(0, .im 1 (l.map byteAV)), (3, .sc (.int .u16 ((fo (ws l (min (2 * i) l.length)) : Nat) : Int))), (4, .sc (.int .i64 ((2 * i : Nat) : Int)))], []⟩) (fun i => 2 * i ≤ l.length + 1) (fun i => l.length + 1 - 2 * i) (0) (Nat.zero_le _) (Le.eqs rfl ⟨rfl, rfl, rfl, trivial⟩) ?_
  intro i hi
  have hb := byte_le (l.getD (2 * i) 0)
  have hb1 := byte_le (l.getD (2 * i + 1) 0)
  have hf := fo_le (ws l (min (2 * i) l.length))
  refine W.seq ?_
  refine W.seq ?_
  refine W.to [(0, _), (3, _), (4, _)] [] rfl ⟨(by exact sh_im rfl), (by exact sh_sc rfl), (by exact sh_sc rfl), trivial⟩ ?_
  refine W.region ?_
  refine WO.op rfl rfl rfl rfl (mv_sc rfl) ?_
  refine WO.op rfl rfl rfl rfl (mv_im rfl) ?_
  refine WO.op rfl rfl rfl rfl (step_lenB Try.runUnderlying23 rfl) ?_
  refine WO.op rfl rfl rfl rfl (step_int2 rfl rfl rfl) ?_
  refine WO.nil ?_
  refine W.cond rfl (fun h1 => ?_) (fun h1 => ?_)
  · try simp only [decide_eq_true_eq, decide_eq_false_iff_not, Bool.not_eq_true', Bool.not_eq_false', beq_iff_eq, bne_iff_ne, beq_eq_false_iff_ne, bne_eq_false_iff_eq, gt_iff_lt, ge_iff_le, Int.not_lt, Int.not_le] at h1
    refine W.skip ?_
    refine W.seq ?_
    refine W.block ?_
    refine W.seq ?_
    refine W.to [(0, _), (3, _), (4, _), (9, _)] [] rfl ⟨(by exact sh_im rfl), (by exact sh_sc rfl), (by exact sh_sc rfl), (by exact sh_sc rfl), trivial⟩ ?_
    refine W.region ?_
    refine WO.op rfl rfl rfl rfl (mv_im rfl) ?_
    refine WO.op rfl rfl rfl rfl (mv_sc rfl) ?_
    refine WO.op rfl rfl rfl rfl (step_idxB Try.runUnderlying23 Try.sizeOf5 rfl rfl (by (exact rfl)) (by omega)) ?_
    refine WO.op rfl rfl rfl rfl (step_loadB Try.isAgg5 rfl (by omega)) ?_
    refine WO.op rfl rfl rfl rfl (step_convR Try.runUnderlying5 Try.runUnderlying37 rfl (by exact convN (by (simp only [cap]; omega)))) ?_
    refine WO.op rfl rfl rfl rfl (step_mulN (q := 256) rfl rfl (by (simp only [cap]; omega))) ?_
    refine WO.op rfl rfl rfl rfl (as_sc rfl) ?_
    refine WO.nil ?_
    refine W.seq ?_
    refine W.seq ?_
    refine W.to [(0, _), (3, _), (4, _), (5, _), (9, _)] [] rfl ⟨(by exact sh_im rfl), (by exact sh_sc rfl), (by exact sh_sc rfl), (by exact sh_sc rfl), (by exact sh_sc rfl), trivial⟩ ?_
    refine W.region ?_
    refine WO.op rfl rfl rfl rfl (mv_sc rfl) ?_
    refine WO.op rfl rfl rfl rfl (step_addN (q := 1) rfl rfl (by (simp only [cap]; omega))) ?_
    refine WO.op rfl rfl rfl rfl (mv_im rfl) ?_
    refine WO.op rfl rfl rfl rfl (step_lenB Try.runUnderlying23 rfl) ?_
    refine WO.op rfl rfl rfl rfl (step_int2 rfl rfl rfl) ?_
    refine WO.nil ?_
    refine W.cond rfl (fun h2 => ?_) (fun h2 => ?_)
    · try simp only [decide_eq_true_eq, decide_eq_false_iff_not, Bool.not_eq_true', Bool.not_eq_false', beq_iff_eq, bne_iff_ne, beq_eq_false_iff_ne, bne_eq_false_iff_eq, gt_iff_lt, ge_iff_le, Int.not_lt, Int.not_le] at h2
      refine W.to [(0, _), (3, _), (4, _), (5, _), (9, _), (22, _)] [] rfl ⟨(by exact sh_im rfl), (by exact sh_sc rfl), (by exact sh_sc rfl), (by exact sh_sc rfl), (by exact sh_sc rfl), (by exact sh_sc rfl), trivial⟩ ?_
      refine W.region ?_
      refine WO.op rfl rfl rfl rfl (mv_sc rfl) ?_
      refine WO.op rfl rfl rfl rfl (mv_im rfl) ?_
      refine WO.op rfl rfl rfl rfl (mv_sc rfl) ?_
      refine WO.op rfl rfl rfl rfl (step_addN (q := 1) rfl rfl (by (simp only [cap]; omega))) ?_
      refine WO.op rfl rfl rfl rfl (step_idxB Try.runUnderlying23 Try.sizeOf5 rfl rfl (by (exact rfl)) (by omega)) ?_
      refine WO.op rfl rfl rfl rfl (step_loadB Try.isAgg5 rfl (by omega)) ?_
      refine WO.op rfl rfl rfl rfl (step_convR Try.runUnderlying5 Try.runUnderlying37 rfl (by exact convN (by (simp only [cap]; omega)))) ?_
      refine WO.op rfl rfl rfl rfl (step_addN rfl rfl (by (simp only [cap]; omega))) ?_
      refine WO.op rfl rfl rfl rfl (as_sc rfl) ?_
      refine WO.nil ?_
      refine W.to [(0, _), (3, _), (4, _), (5, _), (9, _), (22, _)] [] rfl ⟨(by exact sh_im rfl), (by exact sh_sc rfl), (by exact sh_sc rfl), (by exact sh_sc rfl), (by exact sh_sc rfl), (by exact sh_sc rfl), trivial⟩ ?_
      refine W.region ?_
      refine WO.op rfl rfl rfl rfl (mv_sc rfl) ?_
      refine WO.op rfl rfl rfl rfl (mv_sc rfl) ?_
      refine WO.op rfl rfl rfl rfl (step_pure Try.call24 rfl (by (repeat (first | exact Nl.nil | refine Nl.keep (by rfl) ?_))) (w_Add (by omega) (by omega)) (by repeat (rfl))) ?_
      refine WO.op rfl rfl rfl rfl (as_sc rfl) ?_
      refine WO.nil ?_
      refine W.to [(0, _), (3, _), (4, _), (5, _), (9, _), (22, _)] [] rfl ⟨(by exact sh_im rfl), (by exact sh_sc rfl), (by exact sh_sc rfl), (by exact sh_sc rfl), (by exact sh_sc rfl), (by exact sh_sc rfl), trivial⟩ ?_
      refine W.region ?_
      refine WO.op rfl rfl rfl rfl (mv_sc rfl) ?_
      refine WO.op rfl rfl rfl rfl (step_addN (q := 2) rfl rfl (by (simp only [cap]; omega))) ?_
      refine WO.op rfl rfl rfl rfl (as_sc rfl) ?_
      refine WO.nil ?_
      exact ⟨i + 1, (by omega), (by omega), Le.eqs rfl ⟨rfl, (by exact congrArg (fun z : Nat => AV.sc (.int .u16 (z : Int))) (ws_two (by omega)).symm), rfl, trivial⟩⟩
    · try simp only [decide_eq_true_eq, decide_eq_false_iff_not, Bool.not_eq_true', Bool.not_eq_false', beq_iff_eq, bne_iff_ne, beq_eq_false_iff_ne, bne_eq_false_iff_eq, gt_iff_lt, ge_iff_le, Int.not_lt, Int.not_le] at h2
      refine W.skip ?_
      refine W.to [(0, _), (3, _), (4, _), (5, _), (9, _), (22, _)] [] rfl ⟨(by exact sh_im rfl), (by exact sh_sc rfl), (by exact sh_sc rfl), (by exact sh_sc rfl), (by exact sh_sc rfl), (by exact sh_sc rfl), trivial⟩ ?_
      refine W.region ?_
      refine WO.op rfl rfl rfl rfl (mv_sc rfl) ?_
      refine WO.op rfl rfl rfl rfl (mv_sc rfl) ?_
      refine WO.op rfl rfl rfl rfl (step_pure Try.call24 rfl (by (repeat (first | exact Nl.nil | refine Nl.keep (by rfl) ?_))) (w_Add (by omega) (by omega)) (by repeat (rfl))) ?_
      refine WO.op rfl rfl rfl rfl (as_sc rfl) ?_
      refine WO.nil ?_
      refine W.to [(0, _), (3, _), (4, _), (5, _), (9, _), (22, _)] [] rfl ⟨(by exact sh_im rfl), (by exact sh_sc rfl), (by exact sh_sc rfl), (by exact sh_sc rfl), (by exact sh_sc rfl), (by exact sh_sc rfl), trivial⟩ ?_
      refine W.region ?_
      refine WO.op rfl rfl rfl rfl (mv_sc rfl) ?_
      refine WO.op rfl rfl rfl rfl (step_addN (q := 2) rfl rfl (by (simp only [cap]; omega))) ?_
      refine WO.op rfl rfl rfl rfl (as_sc rfl) ?_
      refine WO.nil ?_
      exact ⟨i + 1, (by omega), (by omega), Le.eqs rfl ⟨rfl, (by exact congrArg (fun z : Nat => AV.sc (.int .u16 (z : Int))) (ws_last (by omega) (by omega)).symm), rfl, trivial⟩⟩
  · try simp only [decide_eq_true_eq, decide_eq_false_iff_not, Bool.not_eq_true', Bool.not_eq_false', beq_iff_eq, bne_iff_ne, beq_eq_false_iff_ne, bne_eq_false_iff_eq, gt_iff_lt, ge_iff_le, Int.not_lt, Int.not_le] at h1
    have hm : min (2 * i) l.length = l.length := by omega
    rw [hm]
    refine W.exit ?_
    refine W.seq ?_
    refine W.to [(0, _), (3, _), (4, _), (9, _)] [] rfl ⟨(by exact sh_im rfl), (by exact sh_sc rfl), (by exact sh_sc rfl), (by exact sh_sc rfl), trivial⟩ ?_
    refine W.region ?_
    refine WO.op rfl rfl rfl rfl (mv_sc rfl) ?_
    refine WO.op rfl rfl rfl rfl (as_sc rfl) ?_
    refine WO.nil ?_
    refine W.ret ?_
    refine ⟨.inl rfl, ?_⟩
    exact ret0 (Res.tmp rfl Res.nil) (.keep rfl)

theorem w_refCheck {l : List UInt8} (hl : l.length ≤ 200000000000000) : Spec0 Try.prog 31 [.im 1 (l.map byteAV)] (.sc (.int .u16 ((65535 - fo (ws l l.length) : Nat) : Int))) := by
  refine Spec.body Try.func31 rfl (Nat.le_of_ble_eq_true rfl) ?_
  have hf := fo_le (ws l l.length)
  refine W.seq ?_
  refine W.region ?_
  refine WO.op rfl rfl rfl rfl (as_sc rfl) ?_
  refine WO.nil ?_
  refine W.seq ?_
  refine W.to [(0, _), (2, _)] [] rfl ⟨(by exact sh_im rfl), (by exact sh_sc rfl), trivial⟩ ?_
  refine W.region ?_
  refine WO.op rfl rfl rfl rfl (mv_im rfl) ?_
  refine WO.op rfl rfl rfl rfl (step_pure Try.call22 rfl (by (repeat (first | exact Nl.nil | refine Nl.keep (by exact noOwn_im) ?_))) (w_refSum hl) (by repeat (rfl))) ?_
  refine WO.op rfl rfl rfl rfl (step_subN (p := 65535) rfl rfl (by omega) (by (simp only [cap]; omega))) ?_
  refine WO.op rfl rfl rfl rfl (as_sc rfl) ?_
  refine WO.nil ?_
  refine W.ret ?_
  refine ⟨.inl rfl, ?_⟩
  exact ret0 (Res.tmp rfl Res.nil) (.keep rfl)

theorem w_Num {l : List UInt8} (hl : l.length ≤ 4611686018427387904) : Spec0 Try.prog 37 [.im 1 (l.map byteAV)] (.sc (.int .u64 ((be l % 18446744073709551616 : Nat) : Int))) := by
  refine Spec.body Try.func37 rfl (Nat.le_of_ble_eq_true rfl) ?_
  refine W.seq ?_
  refine W.region ?_
  refine WO.op rfl rfl rfl rfl (as_sc rfl) ?_
  refine WO.nil ?_
  refine W.seq ?_
  refine W.to [(0, _), (2, _)] [] rfl ⟨(by exact sh_im rfl), (by exact sh_sc rfl), trivial⟩ ?_
  refine W.region ?_
  refine WO.op rfl rfl rfl rfl (as_sc rfl) ?_
  refine WO.nil ?_
  refine W.seq ?_
  refine W.seq ?_
  refine W.to [(0, _), (2, _), (3, _)] [] rfl ⟨(by exact sh_im rfl), (by exact sh_sc rfl), (by exact sh_sc rfl), trivial⟩ ?_
  refine W.region ?_
  refine WO.op rfl rfl rfl rfl (as_sc rfl) ?_
  refine WO.nil ?_
  refine W.block ?_
  refine W.loop (α := Nat) (fun i => ⟨tbl [(0, .im 1 (l.map byteAV)), (3, .sc (.int .u64 ((be (l.take i) % 18446744073709551616 : Nat) : Int))), (4, .sc (.int .i64 ((i : Nat) : Int)))], []⟩) (fun i => i ≤ l.length) (fun i => l.length - i) (0) (Nat.zero_le _) (Le.eqs rfl ⟨rfl, rfl, rfl, trivial⟩) ?_
  intro i hi
  have hb := byte_le (l.getD i 0)
  refine W.seq ?_
  refine W.seq ?_
  refine W.to [(0, _), (3, _), (4, _)] [] rfl ⟨(by exact sh_im rfl), (by exact sh_sc rfl), (by exact sh_sc rfl), trivial⟩ ?_
  refine W.region ?_
  refine WO.op rfl rfl rfl rfl (mv_sc rfl) ?_
  refine WO.op rfl rfl rfl rfl (mv_im rfl) ?_
  refine WO.op rfl rfl rfl rfl (step_lenB Try.runUnderlying23 rfl) ?_
  refine WO.op rfl rfl rfl rfl (step_int2 rfl rfl rfl) ?_
  refine WO.nil ?_
  refine W.cond rfl (fun h1 => ?_) (fun h1 => ?_)
  · try simp only [decide_eq_true_eq, decide_eq_false_iff_not, Bool.not_eq_true', Bool.not_eq_false', beq_iff_eq, bne_iff_ne, beq_eq_false_iff_ne, bne_eq_false_iff_eq, gt_iff_lt, ge_iff_le, Int.not_lt, Int.not_le] at h1
    refine W.skip ?_
    refine W.seq ?_
    refine W.block ?_
    refine W.to [(0, _), (3, _), (4, _), (8, _)] [] rfl ⟨(by exact sh_im rfl), (by exact sh_sc rfl), (by exact sh_sc rfl), (by exact sh_sc rfl), trivial⟩ ?_
    refine W.region ?_
    refine WO.op rfl rfl rfl rfl (mv_sc rfl) ?_
    refine WO.op rfl rfl rfl rfl (step_mulM (q := 256) rfl rfl (by exact modN64 _)) ?_
    refine WO.op rfl rfl rfl rfl (mv_im rfl) ?_
    refine WO.op rfl rfl rfl rfl (mv_sc rfl) ?_
    refine WO.op rfl rfl rfl rfl (step_idxB Try.runUnderlying23 Try.sizeOf5 rfl rfl (by (exact rfl)) (by omega)) ?_
    refine WO.op rfl rfl rfl rfl (step_loadB Try.isAgg5 rfl (by omega)) ?_
    refine WO.op rfl rfl rfl rfl (step_convR Try.runUnderlying5 Try.runUnderlying55 rfl (by exact convN (by (simp only [cap]; omega)))) ?_
    refine WO.op rfl rfl rfl rfl (step_addN rfl rfl (by (simp only [cap]; omega))) ?_
    refine WO.op rfl rfl rfl rfl (as_sc rfl) ?_
    refine WO.nil ?_
    refine W.to [(0, _), (3, _), (4, _), (8, _)] [] rfl ⟨(by exact sh_im rfl), (by exact sh_sc rfl), (by exact sh_sc rfl), (by exact sh_sc rfl), trivial⟩ ?_
    refine W.region ?_
    refine WO.op rfl rfl rfl rfl (mv_sc rfl) ?_
    refine WO.op rfl rfl rfl rfl (step_addN (q := 1) rfl rfl (by (simp only [cap]; omega))) ?_
    refine WO.op rfl rfl rfl rfl (as_sc rfl) ?_
    refine WO.nil ?_
    exact ⟨i + 1, (by omega), (by omega), Le.eqs rfl ⟨rfl, congrArg (fun z : Nat => AV.sc (.int .u64 (z : Int))) (be_next (l := l) (i := i) (by omega)).symm, rfl, trivial⟩⟩
  · try simp only [decide_eq_true_eq, decide_eq_false_iff_not, Bool.not_eq_true', Bool.not_eq_false', beq_iff_eq, bne_iff_ne, beq_eq_false_iff_ne, bne_eq_false_iff_eq, gt_iff_lt, ge_iff_le, Int.not_lt, Int.not_le] at h1
    have : i = l.length := by omega
    subst this
    rw [List.take_length]
    refine W.exit ?_
    refine W.seq ?_
    refine W.to [(0, _), (3, _), (4, _), (8, _)] [] rfl ⟨(by exact sh_im rfl), (by exact sh_sc rfl), (by exact sh_sc rfl), (by exact sh_sc rfl), trivial⟩ ?_
    refine W.region ?_
    refine WO.op rfl rfl rfl rfl (mv_sc rfl) ?_
    refine WO.op rfl rfl rfl rfl (as_sc rfl) ?_
    refine WO.nil ?_
    refine W.ret ?_
    refine ⟨.inl rfl, ?_⟩
    exact ret0 (Res.tmp rfl Res.nil) (.keep rfl)


def byteOf (x s : Nat) : UInt8 := UInt8.ofNat (x / 2 ^ s)
/-- What put leaves after i rounds. -/
def putN (l : List UInt8) (off len x : Nat) : Nat → List UInt8
  | 0 => l
  | i + 1 => (putN l off len x i).set (off + (len - 1 - i)) (byteOf x (8 * i))
theorem putN_len (l : List UInt8) (off len x i : Nat) : (putN l off len x i).length = l.length := by
  induction i with
  | zero => rfl
  | succ i ih => simp [putN, ih]
/-- What Bytes leaves after i rounds. -/
def bysN (n x : Nat) : Nat → List UInt8
  | 0 => List.replicate n 0
  | i + 1 => (bysN n x i).set (n - 1 - i) (byteOf x (8 * i))
theorem bysN_len (n x i : Nat) : (bysN n x i).length = n := by
  induction i with
  | zero => simp [bysN]
  | succ i ih => simp [bysN, ih]


theorem byteOf_div {x k : Nat} : x / 2 ^ (8 * k) / 256 = x / 2 ^ (8 * (k + 1)) := by
  rw [Nat.div_div_eq_div_mul, Nat.mul_add, Nat.pow_add]

theorem w_Bytes {x n : Nat} (hx : x < 18446744073709551616) (hn : n ≤ 65536) : Spec0 Try.prog 30 [.sc (.int .u64 ((x : Nat) : Int)), .sc (.int .i64 ((n : Nat) : Int))] (.im 1 ((bysN n x n).map byteAV)) := by
  refine Spec.body Try.func30 rfl (Nat.le_of_ble_eq_true rfl) ?_
  refine W.seq ?_
  refine W.region ?_
  refine WO.op rfl rfl rfl rfl (as_nil rfl) ?_
  refine WO.nil ?_
  refine W.seq ?_
  refine W.to [(0, _), (1, _), (4, _)] [] rfl ⟨(by exact sh_sc rfl), (by exact sh_sc rfl), (by exact sh_nil rfl), trivial⟩ ?_
  refine W.region ?_
  refine WO.op rfl rfl rfl rfl (mv_sc rfl) ?_
  refine WO.op rfl rfl rfl rfl (step_makeB Try.runUnderlying23 (EI.mk (by kernel_rfl)) rfl rfl (by (exact rfl)) (by (exact rfl)) (by omega)) ?_
  refine WO.put 8 (.sl 0 0 _) rfl ?_
  refine WO.op rfl rfl rfl rfl (as_sl rfl) ?_
  refine WO.nil ?_
  refine W.seq ?_
  refine W.seq ?_
  refine W.to [(0, _), (1, _), (4, _), (5, _)] [_] rfl ⟨(by exact sh_sc rfl), (by exact sh_sc rfl), (by exact sh_nil rfl), (by exact sh_sl rfl), trivial⟩ ?_
  refine W.region ?_
  refine WO.op rfl rfl rfl rfl (mv_sc rfl) ?_
  refine WO.op rfl rfl rfl rfl (step_int2 rfl rfl (int2_sub (by exact IntWalk.i64_in _ (by omega)))) ?_
  refine WO.op rfl rfl rfl rfl (as_sc rfl) ?_
  refine WO.nil ?_
  refine W.block ?_
  refine W.loop (α := Nat) (fun k => ⟨tbl [(0, .sc (.int .u64 ((x / 2 ^ (8 * k) : Nat) : Int))), (5, .sl 0 0 n), (6, .sc (.int .i64 ((n : Int) - 1 - (k : Int))))], [.row 1 ((bysN n x k).map byteAV)]⟩) (fun k => k ≤ n) (fun k => n - k) (0) (Nat.zero_le _) (Le.eqs rfl ⟨congrArg (fun z : Nat => AV.sc (.int .u64 (z : Int))) (by simp), rfl, congrArg (fun z : Int => AV.sc (.int .i64 z)) (by omega), trivial⟩) ?_
  intro k hk
  have hb := bysN_len n x k
  have hx' : x / 2 ^ (8 * k) < 18446744073709551616 := Nat.lt_of_le_of_lt (Nat.div_le_self _ _) hx
  refine W.seq ?_
  refine W.seq ?_
  refine W.to [(0, _), (5, _), (6, _)] [_] rfl ⟨(by exact sh_sc rfl), (by exact sh_sl rfl), (by exact sh_sc rfl), trivial⟩ ?_
  refine W.region ?_
  refine WO.op rfl rfl rfl rfl (mv_sc rfl) ?_
  refine WO.op rfl rfl rfl rfl (step_int2 rfl rfl rfl) ?_
  refine WO.nil ?_
  refine W.cond rfl (fun h1 => ?_) (fun h1 => ?_)
  · try simp only [decide_eq_true_eq, decide_eq_false_iff_not, Bool.not_eq_true', Bool.not_eq_false', beq_iff_eq, bne_iff_ne, beq_eq_false_iff_ne, bne_eq_false_iff_eq, gt_iff_lt, ge_iff_le, Int.not_lt, Int.not_le] at h1
    refine W.skip ?_
    refine W.seq ?_
    refine W.block ?_
    refine W.seq ?_
    refine W.to [(0, _), (5, _), (6, _), (12, _)] [_] rfl ⟨(by exact sh_sc rfl), (by exact sh_sl rfl), (by exact sh_sc rfl), (by exact sh_sc rfl), trivial⟩ ?_
    refine W.region ?_
    refine WO.op rfl rfl rfl rfl (mv_sl rfl) ?_
    refine WO.op rfl rfl rfl rfl (mv_sc rfl) ?_
    refine WO.op rfl rfl rfl rfl (mv_sc rfl) ?_
    refine WO.op rfl rfl rfl rfl (step_remN (q := 256) rfl rfl (by omega)) ?_
    refine WO.op rfl rfl rfl rfl (step_convR Try.runUnderlying55 Try.runUnderlying5 rfl (by exact convN (by (simp only [cap]; omega)))) ?_
    refine WO.op rfl rfl rfl rfl (step_idxO (j := n - 1 - k) (m := n - 1 - k) Try.runUnderlying23 Try.sizeOf5 rfl rfl rfl (by omega) (by omega) (Nat.zero_add _)) ?_
    refine WO.op0 rfl rfl rfl (step_storeB (b := _) Try.sizeOf5 rfl rfl rfl (by (exact u8_mod _)) (by omega)) ?_
    refine WO.nil ?_
    refine W.to [(0, _), (5, _), (6, _), (12, _)] [_] rfl ⟨(by exact sh_sc rfl), (by exact sh_sl rfl), (by exact sh_sc rfl), (by exact sh_sc rfl), trivial⟩ ?_
    refine W.region ?_
    refine WO.op rfl rfl rfl rfl (mv_sc rfl) ?_
    refine WO.op rfl rfl rfl rfl (step_quoN (q := 256) rfl rfl (by omega) (by (simp only [cap]; omega))) ?_
    refine WO.op rfl rfl rfl rfl (as_sc rfl) ?_
    refine WO.nil ?_
    refine W.to [(0, _), (5, _), (6, _), (12, _)] [_] rfl ⟨(by exact sh_sc rfl), (by exact sh_sl rfl), (by exact sh_sc rfl), (by exact sh_sc rfl), trivial⟩ ?_
    refine W.region ?_
    refine WO.op rfl rfl rfl rfl (mv_sc rfl) ?_
    refine WO.op rfl rfl rfl rfl (step_int2 rfl rfl (int2_sub (by exact IntWalk.i64_in _ (by omega)))) ?_
    refine WO.op rfl rfl rfl rfl (as_sc rfl) ?_
    refine WO.nil ?_
    exact ⟨k + 1, (by omega), (by omega), Le.eqs rfl ⟨congrArg (fun z : Nat => AV.sc (.int .u64 (z : Int))) byteOf_div, rfl, congrArg (fun z : Int => AV.sc (.int .i64 z)) (by omega), trivial⟩⟩
  · try simp only [decide_eq_true_eq, decide_eq_false_iff_not, Bool.not_eq_true', Bool.not_eq_false', beq_iff_eq, bne_iff_ne, beq_eq_false_iff_ne, bne_eq_false_iff_eq, gt_iff_lt, ge_iff_le, Int.not_lt, Int.not_le] at h1
    have : k = n := by omega
    subst this
    refine W.exit ?_
    refine W.seq ?_
    refine W.to [(0, _), (5, _), (6, _), (12, _)] [_] rfl ⟨(by exact sh_sc rfl), (by exact sh_sl rfl), (by exact sh_sc rfl), (by exact sh_sc rfl), trivial⟩ ?_
    refine W.region ?_
    refine WO.op rfl rfl rfl rfl (mv_sl rfl) ?_
    refine WO.op rfl rfl rfl rfl (as_sl rfl) ?_
    refine WO.nil ?_
    refine W.ret ?_
    refine ⟨.inl rfl, ?_⟩
    exact ret0 (Res.tmp rfl Res.nil) (Fz.bytes rfl (Nat.zero_le _) (take_whole (by rw [bysN_len]; omega)) (by rw [List.length_map, bysN_len]; omega))

end Go.Proofs.Ytdmlkcphlidcfaa
