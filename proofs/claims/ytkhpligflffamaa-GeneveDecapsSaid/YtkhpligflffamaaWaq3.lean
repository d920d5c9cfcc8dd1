/-
  Contracts of the small functions on bytes: each theorem says what a call answers, for all arguments that its hypotheses let in.
-/
import Derived.Test.YtkhpligflffamaaX0q3
set_option linter.unusedVariables false
set_option linter.unusedSimpArgs false
set_option maxRecDepth 100000
set_option maxHeartbeats 1000000
namespace Go.Proofs.Ytkhpligflffamaa
open Go Go.SL Go.Proofs

/-- A number of bytes, the highest first. -/
def be (l : List UInt8) : Nat := l.foldl (fun x c => x * 256 + c.toNat) 0
theorem be_snoc {l : List UInt8} {i : Nat} (h : i < l.length) : be (l.take (i + 1)) = be (l.take i) * 256 + (l.getD i 0).toNat := by
  unfold be
  rw [List.take_succ_eq_append_getElem h, List.foldl_append]
  simp [List.getD, h]
theorem or_byte {x : Nat} {c : UInt8} : (x % 4294967296 * 2 ^ 8) % 4294967296 ||| c.toNat = (x * 256 + c.toNat) % 4294967296 := by
  have h := byte_le c
  have h1 : (x % 4294967296 * 2 ^ 8) % 4294967296 = 2 ^ 8 * (x % 16777216) := by omega
  rw [h1, ← Nat.two_pow_add_eq_or_of_lt (by omega)]
  omega

/-- One's complement: what goes beyond a word is added again. -/
def fo (x : Nat) : Nat := if x = 0 then 0 else (x - 1) % 65535 + 1
theorem fo_small {x : Nat} (h : x ≤ 65535) : fo x = x := by unfold fo; split <;> omega
theorem fo_step {x : Nat} : fo (x % 65536 + x / 65536) = fo x := by
  unfold fo
  split <;> split <;> omega
theorem fo_le (x : Nat) : fo x ≤ 65535 := by unfold fo; split <;> omega
theorem fo_add (x y : Nat) : fo (fo x + y) = fo (x + y) := by unfold fo; split <;> split <;> split <;> omega
theorem and16 (x : Nat) : x &&& 65535 = x % 65536 := Nat.and_two_pow_sub_one_eq_mod x 16

/-- The words' sum up to place i. -/
def ws (l : List UInt8) : Nat → Nat
  | 0 => 0
  | i + 1 => ws l i + (if i % 2 = 0 then (l.getD i 0).toNat * 256 else (l.getD i 0).toNat)
theorem ws_even {l : List UInt8} {i : Nat} (h : i % 2 = 0) : ws l (i + 1) = ws l i + (l.getD i 0).toNat * 2 ^ 8 := by simp only [ws]; rw [if_pos h]
theorem ws_odd {l : List UInt8} {i : Nat} (h : i % 2 ≠ 0) : ws l (i + 1) = ws l i + (l.getD i 0).toNat := by simp only [ws]; rw [if_neg h]
theorem ws_le (l : List UInt8) (i : Nat) : ws l i ≤ i * 65280 := by
  induction i with
  | zero => exact Nat.zero_le _
  | succ i ih => simp only [ws]; have := byte_le (l.getD i 0); split <;> omega


theorem fo_add2 {a b : Nat} (ha : a ≤ 65535) (hb : b ≤ 65535) : (65536 ≤ a + b → fo (a + b) = a + b - 65535) ∧ (a + b < 65536 → fo (a + b) = a + b) := by
  unfold fo
  constructor <;> intro h <;> split <;> omega
theorem ws_two {l : List UInt8} {i : Nat} (h : 2 * i + 1 < l.length) : fo (ws l (min (2 * (i + 1)) l.length)) = fo (fo (ws l (min (2 * i) l.length)) + ((l.getD (2 * i) 0).toNat * 256 + (l.getD (2 * i + 1) 0).toNat)) := by
  rw [fo_add, Nat.min_eq_left (by omega), Nat.min_eq_left (by omega)]
  have e : 2 * (i + 1) = 2 * i + 1 + 1 := by omega
  rw [e]
  simp only [ws]
  rw [if_pos (by omega), if_neg (by omega)]
  congr 1; omega
theorem ws_last {l : List UInt8} {i : Nat} (h : 2 * i < l.length) (h2 : l.length ≤ 2 * i + 1) : fo (ws l (min (2 * (i + 1)) l.length)) = fo (fo (ws l (min (2 * i) l.length)) + (l.getD (2 * i) 0).toNat * 256) := by
  rw [fo_add, Nat.min_eq_right (by omega), Nat.min_eq_left (by omega)]
  have e : l.length = 2 * i + 1 := by omega
  rw [e]
  simp only [ws]
  rw [if_pos (by omega)]
theorem be_next {l : List UInt8} {i : Nat} (h : i < l.length) : be (l.take (i + 1)) % 18446744073709551616 = be (l.take i) % 18446744073709551616 * 256 % 18446744073709551616 + (l.getD i 0).toNat := by
  have hb := byte_le (l.getD i 0); rw [be_snoc h]; omega

theorem w_get {l : List UInt8} (hl : l.length ≤ 4611686018427387904) : Spec0 Try.prog 48 [.im 1 (l.map byteAV)] (.sc (.int .u32 ((be l % 4294967296 : Nat) : Int))) := by
  refine Spec.body Try.func48 rfl (Nat.le_of_ble_eq_true rfl) ?_
  refine W.seq ?_
  refine W.region ?_
  refine WO.op rfl rfl rfl rfl (as_sc rfl) ?_
  refine WO.nil ?_
  refine W.seq ?_
  refine W.to [(0, _), (2, _)] [] rfl ⟨(by exact sh_im rfl), (by exact sh_sc rfl), trivial⟩ ?_
  refine W.region ?_
  refine WO.op rfl rfl rfl rfl (as_sc rfl) ?_
  refine WO.nil ?_
  refine W.seq ?_
  refine W.seq ?_
  refine W.to [(0, _), (2, _), (3, _)] [] rfl ⟨(by exact sh_im rfl), (by exact sh_sc rfl), (by exact sh_sc rfl), trivial⟩ ?_
  refine W.region ?_
  refine WO.op rfl rfl rfl rfl (mv_im rfl) ?_
  refine WO.op rfl rfl rfl rfl (step_lenB Try.runUnderlying26 rfl) ?_
  refine WO.op rfl rfl rfl rfl (mv_sc rfl) ?_
  refine WO.nil ?_
  refine W.block ?_
  refine W.loop (α := Nat) (fun i => ⟨tbl [(3, .sc (.int .u32 ((be (l.take i) % 4294967296 : Nat) : Int))), (6, .im 1 (l.map byteAV)), (7, .sc (.int .i64 ((l.length : Nat) : Int))), (8, .sc (.int .i64 ((i : Nat) : Int)))], []⟩) (fun i => i ≤ l.length) (fun i => l.length - i) (0) (Nat.zero_le _) (Le.eqs rfl ⟨rfl, rfl, rfl, rfl, trivial⟩) ?_
  intro i hi
  have hb := byte_le (l.getD i 0)
  refine W.seq ?_
  refine W.to [(3, _), (6, _), (7, _), (8, _)] [] rfl ⟨(by exact sh_sc rfl), (by exact sh_im rfl), (by exact sh_sc rfl), (by exact sh_sc rfl), trivial⟩ ?_
  refine W.region ?_
  refine WO.op rfl rfl rfl rfl (step_int2 rfl rfl rfl) ?_
  refine WO.nil ?_
  refine W.seq ?_
  refine W.cond rfl (fun h1 => ?_) (fun h1 => ?_)
  · try simp only [decide_eq_true_eq, decide_eq_false_iff_not, Bool.not_eq_true', Bool.not_eq_false', beq_iff_eq, bne_iff_ne, beq_eq_false_iff_ne, bne_eq_false_iff_eq, gt_iff_lt, ge_iff_le, Int.not_lt, Int.not_le] at h1
    refine W.skip ?_
    refine W.seq ?_
    refine W.block ?_
    refine W.seq ?_
    refine W.to [(3, _), (6, _), (7, _), (8, _), (9, _)] [] rfl ⟨(by exact sh_sc rfl), (by exact sh_im rfl), (by exact sh_sc rfl), (by exact sh_sc rfl), (by exact sh_sc rfl), trivial⟩ ?_
    refine W.region ?_
    refine WO.op rfl rfl rfl rfl (step_idxB Try.runUnderlying26 Try.sizeOf5 rfl rfl (by (exact rfl)) (by omega)) ?_
    refine WO.op rfl rfl rfl rfl (step_loadB Try.isAgg5 rfl (by omega)) ?_
    refine WO.op rfl rfl rfl rfl (as_sc rfl) ?_
    refine WO.nil ?_
    refine W.to [(3, _), (5, _), (6, _), (7, _), (8, _), (9, _)] [] rfl ⟨(by exact sh_sc rfl), (by exact sh_sc rfl), (by exact sh_im rfl), (by exact sh_sc rfl), (by exact sh_sc rfl), (by exact sh_sc rfl), trivial⟩ ?_
    refine W.region ?_
    refine WO.op rfl rfl rfl rfl (mv_sc rfl) ?_
    refine WO.op rfl rfl rfl rfl (step_shlM (s := 8) rfl rfl (by decide) (by exact modN32 _)) ?_
    refine WO.op rfl rfl rfl rfl (mv_sc rfl) ?_
    refine WO.op rfl rfl rfl rfl (step_convR Try.runUnderlying5 Try.runUnderlying22 rfl (by exact convN (by (simp only [cap]; omega)))) ?_
    refine WO.op rfl rfl rfl rfl (step_orN rfl rfl (by (simp only [cap]; omega)) (by (simp only [cap]; omega))) ?_
    refine WO.op rfl rfl rfl rfl (as_sc rfl) ?_
    refine WO.nil ?_
    refine W.to [(3, _), (5, _), (6, _), (7, _), (8, _), (9, _)] [] rfl ⟨(by exact sh_sc rfl), (by exact sh_sc rfl), (by exact sh_im rfl), (by exact sh_sc rfl), (by exact sh_sc rfl), (by exact sh_sc rfl), trivial⟩ ?_
    refine W.region ?_
    refine WO.op rfl rfl rfl rfl (step_addN (q := 1) rfl rfl (by (simp only [cap]; omega))) ?_
    refine WO.op rfl rfl rfl rfl (mv_sc rfl) ?_
    refine WO.nil ?_
    exact ⟨i + 1, (by omega), (by omega), Le.eqs rfl ⟨congrArg (fun z : Nat => AV.sc (.int .u32 (z : Int))) ((or_byte (x := be (l.take i)) (c := l.getD i 0)).trans (by rw [be_snoc (by omega)])), rfl, rfl, rfl, trivial⟩⟩
  · try simp only [decide_eq_true_eq, decide_eq_false_iff_not, Bool.not_eq_true', Bool.not_eq_false', beq_iff_eq, bne_iff_ne, beq_eq_false_iff_ne, bne_eq_false_iff_eq, gt_iff_lt, ge_iff_le, Int.not_lt, Int.not_le] at h1
    have : i = l.length := by omega
    subst this
    rw [List.take_length]
    refine W.exit ?_
    refine W.seq ?_
    refine W.to [(3, _), (6, _), (7, _), (8, _), (9, _)] [] rfl ⟨(by exact sh_sc rfl), (by exact sh_im rfl), (by exact sh_sc rfl), (by exact sh_sc rfl), (by exact sh_sc rfl), trivial⟩ ?_
    refine W.region ?_
    refine WO.op rfl rfl rfl rfl (mv_sc rfl) ?_
    refine WO.op rfl rfl rfl rfl (as_sc rfl) ?_
    refine WO.nil ?_
    refine W.ret ?_
    refine ⟨.inl rfl, ?_⟩
    exact ret0 (Res.tmp rfl Res.nil) (.keep rfl)

theorem w_lget {l : List UInt8} (hl : l.length ≤ 4611686018427387904) : Spec0 Try.prog 50 [.im 1 (l.map byteAV)] (.sc (.int .u32 ((be l % 4294967296 : Nat) : Int))) := by
  refine Spec.body Try.func50 rfl (Nat.le_of_ble_eq_true rfl) ?_
  refine W.seq ?_
  refine W.region ?_
  refine WO.op rfl rfl rfl rfl (as_sc rfl) ?_
  refine WO.nil ?_
  refine W.seq ?_
  refine W.to [(0, _), (2, _)] [] rfl ⟨(by exact sh_im rfl), (by exact sh_sc rfl), trivial⟩ ?_
  refine W.region ?_
  refine WO.op rfl rfl rfl rfl (as_sc rfl) ?_
  refine WO.nil ?_
  refine W.seq ?_
  refine W.seq ?_
  refine W.to [(0, _), (2, _), (3, _)] [] rfl ⟨(by exact sh_im rfl), (by exact sh_sc rfl), (by exact sh_sc rfl), trivial⟩ ?_
  refine W.region ?_
  refine WO.op rfl rfl rfl rfl (mv_im rfl) ?_
  refine WO.op rfl rfl rfl rfl (step_lenB Try.runUnderlying26 rfl) ?_
  refine WO.op rfl rfl rfl rfl (mv_sc rfl) ?_
  refine WO.nil ?_
  refine W.block ?_
  refine W.loop (α := Nat) (fun i => ⟨tbl [(3, .sc (.int .u32 ((be (l.take i) % 4294967296 : Nat) : Int))), (6, .im 1 (l.map byteAV)), (7, .sc (.int .i64 ((l.length : Nat) : Int))), (8, .sc (.int .i64 ((i : Nat) : Int)))], []⟩) (fun i => i ≤ l.length) (fun i => l.length - i) (0) (Nat.zero_le _) (Le.eqs rfl ⟨rfl, rfl, rfl, rfl, trivial⟩) ?_
  intro i hi
  have hb := byte_le (l.getD i 0)
  refine W.seq ?_
  refine W.to [(3, _), (6, _), (7, _), (8, _)] [] rfl ⟨(by exact sh_sc rfl), (by exact sh_im rfl), (by exact sh_sc rfl), (by exact sh_sc rfl), trivial⟩ ?_
  refine W.region ?_
  refine WO.op rfl rfl rfl rfl (step_int2 rfl rfl rfl) ?_
  refine WO.nil ?_
  refine W.seq ?_
  refine W.cond rfl (fun h1 => ?_) (fun h1 => ?_)
  · try simp only [decide_eq_true_eq, decide_eq_false_iff_not, Bool.not_eq_true', Bool.not_eq_false', beq_iff_eq, bne_iff_ne, beq_eq_false_iff_ne, bne_eq_false_iff_eq, gt_iff_lt, ge_iff_le, Int.not_lt, Int.not_le] at h1
    refine W.skip ?_
    refine W.seq ?_
    refine W.block ?_
    refine W.seq ?_
    refine W.to [(3, _), (6, _), (7, _), (8, _), (9, _)] [] rfl ⟨(by exact sh_sc rfl), (by exact sh_im rfl), (by exact sh_sc rfl), (by exact sh_sc rfl), (by exact sh_sc rfl), trivial⟩ ?_
    refine W.region ?_
    refine WO.op rfl rfl rfl rfl (step_idxB Try.runUnderlying26 Try.sizeOf5 rfl rfl (by (exact rfl)) (by omega)) ?_
    refine WO.op rfl rfl rfl rfl (step_loadB Try.isAgg5 rfl (by omega)) ?_
    refine WO.op rfl rfl rfl rfl (as_sc rfl) ?_
    refine WO.nil ?_
    refine W.to [(3, _), (5, _), (6, _), (7, _), (8, _), (9, _)] [] rfl ⟨(by exact sh_sc rfl), (by exact sh_sc rfl), (by exact sh_im rfl), (by exact sh_sc rfl), (by exact sh_sc rfl), (by exact sh_sc rfl), trivial⟩ ?_
    refine W.region ?_
    refine WO.op rfl rfl rfl rfl (mv_sc rfl) ?_
    refine WO.op rfl rfl rfl rfl (step_shlM (s := 8) rfl rfl (by decide) (by exact modN32 _)) ?_
    refine WO.op rfl rfl rfl rfl (mv_sc rfl) ?_
    refine WO.op rfl rfl rfl rfl (step_convR Try.runUnderlying5 Try.runUnderlying22 rfl (by exact convN (by (simp only [cap]; omega)))) ?_
    refine WO.op rfl rfl rfl rfl (step_orN rfl rfl (by (simp only [cap]; omega)) (by (simp only [cap]; omega))) ?_
    refine WO.op rfl rfl rfl rfl (as_sc rfl) ?_
    refine WO.nil ?_
    refine W.to [(3, _), (5, _), (6, _), (7, _), (8, _), (9, _)] [] rfl ⟨(by exact sh_sc rfl), (by exact sh_sc rfl), (by exact sh_im rfl), (by exact sh_sc rfl), (by exact sh_sc rfl), (by exact sh_sc rfl), trivial⟩ ?_
    refine W.region ?_
    refine WO.op rfl rfl rfl rfl (step_addN (q := 1) rfl rfl (by (simp only [cap]; omega))) ?_
    refine WO.op rfl rfl rfl rfl (mv_sc rfl) ?_
    refine WO.nil ?_
    exact ⟨i + 1, (by omega), (by omega), Le.eqs rfl ⟨congrArg (fun z : Nat => AV.sc (.int .u32 (z : Int))) ((or_byte (x := be (l.take i)) (c := l.getD i 0)).trans (by rw [be_snoc (by omega)])), rfl, rfl, rfl, trivial⟩⟩
  · try simp only [decide_eq_true_eq, decide_eq_false_iff_not, Bool.not_eq_true', Bool.not_eq_false', beq_iff_eq, bne_iff_ne, beq_eq_false_iff_ne, bne_eq_false_iff_eq, gt_iff_lt, ge_iff_le, Int.not_lt, Int.not_le] at h1
    have : i = l.length := by omega
    subst this
    rw [List.take_length]
    refine W.exit ?_
    refine W.seq ?_
    refine W.to [(3, _), (6, _), (7, _), (8, _), (9, _)] [] rfl ⟨(by exact sh_sc rfl), (by exact sh_im rfl), (by exact sh_sc rfl), (by exact sh_sc rfl), (by exact sh_sc rfl), trivial⟩ ?_
    refine W.region ?_
    refine WO.op rfl rfl rfl rfl (mv_sc rfl) ?_
    refine WO.op rfl rfl rfl rfl (as_sc rfl) ?_
    refine WO.nil ?_
    refine W.ret ?_
    refine ⟨.inl rfl, ?_⟩
    exact ret0 (Res.tmp rfl Res.nil) (.keep rfl)

theorem w_fold {x : Nat} (hx : x < 18446744073709551616) : Spec0 Try.prog 57 [.sc (.int .u64 ((x : Nat) : Int))] (.sc (.int .u16 ((fo x : Nat) : Int))) := by
  refine Spec.body Try.func57 rfl (Nat.le_of_ble_eq_true rfl) ?_
  refine W.seq ?_
  refine W.region ?_
  refine WO.op rfl rfl rfl rfl (as_sc rfl) ?_
  refine WO.nil ?_
  refine W.scope (α := Nat) (fun y => ⟨tbl [(0, .sc (.int .u64 ((y : Nat) : Int)))], []⟩) (fun _ => 0) (fun y => fo y = fo x ∧ y < 18446744073709551616) (fun y => y) ?_ ?_
  · refine W.seq ?_
    refine W.label ?_
    refine W.seq ?_
    refine W.seq ?_
    refine W.to [(0, _), (2, _)] [] rfl ⟨(by exact sh_sc rfl), (by exact sh_sc rfl), trivial⟩ ?_
    refine W.region ?_
    refine WO.op rfl rfl rfl rfl (mv_sc rfl) ?_
    refine WO.op rfl rfl rfl rfl (step_int2 rfl rfl rfl) ?_
    refine WO.nil ?_
    refine W.cond rfl (fun h1 => ?_) (fun h1 => ?_)
    · try simp only [decide_eq_true_eq, decide_eq_false_iff_not, Bool.not_eq_true', Bool.not_eq_false', beq_iff_eq, bne_iff_ne, beq_eq_false_iff_ne, bne_eq_false_iff_eq, gt_iff_lt, ge_iff_le, Int.not_lt, Int.not_le] at h1
      refine W.seq ?_
      refine W.to [(0, _), (2, _), (4, _)] [] rfl ⟨(by exact sh_sc rfl), (by exact sh_sc rfl), (by exact sh_sc rfl), trivial⟩ ?_
      refine W.region ?_
      refine WO.op rfl rfl rfl rfl (mv_sc rfl) ?_
      refine WO.op rfl rfl rfl rfl (step_andN (q := 65535) rfl rfl (by (simp only [cap]; omega)) (by (simp only [cap]; omega))) ?_
      refine WO.put 6 (.sc (.int .u64 ((x % 65536 : Nat) : Int))) (congrArg (fun z : Nat => AV.sc (.int .u64 (z : Int))) (and16 _)) ?_
      refine WO.op rfl rfl rfl rfl (mv_sc rfl) ?_
      refine WO.op rfl rfl rfl rfl (step_shrN (s := 16) rfl rfl (by (simp only [cap]; omega))) ?_
      refine WO.op rfl rfl rfl rfl (step_addN rfl rfl (by (simp only [cap]; omega))) ?_
      refine WO.op rfl rfl rfl rfl (as_sc rfl) ?_
      refine WO.nil ?_
      refine W.goto ?_
      exact ⟨x % 65536 + x / 65536, ⟨fo_step, by omega⟩, rfl, Le.eqs rfl ⟨rfl, trivial⟩⟩
    · try simp only [decide_eq_true_eq, decide_eq_false_iff_not, Bool.not_eq_true', Bool.not_eq_false', beq_iff_eq, bne_iff_ne, beq_eq_false_iff_ne, bne_eq_false_iff_eq, gt_iff_lt, ge_iff_le, Int.not_lt, Int.not_le] at h1
      refine W.skip ?_
      refine W.seq ?_
      refine W.to [(0, _), (2, _), (4, _)] [] rfl ⟨(by exact sh_sc rfl), (by exact sh_sc rfl), (by exact sh_sc rfl), trivial⟩ ?_
      refine W.region ?_
      refine WO.op rfl rfl rfl rfl (mv_sc rfl) ?_
      refine WO.op rfl rfl rfl rfl (step_convR Try.runUnderlying54 Try.runUnderlying43 rfl (by exact convN (by (simp only [cap]; omega)))) ?_
      refine WO.op rfl rfl rfl rfl (as_sc rfl) ?_
      refine WO.nil ?_
      refine W.ret ?_
      refine ⟨.inl rfl, ?_⟩
      rw [fo_small (x := x) (by omega)]
      exact ret0 (Res.tmp rfl Res.nil) (.keep rfl)
  · intro y hy
    refine ⟨_, rfl, ?_⟩
    obtain ⟨hy1, hy2⟩ := hy
    refine W.seq ?_
    refine W.skip ?_
    refine W.seq ?_
    refine W.seq ?_
    refine W.to [(0, _)] [] rfl ⟨(by exact sh_sc rfl), trivial⟩ ?_
    refine W.region ?_
    refine WO.op rfl rfl rfl rfl (mv_sc rfl) ?_
    refine WO.op rfl rfl rfl rfl (step_int2 rfl rfl rfl) ?_
    refine WO.nil ?_
    refine W.cond rfl (fun h2 => ?_) (fun h2 => ?_)
    · try simp only [decide_eq_true_eq, decide_eq_false_iff_not, Bool.not_eq_true', Bool.not_eq_false', beq_iff_eq, bne_iff_ne, beq_eq_false_iff_ne, bne_eq_false_iff_eq, gt_iff_lt, ge_iff_le, Int.not_lt, Int.not_le] at h2
      refine W.seq ?_
      refine W.to [(0, _), (4, _)] [] rfl ⟨(by exact sh_sc rfl), (by exact sh_sc rfl), trivial⟩ ?_
      refine W.region ?_
      refine WO.op rfl rfl rfl rfl (mv_sc rfl) ?_
      refine WO.op rfl rfl rfl rfl (step_andN (q := 65535) rfl rfl (by (simp only [cap]; omega)) (by (simp only [cap]; omega))) ?_
      refine WO.put 6 (.sc (.int .u64 ((y % 65536 : Nat) : Int))) (congrArg (fun z : Nat => AV.sc (.int .u64 (z : Int))) (and16 _)) ?_
      refine WO.op rfl rfl rfl rfl (mv_sc rfl) ?_
      refine WO.op rfl rfl rfl rfl (step_shrN (s := 16) rfl rfl (by (simp only [cap]; omega))) ?_
      refine WO.op rfl rfl rfl rfl (step_addN rfl rfl (by (simp only [cap]; omega))) ?_
      refine WO.op rfl rfl rfl rfl (as_sc rfl) ?_
      refine WO.nil ?_
      refine W.goto ?_
      exact ⟨y % 65536 + y / 65536, ⟨by rw [fo_step]; exact hy1, by omega⟩, rfl, (by omega), Le.eqs rfl ⟨rfl, trivial⟩⟩
    · try simp only [decide_eq_true_eq, decide_eq_false_iff_not, Bool.not_eq_true', Bool.not_eq_false', beq_iff_eq, bne_iff_ne, beq_eq_false_iff_ne, bne_eq_false_iff_eq, gt_iff_lt, ge_iff_le, Int.not_lt, Int.not_le] at h2
      refine W.skip ?_
      refine W.seq ?_
      refine W.to [(0, _), (4, _)] [] rfl ⟨(by exact sh_sc rfl), (by exact sh_sc rfl), trivial⟩ ?_
      refine W.region ?_
      refine WO.op rfl rfl rfl rfl (mv_sc rfl) ?_
      refine WO.op rfl rfl rfl rfl (step_convR Try.runUnderlying54 Try.runUnderlying43 rfl (by exact convN (by (simp only [cap]; omega)))) ?_
      refine WO.op rfl rfl rfl rfl (as_sc rfl) ?_
      refine WO.nil ?_
      refine W.ret ?_
      refine ⟨.inl rfl, ?_⟩
      rw [← hy1, fo_small (x := y) (by omega)]
      exact ret0 (Res.tmp rfl Res.nil) (.keep rfl)

theorem w_Sum {l : List UInt8} (hl : l.length ≤ 200000000000000) : Spec0 Try.prog 49 [.im 1 (l.map byteAV)] (.sc (.int .u16 ((fo (ws l l.length) : Nat) : Int))) := by
  refine Spec.body Try.func49 rfl (Nat.le_of_ble_eq_true rfl) ?_
  refine W.seq ?_
  refine W.region ?_
  refine WO.op rfl rfl rfl rfl (as_sc rfl) ?_
  refine WO.nil ?_
  refine W.seq ?_
  refine W.to [(0, _), (2, _)] [] rfl ⟨(by exact sh_im rfl), (by exact sh_sc rfl), trivial⟩ ?_
  refine W.region ?_
  refine WO.op rfl rfl rfl rfl (as_sc rfl) ?_
  refine WO.nil ?_
  refine W.seq ?_
  refine W.seq ?_
  refine W.to [(0, _), (2, _), (3, _)] [] rfl ⟨(by exact sh_im rfl), (by exact sh_sc rfl), (by exact sh_sc rfl), trivial⟩ ?_
  refine W.region ?_
  refine WO.op rfl rfl rfl rfl (mv_im rfl) ?_
  refine WO.op rfl rfl rfl rfl (step_lenB Try.runUnderlying26 rfl) ?_
  refine WO.op rfl rfl rfl rfl (mv_sc rfl) ?_
  refine WO.nil ?_
  refine W.block ?_
  refine W.loop (α := Nat) (fun i => ⟨tbl [(3, .sc (.int .u64 ((ws l i : Nat) : Int))), (6, .im 1 (l.map byteAV)), (7, .sc (.int .i64 ((l.length : Nat) : Int))), (8, .sc (.int .i64 ((i : Nat) : Int)))], []⟩) (fun i => i ≤ l.length) (fun i => l.length - i) (0) (Nat.zero_le _) (Le.eqs rfl ⟨rfl, rfl, rfl, rfl, trivial⟩) ?_
  intro i hi
  have hb := byte_le (l.getD i 0)
  have hw := ws_le l i
  refine W.seq ?_
  refine W.to [(3, _), (6, _), (7, _), (8, _)] [] rfl ⟨(by exact sh_sc rfl), (by exact sh_im rfl), (by exact sh_sc rfl), (by exact sh_sc rfl), trivial⟩ ?_
  refine W.region ?_
  refine WO.op rfl rfl rfl rfl (step_int2 rfl rfl rfl) ?_
  refine WO.nil ?_
  refine W.seq ?_
  refine W.cond rfl (fun h1 => ?_) (fun h1 => ?_)
  · try simp only [decide_eq_true_eq, decide_eq_false_iff_not, Bool.not_eq_true', Bool.not_eq_false', beq_iff_eq, bne_iff_ne, beq_eq_false_iff_ne, bne_eq_false_iff_eq, gt_iff_lt, ge_iff_le, Int.not_lt, Int.not_le] at h1
    refine W.skip ?_
    refine W.seq ?_
    refine W.block ?_
    refine W.seq ?_
    refine W.to [(3, _), (6, _), (7, _), (8, _), (9, _)] [] rfl ⟨(by exact sh_sc rfl), (by exact sh_im rfl), (by exact sh_sc rfl), (by exact sh_sc rfl), (by exact sh_sc rfl), trivial⟩ ?_
    refine W.region ?_
    refine WO.op rfl rfl rfl rfl (mv_sc rfl) ?_
    refine WO.op rfl rfl rfl rfl (step_idxB Try.runUnderlying26 Try.sizeOf5 rfl rfl (by (exact rfl)) (by omega)) ?_
    refine WO.op rfl rfl rfl rfl (step_loadB Try.isAgg5 rfl (by omega)) ?_
    refine WO.op rfl rfl rfl rfl (as_sc rfl) ?_
    refine WO.op rfl rfl rfl rfl (as_sc rfl) ?_
    refine WO.nil ?_
    refine W.seq ?_
    refine W.to [(3, _), (4, _), (5, _), (6, _), (7, _), (8, _), (9, _)] [] rfl ⟨(by exact sh_sc rfl), (by exact sh_sc rfl), (by exact sh_sc rfl), (by exact sh_im rfl), (by exact sh_sc rfl), (by exact sh_sc rfl), (by exact sh_sc rfl), trivial⟩ ?_
    refine W.region ?_
    refine WO.op rfl rfl rfl rfl (mv_sc rfl) ?_
    refine WO.op rfl rfl rfl rfl (step_remN (q := 2) rfl rfl (by omega)) ?_
    refine WO.op rfl rfl rfl rfl (step_int2 rfl rfl rfl) ?_
    refine WO.nil ?_
    refine W.cond rfl (fun h2 => ?_) (fun h2 => ?_)
    · try simp only [decide_eq_true_eq, decide_eq_false_iff_not, Bool.not_eq_true', Bool.not_eq_false', beq_iff_eq, bne_iff_ne, beq_eq_false_iff_ne, bne_eq_false_iff_eq, gt_iff_lt, ge_iff_le, Int.not_lt, Int.not_le] at h2
      refine W.to [(3, _), (4, _), (5, _), (6, _), (7, _), (8, _), (9, _), (15, _)] [] rfl ⟨(by exact sh_sc rfl), (by exact sh_sc rfl), (by exact sh_sc rfl), (by exact sh_im rfl), (by exact sh_sc rfl), (by exact sh_sc rfl), (by exact sh_sc rfl), (by exact sh_sc rfl), trivial⟩ ?_
      refine W.region ?_
      refine WO.op rfl rfl rfl rfl (mv_sc rfl) ?_
      refine WO.op rfl rfl rfl rfl (mv_sc rfl) ?_
      refine WO.op rfl rfl rfl rfl (step_convR Try.runUnderlying5 Try.runUnderlying54 rfl (by exact convN (by (simp only [cap]; omega)))) ?_
      refine WO.op rfl rfl rfl rfl (step_shlN (s := 8) rfl rfl (by decide) (by (simp only [cap]; omega))) ?_
      refine WO.op rfl rfl rfl rfl (step_addN rfl rfl (by (simp only [cap]; omega))) ?_
      refine WO.op rfl rfl rfl rfl (as_sc rfl) ?_
      refine WO.nil ?_
      refine W.to [(3, _), (4, _), (5, _), (6, _), (7, _), (8, _), (9, _), (15, _)] [] rfl ⟨(by exact sh_sc rfl), (by exact sh_sc rfl), (by exact sh_sc rfl), (by exact sh_im rfl), (by exact sh_sc rfl), (by exact sh_sc rfl), (by exact sh_sc rfl), (by exact sh_sc rfl), trivial⟩ ?_
      refine W.region ?_
      refine WO.op rfl rfl rfl rfl (step_addN (q := 1) rfl rfl (by (simp only [cap]; omega))) ?_
      refine WO.op rfl rfl rfl rfl (mv_sc rfl) ?_
      refine WO.nil ?_
      exact ⟨i + 1, (by omega), (by omega), Le.eqs rfl ⟨(by exact congrArg (fun z : Nat => AV.sc (.int .u64 (z : Int))) (ws_even (by omega)).symm), rfl, rfl, rfl, trivial⟩⟩
    · try simp only [decide_eq_true_eq, decide_eq_false_iff_not, Bool.not_eq_true', Bool.not_eq_false', beq_iff_eq, bne_iff_ne, beq_eq_false_iff_ne, bne_eq_false_iff_eq, gt_iff_lt, ge_iff_le, Int.not_lt, Int.not_le] at h2
      refine W.to [(3, _), (4, _), (5, _), (6, _), (7, _), (8, _), (9, _), (15, _)] [] rfl ⟨(by exact sh_sc rfl), (by exact sh_sc rfl), (by exact sh_sc rfl), (by exact sh_im rfl), (by exact sh_sc rfl), (by exact sh_sc rfl), (by exact sh_sc rfl), (by exact sh_sc rfl), trivial⟩ ?_
      refine W.region ?_
      refine WO.op rfl rfl rfl rfl (mv_sc rfl) ?_
      refine WO.op rfl rfl rfl rfl (mv_sc rfl) ?_
      refine WO.op rfl rfl rfl rfl (step_convR Try.runUnderlying5 Try.runUnderlying54 rfl (by exact convN (by (simp only [cap]; omega)))) ?_
      refine WO.op rfl rfl rfl rfl (step_addN rfl rfl (by (simp only [cap]; omega))) ?_
      refine WO.op rfl rfl rfl rfl (as_sc rfl) ?_
      refine WO.nil ?_
      refine W.to [(3, _), (4, _), (5, _), (6, _), (7, _), (8, _), (9, _), (15, _)] [] rfl ⟨(by exact sh_sc rfl), (by exact sh_sc rfl), (by exact sh_sc rfl), (by exact sh_im rfl), (by exact sh_sc rfl), (by exact sh_sc rfl), (by exact sh_sc rfl), (by exact sh_sc rfl), trivial⟩ ?_
      refine W.region ?_
      refine WO.op rfl rfl rfl rfl (step_addN (q := 1) rfl rfl (by (simp only [cap]; omega))) ?_
      refine WO.op rfl rfl rfl rfl (mv_sc rfl) ?_
      refine WO.nil ?_
      exact ⟨i + 1, (by omega), (by omega), Le.eqs rfl ⟨(by exact congrArg (fun z : Nat => AV.sc (.int .u64 (z : Int))) (ws_odd (by omega)).symm), rfl, rfl, rfl, trivial⟩⟩
  · try simp only [decide_eq_true_eq, decide_eq_false_iff_not, Bool.not_eq_true', Bool.not_eq_false', beq_iff_eq, bne_iff_ne, beq_eq_false_iff_ne, bne_eq_false_iff_eq, gt_iff_lt, ge_iff_le, Int.not_lt, Int.not_le] at h1
    have : i = l.length := by omega
    subst this
    refine W.exit ?_
    refine W.seq ?_
    refine W.to [(3, _), (6, _), (7, _), (8, _), (9, _)] [] rfl ⟨(by exact sh_sc rfl), (by exact sh_im rfl), (by exact sh_sc rfl), (by exact sh_sc rfl), (by exact sh_sc rfl), trivial⟩ ?_
    refine W.region ?_
    refine WO.op rfl rfl rfl rfl (mv_sc rfl) ?_
    refine WO.op rfl rfl rfl rfl (step_pure Try.call57 rfl (by (repeat (first | exact Nl.nil | refine Nl.keep (by rfl) ?_))) (w_fold (by omega)) (by repeat (rfl))) ?_
    refine WO.op rfl rfl rfl rfl (as_sc rfl) ?_
    refine WO.nil ?_
    refine W.ret ?_
    refine ⟨.inl rfl, ?_⟩
    exact ret0 (Res.tmp rfl Res.nil) (.keep rfl)

theorem w_Check {l : List UInt8} (hl : l.length ≤ 200000000000000) : Spec0 Try.prog 35 [.im 1 (l.map byteAV)] (.sc (.int .u16 ((65535 - fo (ws l l.length) : Nat) : Int))) := by
  refine Spec.body Try.func35 rfl (Nat.le_of_ble_eq_true rfl) ?_
  have hf := fo_le (ws l l.length)
  refine W.seq ?_
  refine W.region ?_
  refine WO.op rfl rfl rfl rfl (as_sc rfl) ?_
  refine WO.nil ?_
  refine W.seq ?_
  refine W.to [(0, _), (2, _)] [] rfl ⟨(by exact sh_im rfl), (by exact sh_sc rfl), trivial⟩ ?_
  refine W.region ?_
  refine WO.op rfl rfl rfl rfl (mv_im rfl) ?_
  refine WO.op rfl rfl rfl rfl (step_pure Try.call49 rfl (by (repeat (first | exact Nl.nil | refine Nl.keep (by rfl) ?_))) (w_Sum hl) (by repeat (rfl))) ?_
  refine WO.op rfl rfl rfl rfl (step_not16 rfl (by omega)) ?_
  refine WO.op rfl rfl rfl rfl (as_sc rfl) ?_
  refine WO.nil ?_
  refine W.ret ?_
  refine ⟨.inl rfl, ?_⟩
  exact ret0 (Res.tmp rfl Res.nil) (.keep rfl)

theorem w_Add {a b : Nat} (ha : a ≤ 65535) (hb : b ≤ 65535) : Spec0 Try.prog 42 [.sc (.int .u16 ((a : Nat) : Int)), .sc (.int .u16 ((b : Nat) : Int))] (.sc (.int .u16 ((fo (a + b) : Nat) : Int))) := by
  refine Spec.body Try.func42 rfl (Nat.le_of_ble_eq_true rfl) ?_
  have hf := fo_add2 ha hb
  refine W.seq ?_
  refine W.region ?_
  refine WO.op rfl rfl rfl rfl (as_sc rfl) ?_
  refine WO.nil ?_
  refine W.seq ?_
  refine W.to [(0, _), (1, _), (4, _)] [] rfl ⟨(by exact sh_sc rfl), (by exact sh_sc rfl), (by exact sh_sc rfl), trivial⟩ ?_
  refine W.region ?_
  refine WO.op rfl rfl rfl rfl (mv_sc rfl) ?_
  refine WO.op rfl rfl rfl rfl (step_convR Try.runUnderlying43 Try.runUnderlying22 rfl (by exact convN (by (simp only [cap]; omega)))) ?_
  refine WO.op rfl rfl rfl rfl (mv_sc rfl) ?_
  refine WO.op rfl rfl rfl rfl (step_convR Try.runUnderlying43 Try.runUnderlying22 rfl (by exact convN (by (simp only [cap]; omega)))) ?_
  refine WO.op rfl rfl rfl rfl (step_addN rfl rfl (by (simp only [cap]; omega))) ?_
  refine WO.op rfl rfl rfl rfl (as_sc rfl) ?_
  refine WO.nil ?_
  refine W.seq ?_
  refine W.seq ?_
  refine W.to [(0, _), (1, _), (4, _), (5, _)] [] rfl ⟨(by exact sh_sc rfl), (by exact sh_sc rfl), (by exact sh_sc rfl), (by exact sh_sc rfl), trivial⟩ ?_
  refine W.region ?_
  refine WO.op rfl rfl rfl rfl (mv_sc rfl) ?_
  refine WO.op rfl rfl rfl rfl (step_int2 rfl rfl rfl) ?_
  refine WO.nil ?_
  refine W.cond rfl (fun h1 => ?_) (fun h1 => ?_)
  · try simp only [decide_eq_true_eq, decide_eq_false_iff_not, Bool.not_eq_true', Bool.not_eq_false', beq_iff_eq, bne_iff_ne, beq_eq_false_iff_ne, bne_eq_false_iff_eq, gt_iff_lt, ge_iff_le, Int.not_lt, Int.not_le] at h1
    refine W.to [(0, _), (1, _), (4, _), (5, _), (12, _)] [] rfl ⟨(by exact sh_sc rfl), (by exact sh_sc rfl), (by exact sh_sc rfl), (by exact sh_sc rfl), (by exact sh_sc rfl), trivial⟩ ?_
    refine W.region ?_
    refine WO.op rfl rfl rfl rfl (mv_sc rfl) ?_
    refine WO.op rfl rfl rfl rfl (step_subN (q := 65535) rfl rfl (by omega) (by (simp only [cap]; omega))) ?_
    refine WO.op rfl rfl rfl rfl (as_sc rfl) ?_
    refine WO.nil ?_
    refine W.seq ?_
    refine W.to [(0, _), (1, _), (4, _), (5, _), (12, _)] [] rfl ⟨(by exact sh_sc rfl), (by exact sh_sc rfl), (by exact sh_sc rfl), (by exact sh_sc rfl), (by exact sh_sc rfl), trivial⟩ ?_
    refine W.region ?_
    refine WO.op rfl rfl rfl rfl (mv_sc rfl) ?_
    refine WO.op rfl rfl rfl rfl (step_convR Try.runUnderlying22 Try.runUnderlying43 rfl (by exact convN (by (simp only [cap]; omega)))) ?_
    refine WO.op rfl rfl rfl rfl (as_sc rfl) ?_
    refine WO.nil ?_
    refine W.ret ?_
    refine ⟨.inl rfl, ?_⟩
    (rw [hf.1 (by omega)]; exact ret0 (Res.tmp rfl Res.nil) (.keep rfl))
  · try simp only [decide_eq_true_eq, decide_eq_false_iff_not, Bool.not_eq_true', Bool.not_eq_false', beq_iff_eq, bne_iff_ne, beq_eq_false_iff_ne, bne_eq_false_iff_eq, gt_iff_lt, ge_iff_le, Int.not_lt, Int.not_le] at h1
    refine W.skip ?_
    refine W.seq ?_
    refine W.to [(0, _), (1, _), (4, _), (5, _), (12, _)] [] rfl ⟨(by exact sh_sc rfl), (by exact sh_sc rfl), (by exact sh_sc rfl), (by exact sh_sc rfl), (by exact sh_sc rfl), trivial⟩ ?_
    refine W.region ?_
    refine WO.op rfl rfl rfl rfl (mv_sc rfl) ?_
    refine WO.op rfl rfl rfl rfl (step_convR Try.runUnderlying22 Try.runUnderlying43 rfl (by exact convN (by (simp only [cap]; omega)))) ?_
    refine WO.op rfl rfl rfl rfl (as_sc rfl) ?_
    refine WO.nil ?_
    refine W.ret ?_
    refine ⟨.inl rfl, ?_⟩
    (rw [hf.2 (by omega)]; exact ret0 (Res.tmp rfl Res.nil) (.keep rfl))

theorem w_refSum {l : List UInt8} (hl : l.length ≤ 200000000000000) : Spec0 Try.prog 44 [.im 1 (l.map byteAV)] (.sc (.int .u16 ((fo (ws l l.length) : Nat) : Int))) := by
  refine Spec.body Try.func44 rfl (Nat.le_of_ble_eq_true rfl) ?_
  refine W.seq ?_
  refine W.region ?_
  refine WO.op rfl rfl rfl rfl (as_sc rfl) ?_
  refine WO.nil ?_
  refine W.seq ?_
  refine W.to [(0, _), (2, _)] [] rfl ⟨(by exact sh_im rfl), (by exact sh_sc rfl), trivial⟩ ?_
  refine W.region ?_
  refine WO.op rfl rfl rfl rfl (as_sc rfl) ?_
  refine WO.nil ?_
  refine W.seq ?_
  refine W.seq ?_
  refine W.to [(0, _), (2, _), (3, _)] [] rfl ⟨(by exact sh_im rfl), (by exact sh_sc rfl), (by exact sh_sc rfl), trivial⟩ ?_
  refine W.region ?_
  refine WO.op rfl rfl rfl rfl (as_sc rfl) ?_
  refine WO.nil ?_
  refine W.block ?_
  refine W.loop (α := Nat) (fun i => ⟨tbl [(0, .im 1 (l.map byteAV)), (3, .sc (.int .u16 ((fo (ws l (min (2 * i) l.length)) : Nat) : Int))), (4, .sc (.int .i64 ((2 * i : Nat) : Int)))], []⟩) (fun i => 2 * i ≤ l.length + 1) (fun i => l.length + 1 - 2 * i) (0) (Nat.zero_le _) (Le.eqs rfl ⟨rfl, rfl, rfl, trivial⟩) ?_
  intro i hi
  have hb := byte_le (l.getD (2 * i) 0)
  have hb1 := byte_le (l.getD (2 * i + 1) 0)
  have hf := fo_le (ws l (min (2 * i) l.length))
  refine W.seq ?_
  refine W.seq ?_
  refine W.to [(0, _), (3, _), (4, _)] [] rfl ⟨(by exact sh_im rfl), (by exact sh_sc rfl), (by exact sh_sc rfl), trivial⟩ ?_
  refine W.region ?_
  refine WO.op rfl rfl rfl rfl (mv_sc rfl) ?_
  refine WO.op rfl rfl rfl rfl (mv_im rfl) ?_
  refine WO.op rfl rfl rfl rfl (step_lenB Try.runUnderlying26 rfl) ?_
  refine WO.op rfl rfl rfl rfl (step_int2 rfl rfl rfl) ?_
  refine WO.nil ?_
  refine W.cond rfl (fun h1 => ?_) (fun h1 => ?_)
  · try simp only [decide_eq_true_eq, decide_eq_false_iff_not, Bool.not_eq_true', Bool.not_eq_false', beq_iff_eq, bne_iff_ne, beq_eq_false_iff_ne, bne_eq_false_iff_eq, gt_iff_lt, ge_iff_le, Int.not_lt, Int.not_le] at h1
    refine W.skip ?_
    refine W.seq ?_
    refine W.block ?_
    refine W.seq ?_
    refine W.to [(0, _), (3, _), (4, _), (9, _)] [] rfl ⟨(by exact sh_im rfl), (by exact sh_sc rfl), (by exact sh_sc rfl), (by exact sh_sc rfl), trivial⟩ ?_
    refine W.region ?_
    refine WO.op rfl rfl rfl rfl (mv_im rfl) ?_
    refine WO.op rfl rfl rfl rfl (mv_sc rfl) ?_
    refine WO.op rfl rfl rfl rfl (step_idxB Try.runUnderlying26 Try.sizeOf5 rfl rfl (by (exact rfl)) (by omega)) ?_
    refine WO.op rfl rfl rfl rfl (step_loadB Try.isAgg5 rfl (by omega)) ?_
    refine WO.op rfl rfl rfl rfl (step_convR Try.runUnderlying5 Try.runUnderlying43 rfl (by exact convN (by (simp only [cap]; omega)))) ?_
    refine WO.op rfl rfl rfl rfl (step_mulN (q := 256) rfl rfl (by (simp only [cap]; omega))) ?_
    refine WO.op rfl rfl rfl rfl (as_sc rfl) ?_
    refine WO.nil ?_
    refine W.seq ?_
    refine W.seq ?_
    refine W.to [(0, _), (3, _), (4, _), (5, _), (9, _)] [] rfl ⟨(by exact sh_im rfl), (by exact sh_sc rfl), (by exact sh_sc rfl), (by exact sh_sc rfl), (by exact sh_sc rfl), trivial⟩ ?_
    refine W.region ?_
    refine WO.op rfl rfl rfl rfl (mv_sc rfl) ?_
    refine WO.op rfl rfl rfl rfl (step_addN (q := 1) rfl rfl (by (simp only [cap]; omega))) ?_
    refine WO.op rfl rfl rfl rfl (mv_im rfl) ?_
    refine WO.op rfl rfl rfl rfl (step_lenB Try.runUnderlying26 rfl) ?_
    refine WO.op rfl rfl rfl rfl (step_int2 rfl rfl rfl) ?_
    refine WO.nil ?_
    refine W.cond rfl (fun h2 => ?_) (fun h2 => ?_)
    · try simp only [decide_eq_true_eq, decide_eq_false_iff_not, Bool.not_eq_true', Bool.not_eq_false', beq_iff_eq, bne_iff_ne, beq_eq_false_iff_ne, bne_eq_false_iff_eq, gt_iff_lt, ge_iff_le, Int.not_lt, Int.not_le] at h2
      refine W.to [(0, _), (3, _), (4, _), (5, _), (9, _), (22, _)] [] rfl ⟨(by exact sh_im rfl), (by exact sh_sc rfl), (by exact sh_sc rfl), (by exact sh_sc rfl), (by exact sh_sc rfl), (by exact sh_sc rfl), trivial⟩ ?_
      refine W.region ?_
      refine WO.op rfl rfl rfl rfl (mv_sc rfl) ?_
      refine WO.op rfl rfl rfl rfl (mv_im rfl) ?_
      refine WO.op rfl rfl rfl rfl (mv_sc rfl) ?_
      refine WO.op rfl rfl rfl rfl (step_addN (q := 1) rfl rfl (by (simp only [cap]; omega))) ?_
      refine WO.op rfl rfl rfl rfl (step_idxB Try.runUnderlying26 Try.sizeOf5 rfl rfl (by (exact rfl)) (by omega)) ?_
      refine WO.op rfl rfl rfl rfl (step_loadB Try.isAgg5 rfl (by omega)) ?_
      refine WO.op rfl rfl rfl rfl (step_convR Try.runUnderlying5 Try.runUnderlying43 rfl (by exact convN (by (simp only [cap]; omega)))) ?_
      refine WO.op rfl rfl rfl rfl (step_addN rfl rfl (by (simp only [cap]; omega))) ?_
      refine WO.op rfl rfl rfl rfl (as_sc rfl) ?_
      refine WO.nil ?_
      refine W.to [(0, _), (3, _), (4, _), (5, _), (9, _), (22, _)] [] rfl ⟨(by exact sh_im rfl), (by exact sh_sc rfl), (by exact sh_sc rfl), (by exact sh_sc rfl), (by exact sh_sc rfl), (by exact sh_sc rfl), trivial⟩ ?_
      refine W.region ?_
      refine WO.op rfl rfl rfl rfl (mv_sc rfl) ?_
      refine WO.op rfl rfl rfl rfl (mv_sc rfl) ?_
      refine WO.op rfl rfl rfl rfl (step_pure Try.call42 rfl (by (repeat (first | exact Nl.nil | refine Nl.keep (by rfl) ?_))) (w_Add (by omega) (by omega)) (by repeat (rfl))) ?_
      refine WO.op rfl rfl rfl rfl (as_sc rfl) ?_
      refine WO.nil ?_
      refine W.to [(0, _), (3, _), (4, _), (5, _), (9, _), (22, _)] [] rfl ⟨(by exact sh_im rfl), (by exact sh_sc rfl), (by exact sh_sc rfl), (by exact sh_sc rfl), (by exact sh_sc rfl), (by exact sh_sc rfl), trivial⟩ ?_
      refine W.region ?_
      refine WO.op rfl rfl rfl rfl (mv_sc rfl) ?_
      refine WO.op rfl rfl rfl rfl (step_addN (q := 2) rfl rfl (by (simp only [cap]; omega))) ?_
      refine WO.op rfl rfl rfl rfl (as_sc rfl) ?_
      refine WO.nil ?_
      exact ⟨i + 1, (by omega), (by omega), Le.eqs rfl ⟨rfl, (by exact congrArg (fun z : Nat => AV.sc (.int .u16 (z : Int))) (ws_two (by omega)).symm), rfl, trivial⟩⟩
    · try simp only [decide_eq_true_eq, decide_eq_false_iff_not, Bool.not_eq_true', Bool.not_eq_false', beq_iff_eq, bne_iff_ne, beq_eq_false_iff_ne, bne_eq_false_iff_eq, gt_iff_lt, ge_iff_le, Int.not_lt, Int.not_le] at h2
      refine W.skip ?_
      refine W.to [(0, _), (3, _), (4, _), (5, _), (9, _), (22, _)] [] rfl ⟨(by exact sh_im rfl), (by exact sh_sc rfl), (by exact sh_sc rfl), (by exact sh_sc rfl), (by exact sh_sc rfl), (by exact sh_sc rfl), trivial⟩ ?_
      refine W.region ?_
      refine WO.op rfl rfl rfl rfl (mv_sc rfl) ?_
      refine WO.op rfl rfl rfl rfl (mv_sc rfl) ?_
      refine WO.op rfl rfl rfl rfl (step_pure Try.call42 rfl (by (repeat (first | exact Nl.nil | refine Nl.keep (by rfl) ?_))) (w_Add (by omega) (by omega)) (by repeat (rfl))) ?_
      refine WO.op rfl rfl rfl rfl (as_sc rfl) ?_
      refine WO.nil ?_
      refine W.to [(0, _), (3, _), (4, _), (5, _), (9, _), (22, _)] [] rfl ⟨(by exact sh_im rfl), (by exact sh_sc rfl), (by exact sh_sc rfl), (by exact sh_sc rfl), (by exact sh_sc rfl), (by exact sh_sc rfl), trivial⟩ ?_
      refine W.region ?_
      refine WO.op rfl rfl rfl rfl (mv_sc rfl) ?_
      refine WO.op rfl rfl rfl rfl (step_addN (q := 2) rfl rfl (by (simp only [cap]; omega))) ?_
      refine WO.op rfl rfl rfl rfl (as_sc rfl) ?_
      refine WO.nil ?_
      exact ⟨i + 1, (by omega), (by omega), Le.eqs rfl ⟨rfl, (by exact congrArg (fun z : Nat => AV.sc (.int .u16 (z : Int))) (ws_last (by omega) (by omega)).symm), rfl, trivial⟩⟩
  · try simp only [decide_eq_true_eq, decide_eq_false_iff_not, Bool.not_eq_true', Bool.not_eq_false', beq_iff_eq, bne_iff_ne, beq_eq_false_iff_ne, bne_eq_false_iff_eq, gt_iff_lt, ge_iff_le, Int.not_lt, Int.not_le] at h1
    have hm : min (2 * i) l.length = l.length := by omega
    rw [hm]
    refine W.exit ?_
    refine W.seq ?_
    refine W.to [(0, _), (3, _), (4, _), (9, _)] [] rfl ⟨(by exact sh_im rfl), (by exact sh_sc rfl), (by exact sh_sc rfl), (by exact sh_sc rfl), trivial⟩ ?_
    refine W.region ?_
    refine WO.op rfl rfl rfl rfl (mv_sc rfl) ?_
    refine WO.op rfl rfl rfl rfl (as_sc rfl) ?_
    refine WO.nil ?_
    refine W.ret ?_
    refine ⟨.inl rfl, ?_⟩
    exact ret0 (Res.tmp rfl Res.nil) (.keep rfl)

theorem w_refCheck {l : List UInt8} (hl : l.length ≤ 200000000000000) : Spec0 Try.prog 40 [.im 1 (l.map byteAV)] (.sc (.int .u16 ((65535 - fo (ws l l.length) : Nat) : Int))) := by
  refine Spec.body Try.func40 rfl (Nat.le_of_ble_eq_true rfl) ?_
  have hf := fo_le (ws l l.length)
  refine W.seq ?_
  refine W.region ?_
  refine WO.op rfl rfl rfl rfl (as_sc rfl) ?_
  refine WO.nil ?_
  refine W.seq ?_
  refine W.to [(0, _), (2, _)] [] rfl ⟨(by exact sh_im rfl), (by exact sh_sc rfl), trivial⟩ ?_
  refine W.region ?_
  refine WO.op rfl rfl rfl rfl (mv_im rfl) ?_
  refine WO.op rfl rfl rfl rfl (step_pure Try.call44 rfl (by (repeat (first | exact Nl.nil | refine Nl.keep (by rfl) ?_))) (w_refSum hl) (by repeat (rfl))) ?_
  refine WO.op rfl rfl rfl rfl (step_subN (p := 65535) rfl rfl (by omega) (by (simp only [cap]; omega))) ?_
  refine WO.op rfl rfl rfl rfl (as_sc rfl) ?_
  refine WO.nil ?_
  refine W.ret ?_
  refine ⟨.inl rfl, ?_⟩
  exact ret0 (Res.tmp rfl Res.nil) (.keep rfl)

theorem w_Num {l : List UInt8} (hl : l.length ≤ 4611686018427387904) : Spec0 Try.prog 30 [.im 1 (l.map byteAV)] (.sc (.int .u64 ((be l % 18446744073709551616 : Nat) : Int))) := by
  refine Spec.body Try.func30 rfl (Nat.le_of_ble_eq_true rfl) ?_
  refine W.seq ?_
  refine W.region ?_
  refine WO.op rfl rfl rfl rfl (as_sc rfl) ?_
  refine WO.nil ?_
  refine W.seq ?_
  refine W.to [(0, _), (2, _)] [] rfl ⟨(by exact sh_im rfl), (by exact sh_sc rfl), trivial⟩ ?_
  refine W.region ?_
  refine WO.op rfl rfl rfl rfl (as_sc rfl) ?_
  refine WO.nil ?_
  refine W.seq ?_
  refine W.seq ?_
  refine W.to [(0, _), (2, _), (3, _)] [] rfl ⟨(by exact sh_im rfl), (by exact sh_sc rfl), (by exact sh_sc rfl), trivial⟩ ?_
  refine W.region ?_
  refine WO.op rfl rfl rfl rfl (as_sc rfl) ?_
  refine WO.nil ?_
  refine W.block ?_
  refine W.loop (α := Nat) (fun i => ⟨tbl [(0, .im 1 (l.map byteAV)), (3, .sc (.int .u64 ((be (l.take i) % 18446744073709551616 : Nat) : Int))), (4, .sc (.int .i64 ((i : Nat) : Int)))], []⟩) (fun i => i ≤ l.length) (fun i => l.length - i) (0) (Nat.zero_le _) (Le.eqs rfl ⟨rfl, rfl, rfl, trivial⟩) ?_
  intro i hi
  have hb := byte_le (l.getD i 0)
  refine W.seq ?_
  refine W.seq ?_
  refine W.to [(0, _), (3, _), (4, _)] [] rfl ⟨(by exact sh_im rfl), (by exact sh_sc rfl), (by exact sh_sc rfl), trivial⟩ ?_
  refine W.region ?_
  refine WO.op rfl rfl rfl rfl (mv_sc rfl) ?_
  refine WO.op rfl rfl rfl rfl (mv_im rfl) ?_
  refine WO.op rfl rfl rfl rfl (step_lenB Try.runUnderlying26 rfl) ?_
  refine WO.op rfl rfl rfl rfl (step_int2 rfl rfl rfl) ?_
  refine WO.nil ?_
  refine W.cond rfl (fun h1 => ?_) (fun h1 => ?_)
  · try simp only [decide_eq_true_eq, decide_eq_false_iff_not, Bool.not_eq_true', Bool.not_eq_false', beq_iff_eq, bne_iff_ne, beq_eq_false_iff_ne, bne_eq_false_iff_eq, gt_iff_lt, ge_iff_le, Int.not_lt, Int.not_le] at h1
    refine W.skip ?_
    refine W.seq ?_
    refine W.block ?_
    refine W.to [(0, _), (3, _), (4, _), (8, _)] [] rfl ⟨(by exact sh_im rfl), (by exact sh_sc rfl), (by exact sh_sc rfl), (by exact sh_sc rfl), trivial⟩ ?_
    refine W.region ?_
    refine WO.op rfl rfl rfl rfl (mv_sc rfl) ?_
    refine WO.op rfl rfl rfl rfl (step_mulM (q := 256) rfl rfl (by exact modN64 _)) ?_
    refine WO.op rfl rfl rfl rfl (mv_im rfl) ?_
    refine WO.op rfl rfl rfl rfl (mv_sc rfl) ?_
    refine WO.op rfl rfl rfl rfl (step_idxB Try.runUnderlying26 Try.sizeOf5 rfl rfl (by (exact rfl)) (by omega)) ?_
    refine WO.op rfl rfl rfl rfl (step_loadB Try.isAgg5 rfl (by omega)) ?_
    refine WO.op rfl rfl rfl rfl (step_convR Try.runUnderlying5 Try.runUnderlying54 rfl (by exact convN (by (simp only [cap]; omega)))) ?_
    refine WO.op rfl rfl rfl rfl (step_addN rfl rfl (by (simp only [cap]; omega))) ?_
    refine WO.op rfl rfl rfl rfl (as_sc rfl) ?_
    refine WO.nil ?_
    refine W.to [(0, _), (3, _), (4, _), (8, _)] [] rfl ⟨(by exact sh_im rfl), (by exact sh_sc rfl), (by exact sh_sc rfl), (by exact sh_sc rfl), trivial⟩ ?_
    refine W.region ?_
    refine WO.op rfl rfl rfl rfl (mv_sc rfl) ?_
    refine WO.op rfl rfl rfl rfl (step_addN (q := 1) rfl rfl (by (simp only [cap]; omega))) ?_
    refine WO.op rfl rfl rfl rfl (as_sc rfl) ?_
    refine WO.nil ?_
    exact ⟨i + 1, (by omega), (by omega), Le.eqs rfl ⟨rfl, congrArg (fun z : Nat => AV.sc (.int .u64 (z : Int))) (be_next (l := l) (i := i) (by omega)).symm, rfl, trivial⟩⟩
  · try simp only [decide_eq_true_eq, decide_eq_false_iff_not, Bool.not_eq_true', Bool.not_eq_false', beq_iff_eq, bne_iff_ne, beq_eq_false_iff_ne, bne_eq_false_iff_eq, gt_iff_lt, ge_iff_le, Int.not_lt, Int.not_le] at h1
    have : i = l.length := by omega
    subst this
    rw [List.take_length]
    refine W.exit ?_
    refine W.seq ?_
    refine W.to [(0, _), (3, _), (4, _), (8, _)] [] rfl ⟨(by exact sh_im rfl), (by exact sh_sc rfl), (by exact sh_sc rfl), (by exact sh_sc rfl), trivial⟩ ?_
    refine W.region ?_
    refine WO.op rfl rfl rfl rfl (mv_sc rfl) ?_
    refine WO.op rfl rfl rfl rfl (as_sc rfl) ?_
    refine WO.nil ?_
    refine W.ret ?_
    refine ⟨.inl rfl, ?_⟩
    exact ret0 (Res.tmp rfl Res.nil) (.keep rfl)

/-- The pseudo head's sum. -/
def psu (a b p n : Nat) : Nat := a / 65536 + a % 65536 + b / 65536 + b % 65536 + p + n % 65536
theorem fo_add' (x y : Nat) : fo (x + fo y) = fo (x + y) := by rw [Nat.add_comm, fo_add, Nat.add_comm]
theorem fo3 (x y z : Nat) : fo (fo (fo x + fo y) + fo z) = fo (x + y + z) := by rw [fo_add x (fo y), fo_add' x y, fo_add (x + y) (fo z), fo_add']
theorem w_sAdd {a b : Nat} (ha : a ≤ 65535) (hb : b ≤ 65535) : Spec0 Try.prog 54 [.sc (.int .u16 ((a : Nat) : Int)), .sc (.int .u16 ((b : Nat) : Int))] (.sc (.int .u16 ((fo (a + b) : Nat) : Int))) := by
  refine Spec.body Try.func54 rfl (Nat.le_of_ble_eq_true rfl) ?_
  have hf := fo_le (a + b)
  refine W.seq ?_
  refine W.region ?_
  refine WO.op rfl rfl rfl rfl (as_sc rfl) ?_
  refine WO.nil ?_
  refine W.seq ?_
  refine W.to [(0, _), (1, _), (4, _)] [] rfl ⟨(by exact sh_sc rfl), (by exact sh_sc rfl), (by exact sh_sc rfl), trivial⟩ ?_
  refine W.region ?_
  refine WO.op rfl rfl rfl rfl (mv_sc rfl) ?_
  refine WO.op rfl rfl rfl rfl (step_convR Try.runUnderlying43 Try.runUnderlying54 rfl (by exact convN (by (simp only [cap]; omega)))) ?_
  refine WO.op rfl rfl rfl rfl (mv_sc rfl) ?_
  refine WO.op rfl rfl rfl rfl (step_convR Try.runUnderlying43 Try.runUnderlying54 rfl (by exact convN (by (simp only [cap]; omega)))) ?_
  refine WO.op rfl rfl rfl rfl (step_addN rfl rfl (by (simp only [cap]; omega))) ?_
  refine WO.op rfl rfl rfl rfl (step_pure Try.call57 rfl (by (repeat (first | exact Nl.nil | refine Nl.keep (by rfl) ?_))) (w_fold (by omega)) (by repeat (rfl))) ?_
  refine WO.op rfl rfl rfl rfl (as_sc rfl) ?_
  refine WO.nil ?_
  refine W.ret ?_
  refine ⟨.inl rfl, ?_⟩
  exact ret0 (Res.tmp rfl Res.nil) (.keep rfl)

theorem w_Pseudo {a b p n : Nat} (ha : a < 4294967296) (hb : b < 4294967296) (hp : p ≤ 255) (hn : n ≤ 200000000000000) : Spec0 Try.prog 55 [.sc (.int .u32 ((a : Nat) : Int)), .sc (.int .u32 ((b : Nat) : Int)), .sc (.int .i64 ((p : Nat) : Int)), .sc (.int .i64 ((n : Nat) : Int))] (.sc (.int .u16 ((fo (psu a b p n) : Nat) : Int))) := by
  refine Spec.body Try.func55 rfl (Nat.le_of_ble_eq_true rfl) ?_
  have hf := fo_le (psu a b p n)
  refine W.seq ?_
  refine W.region ?_
  refine WO.op rfl rfl rfl rfl (as_sc rfl) ?_
  refine WO.nil ?_
  refine W.seq ?_
  refine W.to [(0, _), (1, _), (2, _), (3, _), (8, _)] [] rfl ⟨(by exact sh_sc rfl), (by exact sh_sc rfl), (by exact sh_sc rfl), (by exact sh_sc rfl), (by exact sh_sc rfl), trivial⟩ ?_
  refine W.region ?_
  refine WO.op rfl rfl rfl rfl (mv_sc rfl) ?_
  refine WO.op rfl rfl rfl rfl (step_shrN (s := 16) rfl rfl (by (simp only [cap]; omega))) ?_
  refine WO.op rfl rfl rfl rfl (step_convR Try.runUnderlying22 Try.runUnderlying54 rfl (by exact convN (by (simp only [cap]; omega)))) ?_
  refine WO.op rfl rfl rfl rfl (mv_sc rfl) ?_
  refine WO.op rfl rfl rfl rfl (step_andN (q := 65535) rfl rfl (by (simp only [cap]; omega)) (by (simp only [cap]; omega))) ?_
  refine WO.put 13 (.sc (.int .u32 ((a % 65536 : Nat) : Int))) (congrArg (fun z : Nat => AV.sc (.int .u32 (z : Int))) (Nat.and_two_pow_sub_one_eq_mod _ 16)) ?_
  refine WO.op rfl rfl rfl rfl (step_convR Try.runUnderlying22 Try.runUnderlying54 rfl (by exact convN (by (simp only [cap]; omega)))) ?_
  refine WO.op rfl rfl rfl rfl (step_addN rfl rfl (by (simp only [cap]; omega))) ?_
  refine WO.op rfl rfl rfl rfl (mv_sc rfl) ?_
  refine WO.op rfl rfl rfl rfl (step_shrN (s := 16) rfl rfl (by (simp only [cap]; omega))) ?_
  refine WO.op rfl rfl rfl rfl (step_convR Try.runUnderlying22 Try.runUnderlying54 rfl (by exact convN (by (simp only [cap]; omega)))) ?_
  refine WO.op rfl rfl rfl rfl (step_addN rfl rfl (by (simp only [cap]; omega))) ?_
  refine WO.op rfl rfl rfl rfl (mv_sc rfl) ?_
  refine WO.op rfl rfl rfl rfl (step_andN (q := 65535) rfl rfl (by (simp only [cap]; omega)) (by (simp only [cap]; omega))) ?_
  refine WO.put 21 (.sc (.int .u32 ((b % 65536 : Nat) : Int))) (congrArg (fun z : Nat => AV.sc (.int .u32 (z : Int))) (Nat.and_two_pow_sub_one_eq_mod _ 16)) ?_
  refine WO.op rfl rfl rfl rfl (step_convR Try.runUnderlying22 Try.runUnderlying54 rfl (by exact convN (by (simp only [cap]; omega)))) ?_
  refine WO.op rfl rfl rfl rfl (step_addN rfl rfl (by (simp only [cap]; omega))) ?_
  refine WO.op rfl rfl rfl rfl (mv_sc rfl) ?_
  refine WO.op rfl rfl rfl rfl (step_convR Try.runUnderlying3 Try.runUnderlying5 rfl (by exact convN (by (simp only [cap]; omega)))) ?_
  refine WO.op rfl rfl rfl rfl (step_convR Try.runUnderlying5 Try.runUnderlying54 rfl (by exact convN (by (simp only [cap]; omega)))) ?_
  refine WO.op rfl rfl rfl rfl (step_addN rfl rfl (by (simp only [cap]; omega))) ?_
  refine WO.op rfl rfl rfl rfl (mv_sc rfl) ?_
  refine WO.op rfl rfl rfl rfl (step_convR Try.runUnderlying3 Try.runUnderlying43 rfl (by exact modN16 _)) ?_
  refine WO.op rfl rfl rfl rfl (step_convR Try.runUnderlying43 Try.runUnderlying54 rfl (by exact convN (by (simp only [cap]; omega)))) ?_
  refine WO.op rfl rfl rfl rfl (step_addN rfl rfl (by (simp only [cap]; omega))) ?_
  refine WO.op rfl rfl rfl rfl (step_pure Try.call57 rfl (by (repeat (first | exact Nl.nil | refine Nl.keep (by rfl) ?_))) (w_fold (by omega)) (by repeat (rfl))) ?_
  refine WO.op rfl rfl rfl rfl (as_sc rfl) ?_
  refine WO.nil ?_
  refine W.ret ?_
  refine ⟨.inl rfl, ?_⟩
  unfold psu
  exact ret0 (Res.tmp rfl Res.nil) (.keep rfl)

theorem w_refPseudo {a b p n : Nat} (ha : a < 4294967296) (hb : b < 4294967296) (hp : p ≤ 255) (hn : n ≤ 200000000000000) : Spec0 Try.prog 43 [.sc (.int .u32 ((a : Nat) : Int)), .sc (.int .u32 ((b : Nat) : Int)), .sc (.int .i64 ((p : Nat) : Int)), .sc (.int .i64 ((n : Nat) : Int))] (.sc (.int .u16 ((fo (psu a b p n) : Nat) : Int))) := by
  refine Spec.body Try.func43 rfl (Nat.le_of_ble_eq_true rfl) ?_
  have f1 := fo_le (a / 65536 + a % 65536)
  have f2 := fo_le (b / 65536 + b % 65536)
  have f3 := fo_le (fo (a / 65536 + a % 65536) + fo (b / 65536 + b % 65536))
  have f4 := fo_le (p + n % 65536)
  have e : fo (psu a b p n) = fo (fo (fo (a / 65536 + a % 65536) + fo (b / 65536 + b % 65536)) + fo (p + n % 65536)) := by rw [fo3]; unfold psu; congr 1; omega
  rw [e]
  refine W.seq ?_
  refine W.region ?_
  refine WO.op rfl rfl rfl rfl (as_sc rfl) ?_
  refine WO.nil ?_
  refine W.seq ?_
  refine W.to [(0, _), (1, _), (2, _), (3, _), (8, _)] [] rfl ⟨(by exact sh_sc rfl), (by exact sh_sc rfl), (by exact sh_sc rfl), (by exact sh_sc rfl), (by exact sh_sc rfl), trivial⟩ ?_
  refine W.region ?_
  refine WO.op rfl rfl rfl rfl (mv_sc rfl) ?_
  refine WO.op rfl rfl rfl rfl (step_quoN (q := 65536) rfl rfl (by omega) (by (simp only [cap]; omega))) ?_
  refine WO.op rfl rfl rfl rfl (step_convR Try.runUnderlying22 Try.runUnderlying43 rfl (by exact convN (by (simp only [cap]; omega)))) ?_
  refine WO.op rfl rfl rfl rfl (mv_sc rfl) ?_
  refine WO.op rfl rfl rfl rfl (step_remN (q := 65536) rfl rfl (by omega)) ?_
  refine WO.op rfl rfl rfl rfl (step_convR Try.runUnderlying22 Try.runUnderlying43 rfl (by exact convN (by (simp only [cap]; omega)))) ?_
  refine WO.op rfl rfl rfl rfl (step_pure Try.call42 rfl (by (repeat (first | exact Nl.nil | refine Nl.keep (by rfl) ?_))) (w_Add (by omega) (by omega)) (by repeat (rfl))) ?_
  refine WO.op rfl rfl rfl rfl (as_sc rfl) ?_
  refine WO.nil ?_
  refine W.seq ?_
  refine W.to [(0, _), (1, _), (2, _), (3, _), (8, _), (9, _)] [] rfl ⟨(by exact sh_sc rfl), (by exact sh_sc rfl), (by exact sh_sc rfl), (by exact sh_sc rfl), (by exact sh_sc rfl), (by exact sh_sc rfl), trivial⟩ ?_
  refine W.region ?_
  refine WO.op rfl rfl rfl rfl (mv_sc rfl) ?_
  refine WO.op rfl rfl rfl rfl (mv_sc rfl) ?_
  refine WO.op rfl rfl rfl rfl (step_quoN (q := 65536) rfl rfl (by omega) (by (simp only [cap]; omega))) ?_
  refine WO.op rfl rfl rfl rfl (step_convR Try.runUnderlying22 Try.runUnderlying43 rfl (by exact convN (by (simp only [cap]; omega)))) ?_
  refine WO.op rfl rfl rfl rfl (mv_sc rfl) ?_
  refine WO.op rfl rfl rfl rfl (step_remN (q := 65536) rfl rfl (by omega)) ?_
  refine WO.op rfl rfl rfl rfl (step_convR Try.runUnderlying22 Try.runUnderlying43 rfl (by exact convN (by (simp only [cap]; omega)))) ?_
  refine WO.op rfl rfl rfl rfl (step_pure Try.call42 rfl (by (repeat (first | exact Nl.nil | refine Nl.keep (by rfl) ?_))) (w_Add (by omega) (by omega)) (by repeat (rfl))) ?_
  refine WO.op rfl rfl rfl rfl (step_pure Try.call42 rfl (by (repeat (first | exact Nl.nil | refine Nl.keep (by rfl) ?_))) (w_Add (by omega) (by omega)) (by repeat (rfl))) ?_
  refine WO.op rfl rfl rfl rfl (as_sc rfl) ?_
  refine WO.nil ?_
  refine W.seq ?_
  refine W.to [(0, _), (1, _), (2, _), (3, _), (8, _), (9, _)] [] rfl ⟨(by exact sh_sc rfl), (by exact sh_sc rfl), (by exact sh_sc rfl), (by exact sh_sc rfl), (by exact sh_sc rfl), (by exact sh_sc rfl), trivial⟩ ?_
  refine W.region ?_
  refine WO.op rfl rfl rfl rfl (mv_sc rfl) ?_
  refine WO.op rfl rfl rfl rfl (mv_sc rfl) ?_
  refine WO.op rfl rfl rfl rfl (step_convR Try.runUnderlying3 Try.runUnderlying5 rfl (by exact convN (by (simp only [cap]; omega)))) ?_
  refine WO.op rfl rfl rfl rfl (step_convR Try.runUnderlying5 Try.runUnderlying43 rfl (by exact convN (by (simp only [cap]; omega)))) ?_
  refine WO.op rfl rfl rfl rfl (mv_sc rfl) ?_
  refine WO.op rfl rfl rfl rfl (step_convR Try.runUnderlying3 Try.runUnderlying43 rfl (by exact modN16 _)) ?_
  refine WO.op rfl rfl rfl rfl (step_pure Try.call42 rfl (by (repeat (first | exact Nl.nil | refine Nl.keep (by rfl) ?_))) (w_Add (by omega) (by omega)) (by repeat (rfl))) ?_
  refine WO.op rfl rfl rfl rfl (step_pure Try.call42 rfl (by (repeat (first | exact Nl.nil | refine Nl.keep (by rfl) ?_))) (w_Add (by omega) (by omega)) (by repeat (rfl))) ?_
  refine WO.op rfl rfl rfl rfl (as_sc rfl) ?_
  refine WO.nil ?_
  refine W.ret ?_
  refine ⟨.inl rfl, ?_⟩
  exact ret0 (Res.tmp rfl Res.nil) (.keep rfl)

theorem w_whole {a b p : Nat} {l : List UInt8} (ha : a < 4294967296) (hb : b < 4294967296) (hp : p ≤ 255) (hl : l.length ≤ 200000000000000) : Spec0 Try.prog 36 [.sc (.int .u32 ((a : Nat) : Int)), .sc (.int .u32 ((b : Nat) : Int)), .sc (.int .i64 ((p : Nat) : Int)), .im 1 (l.map byteAV)] (.sc (.int .u16 ((fo (psu a b p l.length + ws l l.length) : Nat) : Int))) := by
  refine Spec.body Try.func36 rfl (Nat.le_of_ble_eq_true rfl) ?_
  have f1 := fo_le (psu a b p l.length)
  have f2 := fo_le (ws l l.length)
  have e : fo (psu a b p l.length + ws l l.length) = fo (fo (psu a b p l.length) + fo (ws l l.length)) := by rw [fo_add, fo_add']
  rw [e]
  refine W.seq ?_
  refine W.region ?_
  refine WO.op rfl rfl rfl rfl (as_sc rfl) ?_
  refine WO.nil ?_
  refine W.seq ?_
  refine W.to [(0, _), (1, _), (2, _), (3, _), (8, _)] [] rfl ⟨(by exact sh_sc rfl), (by exact sh_sc rfl), (by exact sh_sc rfl), (by exact sh_im rfl), (by exact sh_sc rfl), trivial⟩ ?_
  refine W.region ?_
  refine WO.op rfl rfl rfl rfl (mv_sc rfl) ?_
  refine WO.op rfl rfl rfl rfl (mv_sc rfl) ?_
  refine WO.op rfl rfl rfl rfl (mv_sc rfl) ?_
  refine WO.op rfl rfl rfl rfl (mv_im rfl) ?_
  refine WO.op rfl rfl rfl rfl (step_lenB Try.runUnderlying26 rfl) ?_
  refine WO.op rfl rfl rfl rfl (step_pure Try.call55 rfl (by (repeat (first | exact Nl.nil | refine Nl.keep (by rfl) ?_))) (w_Pseudo ha hb hp hl) (by repeat (rfl))) ?_
  refine WO.op rfl rfl rfl rfl (mv_im rfl) ?_
  refine WO.op rfl rfl rfl rfl (step_pure Try.call49 rfl (by (repeat (first | exact Nl.nil | refine Nl.keep (by rfl) ?_))) (w_Sum hl) (by repeat (rfl))) ?_
  refine WO.op rfl rfl rfl rfl (step_pure Try.call54 rfl (by (repeat (first | exact Nl.nil | refine Nl.keep (by rfl) ?_))) (w_sAdd f1 f2) (by repeat (rfl))) ?_
  refine WO.op rfl rfl rfl rfl (as_sc rfl) ?_
  refine WO.nil ?_
  refine W.ret ?_
  refine ⟨.inl rfl, ?_⟩
  exact ret0 (Res.tmp rfl Res.nil) (.keep rfl)

theorem be_lt : ∀ (l : List UInt8), be l < 256 ^ l.length := by
  have key : ∀ (l : List UInt8) (x : Nat), l.foldl (fun x c => x * 256 + c.toNat) x < (x + 1) * 256 ^ l.length := by
    intro l
    induction l with
    | nil => intro x; simp
    | cons c l ih =>
      intro x
      have h1 := ih (x * 256 + c.toNat)
      have h2 := byte_le c
      have h3 : (x * 256 + c.toNat + 1) * 256 ^ l.length ≤ ((x + 1) * 256) * 256 ^ l.length := Nat.mul_le_mul_right _ (by omega)
      simp only [List.foldl_cons, List.length_cons, Nat.pow_succ]
      calc _ < _ := h1
        _ ≤ _ := h3
        _ = _ := by rw [Nat.mul_assoc, Nat.mul_comm 256]
  intro l
  have := key l 0
  simpa [be] using this
theorem be_take {n k : Nat} (l : List UInt8) (h : n ≤ k) : be (l.take n) < 256 ^ k := by
  have h1 := be_lt (l.take n)
  have h2 : (l.take n).length ≤ k := by rw [List.length_take]; omega
  exact Nat.lt_of_lt_of_le h1 (Nat.pow_le_pow_right (by decide) h2)
theorem be2 (l : List UInt8) : be (l.take 2) < 65536 := be_take l (n := 2) (k := 2) (by decide)
theorem be4 (l : List UInt8) : be (l.take 4) < 4294967296 := be_take l (n := 4) (k := 4) (by decide)

theorem w_get2 {l : List UInt8} : Spec0 Try.prog 48 [.im 1 ((l.take 2).map byteAV)] (.sc (.int .u32 ((be (l.take 2) : Nat) : Int))) := by
  have h := w_get (l := l.take 2) (by rw [List.length_take]; omega)
  rwa [Nat.mod_eq_of_lt (by have := be2 l; omega)] at h
theorem w_get4 {l : List UInt8} : Spec0 Try.prog 48 [.im 1 ((l.take 4).map byteAV)] (.sc (.int .u32 ((be (l.take 4) : Nat) : Int))) := by
  have h := w_get (l := l.take 4) (by rw [List.length_take]; omega)
  rwa [Nat.mod_eq_of_lt (by have := be4 l; omega)] at h
theorem w_lget2 {l : List UInt8} : Spec0 Try.prog 50 [.im 1 ((l.take 2).map byteAV)] (.sc (.int .u32 ((be (l.take 2) : Nat) : Int))) := by
  have h := w_lget (l := l.take 2) (by rw [List.length_take]; omega)
  rwa [Nat.mod_eq_of_lt (by have := be2 l; omega)] at h
theorem w_lget4 {l : List UInt8} : Spec0 Try.prog 50 [.im 1 ((l.take 4).map byteAV)] (.sc (.int .u32 ((be (l.take 4) : Nat) : Int))) := by
  have h := w_lget (l := l.take 4) (by rw [List.length_take]; omega)
  rwa [Nat.mod_eq_of_lt (by have := be4 l; omega)] at h
theorem w_Num2 {l : List UInt8} : Spec0 Try.prog 30 [.im 1 ((l.take 2).map byteAV)] (.sc (.int .u64 ((be (l.take 2) : Nat) : Int))) := by
  have h := w_Num (l := l.take 2) (by rw [List.length_take]; omega)
  rwa [Nat.mod_eq_of_lt (by have := be2 l; omega)] at h
theorem w_Num4 {l : List UInt8} : Spec0 Try.prog 30 [.im 1 ((l.take 4).map byteAV)] (.sc (.int .u64 ((be (l.take 4) : Nat) : Int))) := by
  have h := w_Num (l := l.take 4) (by rw [List.length_take]; omega)
  rwa [Nat.mod_eq_of_lt (by have := be4 l; omega)] at h
end Go.Proofs.Ytkhpligflffamaa
