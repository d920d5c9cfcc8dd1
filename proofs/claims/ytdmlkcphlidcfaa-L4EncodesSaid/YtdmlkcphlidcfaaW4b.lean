/-
  Contracts of functions of chapter 04: each theorem says what a call of one function answers, for all arguments that its hypotheses let in.
-/
import Derived.Test.YtdmlkcphlidcfaaW4a
set_option linter.unusedVariables false
set_option linter.unusedSimpArgs false
set_option maxRecDepth 100000
set_option maxHeartbeats 1000000
namespace Go.Proofs.Ytdmlkcphlidcfaa
open Go Go.SL Go.Proofs

/-- The pseudo head's sum. -/
def psu (a b p n : Nat) : Nat := a / 65536 + a % 65536 + b / 65536 + b % 65536 + p + n % 65536
theorem fo_add' (x y : Nat) : fo (x + fo y) = fo (x + y) := by rw [Nat.add_comm, fo_add, Nat.add_comm]
theorem fo3 (x y z : Nat) : fo (fo (fo x + fo y) + fo z) = fo (x + y + z) := by rw [fo_add x (fo y), fo_add' x y, fo_add (x + y) (fo z), fo_add']
theorem byte_lo (x : Nat) : UInt8.ofNat x = byteOf x 0 := by unfold byteOf; rw [Nat.pow_zero, Nat.div_one]
def put2 (l : List UInt8) (i x : Nat) : List UInt8 := (l.set i (byteOf x 8)).set (i + 1) (byteOf x 0)
theorem put2_len (l : List UInt8) (i x : Nat) : (put2 l i x).length = l.length := by simp [put2]
def put4L (l : List UInt8) (i x : Nat) : List UInt8 := put2 (put2 l i (x / 65536)) (i + 2) (x % 65536)
theorem put4L_len (l : List UInt8) (i x : Nat) : (put4L l i x).length = l.length := by simp [put4L, put2_len]

theorem w_sAdd {a b : Nat} (ha : a ≤ 65535) (hb : b ≤ 65535) : Spec0 Try.prog 36 [.sc (.int .u16 ((a : Nat) : Int)), .sc (.int .u16 ((b : Nat) : Int))] (.sc (.int .u16 ((fo (a + b) : Nat) : Int))) := by
  refine Spec.body Try.func36 rfl (Nat.le_of_ble_eq_true rfl) ?_
  have hf := fo_le (a + b)
  refine W.seq ?_
  refine W.region ?_
  refine WO.op rfl rfl rfl rfl (as_sc rfl) ?_
  refine WO.nil ?_
  refine W.seq ?_
  refine W.to [(0, _), (1, _), (4, _)] [] rfl ⟨(by exact sh_sc rfl), (by exact sh_sc rfl), (by exact sh_sc rfl), trivial⟩ ?_
  refine W.region ?_
  refine WO.op rfl rfl rfl rfl (mv_sc rfl) ?_
  refine WO.op rfl rfl rfl rfl (step_convR Try.runUnderlying37 Try.runUnderlying55 rfl (by exact convN (by (simp only [cap]; omega)))) ?_
  refine WO.op rfl rfl rfl rfl (mv_sc rfl) ?_
  refine WO.op rfl rfl rfl rfl (step_convR Try.runUnderlying37 Try.runUnderlying55 rfl (by exact convN (by (simp only [cap]; omega)))) ?_
  refine WO.op rfl rfl rfl rfl (step_addN rfl rfl (by (simp only [cap]; omega))) ?_
  refine WO.op rfl rfl rfl rfl (step_pure Try.call35 rfl (by (repeat (first | exact Nl.nil | refine Nl.keep (by rfl) ?_))) (w_fold (by omega)) (by repeat (rfl))) ?_
  refine WO.op rfl rfl rfl rfl (as_sc rfl) ?_
  refine WO.nil ?_
  refine W.ret ?_
  refine ⟨.inl rfl, ?_⟩
  exact ret0 (Res.tmp rfl Res.nil) (.keep rfl)

theorem w_Pseudo {a b p n : Nat} (ha : a < 4294967296) (hb : b < 4294967296) (hp : p ≤ 255) (hn : n ≤ 200000000000000) : Spec0 Try.prog 16 [.sc (.int .u32 ((a : Nat) : Int)), .sc (.int .u32 ((b : Nat) : Int)), .sc (.int .i64 ((p : Nat) : Int)), .sc (.int .i64 ((n : Nat) : Int))] (.sc (.int .u16 ((fo (psu a b p n) : Nat) : Int))) := by
  refine Spec.body Try.func16 rfl (Nat.le_of_ble_eq_true rfl) ?_
  have hf := fo_le (psu a b p n)
  refine W.seq ?_
  refine W.region ?_
  refine WO.op rfl rfl rfl rfl (as_sc rfl) ?_
  refine WO.nil ?_
  refine W.seq ?_
  refine W.to [(0, _), (1, _), (2, _), (3, _), (8, _)] [] rfl ⟨(by exact sh_sc rfl), (by exact sh_sc rfl), (by exact sh_sc rfl), (by exact sh_sc rfl), (by exact sh_sc rfl), trivial⟩ ?_
  refine W.region ?_
  refine WO.op rfl rfl rfl rfl (mv_sc rfl) ?_
  refine WO.op rfl rfl rfl rfl (step_shrN (s := 16) rfl rfl (by (simp only [cap]; omega))) ?_
  refine WO.op rfl rfl rfl rfl (step_convR Try.runUnderlying22 Try.runUnderlying55 rfl (by exact convN (by (simp only [cap]; omega)))) ?_
  refine WO.op rfl rfl rfl rfl (mv_sc rfl) ?_
  refine WO.op rfl rfl rfl rfl (step_andN (q := 65535) rfl rfl (by (simp only [cap]; omega)) (by (simp only [cap]; omega))) ?_
  refine WO.put 13 (.sc (.int .u32 ((a % 65536 : Nat) : Int))) (congrArg (fun z : Nat => AV.sc (.int .u32 (z : Int))) (Nat.and_two_pow_sub_one_eq_mod _ 16)) ?_
  refine WO.op rfl rfl rfl rfl (step_convR Try.runUnderlying22 Try.runUnderlying55 rfl (by exact convN (by (simp only [cap]; omega)))) ?_
  refine WO.op rfl rfl rfl rfl (step_addN rfl rfl (by (simp only [cap]; omega))) ?_
  refine WO.op rfl rfl rfl rfl (mv_sc rfl) ?_
  refine WO.op rfl rfl rfl rfl (step_shrN (s := 16) rfl rfl (by (simp only [cap]; omega))) ?_
  refine WO.op rfl rfl rfl rfl (step_convR Try.runUnderlying22 Try.runUnderlying55 rfl (by exact convN (by (simp only [cap]; omega)))) ?_
  refine WO.op rfl rfl rfl rfl (step_addN rfl rfl (by (simp only [cap]; omega))) ?_
  refine WO.op rfl rfl rfl rfl (mv_sc rfl) ?_
  refine WO.op rfl rfl rfl rfl (step_andN (q := 65535) rfl rfl (by (simp only [cap]; omega)) (by (simp only [cap]; omega))) ?_
  refine WO.put 21 (.sc (.int .u32 ((b % 65536 : Nat) : Int))) (congrArg (fun z : Nat => AV.sc (.int .u32 (z : Int))) (Nat.and_two_pow_sub_one_eq_mod _ 16)) ?_
  refine WO.op rfl rfl rfl rfl (step_convR Try.runUnderlying22 Try.runUnderlying55 rfl (by exact convN (by (simp only [cap]; omega)))) ?_
  refine WO.op rfl rfl rfl rfl (step_addN rfl rfl (by (simp only [cap]; omega))) ?_
  refine WO.op rfl rfl rfl rfl (mv_sc rfl) ?_
  refine WO.op rfl rfl rfl rfl (step_convR Try.runUnderlying3 Try.runUnderlying5 rfl (by exact convN (by (simp only [cap]; omega)))) ?_
  refine WO.op rfl rfl rfl rfl (step_convR Try.runUnderlying5 Try.runUnderlying55 rfl (by exact convN (by (simp only [cap]; omega)))) ?_
  refine WO.op rfl rfl rfl rfl (step_addN rfl rfl (by (simp only [cap]; omega))) ?_
  refine WO.op rfl rfl rfl rfl (mv_sc rfl) ?_
  refine WO.op rfl rfl rfl rfl (step_convR Try.runUnderlying3 Try.runUnderlying37 rfl (by exact modN16 _)) ?_
  refine WO.op rfl rfl rfl rfl (step_convR Try.runUnderlying37 Try.runUnderlying55 rfl (by exact convN (by (simp only [cap]; omega)))) ?_
  refine WO.op rfl rfl rfl rfl (step_addN rfl rfl (by (simp only [cap]; omega))) ?_
  refine WO.op rfl rfl rfl rfl (step_pure Try.call35 rfl (by (repeat (first | exact Nl.nil | refine Nl.keep (by rfl) ?_))) (w_fold (by omega)) (by repeat (rfl))) ?_
  refine WO.op rfl rfl rfl rfl (as_sc rfl) ?_
  refine WO.nil ?_
  refine W.ret ?_
  refine ⟨.inl rfl, ?_⟩
  unfold psu
  exact ret0 (Res.tmp rfl Res.nil) (.keep rfl)

theorem w_refPseudo {a b p n : Nat} (ha : a < 4294967296) (hb : b < 4294967296) (hp : p ≤ 255) (hn : n ≤ 200000000000000) : Spec0 Try.prog 25 [.sc (.int .u32 ((a : Nat) : Int)), .sc (.int .u32 ((b : Nat) : Int)), .sc (.int .i64 ((p : Nat) : Int)), .sc (.int .i64 ((n : Nat) : Int))] (.sc (.int .u16 ((fo (psu a b p n) : Nat) : Int))) := by
  refine Spec.body Try.func25 rfl (Nat.le_of_ble_eq_true rfl) ?_
  have f1 := fo_le (a / 65536 + a % 65536)
  have f2 := fo_le (b / 65536 + b % 65536)
  have f3 := fo_le (fo (a / 65536 + a % 65536) + fo (b / 65536 + b % 65536))
  have f4 := fo_le (p + n % 65536)
  have e : fo (psu a b p n) = fo (fo (fo (a / 65536 + a % 65536) + fo (b / 65536 + b % 65536)) + fo (p + n % 65536)) := by rw [fo3]; unfold psu; congr 1; omega
  rw [e]
  refine W.seq ?_
  refine W.region ?_
  refine WO.op rfl rfl rfl rfl (as_sc rfl) ?_
  refine WO.nil ?_
  refine W.seq ?_
  refine W.to [(0, _), (1, _), (2, _), (3, _), (8, _)] [] rfl ⟨(by exact sh_sc rfl), (by exact sh_sc rfl), (by exact sh_sc rfl), (by exact sh_sc rfl), (by exact sh_sc rfl), trivial⟩ ?_
  refine W.region ?_
  refine WO.op rfl rfl rfl rfl (mv_sc rfl) ?_
  refine WO.op rfl rfl rfl rfl (step_quoN (q := 65536) rfl rfl (by omega) (by (simp only [cap]; omega))) ?_
  refine WO.op rfl rfl rfl rfl (step_convR Try.runUnderlying22 Try.runUnderlying37 rfl (by exact convN (by (simp only [cap]; omega)))) ?_
  refine WO.op rfl rfl rfl rfl (mv_sc rfl) ?_
  refine WO.op rfl rfl rfl rfl (step_remN (q := 65536) rfl rfl (by omega)) ?_
  refine WO.op rfl rfl rfl rfl (step_convR Try.runUnderlying22 Try.runUnderlying37 rfl (by exact convN (by (simp only [cap]; omega)))) ?_
  refine WO.op rfl rfl rfl rfl (step_pure Try.call24 rfl (by (repeat (first | exact Nl.nil | refine Nl.keep (by rfl) ?_))) (w_Add (by omega) (by omega)) (by repeat (rfl))) ?_
  refine WO.op rfl rfl rfl rfl (as_sc rfl) ?_
  refine WO.nil ?_
  refine W.seq ?_
  refine W.to [(0, _), (1, _), (2, _), (3, _), (8, _), (9, _)] [] rfl ⟨(by exact sh_sc rfl), (by exact sh_sc rfl), (by exact sh_sc rfl), (by exact sh_sc rfl), (by exact sh_sc rfl), (by exact sh_sc rfl), trivial⟩ ?_
  refine W.region ?_
  refine WO.op rfl rfl rfl rfl (mv_sc rfl) ?_
  refine WO.op rfl rfl rfl rfl (mv_sc rfl) ?_
  refine WO.op rfl rfl rfl rfl (step_quoN (q := 65536) rfl rfl (by omega) (by (simp only [cap]; omega))) ?_
  refine WO.op rfl rfl rfl rfl (step_convR Try.runUnderlying22 Try.runUnderlying37 rfl (by exact convN (by (simp only [cap]; omega)))) ?_
  refine WO.op rfl rfl rfl rfl (mv_sc rfl) ?_
  refine WO.op rfl rfl rfl rfl (step_remN (q := 65536) rfl rfl (by omega)) ?_
  refine WO.op rfl rfl rfl rfl (step_convR Try.runUnderlying22 Try.runUnderlying37 rfl (by exact convN (by (simp only [cap]; omega)))) ?_
  refine WO.op rfl rfl rfl rfl (step_pure Try.call24 rfl (by (repeat (first | exact Nl.nil | refine Nl.keep (by rfl) ?_))) (w_Add (by omega) (by omega)) (by repeat (rfl))) ?_
  refine WO.op rfl rfl rfl rfl (step_pure Try.call24 rfl (by (repeat (first | exact Nl.nil | refine Nl.keep (by rfl) ?_))) (w_Add (by omega) (by omega)) (by repeat (rfl))) ?_
  refine WO.op rfl rfl rfl rfl (as_sc rfl) ?_
  refine WO.nil ?_
  refine W.seq ?_
  refine W.to [(0, _), (1, _), (2, _), (3, _), (8, _), (9, _)] [] rfl ⟨(by exact sh_sc rfl), (by exact sh_sc rfl), (by exact sh_sc rfl), (by exact sh_sc rfl), (by exact sh_sc rfl), (by exact sh_sc rfl), trivial⟩ ?_
  refine W.region ?_
  refine WO.op rfl rfl rfl rfl (mv_sc rfl) ?_
  refine WO.op rfl rfl rfl rfl (mv_sc rfl) ?_
  refine WO.op rfl rfl rfl rfl (step_convR Try.runUnderlying3 Try.runUnderlying5 rfl (by exact convN (by (simp only [cap]; omega)))) ?_
  refine WO.op rfl rfl rfl rfl (step_convR Try.runUnderlying5 Try.runUnderlying37 rfl (by exact convN (by (simp only [cap]; omega)))) ?_
  refine WO.op rfl rfl rfl rfl (mv_sc rfl) ?_
  refine WO.op rfl rfl rfl rfl (step_convR Try.runUnderlying3 Try.runUnderlying37 rfl (by exact modN16 _)) ?_
  refine WO.op rfl rfl rfl rfl (step_pure Try.call24 rfl (by (repeat (first | exact Nl.nil | refine Nl.keep (by rfl) ?_))) (w_Add (by omega) (by omega)) (by repeat (rfl))) ?_
  refine WO.op rfl rfl rfl rfl (step_pure Try.call24 rfl (by (repeat (first | exact Nl.nil | refine Nl.keep (by rfl) ?_))) (w_Add (by omega) (by omega)) (by repeat (rfl))) ?_
  refine WO.op rfl rfl rfl rfl (as_sc rfl) ?_
  refine WO.nil ?_
  refine W.ret ?_
  refine ⟨.inl rfl, ?_⟩
  exact ret0 (Res.tmp rfl Res.nil) (.keep rfl)

theorem w_whole {a b p : Nat} {l : List UInt8} (ha : a < 4294967296) (hb : b < 4294967296) (hp : p ≤ 255) (hl : l.length ≤ 200000000000000) : Spec0 Try.prog 21 [.sc (.int .u32 ((a : Nat) : Int)), .sc (.int .u32 ((b : Nat) : Int)), .sc (.int .i64 ((p : Nat) : Int)), .im 1 (l.map byteAV)] (.sc (.int .u16 ((fo (psu a b p l.length + ws l l.length) : Nat) : Int))) := by
  refine Spec.body Try.func21 rfl (Nat.le_of_ble_eq_true rfl) ?_
  have f1 := fo_le (psu a b p l.length)
  have f2 := fo_le (ws l l.length)
  have e : fo (psu a b p l.length + ws l l.length) = fo (fo (psu a b p l.length) + fo (ws l l.length)) := by rw [fo_add, fo_add']
  rw [e]
  refine W.seq ?_
  refine W.region ?_
  refine WO.op rfl rfl rfl rfl (as_sc rfl) ?_
  refine WO.nil ?_
  refine W.seq ?_
  refine W.to [(0, _), (1, _), (2, _), (3, _), (8, _)] [] rfl ⟨(by exact sh_sc rfl), (by exact sh_sc rfl), (by exact sh_sc rfl), (by exact sh_im rfl), (by exact sh_sc rfl), trivial⟩ ?_
  refine W.region ?_
  refine WO.op rfl rfl rfl rfl (mv_sc rfl) ?_
  refine WO.op rfl rfl rfl rfl (mv_sc rfl) ?_
  refine WO.op rfl rfl rfl rfl (mv_sc rfl) ?_
  refine WO.op rfl rfl rfl rfl (mv_im rfl) ?_
  refine WO.op rfl rfl rfl rfl (step_lenB Try.runUnderlying23 rfl) ?_
  refine WO.op rfl rfl rfl rfl (step_pure Try.call16 rfl (by (repeat (first | exact Nl.nil | refine Nl.keep (by rfl) ?_))) (w_Pseudo ha hb hp hl) (by repeat (rfl))) ?_
  refine WO.op rfl rfl rfl rfl (mv_im rfl) ?_
  refine WO.op rfl rfl rfl rfl (step_pure Try.call18 rfl (by (repeat (first | exact Nl.nil | refine Nl.keep (by exact noOwn_im) ?_))) (w_Sum hl) (by repeat (rfl))) ?_
  refine WO.op rfl rfl rfl rfl (step_pure Try.call36 rfl (by (repeat (first | exact Nl.nil | refine Nl.keep (by rfl) ?_))) (w_sAdd f1 f2) (by repeat (rfl))) ?_
  refine WO.op rfl rfl rfl rfl (as_sc rfl) ?_
  refine WO.nil ?_
  refine W.ret ?_
  refine ⟨.inl rfl, ?_⟩
  exact ret0 (Res.tmp rfl Res.nil) (.keep rfl)

theorem be_lt : ∀ (l : List UInt8), be l < 256 ^ l.length := by
  have key : ∀ (l : List UInt8) (x : Nat), l.foldl (fun x c => x * 256 + c.toNat) x < (x + 1) * 256 ^ l.length := by
    intro l
    induction l with
    | nil => intro x; simp
    | cons c l ih =>
      intro x
      have h1 := ih (x * 256 + c.toNat)
      have h2 := byte_le c
      have h3 : (x * 256 + c.toNat + 1) * 256 ^ l.length ≤ ((x + 1) * 256) * 256 ^ l.length := Nat.mul_le_mul_right _ (by omega)
      simp only [List.foldl_cons, List.length_cons, Nat.pow_succ]
      calc _ < _ := h1
        _ ≤ _ := h3
        _ = _ := by rw [Nat.mul_assoc, Nat.mul_comm 256]
  intro l
  have := key l 0
  simpa [be] using this
theorem be_take {n k : Nat} (l : List UInt8) (h : n ≤ k) : be (l.take n) < 256 ^ k := by
  have h1 := be_lt (l.take n)
  have h2 : (l.take n).length ≤ k := by rw [List.length_take]; omega
  exact Nat.lt_of_lt_of_le h1 (Nat.pow_le_pow_right (by decide) h2)
theorem be2 (l : List UInt8) : be (l.take 2) < 65536 := be_take l (n := 2) (k := 2) (by decide)
theorem be4 (l : List UInt8) : be (l.take 4) < 4294967296 := be_take l (n := 4) (k := 4) (by decide)

theorem w_get2 {l : List UInt8} : Spec0 Try.prog 19 [.im 1 ((l.take 2).map byteAV)] (.sc (.int .u32 ((be (l.take 2) : Nat) : Int))) := by
  have h := w_get (l := l.take 2) (by rw [List.length_take]; omega)
  rwa [Nat.mod_eq_of_lt (by have := be2 l; omega)] at h
theorem w_get4 {l : List UInt8} : Spec0 Try.prog 19 [.im 1 ((l.take 4).map byteAV)] (.sc (.int .u32 ((be (l.take 4) : Nat) : Int))) := by
  have h := w_get (l := l.take 4) (by rw [List.length_take]; omega)
  rwa [Nat.mod_eq_of_lt (by have := be4 l; omega)] at h
theorem w_Num2 {l : List UInt8} : Spec0 Try.prog 37 [.im 1 ((l.take 2).map byteAV)] (.sc (.int .u64 ((be (l.take 2) : Nat) : Int))) := by
  have h := w_Num (l := l.take 2) (by rw [List.length_take]; omega)
  rwa [Nat.mod_eq_of_lt (by have := be2 l; omega)] at h
theorem w_Num4 {l : List UInt8} : Spec0 Try.prog 37 [.im 1 ((l.take 4).map byteAV)] (.sc (.int .u64 ((be (l.take 4) : Nat) : Int))) := by
  have h := w_Num (l := l.take 4) (by rw [List.length_take]; omega)
  rwa [Nat.mod_eq_of_lt (by have := be4 l; omega)] at h
def sub (l : List UInt8) (i n : Nat) : List UInt8 := (l.drop i).take n

theorem w_two {l : List UInt8} {i : Nat} (hi : i + 2 ≤ l.length) (hl : l.length ≤ 200000000000000) : Spec0 Try.prog 20 [.im 1 (l.map byteAV), .sc (.int .i64 ((i : Nat) : Int))] (.sc (.int .i64 ((be (sub l i 2) : Nat) : Int))) := by
  refine Spec.body Try.func20 rfl (Nat.le_of_ble_eq_true rfl) ?_
  have e2 : be (List.take 2 (List.drop i l)) < 65536 := be2 _
  refine W.seq ?_
  refine W.region ?_
  refine WO.op rfl rfl rfl rfl (as_sc rfl) ?_
  refine WO.nil ?_
  refine W.seq ?_
  refine W.to [(0, _), (1, _), (4, _)] [] rfl ⟨(by exact sh_im rfl), (by exact sh_sc rfl), (by exact sh_sc rfl), trivial⟩ ?_
  refine W.region ?_
  refine WO.op rfl rfl rfl rfl (mv_im rfl) ?_
  refine WO.op rfl rfl rfl rfl (mv_sc rfl) ?_
  refine WO.op rfl rfl rfl rfl (mv_sc rfl) ?_
  refine WO.op rfl rfl rfl rfl (step_addN (q := 2) rfl rfl (by (simp only [cap]; omega))) ?_
  refine WO.op rfl rfl rfl rfl (step_subB Try.runUnderlying23 Try.sizeOf5 rfl (Bd.some rfl (by (exact rfl))) (Bd.some rfl (by (exact rfl))) (by omega) (by omega) (by exact Nat.sub_zero _) rfl) ?_
  refine WO.put 9 (.im 1 ((List.take 2 (List.drop i l)).map byteAV)) (congrArg (fun z : Nat => AV.im 1 ((List.take z (List.drop i l)).map byteAV)) (by exact Nat.add_sub_cancel_left _ _)) ?_
  refine WO.op rfl rfl rfl rfl (step_pure Try.call19 rfl (by (repeat (first | exact Nl.nil | refine Nl.keep (by exact noOwn_im) ?_))) (w_get2) (by repeat (rfl))) ?_
  refine WO.op rfl rfl rfl rfl (step_convR Try.runUnderlying22 Try.runUnderlying3 rfl (by exact convN (by (simp only [cap]; omega)))) ?_
  refine WO.op rfl rfl rfl rfl (as_sc rfl) ?_
  refine WO.nil ?_
  refine W.ret ?_
  refine ⟨.inl rfl, ?_⟩
  exact ret0 (Res.tmp rfl Res.nil) (.keep rfl)

theorem w_put {l : List UInt8} {len i x : Nat} (hx : x < 4294967296) (hi : i + 2 ≤ len) (hl : len ≤ l.length) (hm : l.length ≤ 200000000000000) : Go.SL.Spec Try.prog 28 [.sl 0 0 len, .sc (.int .i64 ((i : Nat) : Int)), .sc (.int .i64 ((x : Nat) : Int))] [.row 1 (l.map byteAV)] (fun r hp' => r = .tup [] ∧ hp' = [.row 1 ((put2 l i x).map byteAV)]) := by
  refine Spec.body Try.func28 rfl (Nat.le_of_ble_eq_true rfl) ?_
  refine W.region ?_
  refine WO.op rfl rfl rfl rfl (mv_sl rfl) ?_
  refine WO.op rfl rfl rfl rfl (mv_sc rfl) ?_
  refine WO.op rfl rfl rfl rfl (mv_sl rfl) ?_
  refine WO.op rfl rfl rfl rfl (mv_sc rfl) ?_
  refine WO.op rfl rfl rfl rfl (step_addN (q := 1) rfl rfl (by (simp only [cap]; omega))) ?_
  refine WO.op rfl rfl rfl rfl (mv_sc rfl) ?_
  refine WO.op rfl rfl rfl rfl (step_shrN (s := 8) rfl rfl (by (simp only [cap]; omega))) ?_
  refine WO.op rfl rfl rfl rfl (step_convR Try.runUnderlying3 Try.runUnderlying5 rfl (by exact modN8 _)) ?_
  refine WO.op rfl rfl rfl rfl (mv_sc rfl) ?_
  refine WO.op rfl rfl rfl rfl (step_convR Try.runUnderlying3 Try.runUnderlying5 rfl (by exact modN8 _)) ?_
  refine WO.op rfl rfl rfl rfl (step_idxO Try.runUnderlying23 Try.sizeOf5 rfl rfl rfl (by (exact rfl)) (by omega) (by exact Nat.zero_add _)) ?_
  refine WO.op0 rfl rfl rfl (step_storeB (b := _) Try.sizeOf5 rfl rfl rfl (by (exact u8_mod _)) (by omega)) ?_
  refine WO.op rfl rfl rfl rfl (step_idxO Try.runUnderlying23 Try.sizeOf5 rfl rfl rfl (by (exact rfl)) (by omega) (by exact Nat.zero_add _)) ?_
  refine WO.op0 rfl rfl rfl (step_storeB (b := _) Try.sizeOf5 rfl rfl rfl (by (exact u8_mod _)) (by (simp only [List.length_map, List.length_append, List.length_take, List.length_drop, List.length_set, List.length_cons, List.length_nil, List.length_replicate] <;> omega))) ?_
  refine WO.nil ?_
  refine ⟨.inr rfl, ?_⟩
  exact retS Res.nil (congrArg (fun z => [AObj.row 1 ((((l.set i (byteOf x 8)).set (i + 1) z)).map byteAV)]) (byte_lo x)) (by simp) rfl

theorem w_put4 {l : List UInt8} {len i x : Nat} (hx : x < 4294967296) (hi : i + 4 ≤ len) (hl : len ≤ l.length) (hm : l.length ≤ 200000000000000) : Go.SL.Spec Try.prog 27 [.sl 0 0 len, .sc (.int .i64 ((i : Nat) : Int)), .sc (.int .u32 ((x : Nat) : Int))] [.row 1 (l.map byteAV)] (fun r hp' => r = .tup [] ∧ hp' = [.row 1 ((put4L l i x).map byteAV)]) := by
  refine Spec.body Try.func27 rfl (Nat.le_of_ble_eq_true rfl) ?_
  refine W.seq ?_
  refine W.region ?_
  refine WO.op rfl rfl rfl rfl (mv_sl rfl) ?_
  refine WO.op rfl rfl rfl rfl (mv_sc rfl) ?_
  refine WO.op rfl rfl rfl rfl (mv_sc rfl) ?_
  refine WO.op rfl rfl rfl rfl (step_shrN (s := 16) rfl rfl (by (simp only [cap]; omega))) ?_
  refine WO.op rfl rfl rfl rfl (step_convR Try.runUnderlying22 Try.runUnderlying3 rfl (by exact convN (by (simp only [cap]; omega)))) ?_
  refine WO.op rfl rfl rfl rfl (step_over Try.call28 rfl rfl rfl noOwn_bytes noOwn_bytes rfl (w_put (by omega) (by omega) (by omega) (by omega))) ?_
  refine WO.nil ?_
  refine W.to [(0, _), (1, _), (2, _)] [_] rfl ⟨(by exact sh_sl rfl), (by exact sh_sc rfl), (by exact sh_sc rfl), trivial⟩ ?_
  refine W.region ?_
  refine WO.op rfl rfl rfl rfl (mv_sl rfl) ?_
  refine WO.op rfl rfl rfl rfl (mv_sc rfl) ?_
  refine WO.op rfl rfl rfl rfl (step_addN (q := 2) rfl rfl (by (simp only [cap]; omega))) ?_
  refine WO.op rfl rfl rfl rfl (mv_sc rfl) ?_
  refine WO.op rfl rfl rfl rfl (step_andN (q := 65535) rfl rfl (by (simp only [cap]; omega)) (by (simp only [cap]; omega))) ?_
  refine WO.put 16 (.sc (.int .u32 ((x % 65536 : Nat) : Int))) (congrArg (fun z : Nat => AV.sc (.int .u32 (z : Int))) (Nat.and_two_pow_sub_one_eq_mod _ 16)) ?_
  refine WO.op rfl rfl rfl rfl (step_convR Try.runUnderlying22 Try.runUnderlying3 rfl (by exact convN (by (simp only [cap]; omega)))) ?_
  refine WO.op rfl rfl rfl rfl (step_over Try.call28 rfl rfl rfl noOwn_bytes noOwn_bytes rfl (w_put (by omega) (by omega) (by (rw [put2_len]; omega)) (by (rw [put2_len]; omega)))) ?_
  refine WO.nil ?_
  refine ⟨.inr rfl, ?_⟩
  exact retS Res.nil rfl (by simp) rfl

theorem w_Proto1  : Spec0 Try.prog 15 [.sc (.int .i64 1)] (.tup [.sc (.int .i64 1), .sc (.bool true)]) := by
  refine Spec.body Try.func15 rfl (Nat.le_of_ble_eq_true rfl) ?_
  refine W.seq ?_
  refine W.region ?_
  refine WO.op rfl rfl rfl rfl (as_sc rfl) ?_
  refine WO.op rfl rfl rfl rfl (as_sc rfl) ?_
  refine WO.nil ?_
  refine W.seq ?_
  refine W.seq ?_
  refine W.to [(0, _), (2, _), (3, _)] [] rfl ⟨(by exact sh_sc rfl), (by exact sh_sc rfl), (by exact sh_sc rfl), trivial⟩ ?_
  refine W.region ?_
  refine WO.op rfl rfl rfl rfl (mv_sc rfl) ?_
  refine WO.nil ?_
  refine W.block ?_
  refine W.seq ?_
  refine W.to [(0, _), (2, _), (3, _), (4, _)] [] rfl ⟨(by exact sh_sc rfl), (by exact sh_sc rfl), (by exact sh_sc rfl), (by exact sh_sc rfl), trivial⟩ ?_
  refine W.region ?_
  refine WO.op rfl rfl rfl rfl (step_int2 rfl rfl rfl) ?_
  refine WO.put 6 (.sc (.bool true)) (by kernel_rfl) ?_
  refine WO.op rfl rfl rfl rfl (as_sc rfl) ?_
  refine WO.nil ?_
  refine W.condT rfl ?_
  refine W.seq ?_
  refine W.to [(0, _), (2, _), (3, _), (4, _), (5, _)] [] rfl ⟨(by exact sh_sc rfl), (by exact sh_sc rfl), (by exact sh_sc rfl), (by exact sh_sc rfl), (by exact sh_sc rfl), trivial⟩ ?_
  refine W.region ?_
  refine WO.op rfl rfl rfl rfl (as_sc rfl) ?_
  refine WO.op rfl rfl rfl rfl (as_sc rfl) ?_
  refine WO.nil ?_
  refine W.ret ?_
  refine ⟨.inl rfl, ?_⟩
  exact ret0 (Res.tmp rfl (Res.tmp rfl Res.nil)) (.keep rfl)

theorem w_Proto2  : Spec0 Try.prog 15 [.sc (.int .i64 2)] (.tup [.sc (.int .i64 17), .sc (.bool true)]) := by
  refine Spec.body Try.func15 rfl (Nat.le_of_ble_eq_true rfl) ?_
  refine W.seq ?_
  refine W.region ?_
  refine WO.op rfl rfl rfl rfl (as_sc rfl) ?_
  refine WO.op rfl rfl rfl rfl (as_sc rfl) ?_
  refine WO.nil ?_
  refine W.seq ?_
  refine W.seq ?_
  refine W.to [(0, _), (2, _), (3, _)] [] rfl ⟨(by exact sh_sc rfl), (by exact sh_sc rfl), (by exact sh_sc rfl), trivial⟩ ?_
  refine W.region ?_
  refine WO.op rfl rfl rfl rfl (mv_sc rfl) ?_
  refine WO.nil ?_
  refine W.block ?_
  refine W.seq ?_
  refine W.to [(0, _), (2, _), (3, _), (4, _)] [] rfl ⟨(by exact sh_sc rfl), (by exact sh_sc rfl), (by exact sh_sc rfl), (by exact sh_sc rfl), trivial⟩ ?_
  refine W.region ?_
  refine WO.op rfl rfl rfl rfl (step_int2 rfl rfl rfl) ?_
  refine WO.put 6 (.sc (.bool false)) (by kernel_rfl) ?_
  refine WO.op rfl rfl rfl rfl (as_sc rfl) ?_
  refine WO.nil ?_
  refine W.condF rfl ?_
  refine W.seq ?_
  refine W.to [(0, _), (2, _), (3, _), (4, _), (5, _)] [] rfl ⟨(by exact sh_sc rfl), (by exact sh_sc rfl), (by exact sh_sc rfl), (by exact sh_sc rfl), (by exact sh_sc rfl), trivial⟩ ?_
  refine W.region ?_
  refine WO.op rfl rfl rfl rfl (step_int2 rfl rfl rfl) ?_
  refine WO.put 8 (.sc (.bool true)) (by kernel_rfl) ?_
  refine WO.op rfl rfl rfl rfl (as_sc rfl) ?_
  refine WO.nil ?_
  refine W.condT rfl ?_
  refine W.seq ?_
  refine W.to [(0, _), (2, _), (3, _), (4, _), (5, _), (7, _)] [] rfl ⟨(by exact sh_sc rfl), (by exact sh_sc rfl), (by exact sh_sc rfl), (by exact sh_sc rfl), (by exact sh_sc rfl), (by exact sh_sc rfl), trivial⟩ ?_
  refine W.region ?_
  refine WO.op rfl rfl rfl rfl (as_sc rfl) ?_
  refine WO.op rfl rfl rfl rfl (as_sc rfl) ?_
  refine WO.nil ?_
  refine W.ret ?_
  refine ⟨.inl rfl, ?_⟩
  exact ret0 (Res.tmp rfl (Res.tmp rfl Res.nil)) (.keep rfl)

theorem w_Proto3  : Spec0 Try.prog 15 [.sc (.int .i64 3)] (.tup [.sc (.int .i64 6), .sc (.bool true)]) := by
  refine Spec.body Try.func15 rfl (Nat.le_of_ble_eq_true rfl) ?_
  refine W.seq ?_
  refine W.region ?_
  refine WO.op rfl rfl rfl rfl (as_sc rfl) ?_
  refine WO.op rfl rfl rfl rfl (as_sc rfl) ?_
  refine WO.nil ?_
  refine W.seq ?_
  refine W.seq ?_
  refine W.to [(0, _), (2, _), (3, _)] [] rfl ⟨(by exact sh_sc rfl), (by exact sh_sc rfl), (by exact sh_sc rfl), trivial⟩ ?_
  refine W.region ?_
  refine WO.op rfl rfl rfl rfl (mv_sc rfl) ?_
  refine WO.nil ?_
  refine W.block ?_
  refine W.seq ?_
  refine W.to [(0, _), (2, _), (3, _), (4, _)] [] rfl ⟨(by exact sh_sc rfl), (by exact sh_sc rfl), (by exact sh_sc rfl), (by exact sh_sc rfl), trivial⟩ ?_
  refine W.region ?_
  refine WO.op rfl rfl rfl rfl (step_int2 rfl rfl rfl) ?_
  refine WO.put 6 (.sc (.bool false)) (by kernel_rfl) ?_
  refine WO.op rfl rfl rfl rfl (as_sc rfl) ?_
  refine WO.nil ?_
  refine W.condF rfl ?_
  refine W.seq ?_
  refine W.to [(0, _), (2, _), (3, _), (4, _), (5, _)] [] rfl ⟨(by exact sh_sc rfl), (by exact sh_sc rfl), (by exact sh_sc rfl), (by exact sh_sc rfl), (by exact sh_sc rfl), trivial⟩ ?_
  refine W.region ?_
  refine WO.op rfl rfl rfl rfl (step_int2 rfl rfl rfl) ?_
  refine WO.put 8 (.sc (.bool false)) (by kernel_rfl) ?_
  refine WO.op rfl rfl rfl rfl (as_sc rfl) ?_
  refine WO.nil ?_
  refine W.condF rfl ?_
  refine W.seq ?_
  refine W.to [(0, _), (2, _), (3, _), (4, _), (5, _), (7, _)] [] rfl ⟨(by exact sh_sc rfl), (by exact sh_sc rfl), (by exact sh_sc rfl), (by exact sh_sc rfl), (by exact sh_sc rfl), (by exact sh_sc rfl), trivial⟩ ?_
  refine W.region ?_
  refine WO.op rfl rfl rfl rfl (step_int2 rfl rfl rfl) ?_
  refine WO.put 10 (.sc (.bool true)) (by kernel_rfl) ?_
  refine WO.op rfl rfl rfl rfl (as_sc rfl) ?_
  refine WO.nil ?_
  refine W.condT rfl ?_
  refine W.seq ?_
  refine W.to [(0, _), (2, _), (3, _), (4, _), (5, _), (7, _), (9, _)] [] rfl ⟨(by exact sh_sc rfl), (by exact sh_sc rfl), (by exact sh_sc rfl), (by exact sh_sc rfl), (by exact sh_sc rfl), (by exact sh_sc rfl), (by exact sh_sc rfl), trivial⟩ ?_
  refine W.region ?_
  refine WO.op rfl rfl rfl rfl (as_sc rfl) ?_
  refine WO.op rfl rfl rfl rfl (as_sc rfl) ?_
  refine WO.nil ?_
  refine W.ret ?_
  refine ⟨.inl rfl, ?_⟩
  exact ret0 (Res.tmp rfl (Res.tmp rfl Res.nil)) (.keep rfl)

theorem w_ProtoX {k : Int} (h : k ≠ 1 ∧ k ≠ 2 ∧ k ≠ 3) : Spec0 Try.prog 15 [.sc (.int .i64 k)] (.tup [.sc (.int .i64 0), .sc (.bool false)]) := by
  refine Spec.body Try.func15 rfl (Nat.le_of_ble_eq_true rfl) ?_
  refine W.seq ?_
  refine W.region ?_
  refine WO.op rfl rfl rfl rfl (as_sc rfl) ?_
  refine WO.op rfl rfl rfl rfl (as_sc rfl) ?_
  refine WO.nil ?_
  refine W.seq ?_
  refine W.seq ?_
  refine W.to [(0, _), (2, _), (3, _)] [] rfl ⟨(by exact sh_sc rfl), (by exact sh_sc rfl), (by exact sh_sc rfl), trivial⟩ ?_
  refine W.region ?_
  refine WO.op rfl rfl rfl rfl (mv_sc rfl) ?_
  refine WO.nil ?_
  refine W.block ?_
  refine W.seq ?_
  refine W.to [(0, _), (2, _), (3, _), (4, _)] [] rfl ⟨(by exact sh_sc rfl), (by exact sh_sc rfl), (by exact sh_sc rfl), (by exact sh_sc rfl), trivial⟩ ?_
  refine W.region ?_
  refine WO.op rfl rfl rfl rfl (step_int2 rfl rfl rfl) ?_
  refine WO.put 6 (.sc (.bool false)) (congrArg (fun b : Bool => AV.sc (.bool b)) (by simp; omega)) ?_
  refine WO.op rfl rfl rfl rfl (as_sc rfl) ?_
  refine WO.nil ?_
  refine W.condF rfl ?_
  refine W.seq ?_
  refine W.to [(0, _), (2, _), (3, _), (4, _), (5, _)] [] rfl ⟨(by exact sh_sc rfl), (by exact sh_sc rfl), (by exact sh_sc rfl), (by exact sh_sc rfl), (by exact sh_sc rfl), trivial⟩ ?_
  refine W.region ?_
  refine WO.op rfl rfl rfl rfl (step_int2 rfl rfl rfl) ?_
  refine WO.put 8 (.sc (.bool false)) (congrArg (fun b : Bool => AV.sc (.bool b)) (by simp; omega)) ?_
  refine WO.op rfl rfl rfl rfl (as_sc rfl) ?_
  refine WO.nil ?_
  refine W.condF rfl ?_
  refine W.seq ?_
  refine W.to [(0, _), (2, _), (3, _), (4, _), (5, _), (7, _)] [] rfl ⟨(by exact sh_sc rfl), (by exact sh_sc rfl), (by exact sh_sc rfl), (by exact sh_sc rfl), (by exact sh_sc rfl), (by exact sh_sc rfl), trivial⟩ ?_
  refine W.region ?_
  refine WO.op rfl rfl rfl rfl (step_int2 rfl rfl rfl) ?_
  refine WO.put 10 (.sc (.bool false)) (congrArg (fun b : Bool => AV.sc (.bool b)) (by simp; omega)) ?_
  refine WO.op rfl rfl rfl rfl (as_sc rfl) ?_
  refine WO.nil ?_
  refine W.condF rfl ?_
  refine W.skip ?_
  refine W.seq ?_
  refine W.to [(0, _), (2, _), (3, _), (4, _), (5, _), (7, _), (9, _)] [] rfl ⟨(by exact sh_sc rfl), (by exact sh_sc rfl), (by exact sh_sc rfl), (by exact sh_sc rfl), (by exact sh_sc rfl), (by exact sh_sc rfl), (by exact sh_sc rfl), trivial⟩ ?_
  refine W.region ?_
  refine WO.op rfl rfl rfl rfl (as_sc rfl) ?_
  refine WO.op rfl rfl rfl rfl (as_sc rfl) ?_
  refine WO.nil ?_
  refine W.ret ?_
  refine ⟨.inl rfl, ?_⟩
  exact ret0 (Res.tmp rfl (Res.tmp rfl Res.nil)) (.keep rfl)

end Go.Proofs.Ytdmlkcphlidcfaa
