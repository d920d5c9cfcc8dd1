/-
  What an argument holds when a law is called, and the tables.
-/
import Derived.LaidLaws
import Derived.LaidHandle
import Derived.MakeChecks
import Derived.Test.YtbimmnnjnlfddaaDoorRows
import Derived.Test.YtbimmnnjnlfddaaDoorX7
import Derived.Test.YtbimmnnjnlfddaaDoorSxF
import Derived.Test.YtbimmnnjnlfddaaDoorSxJ
set_option linter.unusedVariables false
set_option linter.unusedSimpArgs false
set_option maxRecDepth 100000
set_option maxHeartbeats 1000000
namespace Go.Proofs.YtbimmnnjnlfddaaDoor
open Go Go.SL Go.Proofs
open Go.ChangeShapes Go.WideShapes Go.ChangeAt Go.RowKit
theorem Tryd.own : ownKnob Tryd.prog.godebug = none := by kernel_rfl
theorem Tryd.laidOut : laidOutB Tryd.prog = true := by kernel_rfl
def isK (k : IntKind) (x : AV) : Prop := ∃ n : Int, x = .sc (.int k n) ∧ k.min ≤ n ∧ n ≤ k.max
def isStr (x : AV) : Prop := ∃ s : ByteArray, x = .sc (.string s) ∧ s.size ≤ reachBytes
def isBool (x : AV) : Prop := ∃ b : Bool, x = .sc (.bool b)
def isBytes (x : AV) : Prop := ∃ l : List UInt8, x = .im 1 (l.map byteAV) ∧ l.length ≤ 140737488351232

def isTerms (x : AV) : Prop := ∃ l : List Term, x = TL l ∧ l.length ≤ 5864062014805 ∧ UL l
theorem terms_of : ∀ {rows : List (List AV)}, (∀ r ∈ rows, r.length = 3 ∧ Fit [.int .i64, .int .u64, .int .u64] r) → ∃ l : List Term, rows.flatten = l.flatMap tC ∧ l.length = rows.length ∧ UL l
  | [], _ => ⟨[], rfl, rfl, fun t h => absurd h (by simp)⟩
  | r :: rows, h => by
    obtain ⟨l, h1, h2, h5⟩ := terms_of fun x hx => h x (List.mem_cons_of_mem _ hx)
    obtain ⟨_, _, _, rfl, ⟨a, rfl, ka⟩, _, _, rfl, ⟨b, rfl, kb⟩, _, _, rfl, ⟨c, rfl, kc⟩, h3⟩ := h r List.mem_cons_self
    simp only [Fit] at h3
    subst h3
    refine ⟨⟨a, b, c⟩ :: l, by rw [List.flatten_cons, h1, List.flatMap_cons]; rfl, by simp [h2], fun t ht => ?_⟩
    rcases List.mem_cons.1 ht with rfl | ht
    · have e0 : IntKind.u64.min = 0 := rfl
      have e1 : IntKind.u64.max = 18446744073709551615 := rfl
      rw [e0, e1] at kb kc
      exact ⟨⟨kb.1, by have := kb.2; simp only; omega⟩, ⟨kc.1, by have := kc.2; simp only; omega⟩⟩
    · exact h5 t ht
theorem rv_Terms (W : World) : RdV Tryd.prog W 22 isTerms := by
  refine RdV.mono' (rv_slice (k := 3) Tryd.underlying22 (by kernel_rfl) (by decide) (rd_leaves 60 52 [.int .i64, .int .u64, .int .u64] (by kernel_rfl))) ?_
  rintro x ⟨rows, rfl, h1, h2⟩
  obtain ⟨l, h3, h4, h5⟩ := terms_of h2
  refine ⟨l, by rw [h3], ?_, h5⟩
  have : Tryd.prog.bytesOf 52 = 24 := by kernel_rfl
  rw [this] at h1
  simp only [reachBytes] at h1
  omega
/-- The tables that the rows list. -/
def LAID : List (String × DataW Unit) := [("math/bits.deBruijn32tab", Rows.laid_math_bits_deBruijn32tab), ("math/bits.deBruijn64tab", Rows.laid_math_bits_deBruijn64tab), ("internal/strconv.uint64pow10", Rows.laid_internal_strconv_uint64pow10)]
abbrev XL (w : World) (_ : Array Value) : Prop := laidMetH Tryd.prog LAID w
def zs64 : List Int := [0, 1, 56, 2, 57, 49, 28, 3, 61, 58, 42, 50, 38, 29, 17, 4, 62, 47, 59, 36, 45, 43, 51, 22, 53, 39, 33, 30, 24, 18, 12, 5, 63, 55, 48, 27, 60, 41, 37, 16, 46, 35, 44, 21, 52, 32, 23, 11, 54, 26, 40, 15, 34, 20, 31, 10, 25, 14, 19, 9, 13, 8, 7, 6]
theorem g64 : Tryd.prog.globalNamed "math/bits.deBruijn64tab" = some 3 := by kernel_rfl
theorem t64 : (Tryd.prog.globals[3]?).map (·.type) = some 118 := by kernel_rfl
theorem tb_laid (W : World) (args : Array Value) (h : XL W args) : TB [] W := by
  unfold XL at h
  rw [MakeChecks.laidMetH_plain _ _ _ (by kernel_rfl)] at h
  obtain ⟨ps, ⟨_, _, _, _, _, _, _, _, _, _, ⟨g, t, cs, fuel, p, q, hg, ht, hvar, hd, _, _⟩, _⟩, _⟩ := h
  obtain rfl := Option.some.inj (g64.symm.trans hg)
  obtain rfl := Option.some.inj (t64.symm.trans ht)
  have hcs := tab_of_trod (zs := zs64) Tryd.underlying118 Tryd.underlying5 (by kernel_rfl) (by kernel_rfl) hd
  have hh : ∃ el fr, W.heap[3]? = some (Obj.cells cs el fr) := by
    unfold World.var? at hvar
    rw [g64] at hvar
    simp only [Option.bind_some] at hvar
    split at hvar
    · rename_i c el fr hc
      simp only [Option.some.injEq] at hvar
      subst hvar
      exact ⟨el, fr, hc⟩
    · simp at hvar
  obtain ⟨el, fr, hh⟩ := hh
  intro g xs hx
  have hx' : tabL g = some xs := hx
  unfold tabL at hx'
  split at hx'
  · simp only [Option.some.injEq] at hx'
    subst hx'
    exact ⟨⟨cs, el, fr, hh, hcs⟩, fun ⟨_, _, _, _, h⟩ => by simp at h⟩
  · simp at hx'
def put (vs : Array Value) : Obj → Obj
  | .cells _ t frozen => .cells vs t frozen
  | o => o
noncomputable def laidWorld (os : Os) (args : Array Value) : World :=
  let w := World.holding Tryd.prog os ⟨#[], args, []⟩
  { w with heap := ((w.heap.modify 2 (put #[.int .u8 0, .int .u8 1, .int .u8 28, .int .u8 2, .int .u8 29, .int .u8 14, .int .u8 24, .int .u8 3, .int .u8 30, .int .u8 22, .int .u8 20, .int .u8 15, .int .u8 25, .int .u8 17, .int .u8 4, .int .u8 8, .int .u8 31, .int .u8 27, .int .u8 13, .int .u8 23, .int .u8 21, .int .u8 19, .int .u8 16, .int .u8 7, .int .u8 26, .int .u8 12, .int .u8 18, .int .u8 6, .int .u8 11, .int .u8 5, .int .u8 10, .int .u8 9])).modify 3 (put #[.int .u8 0, .int .u8 1, .int .u8 56, .int .u8 2, .int .u8 57, .int .u8 49, .int .u8 28, .int .u8 3, .int .u8 61, .int .u8 58, .int .u8 42, .int .u8 50, .int .u8 38, .int .u8 29, .int .u8 17, .int .u8 4, .int .u8 62, .int .u8 47, .int .u8 59, .int .u8 36, .int .u8 45, .int .u8 43, .int .u8 51, .int .u8 22, .int .u8 53, .int .u8 39, .int .u8 33, .int .u8 30, .int .u8 24, .int .u8 18, .int .u8 12, .int .u8 5, .int .u8 63, .int .u8 55, .int .u8 48, .int .u8 27, .int .u8 60, .int .u8 41, .int .u8 37, .int .u8 16, .int .u8 46, .int .u8 35, .int .u8 44, .int .u8 21, .int .u8 52, .int .u8 32, .int .u8 23, .int .u8 11, .int .u8 54, .int .u8 26, .int .u8 40, .int .u8 15, .int .u8 34, .int .u8 20, .int .u8 31, .int .u8 10, .int .u8 25, .int .u8 14, .int .u8 19, .int .u8 9, .int .u8 13, .int .u8 8, .int .u8 7, .int .u8 6])).modify 1 (put #[.int .u64 1, .int .u64 10, .int .u64 100, .int .u64 1000, .int .u64 10000, .int .u64 100000, .int .u64 1000000, .int .u64 10000000, .int .u64 100000000, .int .u64 1000000000, .int .u64 10000000000, .int .u64 100000000000, .int .u64 1000000000000, .int .u64 10000000000000, .int .u64 100000000000000, .int .u64 1000000000000000, .int .u64 10000000000000000, .int .u64 100000000000000000, .int .u64 1000000000000000000, .int .u64 10000000000000000000]) }

end Go.Proofs.YtbimmnnjnlfddaaDoor
