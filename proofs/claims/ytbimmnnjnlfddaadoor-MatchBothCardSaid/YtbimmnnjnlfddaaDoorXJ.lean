/-
  strings.Join, as the kit proves it, turned into a contract on abstract values.
-/
import Derived.Test.YtbimmnnjnlfddaaDoorXS
import Derived.Shelf.Strings.OnBuilder
set_option linter.unusedVariables false
set_option maxRecDepth 100000
set_option maxHeartbeats 1000000
namespace Go.Proofs.YtbimmnnjnlfddaaDoor
open Go Go.SL Go.Proofs Go.Shelf Go.RowKit

def rJ : Ren := ⟨fun | 156 => 31 | 165 => 39 | 166 => 40 | 169 => 41 | 240 => 47 | 241 => 48 | 276 => 86 | 277 => 87 | n => n, fun | 31 => 62 | 9 => 9 | 3 => 3 | 4 => 4 | 0 => 0 | 20 => 20 | 72 => 80 | 76 => 84 | 70 => 77 | 37 => 78 | 75 => 83 | 127 => 90 | 164 => 103 | 5 => 5 | 80 => 86 | n => n, fun n => n⟩
theorem lJ : Lays.n156 Tryd.prog rJ := {
  mixed := by kernel_rfl,
  f156 := Tryd.func31.trans (congrArg some (by kernel_rfl)),
  f165 := Tryd.func39.trans (congrArg some (by kernel_rfl)),
  f166 := Tryd.func40.trans (congrArg some (by kernel_rfl)),
  f169 := Tryd.func41.trans (congrArg some (by kernel_rfl)),
  f240 := Tryd.func47.trans (congrArg some (by kernel_rfl)),
  f241 := Tryd.func48.trans (congrArg some (by kernel_rfl)),
  f276 := Tryd.func86.trans (congrArg some (by kernel_rfl)),
  f277 := Tryd.func87.trans (congrArg some (by kernel_rfl)),
  t0 := Tryd.underlying0,
  a0 := Tryd.isAgg0,
  z0 := Tryd.sizeOf0,
  v0 := Tryd.zeroValue0,
  t3 := Tryd.underlying3,
  a3 := Tryd.isAgg3,
  z3 := Tryd.sizeOf3,
  v3 := Tryd.zeroValue3,
  t4 := Tryd.underlying4,
  a4 := Tryd.isAgg4,
  z4 := Tryd.sizeOf4,
  v4 := Tryd.zeroValue4,
  t9 := Tryd.underlying9,
  a9 := Tryd.isAgg9,
  z9 := Tryd.sizeOf9,
  v9 := Tryd.zeroValue9,
  t20 := Tryd.underlying20,
  a20 := Tryd.isAgg20,
  z20 := Tryd.sizeOf20,
  v20 := Tryd.zeroValue20,
  t31 := Tryd.underlying62,
  a31 := Tryd.isAgg62,
  z31 := Tryd.sizeOf62,
  v31 := Tryd.zeroValue62,
  t37 := Tryd.underlying78,
  a37 := Tryd.isAgg78,
  z37 := Tryd.sizeOf78,
  v37 := Tryd.zeroValue78,
  t70 := Tryd.underlying77,
  a70 := Tryd.isAgg77,
  z70 := Tryd.sizeOf77,
  v70 := Tryd.zeroValue77,
  t72 := Tryd.underlying80,
  a72 := Tryd.isAgg80,
  z72 := Tryd.sizeOf80,
  v72 := Tryd.zeroValue80,
  t75 := Tryd.underlying83,
  a75 := Tryd.isAgg83,
  z75 := Tryd.sizeOf83,
  v75 := Tryd.zeroValue83,
  t76 := Tryd.underlying84,
  a76 := Tryd.isAgg84,
  z76 := Tryd.sizeOf84,
  v76 := Tryd.zeroValue84,
  t127 := Tryd.underlying90,
  a127 := Tryd.isAgg90,
  z127 := Tryd.sizeOf90,
  v127 := Tryd.zeroValue90,
  t164 := Tryd.underlying103,
  a164 := Tryd.isAgg103,
  z164 := Tryd.sizeOf103,
  v164 := Tryd.zeroValue103 }
theorem eJ : Builder.Extra Tryd.prog rJ where
  sizeBuilder := by kernel_rfl
  liesBuilder := by kernel_rfl
  t5 := Tryd.underlying5
  a5 := Tryd.isAgg5
  z5 := Tryd.sizeOf5
  v5 := Tryd.zeroValue5
  infoByte := by kernel_rfl
  cellsByte := by kernel_rfl
  sizeByte := by kernel_rfl
  neB5 := by decide
/-- What Join answers. -/
def joinS (xs : List ByteArray) (sep : ByteArray) : ByteArray := ⟨(Lib.join (xs.map (·.data.toList)) sep.data.toList).toArray⟩
theorem w_join (x : ByteArray) (xs : List ByteArray) (sep : ByteArray) (hN : (x :: xs).length ≤ 140737488355328) (hlen : (joinS (x :: xs) sep).size ≤ 140737488355328) :
    Spec0 Tryd.prog 31 [.im 1 ((x :: xs).map S), S sep] (S (joinS (x :: xs) sep)) := by
  intro F μ w args' hr ha
  obtain ⟨v, vs, e1, h1, h2⟩ : ∃ v vs, args'.toList = v :: vs ∧ VR F μ w (.im 1 ((x :: xs).map S)) v ∧ VRL F μ w [S sep] vs := by
    generalize hg : args'.toList = l at ha
    cases ha with
    | cons h t => exact ⟨_, _, rfl, h, t⟩
  cases h2 with
  | cons h3 t =>
  cases t
  cases h3
  obtain ⟨b, off, n, cap, c, el, fr, hv, hh, hn, hn2, hx⟩ : ∃ b off n cap c el fr, v = .slice (some ⟨b, off, none⟩) n cap ∧ w.heap[b]? = some (Obj.cells c el fr) ∧ n * 1 = ((x :: xs).map S).length ∧ n ≤ cap ∧ VRL F μ w ((x :: xs).map S) ((c.toList.drop off).take ((x :: xs).map S).length) := by
    generalize hg : AV.im 1 ((x :: xs).map S) = q at h1
    cases h1 <;> cases hg
    exact ⟨_, _, _, _, _, _, _, rfl, by assumption, by assumption, by assumption, by assumption⟩
  have hn' : n = (x :: xs).length := by simpa using hn
  have ea : args' = #[.slice (some ⟨b, off, none⟩) (x :: xs).length cap, .string sep] := by
    rw [← hn', ← hv]
    exact Array.ext' e1
  rw [ea]
  have hcell : ∀ (j : Nat) y, (x :: xs)[j]? = some y → w.cell? ⟨b, off + j, none⟩ = some (.string y) := by
    intro j y hy
    have hy2 : ((x :: xs).map S)[j]? = some (S y) := by rw [List.getElem?_map, hy]; rfl
    obtain ⟨u, hu, hu2⟩ := hx.get hy2
    cases hu2
    have hj : j < ((x :: xs).map S).length := by
      rcases Nat.lt_or_ge j ((x :: xs).map S).length with q | q
      · exact q
      · rw [List.getElem?_eq_none q] at hy2; cases hy2
    rw [List.getElem?_take_of_lt hj, List.getElem?_drop, Array.getElem?_toList] at hu
    simp only [World.cell?, hh]
    exact hu
  refine (Any.strings_Join lJ eJ b off cap (x :: xs) sep w hcell (heap_lt hh) hN (by omega) (by simpa [joinS, ByteArray.size] using hlen)).mono ?_
  rintro e w' ⟨rfl, hb⟩
  refine ⟨_, _, [], [], rfl, ⟨rfl, rfl⟩, ?_, .sc rfl, ?_⟩
  · refine ⟨rfl, ?_, ?_, ?_, ?_, ?_, fun q hq => Nat.lt_of_lt_of_le (hr.fb q hq) hb.size, hr.tb.nil.next (fun q hq _ => hb.block q hq) (fun q h => .inl h)⟩
    · intro o _ _ _ _ h; simp at h
    · intro o h; simp at h
    · intro o _ _ h; simp at h
    · intro o _ _ _ _ _ _ _ _ h; simp at h
    · exact fun q ⟨o, base, esz, tot, h⟩ => absurd h (by simp)
  · have hμ : μ = [] := List.eq_nil_of_length_eq_zero hr.len
    subst hμ
    exact ⟨hb.size, fun q hq _ => hb.block q hq, fun q h => .inl h, fun _ _ h => .inl h, Nat.le_refl _, hb.os, hb.output⟩

end Go.Proofs.YtbimmnnjnlfddaaDoor
