/-
  strings.Join, as the kit proves it, turned into a contract on abstract values.
-/
import Derived.Test.YthppdlmildfnnaaGreatDoorX0N1
import Derived.Shelf.Strings.OnBuilder
set_option linter.unusedVariables false
set_option maxRecDepth 100000
set_option maxHeartbeats 1000000
namespace Go.Proofs.YthppdlmildfnnaaGreatDoor
open Go Go.SL Go.Proofs Go.Shelf Go.RowKit

@[reducible] def I (k : IntKind) (n : Int) : AV := .sc (.int k n)
@[reducible] def B (b : Bool) : AV := .sc (.bool b)
@[reducible] def S (b : ByteArray) : AV := .sc (.string b)
def rJ : Ren := ⟨fun | 156 => 52 | 165 => 83 | 166 => 84 | 169 => 85 | 240 => 110 | 241 => 111 | 276 => 155 | 277 => 156 | n => n, fun | 31 => 80 | 9 => 9 | 3 => 3 | 4 => 4 | 0 => 0 | 20 => 20 | 72 => 131 | 76 => 135 | 70 => 129 | 37 => 46 | 75 => 134 | 127 => 157 | 164 => 176 | 5 => 5 | 80 => 137 | n => n, fun n => n⟩
theorem lJ : Lays.n156 Tryz.prog rJ := {
  mixed := by kernel_rfl,
  f156 := Tryz.func52.trans (congrArg some (by kernel_rfl)),
  f165 := Tryz.func83.trans (congrArg some (by kernel_rfl)),
  f166 := Tryz.func84.trans (congrArg some (by kernel_rfl)),
  f169 := Tryz.func85.trans (congrArg some (by kernel_rfl)),
  f240 := Tryz.func110.trans (congrArg some (by kernel_rfl)),
  f241 := Tryz.func111.trans (congrArg some (by kernel_rfl)),
  f276 := Tryz.func155.trans (congrArg some (by kernel_rfl)),
  f277 := Tryz.func156.trans (congrArg some (by kernel_rfl)),
  t0 := Tryz.underlying0,
  a0 := Tryz.isAgg0,
  z0 := Tryz.sizeOf0,
  v0 := Tryz.zeroValue0,
  t3 := Tryz.underlying3,
  a3 := Tryz.isAgg3,
  z3 := Tryz.sizeOf3,
  v3 := Tryz.zeroValue3,
  t4 := Tryz.underlying4,
  a4 := Tryz.isAgg4,
  z4 := Tryz.sizeOf4,
  v4 := Tryz.zeroValue4,
  t9 := Tryz.underlying9,
  a9 := Tryz.isAgg9,
  z9 := Tryz.sizeOf9,
  v9 := Tryz.zeroValue9,
  t20 := Tryz.underlying20,
  a20 := Tryz.isAgg20,
  z20 := Tryz.sizeOf20,
  v20 := Tryz.zeroValue20,
  t31 := Tryz.underlying80,
  a31 := Tryz.isAgg80,
  z31 := Tryz.sizeOf80,
  v31 := Tryz.zeroValue80,
  t37 := Tryz.underlying46,
  a37 := Tryz.isAgg46,
  z37 := Tryz.sizeOf46,
  v37 := Tryz.zeroValue46,
  t70 := Tryz.underlying129,
  a70 := Tryz.isAgg129,
  z70 := Tryz.sizeOf129,
  v70 := Tryz.zeroValue129,
  t72 := Tryz.underlying131,
  a72 := Tryz.isAgg131,
  z72 := Tryz.sizeOf131,
  v72 := Tryz.zeroValue131,
  t75 := Tryz.underlying134,
  a75 := Tryz.isAgg134,
  z75 := Tryz.sizeOf134,
  v75 := Tryz.zeroValue134,
  t76 := Tryz.underlying135,
  a76 := Tryz.isAgg135,
  z76 := Tryz.sizeOf135,
  v76 := Tryz.zeroValue135,
  t127 := Tryz.underlying157,
  a127 := Tryz.isAgg157,
  z127 := Tryz.sizeOf157,
  v127 := Tryz.zeroValue157,
  t164 := Tryz.underlying176,
  a164 := Tryz.isAgg176,
  z164 := Tryz.sizeOf176,
  v164 := Tryz.zeroValue176 }
theorem eJ : Builder.Extra Tryz.prog rJ where
  sizeBuilder := by kernel_rfl
  liesBuilder := by kernel_rfl
  t5 := Tryz.underlying5
  a5 := Tryz.isAgg5
  z5 := Tryz.sizeOf5
  v5 := Tryz.zeroValue5
  infoByte := by kernel_rfl
  cellsByte := by kernel_rfl
  sizeByte := by kernel_rfl
  neB5 := by decide
/-- What Join answers. -/
def joinS (xs : List ByteArray) (sep : ByteArray) : ByteArray := ⟨(Lib.join (xs.map (·.data.toList)) sep.data.toList).toArray⟩
theorem w_join (x : ByteArray) (xs : List ByteArray) (sep : ByteArray) (hN : (x :: xs).length ≤ 140737488355328) (hlen : (joinS (x :: xs) sep).size ≤ 140737488355328) :
    Spec0 Tryz.prog 52 [.im 1 ((x :: xs).map S), S sep] (S (joinS (x :: xs) sep)) := by
  intro F μ w args' hr ha
  obtain ⟨v, vs, e1, h1, h2⟩ : ∃ v vs, args'.toList = v :: vs ∧ VR F μ w (.im 1 ((x :: xs).map S)) v ∧ VRL F μ w [S sep] vs := by
    generalize hg : args'.toList = l at ha
    cases ha with
    | cons h t => exact ⟨_, _, rfl, h, t⟩
  cases h2 with
  | cons h3 t =>
  cases t
  cases h3
  obtain ⟨b, off, n, cap, c, el, fr, hv, hh, hn, hn2, hx⟩ : ∃ b off n cap c el fr, v = .slice (some ⟨b, off, none⟩) n cap ∧ w.heap[b]? = some (Obj.cells c el fr) ∧ n * 1 = ((x :: xs).map S).length ∧ n ≤ cap ∧ VRL F μ w ((x :: xs).map S) ((c.toList.drop off).take ((x :: xs).map S).length) := by
    generalize hg : AV.im 1 ((x :: xs).map S) = q at h1
    cases h1 <;> cases hg
    exact ⟨_, _, _, _, _, _, _, rfl, by assumption, by assumption, by assumption, by assumption⟩
  have hn' : n = (x :: xs).length := by simpa using hn
  have ea : args' = #[.slice (some ⟨b, off, none⟩) (x :: xs).length cap, .string sep] := by
    rw [← hn', ← hv]
    exact Array.ext' e1
  rw [ea]
  have hcell : ∀ (j : Nat) y, (x :: xs)[j]? = some y → w.cell? ⟨b, off + j, none⟩ = some (.string y) := by
    intro j y hy
    have hy2 : ((x :: xs).map S)[j]? = some (S y) := by rw [List.getElem?_map, hy]; rfl
    obtain ⟨u, hu, hu2⟩ := hx.get hy2
    cases hu2
    have hj : j < ((x :: xs).map S).length := by
      rcases Nat.lt_or_ge j ((x :: xs).map S).length with q | q
      · exact q
      · rw [List.getElem?_eq_none q] at hy2; cases hy2
    rw [List.getElem?_take_of_lt hj, List.getElem?_drop, Array.getElem?_toList] at hu
    simp only [World.cell?, hh]
    exact hu
  refine (Any.strings_Join lJ eJ b off cap (x :: xs) sep w hcell (heap_lt hh) hN (by omega) (by simpa [joinS, ByteArray.size] using hlen)).mono ?_
  rintro e w' ⟨rfl, hb⟩
  refine ⟨_, _, [], [], rfl, ⟨rfl, rfl⟩, ?_, .sc rfl, ?_⟩
  · refine ⟨rfl, ?_, ?_, ?_, ?_, ?_, fun q hq => Nat.lt_of_lt_of_le (hr.fb q hq) hb.size, hr.tb.nil.next (fun q hq _ => hb.block q hq) (fun q h => .inl h)⟩
    · intro o _ _ _ _ h; simp at h
    · intro o h; simp at h
    · intro o x hx _; simp at hx
    · intro o _ _ _ _ _ _ _ _ h; simp at h
    · exact fun q ⟨o, base, esz, tot, h⟩ => absurd h (by simp)
  · have hμ : μ = [] := List.eq_nil_of_length_eq_zero hr.len
    subst hμ
    exact ⟨hb.size, fun q hq _ => hb.block q hq, fun q h => .inl h, fun _ _ h => .inl h, Nat.le_refl _, hb.os, hb.output⟩

end Go.Proofs.YthppdlmildfnnaaGreatDoor
