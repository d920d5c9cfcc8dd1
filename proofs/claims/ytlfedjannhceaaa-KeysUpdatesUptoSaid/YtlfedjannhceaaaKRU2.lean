/-
  Rows, and the numbers that are had.
-/
import Derived.Test.YtlfedjannhceaaaKFU2
set_option linter.unusedVariables false
set_option linter.unusedSimpArgs false
set_option maxRecDepth 100000
set_option maxHeartbeats 1000000
namespace Go.Proofs.Ytlfedjannhceaaa
open Go Go.SL Go.Proofs
structure Way where
  ip : Int
  port : Int
def wayC (a : Way) : List AV := [I .u32 a.ip, I .i64 a.port]
structure Rw where
  kind : Int
  name : ByteArray
  owner : ByteArray
  peer : ByteArray
  text : ByteArray
  mac : Int
  ip : Int
  ip2 : Int
  num : Int
  num2 : Int
  flag : Bool
  flag2 : Bool
  ways : List Way
def rowC (r : Rw) : List AV := [I .i64 r.kind, S r.name, S r.owner, S r.peer, S r.text, I .u64 r.mac, I .u32 r.ip, I .u32 r.ip2, I .i64 r.num, I .i64 r.num2, B r.flag, B r.flag2, .im 2 (r.ways.flatMap wayC)]
@[reducible] def RL (l : List Rw) : AV := .im 13 (l.flatMap rowC)
/-- The numbers that are had, as the program's map. -/
def kI (n : Int) : AV := I .i64 n
def hadC (hs : List Int) : List AV := hs.map kI ++ List.replicate hs.length (B true)
@[reducible] def hadO (hs : List Int) : AObj := .ob (.map (List.range hs.length) hs.length) (hadC hs)
def hadAdd (hs : List Int) (n : Int) : List Int := if n ∈ hs then hs else hs ++ [n]
theorem hadC_take (hs : List Int) : (hadC hs).take (List.range hs.length).length = hs.map kI := by
  rw [List.length_range]; unfold hadC; rw [List.take_left' (by simp)]
theorem find_ints (x : Int) : ∀ (hs : List Int) (i : Nat), findAV Try.prog 3 (kI x) (hs.map kI) i = some (fi (fun a => a == x) hs i)
  | [], i => rfl
  | a :: hs, i => by
    have e : eqV Try.prog 10000 3 (kI x) (kI a) = some (x == a) := by
      show eqV Try.prog (9999 + 1) 3 _ _ = _
      simp only [eqV, Try.underlying3, kI]
      simp
    have e2 : (x == a) = (a == x) := by simp only [Bool.beq_comm]
    simp only [List.map_cons, findAV, e, e2, fi]
    cases hb : (a == x)
    · simp only [cond_false]; exact find_ints x hs (i + 1)
    · simp only [cond_true]
theorem fi_none {α : Type} {p : α → Bool} : ∀ {l : List α} {i : Nat}, fi p l i = none → ∀ a ∈ l, p a = false
  | [], _, _ => by simp
  | a :: l, i, h => by
    simp only [fi] at h
    cases hp : p a
    · rw [hp] at h; simp only [cond_false] at h
      intro b hb
      rcases List.mem_cons.1 hb with rfl | hb
      · exact hp
      · exact fi_none h b hb
    · rw [hp] at h; simp at h
theorem had_find (hs : List Int) (x : Int) : findAV Try.prog 3 (I .i64 x) ((hadC hs).take (List.range hs.length).length) 0 = some (fi (fun a => a == x) hs 0) := by
  rw [hadC_take]; exact find_ints x hs 0
theorem had_some {hs : List Int} {x : Int} (h : x ∈ hs) : ∃ j, fi (fun a => a == x) hs 0 = some j ∧ j < hs.length ∧ hs[j]? = some x := by
  cases hf : fi (fun a => a == x) hs 0 with
  | none => have := fi_none hf x h; simp at this
  | some j =>
    obtain ⟨_, h2, a, h3, h4⟩ := fi_some hf
    have : a = x := by simpa using h4
    exact ⟨j, rfl, by omega, by rw [← this]; simpa using h3⟩
theorem had_no {hs : List Int} {x : Int} (h : x ∉ hs) : fi (fun a => a == x) hs 0 = none := by
  cases hf : fi (fun a => a == x) hs 0 with
  | none => rfl
  | some j =>
    obtain ⟨_, h2, a, h3, h4⟩ := fi_some hf
    have : a = x := by simpa using h4
    subst this
    exact absurd (List.mem_of_getElem? (by simpa using h3)) h
theorem hadC_val {hs : List Int} {j : Nat} (h : j < hs.length) : (hadC hs)[(List.range hs.length).length + j]? = some (B true) := by
  rw [List.length_range]
  unfold hadC
  rw [List.getElem?_append_right (by simp), List.length_map, Nat.add_sub_cancel_left, List.getElem?_replicate, if_pos h]
theorem hadC_key {hs : List Int} {j : Nat} {x : Int} (h : hs[j]? = some x) : (hadC hs)[j]? = some (I .i64 x) := by
  have hlt : j < hs.length := by
    rcases Nat.lt_or_ge j hs.length with g | g
    · exact g
    · rw [List.getElem?_eq_none g] at h; simp at h
  unfold hadC
  rw [List.getElem?_append_left (by simpa using hlt), List.getElem?_map, h]; rfl
theorem had_upd_old {hs : List Int} {j : Nat} (x : Int) (h : j < hs.length) : updV (List.range hs.length).length (some j) (I .i64 x) (B true) (hadC hs) = hadC hs := by
  show (hadC hs).set _ _ = _
  have := hadC_val h
  have hlt : (List.range hs.length).length + j < (hadC hs).length := by
    rcases Nat.lt_or_ge ((List.range hs.length).length + j) (hadC hs).length with g | g
    · exact g
    · rw [List.getElem?_eq_none g] at this; simp at this
  rw [List.getElem?_eq_getElem hlt] at this
  have e := Option.some.inj this
  conv => lhs; rw [← e]
  exact List.set_getElem_self hlt
theorem had_upd_new (hs : List Int) (x : Int) : updV (List.range hs.length).length none (I .i64 x) (B true) (hadC hs) = hadC (hs ++ [x]) := by
  show (hadC hs).take _ ++ [I .i64 x] ++ ((hadC hs).drop _ ++ [B true]) = _
  rw [List.length_range]
  have e1 : (hadC hs).take hs.length = hs.map kI := by have := hadC_take hs; rwa [List.length_range] at this
  have e2 : (hadC hs).drop hs.length = List.replicate hs.length (B true) := by unfold hadC; rw [List.drop_left' (by simp)]
  rw [e1, e2]
  unfold hadC
  simp only [List.map_append, List.map_cons, List.map_nil, List.length_append, List.length_cons, List.length_nil, List.replicate_succ', kI]
theorem had_upd_births (hs : List Int) (x : Int) : updB none (List.range hs.length) hs.length = List.range (hs ++ [x]).length := by
  show List.range hs.length ++ [hs.length] = _
  simp [List.range_succ]

end Go.Proofs.Ytlfedjannhceaaa
