/-
  Bytes: slices of bytes and strings.
-/
import Derived.Test.YtbimmnnjnlfddaaDoorSlO
import Derived.Laws.BytesString
set_option linter.unusedSimpArgs false
set_option linter.unnecessarySimpa false
set_option linter.unusedVariables false
set_option linter.unusedSectionVars false
namespace Go.SL
open Go
variable [Tabs]

variable {F F' : Nat → Prop} {μ μ' μ'' : List Nm} {w w' w'' : World} {P : Program} {n : Nat} {env : Nat → AV} {hp : List AObj}
variable {dst : Option Nat} {ty : TypeId} {pos : String} {after : Array Edge} {guard : Option (Nat × Bool)}

theorem map_idx {α β : Type} [Inhabited α] {f : α → β} {l : List α} {j : Nat} (h : j < l.length) : (l.map f)[j]? = some (f (l.getD j default)) := by
  rw [List.getElem?_map]
  simp [List.getD, List.getElem?_eq_getElem h]

theorem byte_idx {l : List UInt8} {j : Nat} (h : j < l.length) : (l.map byteAV)[j]? = some (byteAV (l.getD j 0)) := by
  rw [List.getElem?_map]
  simp [List.getD, List.getElem?_eq_getElem h]

theorem step_lenB {t e : TypeId} {x : Operand} {l : List UInt8} (ht : Und P t (.slice e)) (hx : opd env x = .im 1 (l.map byteAV)) :
    Step P ⟨dst, .call ⟨.builtin .len, #[x], #[t]⟩, ty, pos, after, guard⟩ env hp (is (.sc (.int .i64 l.length)) hp) :=
  step_lenI ht hx (by simp) (by decide)

theorem step_idxB {t e : TypeId} {x ix : Operand} {l : List UInt8} {k : IntKind} {i : Int} {j : Nat} (ht : Und P t (.slice e)) (hs : SizeOf P e 1) (hx : opd env x = .im 1 (l.map byteAV))
    (hi : opd env ix = .sc (.int k i)) (hj : i = (j : Int)) (h1 : j < l.length) :
    Step P ⟨dst, .indexAddr t x ix, ty, pos, after, guard⟩ env hp (is (.ip (l.map byteAV) j) hp) := by
  subst hj
  have := step_idxI (P := P) (hp := hp) (dst := dst) (ty := ty) (pos := pos) (after := after) (guard := guard) ht hs hx (m := l.length) (by simp) (by decide) hi (Int.natCast_nonneg j) (by omega)
  rwa [Nat.mul_one, Int.toNat_natCast] at this

theorem step_idxO {t e : TypeId} {x ix : Operand} {o off len : Nat} {cells : List AV} {k : IntKind} {i : Int} {j m : Nat} (ht : Und P t (.slice e)) (hs : SizeOf P e 1) (hx : opd env x = .sl o off len)
    (ho : hp[o]? = some (AObj.row 1 cells)) (hi : opd env ix = .sc (.int k i)) (hj : i = (j : Int)) (h1 : j < len) (hm : off + j = m) :
    Step P ⟨dst, .indexAddr t x ix, ty, pos, after, guard⟩ env hp (is (.ptr o m) hp) := by
  subst hj; subst hm
  have := step_idx (P := P) (hp := hp) (dst := dst) (ty := ty) (pos := pos) (after := after) (guard := guard) ht hs hx ho hi (Int.natCast_nonneg j) (by omega)
  rwa [Nat.mul_one, Int.toNat_natCast] at this

theorem step_loadB {t : TypeId} {x : Operand} {j : Nat} {l : List UInt8} (ha : IsAgg P t false) (hx : opd env x = .ip (l.map byteAV) j) (hj : j < l.length) :
    Step P ⟨dst, .load t x, ty, pos, after, guard⟩ env hp (is (byteAV (l.getD j 0)) hp) :=
  step_loadI ha hx (byte_idx hj)

theorem step_loadO {t : TypeId} {x : Operand} {o j : Nat} {l : List UInt8} (ha : IsAgg P t false) (hx : opd env x = .ptr o j) (ho : hp[o]? = some (AObj.row 1 (l.map byteAV))) (hj : j < l.length) :
    Step P ⟨dst, .load t x, ty, pos, after, guard⟩ env hp (is (byteAV (l.getD j 0)) hp) :=
  step_load ha hx ho (byte_idx hj)

theorem splice_one {α : Type} {l : List α} {i : Nat} {x : α} (h : i < l.length) : splice l i [x] = l.set i x := by
  rw [splice_cons _ _ _ _ h, splice_nil]

theorem step_storeB {t : TypeId} {x y : Operand} {o j : Nat} {l : List UInt8} {z : Int} {b : UInt8} (hs : SizeOf P t 1) (hx : opd env x = .ptr o j) (ho : hp[o]? = some (AObj.row 1 (l.map byteAV)))
    (hy : opd env y = .sc (.int .u8 z)) (hz : z = (b.toNat : Int)) (hj : j < l.length) :
    Step P ⟨dst, .store t x y, ty, pos, after, guard⟩ env hp (is (.sc undef) (hp.set o (.row 1 ((l.set j b).map byteAV)))) := by
  subst hz
  have := step_store (P := P) (hp := hp) (dst := dst) (ty := ty) (pos := pos) (after := after) (guard := guard) hs hx ho hy rfl rfl (by simp; omega)
  have e : splice (l.map byteAV) j (cellsOf (.sc (.int .u8 (b.toNat : Int)))) = (l.set j b).map byteAV := by
    simp only [cellsOf]
    rw [splice_one (by simpa using hj), List.map_set]
  rwa [e] at this

/-- A cell that holds one value. -/
theorem step_store1 {t : TypeId} {x y : Operand} {o j esz : Nat} {cells : List AV} {v : Value} (hs : SizeOf P t 1) (hx : opd env x = .ptr o j) (ho : hp[o]? = some (AObj.row esz cells))
    (hy : opd env y = .sc v) (hc : cellAV (.sc v) = true) (hj : j < cells.length) :
    Step P ⟨dst, .store t x y, ty, pos, after, guard⟩ env hp (is (.sc undef) (hp.set o (.row esz (cells.set j (.sc v))))) := by
  have := step_store (P := P) (hp := hp) (dst := dst) (ty := ty) (pos := pos) (after := after) (guard := guard) hs hx ho hy (by show (cellAV (.sc v) && true) = true; rw [hc]; rfl) rfl hj
  rwa [show splice cells j (cellsOf (.sc v)) = cells.set j (.sc v) from splice_one hj] at this

theorem step_sliceB {t e : TypeId} {x : Operand} {lo hi : Option Operand} {l : List UInt8} {p q : Nat} (ht : Und P t (.slice e)) (hs : SizeOf P e 1) (hx : opd env x = .im 1 (l.map byteAV))
    (hl : Bd env lo 0 p) (hh : Bd env hi l.length q) (h1 : p ≤ q) (h2 : q ≤ l.length) :
    Step P ⟨dst, .slice t x lo hi none, ty, pos, after, guard⟩ env hp (is (.im 1 (((l.drop p).take (q - p)).map byteAV)) hp) := by
  have := step_sliceI (P := P) (hp := hp) (dst := dst) (ty := ty) (pos := pos) (after := after) (guard := guard) ht hs hx (m := l.length) (by simp) (by decide) hl hh h1 h2
  rwa [Nat.mul_one, Nat.mul_one, ← List.map_drop, ← List.map_take] at this

theorem step_sliceO {t e : TypeId} {x : Operand} {lo hi : Option Operand} {o off len p q a : Nat} {cells : List AV} (ht : Und P t (.slice e)) (hs : SizeOf P e 1) (hx : opd env x = .sl o off len)
    (ho : hp[o]? = some (AObj.row 1 cells)) (hl : Bd env lo 0 p) (hh : Bd env hi len q) (h1 : p ≤ q) (h2 : q ≤ len) (ha : off + p = a) :
    Step P ⟨dst, .slice t x lo hi none, ty, pos, after, guard⟩ env hp (is (.sl o a (q - p)) hp) := by
  subst ha
  have := step_slice (P := P) (hp := hp) (dst := dst) (ty := ty) (pos := pos) (after := after) (guard := guard) ht hs hx ho hl hh h1 h2
  rwa [Nat.mul_one] at this

theorem bytes_vals : ∀ {l : List UInt8} {vs : List Value}, VRL F μ w (l.map byteAV) vs → vs = l.map fun b => Value.int .u8 b.toNat
  | [], _, h => by cases h; rfl
  | b :: l, _, h => by
    cases h with
    | cons h t => rw [bytes_vals t, h.sc_inv]; rfl

theorem push_bytes : ∀ (l : List UInt8) (s : ByteArray), (l.map fun b => (b.toNat : Int)).foldl (fun r (n : Int) => r.push (UInt8.ofNat n.toNat)) s = ⟨s.data ++ l.toArray⟩
  | [], s => by simp
  | b :: l, s => by
    simp only [List.map_cons, List.foldl_cons]
    rw [push_bytes l]
    have : UInt8.ofNat ((b.toNat : Int)).toNat = b := by simp
    rw [this]
    simp [ByteArray.push]

theorem run_str {a : Addr} {len cap : Nat} {l : List UInt8} (h : (loadCells a len).run P w = .ok (l.map fun b => Value.int .u8 b.toNat).toArray w) :
    (Conv.bytesToString (.slice (some a) len cap)).run P w = .ok (.string ⟨l.toArray⟩) w := by
  have := run_bytesToString w a len cap (l.map fun b => (b.toNat : Int)) (by simpa [Function.comp_def] using h)
  rw [this, push_bytes]
  simp

theorem run_loadL0 {b off k el : Nat} {fr : Nat × Nat} {c : Array Value} (hb : w.heap[b]? = some (Obj.cells c el fr)) (hl : k = 0 ∨ off + k ≤ c.size) :
    (loadCells ⟨b, off, none⟩ k).run P w = .ok ((c.toList.drop off).take k).toArray w := by
  rcases hl with rfl | hl
  · have := run_loadCells_list (P := P) (w := w) ⟨b, off, none⟩ [] (fun j v h => by simp at h)
    simpa using this
  · exact run_loadL P k hb hl

theorem step_strI {s t e : TypeId} {x : Operand} {l : List UInt8} (hs : P.underlying s = some (.slice e)) (he : P.underlying e = some (.int .u8)) (ht : P.underlying t = some .string) (hx : opd env x = .im 1 (l.map byteAV)) :
    Step P ⟨dst, .convert s t x, ty, pos, after, guard⟩ env hp (is (.sc (.string ⟨l.toArray⟩)) hp) := by
  refine Step.val fun F μ w a hr hen => ?_
  have h1 := hen.opd x
  rw [hx] at h1
  generalize ha : a.eval x = v at h1
  refine ⟨.string ⟨l.toArray⟩, ?_, .sc rfl⟩
  have hconv : ∀ (ad : Option Addr) (n c : Nat), v = .slice ad n c → (Conv.bytesToString (.slice ad n c)).run P w = .ok (.string ⟨l.toArray⟩) w → (execOp a.eval ⟨dst, .convert s t x, ty, pos, after, guard⟩).run P w = .ok (.value (.string ⟨l.toArray⟩)) w := by
    intro ad n c hv hrun
    have := run_convert_bytes_string (P := P) w s t e ad n c hs he ht
    rw [hrun] at this
    simp [execOp, ha, hv, this]
  generalize hL : l.map byteAV = L at h1
  cases h1 with
  | im0 =>
    rename_i ad c
    have hl0 : l = [] := by simpa using hL
    subst hl0
    refine hconv _ _ _ rfl ?_
    cases ad with
    | none => rfl
    | some ad => exact run_str (by have := run_loadCells_list (P := P) (w := w) ad [] (fun j v h => by simp at h); simpa using this)
  | im h hb hF hn hn2 hv =>
    rename_i b off nn cap c el fr
    subst hL
    have hv' := bytes_vals hv
    refine hconv _ _ _ rfl ?_
    refine run_str ?_
    rw [Nat.mul_one] at hn
    have hlen := hv.length
    simp only [List.length_map, List.length_take, List.length_drop, Array.length_toList] at hlen hn
    rw [← hv', hn]
    have := run_loadL0 (P := P) (k := l.length) (off := off) h (by omega)
    simpa using this

theorem step_strO {s t e : TypeId} {x : Operand} {o off len : Nat} {cells : List AV} {l : List UInt8} (hs : P.underlying s = some (.slice e)) (he : P.underlying e = some (.int .u8)) (ht : P.underlying t = some .string) (hx : opd env x = .sl o off len)
    (ho : hp[o]? = some (AObj.row 1 cells)) (hc : (cells.drop off).take len = l.map byteAV) (hl : off + len ≤ cells.length) :
    Step P ⟨dst, .convert s t x, ty, pos, after, guard⟩ env hp (is (.sc (.string ⟨l.toArray⟩)) hp) := by
  refine Step.val fun F μ w a hr hen => ?_
  refine ⟨.string ⟨l.toArray⟩, ?_, .sc rfl⟩
  have hll : l.length = len := by have := congrArg List.length hc; simp at this; omega
  have hconv : ∀ (ad : Option Addr) (n c : Nat), a.eval x = .slice ad n c → (Conv.bytesToString (.slice ad n c)).run P w = .ok (.string ⟨l.toArray⟩) w → (execOp a.eval ⟨dst, .convert s t x, ty, pos, after, guard⟩).run P w = .ok (.value (.string ⟨l.toArray⟩)) w := by
    intro ad n c hv hrun
    have := run_convert_bytes_string (P := P) w s t e ad n c hs he ht
    rw [hrun] at this
    simp [execOp, hv, this]
  rcases hen.sl hr hx ho with ⟨b, base, tot, c, el, fr, k, h1, h2, h3, h4, h5, h6, h7, h8, h9⟩ | ⟨h1, ad, h2, _⟩
  · refine hconv _ _ _ h1 (run_str ?_)
    have hw := window_sub h8 (off := off) (k := len) hl
    rw [hc] at hw
    have hv' := bytes_vals hw
    rw [← hv']
    exact run_loadL0 h5 (by omega)
  · have hl0 : l = [] := List.eq_nil_of_length_eq_zero (by omega)
    subst hl0
    refine hconv _ _ _ h2 ?_
    cases ad with
    | none => rfl
    | some ad => exact run_str (by have := run_loadCells_list (P := P) (w := w) ad [] (fun j v h => by simp at h); simpa using this)

end Go.SL
