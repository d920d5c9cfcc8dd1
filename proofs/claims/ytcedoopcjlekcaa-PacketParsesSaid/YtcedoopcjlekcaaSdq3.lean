/-
  From what a start of a call holds to abstract values: each argument, by its type; and back: behind a call that keeps all old blocks each argument reads as it did.
-/
import Derived.Test.YtcedoopcjlekcaaSbq3
import Derived.ProofKit
import Derived.SizedLaws
import Derived.Carry
import Derived.DeepKeys
import Derived.Test.YtcedoopcjlekcaaScq3
import Derived.OpenShut
import Derived.Handed
set_option linter.unusedVariables false
set_option linter.unusedSectionVars false
namespace Go.SL
open Go Go.ChangeShapes Go.WideShapes Go.ChangeAt Go.RowKit
variable [Tabs]

abbrev F0 : Nat → Prop := fun _ => False
variable {P : Program} {W W' : World}

theorem nblk (b : Nat) : ¬ blocks [] b := fun ⟨_, _, _, _, h⟩ => by simp at h

/-- Cells that read at a type are such abstract values. -/
def Rd (P : Program) (W : World) (t : TypeId) (S : List AV → Prop) : Prop :=
  ∀ (H : Type) (enc : TypeId × Value → H) (sp : Nat → Bool) (fuel : Nat) (cs : List Value) (x : DataW H × List MemPlace), DataW.trod enc P W 0 sp true fuel t cs = some x →
    (∀ n ∈ x.1.weights P t, n ≤ reachBytes) → ∃ xs, VRL F0 [] W xs cs ∧ S xs

theorem Rd.mono {t : TypeId} {S S' : List AV → Prop} (h : Rd P W t S) (hs : ∀ xs, S xs → S' xs) : Rd P W t S' := fun H enc sp fuel cs x h1 h2 => by
  obtain ⟨xs, h3, h4⟩ := h H enc sp fuel cs x h1 h2
  exact ⟨xs, h3, hs _ h4⟩

theorem rd_int {t : TypeId} {k : IntKind} (ht : P.underlying t = some (.int k)) : Rd P W t (fun xs => ∃ n : Int, xs = [.sc (.int k n)] ∧ k.min ≤ n ∧ n ≤ k.max) := by
  intro H enc sp fuel cs x h _
  obtain ⟨n, rfl, _, hw⟩ := DataW.trod_int ht h
  simp only [Lit.wf, Bool.and_eq_true, decide_eq_true_eq] at hw
  exact ⟨[.sc (.int k n)], .cons (.sc rfl) .nil, n, rfl, hw⟩

theorem weights_each_cons {H : Type} {t : TypeId} {ts : List TypeId} {d : DataW H} {ds : List (DataW H)} (h : ∀ n ∈ DataW.weightsEach P (t :: ts) (d :: ds), n ≤ reachBytes) :
    (∀ n ∈ d.weights P t, n ≤ reachBytes) ∧ ∀ n ∈ DataW.weightsEach P ts ds, n ≤ reachBytes :=
  ⟨fun n hn => h n (by simp only [DataW.weightsEach, List.mem_append]; exact .inl hn), fun n hn => h n (by simp only [DataW.weightsEach, List.mem_append]; exact .inr hn)⟩

theorem cells_take {a : Addr} {n : Nat} {cs : List Value} {b off el : Nat} {c : Array Value} {fr : Nat × Nat} (hb : W.heap[b]? = some (Obj.cells c el fr)) (ha : a.block = b) (ho : a.off = off) (h : W.cells? 0 a n = some cs) :
    cs = (c.toList.drop off).take n ∧ off + n ≤ max c.size off := by
  unfold World.cells? at h
  rw [if_pos (Nat.zero_le _)] at h
  have hl := mapM_some_length h
  simp only [List.length_range] at hl
  have hg : ∀ i, i < n → c[off + i]? = cs[i]? ∧ off + i < c.size := by
    intro i hi
    have h1 := mapM_some_get h i i (by simp [hi])
    have h2 : cs[i]? = some (cs[i]'(by omega)) := List.getElem?_eq_getElem _
    rw [h2] at h1
    have h3 : W.cell? (a.add i) = c[off + i]? := by
      unfold World.cell? at h1 ⊢
      have hab : (a.add i).block = b := by unfold Addr.add; split <;> simp [ha]
      have hao : (a.add i).off = off + i := by unfold Addr.add; split <;> simp_all
      rw [hab, hb] at h1 ⊢
      simp only at h1 ⊢
      split at h1
      · simp at h1
      · rename_i hs
        rw [if_neg hs, hao]
    rw [h3] at h1
    refine ⟨by rw [h1, h2], ?_⟩
    rcases Nat.lt_or_ge (off + i) c.size with h4 | h4
    · exact h4
    · rw [Array.getElem?_eq_none h4] at h1; simp at h1
  constructor
  · apply List.ext_getElem?
    intro j
    rcases Nat.lt_or_ge j n with hj | hj
    · rw [List.getElem?_take_of_lt hj, List.getElem?_drop, ← (hg j hj).1, Array.getElem?_toList]
    · rw [List.getElem?_eq_none (by omega), List.getElem?_eq_none (by simp; omega)]
  · rcases Nat.eq_zero_or_pos n with h0 | h0
    · omega
    · have := (hg (n - 1) (by omega)).2; omega

theorem weights_all {H : Type} {e : TypeId} : ∀ (ds : List (DataW H)) (i : Nat) (d : DataW H), ds[i]? = some d → ∀ n ∈ d.weights P e, n ∈ DataW.weightsAll P e ds
  | d0 :: ds, 0, d, h, n, hn => by
    simp only [List.getElem?_cons_zero, Option.some.injEq] at h
    subst h
    simp only [DataW.weightsAll, List.mem_append]
    exact .inl hn
  | d0 :: ds, i + 1, d, h, n, hn => by
    simp only [List.getElem?_cons_succ] at h
    simp only [DataW.weightsAll, List.mem_append]
    exact .inr (weights_all ds i d h n hn)
  | [], _, _, h, _, _ => by simp at h

theorem cell_at {a : Addr} {v : Value} (h : W.cell? a = some v) : ∃ c el fr, W.heap[a.block]? = some (Obj.cells c el fr) ∧ a.spot = none := by
  unfold World.cell? at h
  split at h
  · rename_i c el fr hb
    refine ⟨c, el, fr, hb, ?_⟩
    split at h
    · simp at h
    · rename_i hs; cases hsp : a.spot <;> simp_all
  · simp at h

theorem rd_slice {t e : TypeId} {S : List AV → Prop} {k : Nat} (ht : P.underlying t = some (.slice e)) (hc : P.cellsOf e = k) (hk : 0 < k) (he : Rd P W e S) :
    Rd P W t (fun xs => ∃ rows : List (List AV), xs = [.im k rows.flatten] ∧ rows.length * P.bytesOf e ≤ reachBytes ∧ ∀ r ∈ rows, r.length = k ∧ S r) := by
  intro H enc sp fuel cs x h hw
  rcases DataW.trod_slice ht h with ⟨rfl, rfl⟩ | ⟨a, len, cap, elems, rest, n, rfl, rfl, rfl, _, hlc, hcm, hel, hi, _, _⟩
  · exact ⟨[.im k []], .cons .im0 .nil, [], rfl, by simp, by simp⟩
  · simp only [DataW.weights, ht] at hw
    have hsz : len * P.bytesOf e ≤ reachBytes := by
      have h1 := hw ((elems.length + rest.length) * P.bytesOf e) (by simp)
      have h2 : len * P.bytesOf e ≤ (elems.length + rest.length) * P.bytesOf e := Nat.mul_le_mul_right _ (by omega)
      omega
    rcases Nat.eq_zero_or_pos len with h0 | h0
    · subst h0
      exact ⟨[.im k []], .cons .im0 .nil, [], rfl, by simp, by simp⟩
    · have hex : ∀ i, i < len → ∃ cs' y, W.cells? 0 (a.add (i * k)) k = some cs' ∧ DataW.trod enc P W 0 sp true n e cs' = some y ∧ elems[i]? = some y := by
        intro i hl
        have h1 := hi i hl
        rw [hc, List.getElem?_eq_getElem (by omega)] at h1
        obtain ⟨cs', g1, g2⟩ := Option.bind_eq_some_iff.1 h1
        exact ⟨cs', _, g1, g2, List.getElem?_eq_getElem _⟩
      obtain ⟨c0, y0, g1, _, _⟩ := hex 0 h0
      have hcell : ∃ v, W.cell? a = some v := by
        unfold World.cells? at g1
        rw [if_pos (Nat.zero_le _)] at g1
        have h2 := mapM_some_get g1 0 0 (by simp [hk])
        have h3 := mapM_some_length g1
        simp only [List.length_range] at h3
        rw [List.getElem?_eq_getElem (by omega)] at h2
        refine ⟨_, (Eq.trans ?_ h2)⟩
        simp [Addr.add]
      obtain ⟨v, hv⟩ := hcell
      obtain ⟨c, el, fr, hb, hsp⟩ := cell_at hv
      have key : ∀ m, m ≤ len → ∃ rows : List (List AV), VRL F0 [] W rows.flatten ((c.toList.drop a.off).take (m * k)) ∧ rows.length = m ∧ ∀ r ∈ rows, r.length = k ∧ S r := by
        intro m
        induction m with
        | zero => intro _; exact ⟨[], by simpa using VRL.nil, rfl, by simp⟩
        | succ m ih =>
          intro hm
          obtain ⟨rows, q1, q2, q3⟩ := ih (by omega)
          obtain ⟨cs', y, r1, r2, r3⟩ := hex m (by omega)
          have hoff : (a.add (m * k)).off = a.off + m * k := by unfold Addr.add; split <;> simp_all
          have hblk : (a.add (m * k)).block = a.block := by unfold Addr.add; split <;> rfl
          obtain ⟨e1, e2⟩ := cells_take (off := a.off + m * k) hb hblk hoff r1
          obtain ⟨xs, s1, s2⟩ := he H enc sp n cs' y r2 (fun z hz => hw z (by
            simp only [List.mem_cons, List.mem_append]
            exact .inr (.inl (weights_all _ m y.1 (by simp [r3]) z hz))))
          refine ⟨rows ++ [xs], ?_, by simp [q2], ?_⟩
          · have e3 : (c.toList.drop a.off).take ((m + 1) * k) = (c.toList.drop a.off).take (m * k) ++ cs' := by
              rw [e1, Nat.add_mul, Nat.one_mul, ← List.drop_drop, List.take_add]
            rw [e3, List.flatten_append]
            refine q1.append ?_
            simpa using s1
          · intro r hr
            rcases List.mem_append.1 hr with h4 | h4
            · exact q3 r h4
            · simp only [List.mem_singleton] at h4
              subst h4
              refine ⟨?_, s2⟩
              rw [s1.length]
              unfold World.cells? at r1
              rw [if_pos (Nat.zero_le _)] at r1
              have := mapM_some_length r1
              simpa using this
      obtain ⟨rows, q1, q2, q3⟩ := key len (Nat.le_refl _)
      have hfl : rows.flatten.length = len * k := by
        have : ∀ (rows : List (List AV)), (∀ r ∈ rows, r.length = k) → rows.flatten.length = rows.length * k := by
          intro rows
          induction rows with
          | nil => intro _; simp
          | cons r rs ih => intro h; rw [List.flatten_cons, List.length_append, ih (fun x hx => h x (by simp [hx])), h r (by simp), List.length_cons, Nat.add_mul]; omega
        rw [this rows (fun r hr => (q3 r hr).1), q2]
      obtain ⟨b, off, spot⟩ := a
      simp only at hsp hb q1
      subst hsp
      refine ⟨[.im k rows.flatten], .cons (.im (n := len) hb (nblk _) ⟨fun h => h, VRL.no_nil q1⟩ hfl.symm hlc ?_) .nil, rows, rfl, by rw [q2]; exact hsz, q3⟩
      rw [hfl]; exact q1

/-- A slice of bytes. -/
theorem rd_bytes {t e : TypeId} (ht : P.underlying t = some (.slice e)) (he : P.underlying e = some (.int .u8)) (hc : P.cellsOf e = 1) (hb : P.bytesOf e = 1) :
    Rd P W t (fun xs => ∃ l : List UInt8, xs = [.im 1 (l.map byteAV)] ∧ l.length ≤ reachBytes) := by
  refine (rd_slice ht hc (by omega) (rd_int he)).mono fun xs ⟨rows, e1, e2, e3⟩ => ?_
  have key : ∀ rows : List (List AV), (∀ r ∈ rows, r.length = 1 ∧ ∃ n : Int, r = [.sc (.int .u8 n)] ∧ IntKind.u8.min ≤ n ∧ n ≤ IntKind.u8.max) → ∃ l : List UInt8, rows.flatten = l.map byteAV ∧ l.length = rows.length := by
    intro rows
    induction rows with
    | nil => intro _; exact ⟨[], rfl, rfl⟩
    | cons r rs ih =>
      intro h
      obtain ⟨l, h1, h2⟩ := ih (fun x hx => h x (by simp [hx]))
      obtain ⟨_, n, rfl, h3, h4⟩ := h r (by simp)
      refine ⟨UInt8.ofNat n.toNat :: l, ?_, by simp [h2]⟩
      have h3' : (0 : Int) ≤ n := h3
      have h4' : n ≤ 255 := h4
      obtain ⟨m, rfl⟩ := Int.eq_ofNat_of_zero_le h3'
      rw [List.flatten_cons, h1, List.map_cons]
      show AV.sc (.int .u8 ((m : Nat) : Int)) :: _ = AV.sc (.int .u8 (((UInt8.ofNat (Int.toNat ((m : Nat) : Int))).toNat : Nat) : Int)) :: _
      rw [Int.toNat_natCast, UInt8.toNat_ofNat_of_lt' (by show m < 256; omega)]
      rfl
  obtain ⟨l, h1, h2⟩ := key rows e3
  exact ⟨l, by rw [e1, h1], by rw [h2]; rw [hb] at e2; omega⟩

theorem Fr.block (h : Fr [] W [] W') {b : Nat} (hb : b < W.heap.size) : W'.heap[b]? = W.heap[b]? := h.keep b hb (nblk b)

theorem Fr.frame (h : Fr [] W [] W') (may : MemPlace → Prop) : W.keptBut W' may := by
  refine ⟨h.oo.1, h.oo.2, fun i hi => ?_⟩
  rw [h.block hi]
  split <;> simp_all

theorem Fr.sameAt (h : Fr [] W [] W') {p : MemPlace} (hp : p.block < W.heap.size) : W.sameAt W' p := by
  cases p with
  | cell b o => exact World.cell?_of_block (w := W) (h.block hp)
  | map b => exact h.block hp

section
variable {H : Type} {enc : TypeId × Value → H}

theorem Fr.trodAll (h : Fr [] W [] W') (hl : laidOutB P = true) : ∀ {ts : List TypeId} {vs : List Value} {ds : List (DataW H)} {p : List MemPlace}, (∀ t ∈ ts, P.readableRec t = true ∧ t < P.types.size) → (∀ x ∈ p, x.block < W.heap.size) →
    DataW.TrodAll enc P W 0 (fun _ => true) true ts vs ds p → DataW.TrodAll enc P W' 0 (fun b => decide (b < W.heap.size)) true ts vs ds p
  | [], _, _, _, _, _, hA => by
    obtain ⟨rfl, rfl, rfl⟩ := trodAll_nil hA
    exact rfl
  | t :: ts, _, _, _, ht, hp, hA => by
    obtain ⟨v, vs1, d, ds1, a, b, rfl, rfl, rfl, h1, h2⟩ := trodAll_cons hA
    have ht0 := ht t (by simp)
    exact ⟨_, _, (WideElems.Trod_stays hl ht0.1 ht0.2 h1 (fun x hx => h.sameAt (hp x (by simp [hx]))) (fun x hx => by simpa using hp x (by simp [hx]))),
      Fr.trodAll h hl (fun t' ht' => ht t' (by simp [ht'])) (fun x hx => hp x (by simp [hx])) h2, rfl⟩

theorem TrodAll.lt : ∀ {ts : List TypeId} {vs : List Value} {ds : List (DataW H)} {p : List MemPlace}, DataW.TrodAll enc P W 0 (fun _ => true) true ts vs ds p → (∀ x ∈ p, x.block < W.heap.size) ∧ vs.length = ts.length ∧ ds.length = ts.length
  | [], _, _, _, hA => by
    obtain ⟨rfl, rfl, rfl⟩ := trodAll_nil hA
    simp
  | t :: ts, _, _, _, hA => by
    obtain ⟨v, vs1, d, ds1, a, b, rfl, rfl, rfl, h1, h2⟩ := trodAll_cons hA
    obtain ⟨g1, g2, g3⟩ := TrodAll.lt h2
    obtain ⟨m, hm⟩ := h1
    refine ⟨fun x hx => ?_, by simp [g2], by simp [g3]⟩
    rcases List.mem_append.1 hx with h | h
    · exact DataW.trod_lt m _ _ _ hm x h
    · exact g1 x h

/-- A law that reads no variable: its row, by its call. -/
theorem law_lift {C : Checked} {os : Os} {k : FuncId} {fn : Func} {s : ChangeSpec} {dom : List PathCond} {tb : TypeId} (own : ownKnob C.prog.godebug = none) (started : os.Started) (noInit : C.prog.inits.idxOf? k = none) (hfn : C.prog.funcs[k]? = some fn)
    (witness : ∃ (w : World) (tape : Tape) (i : Input), w.os = os ∧ (w.forCall tape i).Shaped C.prog ∧ i.vars = [] ∧ Input.okWide C.prog (w.forCall tape i) .any w.heap.size k i ∧
      s.pre6 enc C.prog fn dom false (w.forCall tape i).memory i.args ∧ ({} : Assume).holds C.prog (lone (Frame.enter C.prog k i.args .normal) [] (w.forCall tape i)))
    (hvars : s.vars = []) (hres : fn.resultTypes = #[tb]) (htb : C.prog.underlying tb = some .bool)
    (hs : ∀ ds : List (DataW H), ds.length = fn.params.size → s.fn H ds = { results := [.lit (.bool true)], args := ds })
    (hl : laidOutB C.prog = true) (hpar : fn.params.toList.all (fun t => C.prog.readableRec t && decide (t < C.prog.types.size)) = true)
    (hcall : ∀ (W : World) (base : Nat) (args : Array Value) (ds : List (DataW H)) (p : List MemPlace), (∀ (j : Nat) t v, fn.params[j]? = some t → args[j]? = some v → Value.okWide C.prog W .any base t v) →
      DataW.TrodAll enc C.prog W 0 (fun _ => true) true fn.params.toList args.toList ds p → (∀ n ∈ DataW.weightsEach C.prog fn.params.toList ds, n ≤ reachBytes) →
      Calls C.prog k args W fun e W' => e = .returned (.bool true) ∧ Fr [] W [] W') :
    ReturnsInHanded {} C os k .any (s.pre6 enc C.prog fn dom false) (s.post enc C.prog fn false true false false) := by
  refine returnsInHanded_of_change_sized (C := C) own started noInit hfn witness ?_
  intro W base args ds gs before hval hW _ hsz _
  have hW' := hW
  obtain ⟨p, q, hA, hV, rfl, hfz, hnd⟩ := hW
  rw [hvars] at hV
  obtain ⟨rfl, rfl⟩ := trodVars_none hV
  have hpar' : ∀ t ∈ fn.params.toList, C.prog.readableRec t = true ∧ t < C.prog.types.size := fun t ht => by
    have := List.all_eq_true.1 hpar t ht
    simpa using this
  obtain ⟨hlt, hvl, hdl⟩ := TrodAll.lt hA
  have hw : ∀ n ∈ DataW.weightsEach C.prog fn.params.toList ds, n ≤ reachBytes := by
    intro n hn
    have h0 : s.plain.varTypes C.prog = [] := by simp [ChangeSpec.plain, DataSpec.varTypes, hvars]
    rw [h0, List.append_nil, List.append_nil] at hsz
    simpa using List.all_eq_true.1 hsz n hn
  refine (hcall W base args ds p hval hA hw).mono fun e W' ⟨he, hf⟩ => ?_
  subst he
  have hsd : s.fn H (ds ++ []) = { results := [.lit (.bool true)], args := ds } := by rw [List.append_nil]; exact hs ds (by simpa using hdl)
  refine ⟨_, rfl, ds, [], p ++ [], [], p, [], hW', ?_, ?_, ?_, hf.frame _, fun h => by cases h⟩
  · rw [hsd, hres]
    exact trodAll_mk1 (shut_bool htb _)
  · rw [hsd]
    exact hf.trodAll hl hpar' hlt hA
  · rw [hsd, hvars]
    exact rfl
end

/-- Values that read at a type are such abstract values. -/
def RdV (P : Program) (W : World) (t : TypeId) (S : AV → Prop) : Prop :=
  ∀ (H : Type) (enc : TypeId × Value → H) (base : Nat) (v : Value) (d : DataW H) (p : List MemPlace), Value.okWide P W .any base t v → DataW.Trod enc P W 0 (fun _ => true) true t v d p →
    (∀ n ∈ d.weights P t, n ≤ reachBytes) → ∃ x, VR F0 [] W x v ∧ S x

def flatT (P : Program) (t : TypeId) : Bool := match P.underlying t with
  | some (.struct _) => false
  | some (.array _ _) => false
  | _ => true

theorem okWide_flat {t : TypeId} {base : Nat} {cs : Array Value} (hf : flatT P t = true) (h : Value.okWide P W .any base t (.agg cs)) : False := by
  unfold flatT at hf
  unfold Value.okWide at h
  split at h
  · rename_i h1; rw [h1] at hf; simp at hf
  · rename_i h1; rw [h1] at hf; simp at hf
  · unfold Cell.okWide at h
    split at h <;> (try contradiction)
    unfold Cell.ok at h
    split at h <;> first | contradiction | simp_all

theorem RdV.flat {t : TypeId} {S : List AV → Prop} {S' : AV → Prop} (hf : flatT P t = true) (h : Rd P W t S) (hs : ∀ xs, S xs → ∃ x, xs = [x] ∧ S' x) : RdV P W t S' := by
  intro H enc base v d p hok ⟨fuel, hx⟩ hw
  obtain ⟨xs, h1, h2⟩ := h H enc _ fuel _ _ hx hw
  obtain ⟨x, rfl, h3⟩ := hs xs h2
  refine ⟨x, ?_, h3⟩
  have hc : v.cells.toList = [v] := by
    unfold Value.cells
    split
    · exact (okWide_flat hf hok).elim
    · rfl
  rw [hc] at h1
  cases h1 with
  | cons a _ => exact a

theorem rv_bytes {t e : TypeId} (ht : P.underlying t = some (.slice e)) (he : P.underlying e = some (.int .u8)) (hc : P.cellsOf e = 1) (hb : P.bytesOf e = 1) :
    RdV P W t (fun x => ∃ l : List UInt8, x = .im 1 (l.map byteAV) ∧ l.length ≤ reachBytes) :=
  RdV.flat (by unfold flatT; rw [ht]) (rd_bytes ht he hc hb) fun xs ⟨n, h1, h2⟩ => ⟨_, h1, n, rfl, h2⟩
def RdVs (P : Program) (W : World) : List TypeId → List (AV → Prop) → Prop
  | [], [] => True
  | t :: ts, S :: Ss => RdV P W t S ∧ RdVs P W ts Ss
  | _, _ => False
def All1 : List (AV → Prop) → List AV → Prop
  | [], [] => True
  | S :: Ss, x :: xs => S x ∧ All1 Ss xs
  | _, _ => False

theorem All1.inv {S : AV → Prop} {Ss : List (AV → Prop)} : ∀ {xs : List AV}, All1 (S :: Ss) xs → ∃ p ps, xs = p :: ps ∧ S p ∧ All1 Ss ps
  | [], h => h.elim
  | p :: ps, ⟨h1, h2⟩ => ⟨p, ps, rfl, h1, h2⟩
theorem All1.inv0 : ∀ {xs : List AV}, All1 [] xs → xs = []
  | [], _ => rfl
  | _ :: _, h => h.elim

theorem args_open {H : Type} {enc : TypeId × Value → H} {base : Nat} : ∀ {ts : List TypeId} {Ss : List (AV → Prop)} {vs : List Value} {ds : List (DataW H)} {p : List MemPlace}, RdVs P W ts Ss →
    (∀ (j : Nat) t v, ts[j]? = some t → vs[j]? = some v → Value.okWide P W .any base t v) → DataW.TrodAll enc P W 0 (fun _ => true) true ts vs ds p → (∀ n ∈ DataW.weightsEach P ts ds, n ≤ reachBytes) →
    ∃ xs, VRL F0 [] W xs vs ∧ All1 Ss xs
  | [], [], _, _, _, _, _, hA, _ => by
    obtain ⟨rfl, rfl, rfl⟩ := trodAll_nil hA
    exact ⟨[], .nil, trivial⟩
  | [], _ :: _, _, _, _, h, _, _, _ => h.elim
  | _ :: _, [], _, _, _, h, _, _, _ => h.elim
  | t :: ts, S :: Ss, _, _, _, ⟨h1, h2⟩, hok, hA, hw => by
    obtain ⟨v, vs1, d, ds1, a, b, rfl, rfl, rfl, g1, g2⟩ := trodAll_cons hA
    obtain ⟨w1, w2⟩ := weights_each_cons hw
    obtain ⟨x, k1, k2⟩ := h1 H enc base v d a (hok 0 t v rfl rfl) g1 w1
    obtain ⟨xs, k3, k4⟩ := args_open h2 (fun j t' v' hj hv => hok (j + 1) t' v' (by simpa using hj) (by simpa using hv)) g2 w2
    exact ⟨x :: xs, .cons k1 k3, k2, k4⟩

/-- A law that reads no variable: its row, by its contract. -/
theorem law_row {C : Checked} {os : Os} {k : FuncId} {fn : Func} {s : ChangeSpec} {dom : List PathCond} {tb : TypeId} {H : Type} {enc : TypeId × Value → H} {Ss : List (AV → Prop)} (own : ownKnob C.prog.godebug = none) (started : os.Started) (noInit : C.prog.inits.idxOf? k = none) (hfn : C.prog.funcs[k]? = some fn)
    (witness : ∃ (w : World) (tape : Tape) (i : Input), w.os = os ∧ (w.forCall tape i).Shaped C.prog ∧ i.vars = [] ∧ Input.okWide C.prog (w.forCall tape i) .any w.heap.size k i ∧
      s.pre6 enc C.prog fn dom false (w.forCall tape i).memory i.args ∧ ({} : Assume).holds C.prog (lone (Frame.enter C.prog k i.args .normal) [] (w.forCall tape i)))
    (hvars : s.vars = []) (hres : fn.resultTypes = #[tb]) (htb : C.prog.underlying tb = some .bool)
    (hs : ∀ ds : List (DataW H), ds.length = fn.params.size → s.fn H ds = { results := [.lit (.bool true)], args := ds })
    (hl : laidOutB C.prog = true) (hpar : fn.params.toList.all (fun t => C.prog.readableRec t && decide (t < C.prog.types.size)) = true)
    (hT : ∀ W, TB [] W) (hrd : ∀ W, RdVs C.prog W fn.params.toList Ss) (hspec : ∀ xs, All1 Ss xs → Spec0 C.prog k xs (.sc (.bool true))) :
    ReturnsInHanded {} C os k .any (s.pre6 enc C.prog fn dom false) (s.post enc C.prog fn false true false false) := by
  refine law_lift own started noInit hfn witness hvars hres htb hs hl hpar fun W base args ds p hval hA hw => ?_
  obtain ⟨xs, h1, h2⟩ := args_open (hrd W) (fun j t v hj hv => hval j t v (by simpa using hj) (by simpa using hv)) hA hw
  have h0 : HR F0 [] [] W := ⟨rfl, fun o b base esz tot h => by simp at h, fun o h => by simp at h, fun o esz cells h => by simp at h, fun o o' b base esz tot _ _ _ h => by simp at h,
    fun b ⟨_, _, _, _, h⟩ => by simp at h, fun b h => h.elim, hT W⟩
  refine (hspec xs h2 F0 [] W args h0 h1).mono fun e W' ⟨x, v, hp', μ', he, ⟨hx, hh⟩, hr, hv, hf⟩ => ?_
  subst he; subst hx; subst hh
  have hm : μ' = [] := List.length_eq_zero_iff.1 hr.len
  subst hm
  exact ⟨by rw [hv.sc_inv], hf⟩
end Go.SL

set_option linter.unusedVariables false
set_option linter.unusedSectionVars false
namespace Go.SL
open Go
variable [Tabs]
variable {P : Program} {F : Nat → Prop} {μ : List Nm} {w : World} {env : Nat → AV} {hp : List AObj} {dst : Option Nat} {ty : TypeId} {pos : String} {after : Array Edge} {guard : Option (Nat × Bool)}

end Go.SL

set_option linter.unusedVariables false
set_option linter.unusedSimpArgs false
set_option linter.unusedSectionVars false
namespace Go.SL
open Go Go.ChangeShapes Go.WideShapes Go.ChangeAt Go.RowKit
variable [Tabs]
variable {P : Program} {W : World}

theorem RdV.mono' {t : TypeId} {S S' : AV → Prop} (h : RdV P W t S) (hs : ∀ x, S x → S' x) : RdV P W t S' := fun H enc base v d p h1 h2 h3 => by
  obtain ⟨x, h4, h5⟩ := h H enc base v d p h1 h2 h3
  exact ⟨x, h4, hs x h5⟩
end Go.SL

set_option linter.unusedVariables false
set_option linter.unusedSimpArgs false
set_option linter.unusedSectionVars false
namespace Go.SL
open Go
variable [Tabs]
variable {F : Nat → Prop} {μ μ' μ0 μ1 μ2 : List Nm} {w w' w0 w1 w2 : World} {P : Program} {n : Nat} {hp : List AObj}

end Go.SL

set_option linter.unusedVariables false
set_option linter.unusedSectionVars false
namespace Go.SL
open Go
variable [Tabs]
variable {α : Type} {c : α → List AV} {e : Nat}

end Go.SL

set_option linter.unusedVariables false
set_option linter.unusedSimpArgs false
set_option linter.unusedSectionVars false
namespace Go.SL
open Go
variable [Tabs]
variable {F : Nat → Prop} {μ μ' μ0 μ1 μ2 : List Nm} {w w' w0 w1 w2 : World} {P : Program} {n : Nat} {hp : List AObj}

end Go.SL

set_option linter.unusedVariables false
set_option linter.unusedSimpArgs false
set_option linter.unusedSectionVars false
namespace Go.SL
open Go Go.ChangeShapes Go.WideShapes Go.ChangeAt Go.RowKit
variable [Tabs]
end Go.SL
