/-
  From what a start of a call holds to abstract values: each argument, by its type; and back: behind a call that keeps all old blocks each argument reads as it did.
-/
import Derived.Test.YtmfagijhhmeeeaaSbd
import Derived.ProofKit
import Derived.SizedLaws
import Derived.Carry
import Derived.DeepKeys
import Derived.Test.YtmfagijhhmeeeaaScd
import Derived.OpenShut
import Derived.Handed
set_option linter.unusedVariables false
set_option linter.unusedSectionVars false
namespace Go.SL
open Go Go.ChangeShapes Go.WideShapes Go.ChangeAt Go.RowKit
variable [Tabs]

abbrev F0 : Nat → Prop := fun _ => False
variable {P : Program} {W W' : World}

theorem nblk (b : Nat) : ¬ blocks [] b := fun ⟨_, _, _, _, h⟩ => by simp at h

/-- Cells that read at a type are such abstract values. -/
def Rd (P : Program) (W : World) (t : TypeId) (S : List AV → Prop) : Prop :=
  ∀ (H : Type) (enc : TypeId × Value → H) (sp : Nat → Bool) (fuel : Nat) (cs : List Value) (x : DataW H × List MemPlace), DataW.trod enc P W 0 sp true fuel t cs = some x →
    (∀ n ∈ x.1.weights P t, n ≤ reachBytes) → ∃ xs, VRL F0 [] W xs cs ∧ S xs

theorem Rd.mono {t : TypeId} {S S' : List AV → Prop} (h : Rd P W t S) (hs : ∀ xs, S xs → S' xs) : Rd P W t S' := fun H enc sp fuel cs x h1 h2 => by
  obtain ⟨xs, h3, h4⟩ := h H enc sp fuel cs x h1 h2
  exact ⟨xs, h3, hs _ h4⟩

theorem rd_int {t : TypeId} {k : IntKind} (ht : P.underlying t = some (.int k)) : Rd P W t (fun xs => ∃ n : Int, xs = [.sc (.int k n)] ∧ k.min ≤ n ∧ n ≤ k.max) := by
  intro H enc sp fuel cs x h _
  obtain ⟨n, rfl, _, hw⟩ := DataW.trod_int ht h
  simp only [Lit.wf, Bool.and_eq_true, decide_eq_true_eq] at hw
  exact ⟨[.sc (.int k n)], .cons (.sc rfl) .nil, n, rfl, hw⟩

theorem rd_bool {t : TypeId} (ht : P.underlying t = some .bool) : Rd P W t (fun xs => ∃ b : Bool, xs = [.sc (.bool b)]) := by
  intro H enc sp fuel cs x h _
  obtain ⟨b, rfl, _⟩ := DataW.trod_bool ht h
  exact ⟨[.sc (.bool b)], .cons (.sc rfl) .nil, b, rfl⟩

theorem rd_string {t : TypeId} (ht : P.underlying t = some .string) : Rd P W t (fun xs => ∃ s : ByteArray, xs = [.sc (.string s)] ∧ s.size ≤ reachBytes) := by
  intro H enc sp fuel cs x h hw
  obtain ⟨s, rfl, rfl, _⟩ := DataW.trod_string ht h
  refine ⟨[.sc (.string s)], .cons (.sc rfl) .nil, s, rfl, ?_⟩
  have := hw s.data.toList.length (by simp [DataW.weights])
  simpa using this

/-- One after the other. -/
def All2 : List (List AV → Prop) → List (List AV) → Prop
  | [], [] => True
  | S :: Ss, p :: ps => S p ∧ All2 Ss ps
  | _, _ => False

def packed (P : Program) : List Field → Nat → Option Nat
  | [], k => some k
  | f :: fs, k => if f.offset = k then packed P fs (k + P.cellsOf f.type) else none

def RdF (P : Program) (W : World) : List Field → List (List AV → Prop) → Prop
  | [], [] => True
  | f :: fs, S :: Ss => Rd P W f.type S ∧ RdF P W fs Ss
  | _, _ => False

theorem RdF.cons {f : Field} {fs : List Field} {S : List AV → Prop} {Ss : List (List AV → Prop)} (h : Rd P W f.type S) (h' : RdF P W fs Ss) : RdF P W (f :: fs) (S :: Ss) := ⟨h, h'⟩
theorem RdF.nil : RdF P W [] [] := trivial

theorem weights_each_cons {H : Type} {t : TypeId} {ts : List TypeId} {d : DataW H} {ds : List (DataW H)} (h : ∀ n ∈ DataW.weightsEach P (t :: ts) (d :: ds), n ≤ reachBytes) :
    (∀ n ∈ d.weights P t, n ≤ reachBytes) ∧ ∀ n ∈ DataW.weightsEach P ts ds, n ≤ reachBytes :=
  ⟨fun n hn => h n (by simp only [DataW.weightsEach, List.mem_append]; exact .inl hn), fun n hn => h n (by simp only [DataW.weightsEach, List.mem_append]; exact .inr hn)⟩

theorem rd_fields {H : Type} {enc : TypeId × Value → H} {sp : Nat → Bool} {n : Nat} {cs : List Value} : ∀ (fs : List Field) (Ss : List (List AV → Prop)) (k : Nat) (xs : List (DataW H × List MemPlace)), packed P fs k = some cs.length → RdF P W fs Ss →
    xs.length = fs.length → (∀ (i : Nat) (f : Field), fs[i]? = some f → DataW.trod enc P W 0 sp true n f.type ((cs.drop f.offset).take (P.cellsOf f.type)) = xs[i]?) →
    (∀ m ∈ DataW.weightsEach P (fs.map (·.type)) (xs.map (·.1)), m ≤ reachBytes) → ∃ parts : List (List AV), VRL F0 [] W parts.flatten (cs.drop k) ∧ All2 Ss parts
  | [], [], k, xs, hp, _, _, _, _ => by
    simp only [packed, Option.some.injEq] at hp
    refine ⟨[], ?_, trivial⟩
    rw [List.drop_eq_nil_of_le (by omega)]
    exact .nil
  | [], _ :: _, _, _, _, h, _, _, _ => h.elim
  | _ :: _, [], _, _, _, h, _, _, _ => h.elim
  | f :: fs, S :: Ss, k, [], _, _, hl, _, _ => by simp at hl
  | f :: fs, S :: Ss, k, x :: xs, hp, ⟨h1, h2⟩, hl, hi, hw => by
    simp only [packed] at hp
    split at hp
    · rename_i hk
      have h0 := hi 0 f rfl
      rw [List.getElem?_cons_zero, hk] at h0
      obtain ⟨hw1, hw2⟩ := weights_each_cons hw
      obtain ⟨p, g1, g2⟩ := h1 H enc sp n _ x h0 hw1
      obtain ⟨ps, g3, g4⟩ := rd_fields fs Ss (k + P.cellsOf f.type) xs hp h2 (by simpa using hl) (fun i f' hf => by have := hi (i + 1) f' (by simpa using hf); simpa using this) hw2
      refine ⟨p :: ps, ?_, g2, g4⟩
      rw [List.flatten_cons]
      have e : cs.drop k = (cs.drop k).take (P.cellsOf f.type) ++ cs.drop (k + P.cellsOf f.type) := by
        rw [← List.drop_drop, List.take_append_drop]
      rw [e]
      exact g1.append g3
    · simp at hp

theorem rd_struct {t : TypeId} {fs : Array Field} {Ss : List (List AV → Prop)} (ht : P.underlying t = some (.struct fs)) (hp : packed P fs.toList 0 = some (P.cellsOf t)) (h : RdF P W fs.toList Ss) :
    Rd P W t (fun xs => ∃ parts : List (List AV), xs = parts.flatten ∧ All2 Ss parts) := by
  intro H enc sp fuel cs x hx hw
  obtain ⟨xs, n, _, rfl, hl, hlen, hi⟩ := DataW.trod_struct ht hx
  simp only [DataW.weights, ht] at hw
  obtain ⟨parts, g1, g2⟩ := rd_fields (enc := enc) (sp := sp) (n := n) (cs := cs) fs.toList Ss 0 xs (by rw [hl]; exact hp) h (by simpa using hlen) (fun i f hf => hi i f (by simpa using hf)) hw
  exact ⟨parts.flatten, by simpa using g1, parts, rfl, g2⟩

theorem weights_all {H : Type} {e : TypeId} : ∀ (ds : List (DataW H)) (i : Nat) (d : DataW H), ds[i]? = some d → ∀ n ∈ d.weights P e, n ∈ DataW.weightsAll P e ds
  | d0 :: ds, 0, d, h, n, hn => by
    simp only [List.getElem?_cons_zero, Option.some.injEq] at h
    subst h
    simp only [DataW.weightsAll, List.mem_append]
    exact .inl hn
  | d0 :: ds, i + 1, d, h, n, hn => by
    simp only [List.getElem?_cons_succ] at h
    simp only [DataW.weightsAll, List.mem_append]
    exact .inr (weights_all ds i d h n hn)
  | [], _, _, h, _, _ => by simp at h

theorem Fr.block (h : Fr [] W [] W') {b : Nat} (hb : b < W.heap.size) : W'.heap[b]? = W.heap[b]? := h.keep b hb (nblk b)

theorem Fr.frame (h : Fr [] W [] W') (may : MemPlace → Prop) : W.keptBut W' may := by
  refine ⟨h.oo.1, h.oo.2, fun i hi => ?_⟩
  rw [h.block hi]
  split <;> simp_all

theorem Fr.sameAt (h : Fr [] W [] W') {p : MemPlace} (hp : p.block < W.heap.size) : W.sameAt W' p := by
  cases p with
  | cell b o => exact World.cell?_of_block (w := W) (h.block hp)
  | map b => exact h.block hp

section
variable {H : Type} {enc : TypeId × Value → H}

theorem Fr.trodAll (h : Fr [] W [] W') (hl : laidOutB P = true) : ∀ {ts : List TypeId} {vs : List Value} {ds : List (DataW H)} {p : List MemPlace}, (∀ t ∈ ts, P.readableRec t = true ∧ t < P.types.size) → (∀ x ∈ p, x.block < W.heap.size) →
    DataW.TrodAll enc P W 0 (fun _ => true) true ts vs ds p → DataW.TrodAll enc P W' 0 (fun b => decide (b < W.heap.size)) true ts vs ds p
  | [], _, _, _, _, _, hA => by
    obtain ⟨rfl, rfl, rfl⟩ := trodAll_nil hA
    exact rfl
  | t :: ts, _, _, _, ht, hp, hA => by
    obtain ⟨v, vs1, d, ds1, a, b, rfl, rfl, rfl, h1, h2⟩ := trodAll_cons hA
    have ht0 := ht t (by simp)
    exact ⟨_, _, (WideElems.Trod_stays hl ht0.1 ht0.2 h1 (fun x hx => h.sameAt (hp x (by simp [hx]))) (fun x hx => by simpa using hp x (by simp [hx]))),
      Fr.trodAll h hl (fun t' ht' => ht t' (by simp [ht'])) (fun x hx => hp x (by simp [hx])) h2, rfl⟩

theorem TrodAll.lt : ∀ {ts : List TypeId} {vs : List Value} {ds : List (DataW H)} {p : List MemPlace}, DataW.TrodAll enc P W 0 (fun _ => true) true ts vs ds p → (∀ x ∈ p, x.block < W.heap.size) ∧ vs.length = ts.length ∧ ds.length = ts.length
  | [], _, _, _, hA => by
    obtain ⟨rfl, rfl, rfl⟩ := trodAll_nil hA
    simp
  | t :: ts, _, _, _, hA => by
    obtain ⟨v, vs1, d, ds1, a, b, rfl, rfl, rfl, h1, h2⟩ := trodAll_cons hA
    obtain ⟨g1, g2, g3⟩ := TrodAll.lt h2
    obtain ⟨m, hm⟩ := h1
    refine ⟨fun x hx => ?_, by simp [g2], by simp [g3]⟩
    rcases List.mem_append.1 hx with h | h
    · exact DataW.trod_lt m _ _ _ hm x h
    · exact g1 x h

/-- A law that reads no variable: its row, by its call. -/
theorem law_lift {C : Checked} {os : Os} {k : FuncId} {fn : Func} {s : ChangeSpec} {dom : List PathCond} {tb : TypeId} (own : ownKnob C.prog.godebug = none) (started : os.Started) (noInit : C.prog.inits.idxOf? k = none) (hfn : C.prog.funcs[k]? = some fn)
    (witness : ∃ (w : World) (tape : Tape) (i : Input), w.os = os ∧ (w.forCall tape i).Shaped C.prog ∧ i.vars = [] ∧ Input.okWide C.prog (w.forCall tape i) .any w.heap.size k i ∧
      s.pre6 enc C.prog fn dom false (w.forCall tape i).memory i.args ∧ ({} : Assume).holds C.prog (lone (Frame.enter C.prog k i.args .normal) [] (w.forCall tape i)))
    (hvars : s.vars = []) (hres : fn.resultTypes = #[tb]) (htb : C.prog.underlying tb = some .bool)
    (hs : ∀ ds : List (DataW H), ds.length = fn.params.size → s.fn H ds = { results := [.lit (.bool true)], args := ds })
    (hl : laidOutB C.prog = true) (hpar : fn.params.toList.all (fun t => C.prog.readableRec t && decide (t < C.prog.types.size)) = true)
    (hcall : ∀ (W : World) (base : Nat) (args : Array Value) (ds : List (DataW H)) (p : List MemPlace), (∀ (j : Nat) t v, fn.params[j]? = some t → args[j]? = some v → Value.okWide C.prog W .any base t v) →
      DataW.TrodAll enc C.prog W 0 (fun _ => true) true fn.params.toList args.toList ds p → (∀ n ∈ DataW.weightsEach C.prog fn.params.toList ds, n ≤ reachBytes) →
      Calls C.prog k args W fun e W' => e = .returned (.bool true) ∧ Fr [] W [] W') :
    ReturnsInHanded {} C os k .any (s.pre6 enc C.prog fn dom false) (s.post enc C.prog fn false true false false) := by
  refine returnsInHanded_of_change_sized (C := C) own started noInit hfn witness ?_
  intro W base args ds gs before hval hW _ hsz _
  have hW' := hW
  obtain ⟨p, q, hA, hV, rfl, hfz, hnd⟩ := hW
  rw [hvars] at hV
  obtain ⟨rfl, rfl⟩ := trodVars_none hV
  have hpar' : ∀ t ∈ fn.params.toList, C.prog.readableRec t = true ∧ t < C.prog.types.size := fun t ht => by
    have := List.all_eq_true.1 hpar t ht
    simpa using this
  obtain ⟨hlt, hvl, hdl⟩ := TrodAll.lt hA
  have hw : ∀ n ∈ DataW.weightsEach C.prog fn.params.toList ds, n ≤ reachBytes := by
    intro n hn
    have h0 : s.plain.varTypes C.prog = [] := by simp [ChangeSpec.plain, DataSpec.varTypes, hvars]
    rw [h0, List.append_nil, List.append_nil] at hsz
    simpa using List.all_eq_true.1 hsz n hn
  refine (hcall W base args ds p hval hA hw).mono fun e W' ⟨he, hf⟩ => ?_
  subst he
  have hsd : s.fn H (ds ++ []) = { results := [.lit (.bool true)], args := ds } := by rw [List.append_nil]; exact hs ds (by simpa using hdl)
  refine ⟨_, rfl, ds, [], p ++ [], [], p, [], hW', ?_, ?_, ?_, hf.frame _, fun h => by cases h⟩
  · rw [hsd, hres]
    exact trodAll_mk1 (shut_bool htb _)
  · rw [hsd]
    exact hf.trodAll hl hpar' hlt hA
  · rw [hsd, hvars]
    exact rfl
end

/-- Values that read at a type are such abstract values. -/
def RdV (P : Program) (W : World) (t : TypeId) (S : AV → Prop) : Prop :=
  ∀ (H : Type) (enc : TypeId × Value → H) (base : Nat) (v : Value) (d : DataW H) (p : List MemPlace), Value.okWide P W .any base t v → DataW.Trod enc P W 0 (fun _ => true) true t v d p →
    (∀ n ∈ d.weights P t, n ≤ reachBytes) → ∃ x, VR F0 [] W x v ∧ S x

def flatT (P : Program) (t : TypeId) : Bool := match P.underlying t with
  | some (.struct _) => false
  | some (.array _ _) => false
  | _ => true

theorem okWide_flat {t : TypeId} {base : Nat} {cs : Array Value} (hf : flatT P t = true) (h : Value.okWide P W .any base t (.agg cs)) : False := by
  unfold flatT at hf
  unfold Value.okWide at h
  split at h
  · rename_i h1; rw [h1] at hf; simp at hf
  · rename_i h1; rw [h1] at hf; simp at hf
  · unfold Cell.okWide at h
    split at h <;> (try contradiction)
    unfold Cell.ok at h
    split at h <;> first | contradiction | simp_all

theorem RdV.flat {t : TypeId} {S : List AV → Prop} {S' : AV → Prop} (hf : flatT P t = true) (h : Rd P W t S) (hs : ∀ xs, S xs → ∃ x, xs = [x] ∧ S' x) : RdV P W t S' := by
  intro H enc base v d p hok ⟨fuel, hx⟩ hw
  obtain ⟨xs, h1, h2⟩ := h H enc _ fuel _ _ hx hw
  obtain ⟨x, rfl, h3⟩ := hs xs h2
  refine ⟨x, ?_, h3⟩
  have hc : v.cells.toList = [v] := by
    unfold Value.cells
    split
    · exact (okWide_flat hf hok).elim
    · rfl
  rw [hc] at h1
  cases h1 with
  | cons a _ => exact a

theorem RdV.struct {t : TypeId} {fs : Array Field} {S : List AV → Prop} {S' : AV → Prop} (ht : P.underlying t = some (.struct fs)) (h : Rd P W t S) (hs : ∀ xs, S xs → S' (.agg xs)) : RdV P W t S' := by
  intro H enc base v d p hok ⟨fuel, hx⟩ hw
  obtain ⟨xs, h1, h2⟩ := h H enc _ fuel _ _ hx hw
  obtain ⟨cs, rfl, _⟩ := okWide_struct ht hok
  exact ⟨.agg xs, .agg h1, hs xs h2⟩

theorem rv_int {t : TypeId} {k : IntKind} (ht : P.underlying t = some (.int k)) : RdV P W t (fun x => ∃ n : Int, x = .sc (.int k n) ∧ k.min ≤ n ∧ n ≤ k.max) :=
  RdV.flat (by unfold flatT; rw [ht]) (rd_int ht) fun xs ⟨n, h1, h2⟩ => ⟨_, h1, n, rfl, h2⟩
theorem rv_struct {t : TypeId} {fs : Array Field} {Ss : List (List AV → Prop)} (ht : P.underlying t = some (.struct fs)) (hp : packed P fs.toList 0 = some (P.cellsOf t)) (h : RdF P W fs.toList Ss) :
    RdV P W t (fun x => ∃ parts : List (List AV), x = .agg parts.flatten ∧ All2 Ss parts) :=
  RdV.struct ht (rd_struct ht hp h) fun xs ⟨parts, h1, h2⟩ => ⟨parts, by rw [h1], h2⟩

def RdVs (P : Program) (W : World) : List TypeId → List (AV → Prop) → Prop
  | [], [] => True
  | t :: ts, S :: Ss => RdV P W t S ∧ RdVs P W ts Ss
  | _, _ => False
def All1 : List (AV → Prop) → List AV → Prop
  | [], [] => True
  | S :: Ss, x :: xs => S x ∧ All1 Ss xs
  | _, _ => False

theorem All1.inv {S : AV → Prop} {Ss : List (AV → Prop)} : ∀ {xs : List AV}, All1 (S :: Ss) xs → ∃ p ps, xs = p :: ps ∧ S p ∧ All1 Ss ps
  | [], h => h.elim
  | p :: ps, ⟨h1, h2⟩ => ⟨p, ps, rfl, h1, h2⟩
theorem All1.inv0 : ∀ {xs : List AV}, All1 [] xs → xs = []
  | [], _ => rfl
  | _ :: _, h => h.elim

theorem args_open {H : Type} {enc : TypeId × Value → H} {base : Nat} : ∀ {ts : List TypeId} {Ss : List (AV → Prop)} {vs : List Value} {ds : List (DataW H)} {p : List MemPlace}, RdVs P W ts Ss →
    (∀ (j : Nat) t v, ts[j]? = some t → vs[j]? = some v → Value.okWide P W .any base t v) → DataW.TrodAll enc P W 0 (fun _ => true) true ts vs ds p → (∀ n ∈ DataW.weightsEach P ts ds, n ≤ reachBytes) →
    ∃ xs, VRL F0 [] W xs vs ∧ All1 Ss xs
  | [], [], _, _, _, _, _, hA, _ => by
    obtain ⟨rfl, rfl, rfl⟩ := trodAll_nil hA
    exact ⟨[], .nil, trivial⟩
  | [], _ :: _, _, _, _, h, _, _, _ => h.elim
  | _ :: _, [], _, _, _, h, _, _, _ => h.elim
  | t :: ts, S :: Ss, _, _, _, ⟨h1, h2⟩, hok, hA, hw => by
    obtain ⟨v, vs1, d, ds1, a, b, rfl, rfl, rfl, g1, g2⟩ := trodAll_cons hA
    obtain ⟨w1, w2⟩ := weights_each_cons hw
    obtain ⟨x, k1, k2⟩ := h1 H enc base v d a (hok 0 t v rfl rfl) g1 w1
    obtain ⟨xs, k3, k4⟩ := args_open h2 (fun j t' v' hj hv => hok (j + 1) t' v' (by simpa using hj) (by simpa using hv)) g2 w2
    exact ⟨x :: xs, .cons k1 k3, k2, k4⟩

/-- A law that reads no variable: its row, by its contract. -/
theorem law_row {C : Checked} {os : Os} {k : FuncId} {fn : Func} {s : ChangeSpec} {dom : List PathCond} {tb : TypeId} {H : Type} {enc : TypeId × Value → H} {Ss : List (AV → Prop)} (own : ownKnob C.prog.godebug = none) (started : os.Started) (noInit : C.prog.inits.idxOf? k = none) (hfn : C.prog.funcs[k]? = some fn)
    (witness : ∃ (w : World) (tape : Tape) (i : Input), w.os = os ∧ (w.forCall tape i).Shaped C.prog ∧ i.vars = [] ∧ Input.okWide C.prog (w.forCall tape i) .any w.heap.size k i ∧
      s.pre6 enc C.prog fn dom false (w.forCall tape i).memory i.args ∧ ({} : Assume).holds C.prog (lone (Frame.enter C.prog k i.args .normal) [] (w.forCall tape i)))
    (hvars : s.vars = []) (hres : fn.resultTypes = #[tb]) (htb : C.prog.underlying tb = some .bool)
    (hs : ∀ ds : List (DataW H), ds.length = fn.params.size → s.fn H ds = { results := [.lit (.bool true)], args := ds })
    (hl : laidOutB C.prog = true) (hpar : fn.params.toList.all (fun t => C.prog.readableRec t && decide (t < C.prog.types.size)) = true)
    (hT : ∀ W, TB [] W) (hrd : ∀ W, RdVs C.prog W fn.params.toList Ss) (hspec : ∀ xs, All1 Ss xs → Spec0 C.prog k xs (.sc (.bool true))) :
    ReturnsInHanded {} C os k .any (s.pre6 enc C.prog fn dom false) (s.post enc C.prog fn false true false false) := by
  refine law_lift own started noInit hfn witness hvars hres htb hs hl hpar fun W base args ds p hval hA hw => ?_
  obtain ⟨xs, h1, h2⟩ := args_open (hrd W) (fun j t v hj hv => hval j t v (by simpa using hj) (by simpa using hv)) hA hw
  have h0 : HR F0 [] [] W := ⟨rfl, fun o b base esz tot h => by simp at h, fun o h => by simp at h, fun o x h => by simp at h, fun o o' b base esz tot _ _ _ h => by simp at h,
    fun b ⟨_, _, _, _, h⟩ => by simp at h, fun b h => h.elim, hT W⟩
  refine (hspec xs h2 F0 [] W args h0 h1).mono fun e W' ⟨x, v, hp', μ', he, ⟨hx, hh⟩, hr, hv, hf⟩ => ?_
  subst he; subst hx; subst hh
  have hm : μ' = [] := List.length_eq_zero_iff.1 hr.len
  subst hm
  exact ⟨by rw [hv.sc_inv], hf⟩
end Go.SL

set_option linter.unusedVariables false
set_option linter.unusedSectionVars false
namespace Go.SL
open Go
variable [Tabs]
variable {P : Program} {F : Nat → Prop} {μ : List Nm} {w : World} {env : Nat → AV} {hp : List AObj} {dst : Option Nat} {ty : TypeId} {pos : String} {after : Array Edge} {guard : Option (Nat × Bool)}

end Go.SL

set_option linter.unusedVariables false
set_option linter.unusedSimpArgs false
set_option linter.unusedSectionVars false
namespace Go.SL
open Go Go.ChangeShapes Go.WideShapes Go.ChangeAt Go.RowKit
variable [Tabs]
variable {P : Program} {W : World}

inductive Lf where
  | int (k : IntKind)
  | bool
  | str
def Lf.ok : Lf → AV → Prop
  | .int k, x => ∃ n : Int, x = .sc (.int k n) ∧ k.min ≤ n ∧ n ≤ k.max
  | .bool, x => ∃ b : Bool, x = .sc (.bool b)
  | .str, x => ∃ s : ByteArray, x = .sc (.string s) ∧ s.size ≤ reachBytes
def Fit : List Lf → List AV → Prop
  | [], xs => xs = []
  | l :: ls, xs => ∃ x ys, xs = x :: ys ∧ l.ok x ∧ Fit ls ys
theorem Fit.append : ∀ {ls ms : List Lf} {xs ys : List AV}, Fit ls xs → Fit ms ys → Fit (ls ++ ms) (xs ++ ys)
  | [], _, _, _, h, h' => by simp only [Fit] at h; subst h; exact h'
  | l :: ls, _, _, _, ⟨x, zs, e, h1, h2⟩, h' => by subst e; exact ⟨x, zs ++ _, rfl, h1, Fit.append h2 h'⟩
theorem Fit.all2 : ∀ {lss : List (List Lf)} {parts : List (List AV)}, All2 (lss.map Fit) parts → Fit lss.flatten parts.flatten
  | [], [], _ => rfl
  | [], _ :: _, h => h.elim
  | _ :: _, [], h => h.elim
  | ls :: lss, p :: ps, ⟨h1, h2⟩ => by rw [List.flatten_cons, List.flatten_cons]; exact Fit.append h1 (Fit.all2 h2)
theorem Fit.rep {ls : List Lf} : ∀ {rows : List (List AV)}, (∀ r ∈ rows, Fit ls r) → Fit (List.replicate rows.length ls).flatten rows.flatten
  | [], _ => rfl
  | r :: rows, h => by
    rw [List.length_cons, List.replicate_succ, List.flatten_cons, List.flatten_cons]
    exact Fit.append (h r (by simp)) (Fit.rep fun x hx => h x (by simp [hx]))

theorem rd_array {t e : TypeId} {n : Nat} {ls : List Lf} (ht : P.underlying t = some (.array n e)) (hsz : P.cellsOf t = n * P.cellsOf e) (he : Rd P W e (Fit ls)) : Rd P W t (Fit (List.replicate n ls).flatten) := by
  intro H enc sp fuel cs x h hw
  obtain ⟨xs, m, rfl, rfl, hl, hn, hi⟩ := DataW.trod_array ht h
  simp only [DataW.weights, ht] at hw
  have key : ∀ j, j ≤ n → ∃ rows : List (List AV), VRL F0 [] W rows.flatten (cs.take (j * P.cellsOf e)) ∧ rows.length = j ∧ ∀ r ∈ rows, Fit ls r := by
    intro j
    induction j with
    | zero => intro _; exact ⟨[], by simpa using VRL.nil, rfl, by simp⟩
    | succ j ih =>
      intro hj
      obtain ⟨rows, q1, q2, q3⟩ := ih (by omega)
      have h1 := hi j (by omega)
      rw [List.getElem?_eq_getElem (by omega)] at h1
      obtain ⟨ys, s1, s2⟩ := he H enc sp m _ _ h1 (fun z hz => hw z (weights_all _ j _ (by rw [List.getElem?_map, List.getElem?_eq_getElem (by omega)]; rfl) z hz))
      refine ⟨rows ++ [ys], ?_, by simp [q2], fun r hr => ?_⟩
      · have e3 : cs.take ((j + 1) * P.cellsOf e) = cs.take (j * P.cellsOf e) ++ (cs.drop (j * P.cellsOf e)).take (P.cellsOf e) := by
          rw [Nat.add_mul, Nat.one_mul, List.take_add]
        rw [e3, List.flatten_append]
        exact q1.append (by simpa using s1)
      · rcases List.mem_append.1 hr with h4 | h4
        · exact q3 r h4
        · simp only [List.mem_singleton] at h4; subst h4; exact s2
  obtain ⟨rows, q1, q2, q3⟩ := key n (Nat.le_refl _)
  refine ⟨rows.flatten, ?_, by rw [← q2]; exact Fit.rep q3⟩
  rwa [List.take_of_length_le (by rw [hl, hsz]; exact Nat.le_refl _)] at q1

mutual
def leaves (P : Program) : Nat → TypeId → Option (List Lf)
  | 0, _ => none
  | d + 1, t => match P.underlying t with
    | some (.int k) => some [.int k]
    | some .bool => some [.bool]
    | some .string => some [.str]
    | some (.struct fs) => match packed P fs.toList 0 with
      | some c => bif Nat.beq c (P.cellsOf t) then (match leavesF P d fs.toList with
        | some lss => some lss.flatten
        | none => none) else none
      | none => none
    | some (.array n e) => bif Nat.beq (P.cellsOf t) (n * P.cellsOf e) then (match leaves P d e with
      | some ls => some (List.replicate n ls).flatten
      | none => none) else none
    | _ => none
def leavesF (P : Program) : Nat → List Field → Option (List (List Lf))
  | 0, _ => none
  | _, [] => some []
  | d + 1, f :: fs => match leaves P d f.type with
    | some ls => match leavesF P d fs with
      | some lss => some (ls :: lss)
      | none => none
    | none => none
end
mutual
theorem rd_leaves : ∀ (d : Nat) (t : TypeId) (ls : List Lf), leaves P d t = some ls → Rd P W t (Fit ls)
  | 0, t, ls, h => by simp [leaves] at h
  | d + 1, t, ls, h => by
    simp only [leaves] at h
    split at h
    · rename_i k hu; injection h with h; subst h
      exact Rd.mono (rd_int hu) fun xs ⟨n, e, h1⟩ => ⟨_, [], e, ⟨n, rfl, h1⟩, rfl⟩
    · rename_i hu; injection h with h; subst h
      exact Rd.mono (rd_bool hu) fun xs ⟨b, e⟩ => ⟨_, [], e, ⟨b, rfl⟩, rfl⟩
    · rename_i hu; injection h with h; subst h
      exact Rd.mono (rd_string hu) fun xs ⟨s, e, h1⟩ => ⟨_, [], e, ⟨s, rfl, h1⟩, rfl⟩
    · rename_i fs hu
      split at h
      · rename_i c hc
        cases hb : Nat.beq c (P.cellsOf t)
        · rw [hb] at h; simp at h
        · rw [hb] at h; simp only [cond_true] at h
          have := Nat.eq_of_beq_eq_true hb; subst this
          split at h
          · rename_i lss hl; injection h with h; subst h
            exact Rd.mono (rd_struct hu hc (rd_leavesF d fs.toList lss hl)) fun xs ⟨parts, e, h1⟩ => by subst e; exact Fit.all2 h1
          · simp at h
      · simp at h
    · rename_i n e hu
      cases hb : Nat.beq (P.cellsOf t) (n * P.cellsOf e)
      · rw [hb] at h; simp at h
      · rw [hb] at h; simp only [cond_true] at h
        have hsz := Nat.eq_of_beq_eq_true hb
        split at h
        · rename_i ls' hl; injection h with h; subst h
          exact rd_array hu hsz (rd_leaves d e ls' hl)
        · simp at h
    · simp at h
theorem rd_leavesF : ∀ (d : Nat) (fs : List Field) (lss : List (List Lf)), leavesF P d fs = some lss → RdF P W fs (lss.map Fit)
  | 0, fs, lss, h => by simp [leavesF] at h
  | d + 1, [], lss, h => by simp only [leavesF, Option.some.injEq] at h; subst h; exact RdF.nil
  | d + 1, f :: fs, lss, h => by
    simp only [leavesF] at h
    split at h
    · rename_i ls hl; split at h
      · rename_i lss' hls; injection h with h; subst h
        exact RdF.cons (rd_leaves d f.type ls hl) (rd_leavesF d fs lss' hls)
      · simp at h
    · simp at h
end
theorem RdV.mono' {t : TypeId} {S S' : AV → Prop} (h : RdV P W t S) (hs : ∀ x, S x → S' x) : RdV P W t S' := fun H enc base v d p h1 h2 h3 => by
  obtain ⟨x, h4, h5⟩ := h H enc base v d p h1 h2 h3
  exact ⟨x, h4, hs x h5⟩
/-- An argument that is a struct. -/
theorem rv_leaves {t : TypeId} {fs : Array Field} (ls : List Lf) (d : Nat) (ht : P.underlying t = some (.struct fs)) (hp : packed P fs.toList 0 = some (P.cellsOf t)) (hl : (leavesF P d fs.toList).map List.flatten = some ls) :
    RdV P W t (fun x => ∃ xs, x = .agg xs ∧ Fit ls xs) := by
  cases h : leavesF P d fs.toList with
  | none => rw [h] at hl; simp at hl
  | some lss =>
    rw [h] at hl
    simp only [Option.map_some, Option.some.injEq] at hl; subst hl
    exact RdV.mono' (rv_struct ht hp (rd_leavesF d fs.toList lss h)) fun x ⟨parts, e, h1⟩ => ⟨_, e, Fit.all2 h1⟩
end Go.SL

set_option linter.unusedVariables false
set_option linter.unusedSimpArgs false
set_option linter.unusedSectionVars false
namespace Go.SL
open Go
variable [Tabs]
variable {F : Nat → Prop} {μ μ' μ0 μ1 μ2 : List Nm} {w w' w0 w1 w2 : World} {P : Program} {n : Nat} {hp : List AObj}

end Go.SL

set_option linter.unusedVariables false
set_option linter.unusedSectionVars false
namespace Go.SL
open Go
variable [Tabs]
variable {α : Type} {c : α → List AV} {e : Nat}

end Go.SL

set_option linter.unusedVariables false
set_option linter.unusedSimpArgs false
set_option linter.unusedSectionVars false
namespace Go.SL
open Go
variable [Tabs]
variable {F : Nat → Prop} {μ μ' μ0 μ1 μ2 : List Nm} {w w' w0 w1 w2 : World} {P : Program} {n : Nat} {hp : List AObj}

end Go.SL

set_option linter.unusedVariables false
set_option linter.unusedSimpArgs false
set_option linter.unusedSectionVars false
namespace Go.SL
open Go Go.ChangeShapes Go.WideShapes Go.ChangeAt Go.RowKit
variable [Tabs]
end Go.SL

set_option linter.unusedVariables false
set_option linter.unusedSimpArgs false
set_option linter.unusedSectionVars false
namespace Go.SL
open Go
variable [Tabs]
variable {P : Program} {n : Nat} {F : Nat → Prop} {μ μ' μ0 μ1 μ2 : List Nm} {w w' w0 w1 w2 : World}

end Go.SL
