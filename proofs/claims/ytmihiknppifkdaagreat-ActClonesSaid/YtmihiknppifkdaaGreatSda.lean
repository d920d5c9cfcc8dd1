/-
  From what a start of a call holds to abstract values: each argument, by its type; and back: behind a call that keeps all old blocks each argument reads as it did.
-/
import Derived.Test.YtmihiknppifkdaaGreatSba
import Derived.ProofKit
import Derived.SizedLaws
import Derived.Carry
import Derived.DeepKeys
import Derived.Test.YtmihiknppifkdaaGreatSca
import Derived.OpenShut
import Derived.Handed
set_option linter.unusedVariables false
set_option linter.unusedSectionVars false
namespace Go.SL
open Go Go.ChangeShapes Go.WideShapes Go.ChangeAt Go.RowKit
variable [Tabs]

abbrev F0 : Nat → Prop := fun _ => False
variable {P : Program} {W W' : World}

theorem nblk (b : Nat) : ¬ blocks [] b := fun ⟨_, _, _, _, h⟩ => by simp at h

/-- Cells that read at a type are such abstract values. -/
def Rd (P : Program) (W : World) (t : TypeId) (S : List AV → Prop) : Prop :=
  ∀ (H : Type) (enc : TypeId × Value → H) (sp : Nat → Bool) (fuel : Nat) (cs : List Value) (x : DataW H × List MemPlace), DataW.trod enc P W 0 sp true fuel t cs = some x →
    (∀ n ∈ x.1.weights P t, n ≤ reachBytes) → ∃ xs, VRL F0 [] W xs cs ∧ S xs

theorem rd_int {t : TypeId} {k : IntKind} (ht : P.underlying t = some (.int k)) : Rd P W t (fun xs => ∃ n : Int, xs = [.sc (.int k n)] ∧ k.min ≤ n ∧ n ≤ k.max) := by
  intro H enc sp fuel cs x h _
  obtain ⟨n, rfl, _, hw⟩ := DataW.trod_int ht h
  simp only [Lit.wf, Bool.and_eq_true, decide_eq_true_eq] at hw
  exact ⟨[.sc (.int k n)], .cons (.sc rfl) .nil, n, rfl, hw⟩

theorem weights_each_cons {H : Type} {t : TypeId} {ts : List TypeId} {d : DataW H} {ds : List (DataW H)} (h : ∀ n ∈ DataW.weightsEach P (t :: ts) (d :: ds), n ≤ reachBytes) :
    (∀ n ∈ d.weights P t, n ≤ reachBytes) ∧ ∀ n ∈ DataW.weightsEach P ts ds, n ≤ reachBytes :=
  ⟨fun n hn => h n (by simp only [DataW.weightsEach, List.mem_append]; exact .inl hn), fun n hn => h n (by simp only [DataW.weightsEach, List.mem_append]; exact .inr hn)⟩

theorem Fr.block (h : Fr [] W [] W') {b : Nat} (hb : b < W.heap.size) : W'.heap[b]? = W.heap[b]? := h.keep b hb (nblk b)

theorem Fr.frame (h : Fr [] W [] W') (may : MemPlace → Prop) : W.keptBut W' may := by
  refine ⟨h.oo.1, h.oo.2, fun i hi => ?_⟩
  rw [h.block hi]
  split <;> simp_all

theorem Fr.sameAt (h : Fr [] W [] W') {p : MemPlace} (hp : p.block < W.heap.size) : W.sameAt W' p := by
  cases p with
  | cell b o => exact World.cell?_of_block (w := W) (h.block hp)
  | map b => exact h.block hp

section
variable {H : Type} {enc : TypeId × Value → H}

theorem Fr.trodAll (h : Fr [] W [] W') (hl : laidOutB P = true) : ∀ {ts : List TypeId} {vs : List Value} {ds : List (DataW H)} {p : List MemPlace}, (∀ t ∈ ts, P.readableRec t = true ∧ t < P.types.size) → (∀ x ∈ p, x.block < W.heap.size) →
    DataW.TrodAll enc P W 0 (fun _ => true) true ts vs ds p → DataW.TrodAll enc P W' 0 (fun b => decide (b < W.heap.size)) true ts vs ds p
  | [], _, _, _, _, _, hA => by
    obtain ⟨rfl, rfl, rfl⟩ := trodAll_nil hA
    exact rfl
  | t :: ts, _, _, _, ht, hp, hA => by
    obtain ⟨v, vs1, d, ds1, a, b, rfl, rfl, rfl, h1, h2⟩ := trodAll_cons hA
    have ht0 := ht t (by simp)
    exact ⟨_, _, (WideElems.Trod_stays hl ht0.1 ht0.2 h1 (fun x hx => h.sameAt (hp x (by simp [hx]))) (fun x hx => by simpa using hp x (by simp [hx]))),
      Fr.trodAll h hl (fun t' ht' => ht t' (by simp [ht'])) (fun x hx => hp x (by simp [hx])) h2, rfl⟩

theorem TrodAll.lt : ∀ {ts : List TypeId} {vs : List Value} {ds : List (DataW H)} {p : List MemPlace}, DataW.TrodAll enc P W 0 (fun _ => true) true ts vs ds p → (∀ x ∈ p, x.block < W.heap.size) ∧ vs.length = ts.length ∧ ds.length = ts.length
  | [], _, _, _, hA => by
    obtain ⟨rfl, rfl, rfl⟩ := trodAll_nil hA
    simp
  | t :: ts, _, _, _, hA => by
    obtain ⟨v, vs1, d, ds1, a, b, rfl, rfl, rfl, h1, h2⟩ := trodAll_cons hA
    obtain ⟨g1, g2, g3⟩ := TrodAll.lt h2
    obtain ⟨m, hm⟩ := h1
    refine ⟨fun x hx => ?_, by simp [g2], by simp [g3]⟩
    rcases List.mem_append.1 hx with h | h
    · exact DataW.trod_lt m _ _ _ hm x h
    · exact g1 x h

/-- A law that reads no variable: its row, by its call. -/
theorem law_lift {C : Checked} {os : Os} {k : FuncId} {fn : Func} {s : ChangeSpec} {dom : List PathCond} {tb : TypeId} (own : ownKnob C.prog.godebug = none) (started : os.Started) (noInit : C.prog.inits.idxOf? k = none) (hfn : C.prog.funcs[k]? = some fn)
    (witness : ∃ (w : World) (tape : Tape) (i : Input), w.os = os ∧ (w.forCall tape i).Shaped C.prog ∧ i.vars = [] ∧ Input.okWide C.prog (w.forCall tape i) .any w.heap.size k i ∧
      s.pre6 enc C.prog fn dom false (w.forCall tape i).memory i.args ∧ ({} : Assume).holds C.prog (lone (Frame.enter C.prog k i.args .normal) [] (w.forCall tape i)))
    (hvars : s.vars = []) (hres : fn.resultTypes = #[tb]) (htb : C.prog.underlying tb = some .bool)
    (hs : ∀ ds : List (DataW H), ds.length = fn.params.size → s.fn H ds = { results := [.lit (.bool true)], args := ds })
    (hl : laidOutB C.prog = true) (hpar : fn.params.toList.all (fun t => C.prog.readableRec t && decide (t < C.prog.types.size)) = true)
    (hcall : ∀ (W : World) (base : Nat) (args : Array Value) (ds : List (DataW H)) (p : List MemPlace), (∀ (j : Nat) t v, fn.params[j]? = some t → args[j]? = some v → Value.okWide C.prog W .any base t v) →
      DataW.TrodAll enc C.prog W 0 (fun _ => true) true fn.params.toList args.toList ds p → (∀ n ∈ DataW.weightsEach C.prog fn.params.toList ds, n ≤ reachBytes) →
      Calls C.prog k args W fun e W' => e = .returned (.bool true) ∧ Fr [] W [] W') :
    ReturnsInHanded {} C os k .any (s.pre6 enc C.prog fn dom false) (s.post enc C.prog fn false true false false) := by
  refine returnsInHanded_of_change_sized (C := C) own started noInit hfn witness ?_
  intro W base args ds gs before hval hW _ hsz _
  have hW' := hW
  obtain ⟨p, q, hA, hV, rfl, hfz, hnd⟩ := hW
  rw [hvars] at hV
  obtain ⟨rfl, rfl⟩ := trodVars_none hV
  have hpar' : ∀ t ∈ fn.params.toList, C.prog.readableRec t = true ∧ t < C.prog.types.size := fun t ht => by
    have := List.all_eq_true.1 hpar t ht
    simpa using this
  obtain ⟨hlt, hvl, hdl⟩ := TrodAll.lt hA
  have hw : ∀ n ∈ DataW.weightsEach C.prog fn.params.toList ds, n ≤ reachBytes := by
    intro n hn
    have h0 : s.plain.varTypes C.prog = [] := by simp [ChangeSpec.plain, DataSpec.varTypes, hvars]
    rw [h0, List.append_nil, List.append_nil] at hsz
    simpa using List.all_eq_true.1 hsz n hn
  refine (hcall W base args ds p hval hA hw).mono fun e W' ⟨he, hf⟩ => ?_
  subst he
  have hsd : s.fn H (ds ++ []) = { results := [.lit (.bool true)], args := ds } := by rw [List.append_nil]; exact hs ds (by simpa using hdl)
  refine ⟨_, rfl, ds, [], p ++ [], [], p, [], hW', ?_, ?_, ?_, hf.frame _, fun h => by cases h⟩
  · rw [hsd, hres]
    exact trodAll_mk1 (shut_bool htb _)
  · rw [hsd]
    exact hf.trodAll hl hpar' hlt hA
  · rw [hsd, hvars]
    exact rfl
end

/-- Values that read at a type are such abstract values. -/
def RdV (P : Program) (W : World) (t : TypeId) (S : AV → Prop) : Prop :=
  ∀ (H : Type) (enc : TypeId × Value → H) (base : Nat) (v : Value) (d : DataW H) (p : List MemPlace), Value.okWide P W .any base t v → DataW.Trod enc P W 0 (fun _ => true) true t v d p →
    (∀ n ∈ d.weights P t, n ≤ reachBytes) → ∃ x, VR F0 [] W x v ∧ S x

def flatT (P : Program) (t : TypeId) : Bool := match P.underlying t with
  | some (.struct _) => false
  | some (.array _ _) => false
  | _ => true

theorem okWide_flat {t : TypeId} {base : Nat} {cs : Array Value} (hf : flatT P t = true) (h : Value.okWide P W .any base t (.agg cs)) : False := by
  unfold flatT at hf
  unfold Value.okWide at h
  split at h
  · rename_i h1; rw [h1] at hf; simp at hf
  · rename_i h1; rw [h1] at hf; simp at hf
  · unfold Cell.okWide at h
    split at h <;> (try contradiction)
    unfold Cell.ok at h
    split at h <;> first | contradiction | simp_all

theorem RdV.flat {t : TypeId} {S : List AV → Prop} {S' : AV → Prop} (hf : flatT P t = true) (h : Rd P W t S) (hs : ∀ xs, S xs → ∃ x, xs = [x] ∧ S' x) : RdV P W t S' := by
  intro H enc base v d p hok ⟨fuel, hx⟩ hw
  obtain ⟨xs, h1, h2⟩ := h H enc _ fuel _ _ hx hw
  obtain ⟨x, rfl, h3⟩ := hs xs h2
  refine ⟨x, ?_, h3⟩
  have hc : v.cells.toList = [v] := by
    unfold Value.cells
    split
    · exact (okWide_flat hf hok).elim
    · rfl
  rw [hc] at h1
  cases h1 with
  | cons a _ => exact a

theorem rv_int {t : TypeId} {k : IntKind} (ht : P.underlying t = some (.int k)) : RdV P W t (fun x => ∃ n : Int, x = .sc (.int k n) ∧ k.min ≤ n ∧ n ≤ k.max) :=
  RdV.flat (by unfold flatT; rw [ht]) (rd_int ht) fun xs ⟨n, h1, h2⟩ => ⟨_, h1, n, rfl, h2⟩
def RdVs (P : Program) (W : World) : List TypeId → List (AV → Prop) → Prop
  | [], [] => True
  | t :: ts, S :: Ss => RdV P W t S ∧ RdVs P W ts Ss
  | _, _ => False
def All1 : List (AV → Prop) → List AV → Prop
  | [], [] => True
  | S :: Ss, x :: xs => S x ∧ All1 Ss xs
  | _, _ => False

theorem All1.inv {S : AV → Prop} {Ss : List (AV → Prop)} : ∀ {xs : List AV}, All1 (S :: Ss) xs → ∃ p ps, xs = p :: ps ∧ S p ∧ All1 Ss ps
  | [], h => h.elim
  | p :: ps, ⟨h1, h2⟩ => ⟨p, ps, rfl, h1, h2⟩
theorem All1.inv0 : ∀ {xs : List AV}, All1 [] xs → xs = []
  | [], _ => rfl
  | _ :: _, h => h.elim

theorem args_open {H : Type} {enc : TypeId × Value → H} {base : Nat} : ∀ {ts : List TypeId} {Ss : List (AV → Prop)} {vs : List Value} {ds : List (DataW H)} {p : List MemPlace}, RdVs P W ts Ss →
    (∀ (j : Nat) t v, ts[j]? = some t → vs[j]? = some v → Value.okWide P W .any base t v) → DataW.TrodAll enc P W 0 (fun _ => true) true ts vs ds p → (∀ n ∈ DataW.weightsEach P ts ds, n ≤ reachBytes) →
    ∃ xs, VRL F0 [] W xs vs ∧ All1 Ss xs
  | [], [], _, _, _, _, _, hA, _ => by
    obtain ⟨rfl, rfl, rfl⟩ := trodAll_nil hA
    exact ⟨[], .nil, trivial⟩
  | [], _ :: _, _, _, _, h, _, _, _ => h.elim
  | _ :: _, [], _, _, _, h, _, _, _ => h.elim
  | t :: ts, S :: Ss, _, _, _, ⟨h1, h2⟩, hok, hA, hw => by
    obtain ⟨v, vs1, d, ds1, a, b, rfl, rfl, rfl, g1, g2⟩ := trodAll_cons hA
    obtain ⟨w1, w2⟩ := weights_each_cons hw
    obtain ⟨x, k1, k2⟩ := h1 H enc base v d a (hok 0 t v rfl rfl) g1 w1
    obtain ⟨xs, k3, k4⟩ := args_open h2 (fun j t' v' hj hv => hok (j + 1) t' v' (by simpa using hj) (by simpa using hv)) g2 w2
    exact ⟨x :: xs, .cons k1 k3, k2, k4⟩

/-- A law that reads no variable: its row, by its contract. -/
theorem law_row {C : Checked} {os : Os} {k : FuncId} {fn : Func} {s : ChangeSpec} {dom : List PathCond} {tb : TypeId} {H : Type} {enc : TypeId × Value → H} {Ss : List (AV → Prop)} (own : ownKnob C.prog.godebug = none) (started : os.Started) (noInit : C.prog.inits.idxOf? k = none) (hfn : C.prog.funcs[k]? = some fn)
    (witness : ∃ (w : World) (tape : Tape) (i : Input), w.os = os ∧ (w.forCall tape i).Shaped C.prog ∧ i.vars = [] ∧ Input.okWide C.prog (w.forCall tape i) .any w.heap.size k i ∧
      s.pre6 enc C.prog fn dom false (w.forCall tape i).memory i.args ∧ ({} : Assume).holds C.prog (lone (Frame.enter C.prog k i.args .normal) [] (w.forCall tape i)))
    (hvars : s.vars = []) (hres : fn.resultTypes = #[tb]) (htb : C.prog.underlying tb = some .bool)
    (hs : ∀ ds : List (DataW H), ds.length = fn.params.size → s.fn H ds = { results := [.lit (.bool true)], args := ds })
    (hl : laidOutB C.prog = true) (hpar : fn.params.toList.all (fun t => C.prog.readableRec t && decide (t < C.prog.types.size)) = true)
    (hT : ∀ W, TB [] W) (hrd : ∀ W, RdVs C.prog W fn.params.toList Ss) (hspec : ∀ xs, All1 Ss xs → Spec0 C.prog k xs (.sc (.bool true))) :
    ReturnsInHanded {} C os k .any (s.pre6 enc C.prog fn dom false) (s.post enc C.prog fn false true false false) := by
  refine law_lift own started noInit hfn witness hvars hres htb hs hl hpar fun W base args ds p hval hA hw => ?_
  obtain ⟨xs, h1, h2⟩ := args_open (hrd W) (fun j t v hj hv => hval j t v (by simpa using hj) (by simpa using hv)) hA hw
  have h0 : HR F0 [] [] W := ⟨rfl, fun o b base esz tot h => by simp at h, fun o h => by simp at h, fun o x h => by simp at h, fun o o' b base esz tot _ _ _ h => by simp at h,
    fun b ⟨_, _, _, _, h⟩ => by simp at h, fun b h => h.elim, hT W⟩
  refine (hspec xs h2 F0 [] W args h0 h1).mono fun e W' ⟨x, v, hp', μ', he, ⟨hx, hh⟩, hr, hv, hf⟩ => ?_
  subst he; subst hx; subst hh
  have hm : μ' = [] := List.length_eq_zero_iff.1 hr.len
  subst hm
  exact ⟨by rw [hv.sc_inv], hf⟩
end Go.SL

set_option linter.unusedVariables false
set_option linter.unusedSectionVars false
namespace Go.SL
open Go
variable [Tabs]
variable {P : Program} {F : Nat → Prop} {μ : List Nm} {w : World} {env : Nat → AV} {hp : List AObj} {dst : Option Nat} {ty : TypeId} {pos : String} {after : Array Edge} {guard : Option (Nat × Bool)}

end Go.SL

set_option linter.unusedVariables false
set_option linter.unusedSimpArgs false
set_option linter.unusedSectionVars false
namespace Go.SL
open Go Go.ChangeShapes Go.WideShapes Go.ChangeAt Go.RowKit
variable [Tabs]
variable {P : Program} {W : World}

end Go.SL

set_option linter.unusedVariables false
set_option linter.unusedSimpArgs false
set_option linter.unusedSectionVars false
namespace Go.SL
open Go
variable [Tabs]
variable {F : Nat → Prop} {μ μ' μ0 μ1 μ2 : List Nm} {w w' w0 w1 w2 : World} {P : Program} {n : Nat} {hp : List AObj}

/-- σ' knows of the first p rows alone, no more than σ. -/
def LeD (p : Nat) (σ' σ : SS) : Prop := σ'.hp = σ.hp.take p ∧ p ≤ σ.hp.length ∧ (∀ x ∈ σ'.hp, rowLt p x = true) ∧ ∀ i, σ'.env i = .any ∨ (σ'.env i = σ.env i ∧ idsLt p (σ.env i) = true)

theorem LeD.le {p : Nat} {a b c : SS} (h : LeD p a b) (h' : Le b c) : LeD p a c := by
  obtain ⟨h1, h2, h3, h4⟩ := h
  refine ⟨by rw [h1, h'.1], by rw [← h'.1]; exact h2, h3, fun i => ?_⟩
  rcases h4 i with h5 | ⟨h5, h6⟩
  · exact .inl h5
  · rcases h'.2 i with h7 | h7
    · exact .inl (h5.trans h7)
    · exact .inr ⟨h5.trans h7, by rw [← h7]; exact h6⟩

theorem free_take {p b : Nat} (h : Free μ F b) : Free (μ.take p) F b := ⟨fun h' => by
  obtain ⟨o, base, esz, tot, _, h2⟩ := blocks_take h'; exact h.1 ⟨o, base, esz, tot, h2⟩, h.2⟩

theorem idsLt_take {p : Nat} {x : AV} {v : Value} (h : VR F μ w x v) (hx : idsLt p x = true) : VR F (μ.take p) w x v :=
  VR.idsLt (k := p) (fun j nm hj hm => by rw [List.getElem?_take, if_pos hj]; exact hm) (fun b _ hb => free_take hb) h hx
theorem idsLtL_take {p : Nat} {xs : List AV} {vs : List Value} (h : VRL F μ w xs vs) (hx : idsLtL p xs = true) : VRL F (μ.take p) w xs vs :=
  VRL.idsLt (k := p) (fun j nm hj hm => by rw [List.getElem?_take, if_pos hj]; exact hm) (fun b _ hb => free_take hb) h hx

theorem HR.takeD {p : Nat} (hr : HR F hp μ w) (hp' : p ≤ hp.length) (hlt : ∀ x ∈ hp.take p, rowLt p x = true) : HR F (hp.take p) (μ.take p) w := by
  have key : ∀ (o : Nat) nm, (μ.take p)[o]? = some nm → o < p ∧ μ[o]? = some nm := by
    intro o nm h
    rw [List.getElem?_take] at h
    split at h
    · rename_i hlt; exact ⟨hlt, h⟩
    · simp at h
  refine ⟨by simp [hr.len], fun o b base esz tot ho => ?_, fun o ho => ?_, fun o x' ho hx' => ?_, fun o o' b base esz tot base' esz' tot' h1 h2 => ?_, fun b hb => ?_, hr.fb, hr.tb.sub fun b h => by obtain ⟨o, base, esz, tot, _, h2⟩ := blocks_take h; exact ⟨o, base, esz, tot, h2⟩⟩
  · obtain ⟨hl, h⟩ := key _ _ ho
    obtain ⟨x', y', g1, g2, g3⟩ := hr.obj o b base esz tot h
    have hm : x' ∈ hp.take p := by
      have : (hp.take p)[o]? = some x' := by rw [List.getElem?_take, if_pos hl]; exact g1
      exact List.mem_of_getElem? this
    have hrow := hlt _ hm
    rw [rowLt_cs, Bool.or_eq_true] at hrow
    refine ⟨x', y', by rw [List.getElem?_take, if_pos hl]; exact g1, g2, g3.conv fun vs g5 => ?_⟩
    rcases hrow with h1 | h1
    · exact g5.move h1 fun b _ hb => free_take hb
    · exact idsLtL_take g5 h1
  · obtain ⟨hl, h⟩ := key _ _ ho
    rw [List.getElem?_take, if_pos hl]; exact hr.em o h
  · intro hd
    obtain ⟨hl, h⟩ := key _ _ hd
    rw [List.getElem?_take, if_pos hl] at ho
    exact hr.live o x' ho hx' h
  · exact hr.inj _ _ _ _ _ _ _ _ _ (key _ _ h1).2 (key _ _ h2).2
  · obtain ⟨o, base, esz, tot, _, h2⟩ := blocks_take hb
    exact hr.fo b ⟨o, base, esz, tot, h2⟩

theorem LeD.sr {p : Nat} {σ σ' : SS} (h : LeD p σ' σ) {a : Act} (hs : SR F n σ μ a w) : SR F n σ' (μ.take p) a w := by
  obtain ⟨h1, h2, h3, h4⟩ := h
  refine ⟨?_, fun i => ?_, hs.size, hs.defers⟩
  · rw [h1]; exact hs.hr.takeD h2 (by rw [← h1]; exact h3)
  · rcases h4 i with h5 | ⟨h5, h6⟩
    · rw [h5]; exact .any
    · rw [h5]; exact idsLt_take (hs.env i) h6

theorem Fr.cutD {p : Nat} (hl : μ0.length = p) (h1 : Fr μ0 w0 μ1 w1) (h2 : Fr (μ1.take p) w1 μ2 w2) : Fr μ0 w0 μ2 w2 := by
  have hp1 : p ≤ μ1.length := by rw [← hl]; exact h1.len
  refine ⟨Nat.le_trans h1.size h2.size, fun b hb hn => ?_, fun b hb => ?_, fun o nm ho => ?_, ?_, h2.oo.1.trans h1.oo.1, h2.oo.2.trans h1.oo.2⟩
  · have hn1 : ¬ blocks μ1 b := h1.out hb hn
    rw [h2.keep b (Nat.lt_of_lt_of_le hb h1.size) (fun h => hn1 (by obtain ⟨o, base, esz, tot, _, h2⟩ := blocks_take h; exact ⟨o, base, esz, tot, h2⟩)), h1.keep b hb hn]
  · rcases h2.new b hb with h | h
    · obtain ⟨o, base, esz, tot, _, h3⟩ := blocks_take h
      exact h1.new b ⟨o, base, esz, tot, h3⟩
    · exact .inr (Nat.le_trans h1.size h)
  · have hop : o < p := by
      rw [← hl]
      rcases Nat.lt_or_ge o μ0.length with h | h
      · exact h
      · simp [List.getElem?_eq_none h] at ho
    rcases h1.ext o nm ho with g | ⟨g0, g⟩
    · exact h2.ext o nm (by rw [List.getElem?_take, if_pos hop]; exact g)
    · rcases h2.ext o _ (by rw [List.getElem?_take, if_pos hop]; exact g) with g' | ⟨_, g'⟩
      · exact .inr ⟨g0, g'⟩
      · exact .inr ⟨g0, g'⟩
  · rw [hl]
    have := h2.len
    simp only [List.length_take] at this
    omega

theorem Post.cutD {K : Exit → SS → Prop} {p : Nat} (hl : μ0.length = p) (f : Fr μ0 w0 μ1 w1) {x : Exit} {a : Act} (h : Post F n K (μ1.take p) w1 x a w2) : Post F n K μ0 w0 x a w2 := by
  obtain ⟨σ', μ', h1, h2, h3⟩ := h
  exact ⟨σ', μ', h1, h2, Fr.cutD hl f h3⟩

theorem W.loopD {α : Type} (p : Nat) (st : α → SS) (inv : α → Prop) (m : α → Nat) {c : Code} {K : Exit → SS → Prop} {σ : SS} (a0 : α) (h0 : inv a0) (hp0 : σ.hp.length = p) (hl : Le (st a0) σ)
    (round : ∀ x, inv x → W P n c (thenK (fun σ' => ∃ y, inv y ∧ m y < m x ∧ LeD p (st y) σ') K) (st x)) : W P n (.loop c) K σ := by
  intro F μ a w hs b kk cs
  have key : ∀ (k : Nat) (x : α), m x = k → inv x → ∀ μ a w, μ.length = p → SR F n (st x) μ a w →
      ∃ e a' w', Post F n K μ w e a' w' ∧ Arrives P (lone (b.at a (.code c :: .inLoop c :: kk)) cs w) b kk cs e a' w' := by
    intro k
    induction k using Nat.strongRecOn with
    | _ k ih =>
      intro x hk hi μ a w hμ hs
      obtain ⟨e, a1, w1, ⟨σ1, μ1, hK, hs1, hf⟩, harr⟩ := round x hi F μ a w hs b (.inLoop c :: kk) cs
      cases e with
      | normal =>
        obtain ⟨y, hy, hlt, hle⟩ := hK
        have hlen : (μ1.take p).length = p := by
          have := hf.len
          simp only [List.length_take]; omega
        obtain ⟨e3, a3, w3, hp3, harr3⟩ := ih (m y) (hk ▸ hlt) y rfl hy (μ1.take p) a1 w1 hlen (hle.sr hs1)
        exact ⟨e3, a3, w3, Post.cutD hμ hf hp3, .of_steps (Steps.trans harr (.one step_inLoop)) harr3⟩
      | exit id => exact ⟨_, a1, w1, ⟨σ1, μ1, hK, hs1, hf⟩, .pass (x := .inLoop c) rfl (fun _ _ => .inl (by simp)) harr⟩
      | goto l => exact ⟨_, a1, w1, ⟨σ1, μ1, hK, hs1, hf⟩, .pass (x := .inLoop c) rfl (fun _ _ => .inl (by simp)) harr⟩
      | ret => exact ⟨_, a1, w1, ⟨σ1, μ1, hK, hs1, hf⟩, .pass (x := .inLoop c) rfl (fun _ _ => .inl (by simp)) harr⟩
      | panic ch => exact ⟨_, a1, w1, ⟨σ1, μ1, hK, hs1, hf⟩, .pass (x := .inLoop c) rfl (fun _ _ => .inl (by simp)) harr⟩
      | outgrown => exact ⟨_, a1, w1, ⟨σ1, μ1, hK, hs1, hf⟩, .pass (x := .inLoop c) rfl (fun _ _ => .inl (by simp)) harr⟩
  have hμ : μ.length = p := by rw [hs.hr.len, hp0]
  obtain ⟨e, a', w', hq, harr⟩ := key _ a0 rfl h0 μ a w hμ (hl.sr hs)
  exact ⟨e, a', w', hq, .of_steps (.one step_loop) harr⟩

/-- Nothing of the first p rows and of the slots kept points further. -/
def cutOk (p : Nat) (out : Env) (hp : List AObj) : Bool := Nat.ble p hp.length && (hp.take p).all (rowLt p) && out.all fun q => idsLt p q.2
theorem tbl_mem {out : Env} : ∀ i, tbl out i = .any ∨ ∃ q ∈ out, tbl out i = q.2 := by
  intro i
  induction out with
  | nil => exact .inl rfl
  | cons q l ih =>
    obtain ⟨d, x⟩ := q
    simp only [tbl]
    by_cases hi : i = d
    · subst hi
      rw [Nat.beq_refl]
      exact .inr ⟨_, List.mem_cons_self, rfl⟩
    · have : Nat.beq i d = false := nbeq hi
      rw [this]
      rcases ih with h | ⟨q, hq, h⟩
      · exact .inl h
      · exact .inr ⟨q, List.mem_cons_of_mem _ hq, h⟩
theorem LeD.mk {p : Nat} {out : Env} {hp hp1 : List AObj} {σ : SS} (hc : cutOk p out hp = true) (he : hp.take p = hp1) (h : Le ⟨tbl out, hp⟩ σ) : LeD p ⟨tbl out, hp1⟩ σ := by
  simp only [cutOk, Bool.and_eq_true, List.all_eq_true] at hc
  refine LeD.le (b := ⟨tbl out, hp⟩) ⟨he.symm, Nat.le_of_ble_eq_true hc.1.1, by rw [← he]; exact hc.1.2, fun i => ?_⟩ h
  rcases tbl_mem (out := out) i with h1 | ⟨q, hq, h1⟩
  · exact .inl h1
  · exact .inr ⟨rfl, by show idsLt p (tbl out i) = true; rw [h1]; exact hc.2 q hq⟩
end Go.SL

set_option linter.unusedVariables false
set_option linter.unusedSectionVars false
namespace Go.SL
open Go
variable [Tabs]
variable {α : Type} {c : α → List AV} {e : Nat}

theorem fm_len (h : ∀ a, (c a).length = e) : ∀ l : List α, (l.flatMap c).length = l.length * e
  | [] => by simp
  | a :: l => by rw [List.flatMap_cons, List.length_append, h a, fm_len h l, List.length_cons, Nat.add_mul]; omega
theorem fm_drop (h : ∀ a, (c a).length = e) : ∀ (l : List α) (j : Nat), (l.flatMap c).drop (j * e) = (l.drop j).flatMap c
  | l, 0 => by simp
  | [], j + 1 => by simp
  | a :: l, j + 1 => by
    rw [List.flatMap_cons, List.drop_succ_cons, show (j + 1) * e = (c a).length + j * e by rw [h a, Nat.add_mul]; omega, ← List.drop_drop, List.drop_left]
    exact fm_drop h l j
/-- The cells of element j. -/
theorem fm_at (h : ∀ a, (c a).length = e) (l : List α) {j : Nat} {a : α} (hj : l[j]? = some a) : ((l.flatMap c).drop (j * e)).take e = c a := by
  rw [fm_drop h]
  have hlt : j < l.length := by
    rcases Nat.lt_or_ge j l.length with h1 | h1
    · exact h1
    · simp [List.getElem?_eq_none h1] at hj
  have e1 : l.drop j = a :: l.drop (j + 1) := by
    rw [List.drop_eq_getElem_cons hlt]
    rw [List.getElem?_eq_getElem hlt] at hj
    injection hj with hj; rw [hj]
  rw [e1, List.flatMap_cons, List.take_left' (h a)]
theorem fm_bound (h : ∀ a, (c a).length = e) (l : List α) {j : Nat} (hj : j < l.length) : j * e + e ≤ (l.flatMap c).length := by
  rw [fm_len h, ← Nat.succ_mul]; exact Nat.mul_le_mul_right _ hj
theorem fm_no (h : ∀ a, noOwnL (c a) = true) : ∀ l : List α, noOwnL (l.flatMap c) = true
  | [] => rfl
  | a :: l => by rw [List.flatMap_cons, noOwnL_append, h a, fm_no h l]; rfl
theorem fm_row (h : ∀ a, noOwnL (c a) = true) (k e : Nat) (L : List α) : rowLt k (.row e (L.flatMap c)) = true := by simp only [rowLt, fm_no h, Bool.true_or]
theorem Fz.fm {hp : List AObj} {o len : Nat} {L : List α} (h : ∀ a, (c a).length = e) (hn : ∀ a, noOwnL (c a) = true) (ho : hp[o]? = some (AObj.row e (L.flatMap c))) (hl : len = L.length) : Fz 0 hp (.sl o 0 len) (.im e (L.flatMap c)) := by
  subst hl
  have e1 : ((L.flatMap c).drop 0).take (L.length * e) = L.flatMap c := by rw [List.drop_zero, ← fm_len h, List.take_length]
  have := Fz.sl (p := 0) (off := 0) (len := L.length) ho (Nat.zero_le _) (by rw [fm_len h]; omega) (by rw [e1]; exact fm_no hn L)
  rwa [e1] at this
theorem fm_set (h : ∀ a, (c a).length = e) : ∀ (l : List α) {j : Nat} (a : α), j < l.length → splice (l.flatMap c) (j * e) (c a) = (l.set j a).flatMap c
  | [], j, a, hj => by simp at hj
  | b :: l, 0, a, _ => by
    unfold splice
    simp only [Nat.zero_mul, List.take_zero, Nat.zero_add, List.flatMap_cons, List.set_cons_zero, List.nil_append]
    rw [h a, ← h b, List.drop_left]
  | b :: l, j + 1, a, hj => by
    have ih := fm_set h l (j := j) a (by simp at hj; omega)
    unfold splice at ih ⊢
    rw [List.flatMap_cons, List.set_cons_succ, List.flatMap_cons, ← ih, show (j + 1) * e = (c b).length + j * e by rw [h b, Nat.add_mul]; omega, List.take_length_add_append, Nat.add_assoc, List.drop_length_add_append, List.append_assoc, List.append_assoc, List.append_assoc]
end Go.SL

set_option linter.unusedVariables false
set_option linter.unusedSimpArgs false
set_option linter.unusedSectionVars false
namespace Go.SL
open Go
variable [Tabs]
variable {F : Nat → Prop} {μ μ' μ0 μ1 μ2 : List Nm} {w w' w0 w1 w2 : World} {P : Program} {n : Nat} {hp : List AObj}

end Go.SL

set_option linter.unusedVariables false
set_option linter.unusedSimpArgs false
set_option linter.unusedSectionVars false
namespace Go.SL
open Go Go.ChangeShapes Go.WideShapes Go.ChangeAt Go.RowKit
variable [Tabs]
end Go.SL

set_option linter.unusedVariables false
set_option linter.unusedSimpArgs false
set_option linter.unusedSectionVars false
namespace Go.SL
open Go
variable [Tabs]
variable {P : Program} {n : Nat} {F : Nat → Prop} {μ μ' μ0 μ1 μ2 : List Nm} {w w' w0 w1 w2 : World}

end Go.SL
