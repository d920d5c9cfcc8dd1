/-
  From what a start of a call holds to abstract values: each argument, by its type; and back: behind a call that keeps all old blocks each argument reads as it did.
-/
import Derived.Test.YthppdlmildfnnaaGreatDoorSbN1
import Derived.ProofKit
import Derived.SizedLaws
import Derived.Carry
import Derived.DeepKeys
import Derived.Test.YthppdlmildfnnaaGreatDoorScN1
import Derived.OpenShut
import Derived.Handed
set_option linter.unusedVariables false
set_option linter.unusedSectionVars false
namespace Go.SL
open Go Go.ChangeShapes Go.WideShapes Go.ChangeAt Go.RowKit
variable [Tabs]

abbrev F0 : Nat → Prop := fun _ => False
variable {P : Program} {W W' : World}

theorem nblk (b : Nat) : ¬ blocks [] b := fun ⟨_, _, _, _, h⟩ => by simp at h

/-- Cells that read at a type are such abstract values. -/
def Rd (P : Program) (W : World) (t : TypeId) (S : List AV → Prop) : Prop :=
  ∀ (H : Type) (enc : TypeId × Value → H) (sp : Nat → Bool) (fuel : Nat) (cs : List Value) (x : DataW H × List MemPlace), DataW.trod enc P W 0 sp true fuel t cs = some x →
    (∀ n ∈ x.1.weights P t, n ≤ reachBytes) → ∃ xs, VRL F0 [] W xs cs ∧ S xs

theorem rd_int {t : TypeId} {k : IntKind} (ht : P.underlying t = some (.int k)) : Rd P W t (fun xs => ∃ n : Int, xs = [.sc (.int k n)] ∧ k.min ≤ n ∧ n ≤ k.max) := by
  intro H enc sp fuel cs x h _
  obtain ⟨n, rfl, _, hw⟩ := DataW.trod_int ht h
  simp only [Lit.wf, Bool.and_eq_true, decide_eq_true_eq] at hw
  exact ⟨[.sc (.int k n)], .cons (.sc rfl) .nil, n, rfl, hw⟩

theorem weights_each_cons {H : Type} {t : TypeId} {ts : List TypeId} {d : DataW H} {ds : List (DataW H)} (h : ∀ n ∈ DataW.weightsEach P (t :: ts) (d :: ds), n ≤ reachBytes) :
    (∀ n ∈ d.weights P t, n ≤ reachBytes) ∧ ∀ n ∈ DataW.weightsEach P ts ds, n ≤ reachBytes :=
  ⟨fun n hn => h n (by simp only [DataW.weightsEach, List.mem_append]; exact .inl hn), fun n hn => h n (by simp only [DataW.weightsEach, List.mem_append]; exact .inr hn)⟩

theorem Fr.block (h : Fr [] W [] W') {b : Nat} (hb : b < W.heap.size) : W'.heap[b]? = W.heap[b]? := h.keep b hb (nblk b)

theorem Fr.frame (h : Fr [] W [] W') (may : MemPlace → Prop) : W.keptBut W' may := by
  refine ⟨h.oo.1, h.oo.2, fun i hi => ?_⟩
  rw [h.block hi]
  split <;> simp_all

theorem Fr.sameAt (h : Fr [] W [] W') {p : MemPlace} (hp : p.block < W.heap.size) : W.sameAt W' p := by
  cases p with
  | cell b o => exact World.cell?_of_block (w := W) (h.block hp)
  | map b => exact h.block hp

section
variable {H : Type} {enc : TypeId × Value → H}

theorem Fr.trodAll (h : Fr [] W [] W') (hl : laidOutB P = true) : ∀ {ts : List TypeId} {vs : List Value} {ds : List (DataW H)} {p : List MemPlace}, (∀ t ∈ ts, P.readableRec t = true ∧ t < P.types.size) → (∀ x ∈ p, x.block < W.heap.size) →
    DataW.TrodAll enc P W 0 (fun _ => true) true ts vs ds p → DataW.TrodAll enc P W' 0 (fun b => decide (b < W.heap.size)) true ts vs ds p
  | [], _, _, _, _, _, hA => by
    obtain ⟨rfl, rfl, rfl⟩ := trodAll_nil hA
    exact rfl
  | t :: ts, _, _, _, ht, hp, hA => by
    obtain ⟨v, vs1, d, ds1, a, b, rfl, rfl, rfl, h1, h2⟩ := trodAll_cons hA
    have ht0 := ht t (by simp)
    exact ⟨_, _, (WideElems.Trod_stays hl ht0.1 ht0.2 h1 (fun x hx => h.sameAt (hp x (by simp [hx]))) (fun x hx => by simpa using hp x (by simp [hx]))),
      Fr.trodAll h hl (fun t' ht' => ht t' (by simp [ht'])) (fun x hx => hp x (by simp [hx])) h2, rfl⟩

theorem TrodAll.lt : ∀ {ts : List TypeId} {vs : List Value} {ds : List (DataW H)} {p : List MemPlace}, DataW.TrodAll enc P W 0 (fun _ => true) true ts vs ds p → (∀ x ∈ p, x.block < W.heap.size) ∧ vs.length = ts.length ∧ ds.length = ts.length
  | [], _, _, _, hA => by
    obtain ⟨rfl, rfl, rfl⟩ := trodAll_nil hA
    simp
  | t :: ts, _, _, _, hA => by
    obtain ⟨v, vs1, d, ds1, a, b, rfl, rfl, rfl, h1, h2⟩ := trodAll_cons hA
    obtain ⟨g1, g2, g3⟩ := TrodAll.lt h2
    obtain ⟨m, hm⟩ := h1
    refine ⟨fun x hx => ?_, by simp [g2], by simp [g3]⟩
    rcases List.mem_append.1 hx with h | h
    · exact DataW.trod_lt m _ _ _ hm x h
    · exact g1 x h

end

/-- Values that read at a type are such abstract values. -/
def RdV (P : Program) (W : World) (t : TypeId) (S : AV → Prop) : Prop :=
  ∀ (H : Type) (enc : TypeId × Value → H) (base : Nat) (v : Value) (d : DataW H) (p : List MemPlace), Value.okWide P W .any base t v → DataW.Trod enc P W 0 (fun _ => true) true t v d p →
    (∀ n ∈ d.weights P t, n ≤ reachBytes) → ∃ x, VR F0 [] W x v ∧ S x

def flatT (P : Program) (t : TypeId) : Bool := match P.underlying t with
  | some (.struct _) => false
  | some (.array _ _) => false
  | _ => true

theorem okWide_flat {t : TypeId} {base : Nat} {cs : Array Value} (hf : flatT P t = true) (h : Value.okWide P W .any base t (.agg cs)) : False := by
  unfold flatT at hf
  unfold Value.okWide at h
  split at h
  · rename_i h1; rw [h1] at hf; simp at hf
  · rename_i h1; rw [h1] at hf; simp at hf
  · unfold Cell.okWide at h
    split at h <;> (try contradiction)
    unfold Cell.ok at h
    split at h <;> first | contradiction | simp_all

theorem RdV.flat {t : TypeId} {S : List AV → Prop} {S' : AV → Prop} (hf : flatT P t = true) (h : Rd P W t S) (hs : ∀ xs, S xs → ∃ x, xs = [x] ∧ S' x) : RdV P W t S' := by
  intro H enc base v d p hok ⟨fuel, hx⟩ hw
  obtain ⟨xs, h1, h2⟩ := h H enc _ fuel _ _ hx hw
  obtain ⟨x, rfl, h3⟩ := hs xs h2
  refine ⟨x, ?_, h3⟩
  have hc : v.cells.toList = [v] := by
    unfold Value.cells
    split
    · exact (okWide_flat hf hok).elim
    · rfl
  rw [hc] at h1
  cases h1 with
  | cons a _ => exact a

theorem rv_int {t : TypeId} {k : IntKind} (ht : P.underlying t = some (.int k)) : RdV P W t (fun x => ∃ n : Int, x = .sc (.int k n) ∧ k.min ≤ n ∧ n ≤ k.max) :=
  RdV.flat (by unfold flatT; rw [ht]) (rd_int ht) fun xs ⟨n, h1, h2⟩ => ⟨_, h1, n, rfl, h2⟩
def RdVs (P : Program) (W : World) : List TypeId → List (AV → Prop) → Prop
  | [], [] => True
  | t :: ts, S :: Ss => RdV P W t S ∧ RdVs P W ts Ss
  | _, _ => False
def All1 : List (AV → Prop) → List AV → Prop
  | [], [] => True
  | S :: Ss, x :: xs => S x ∧ All1 Ss xs
  | _, _ => False

theorem All1.inv {S : AV → Prop} {Ss : List (AV → Prop)} : ∀ {xs : List AV}, All1 (S :: Ss) xs → ∃ p ps, xs = p :: ps ∧ S p ∧ All1 Ss ps
  | [], h => h.elim
  | p :: ps, ⟨h1, h2⟩ => ⟨p, ps, rfl, h1, h2⟩
theorem All1.inv0 : ∀ {xs : List AV}, All1 [] xs → xs = []
  | [], _ => rfl
  | _ :: _, h => h.elim

theorem args_open {H : Type} {enc : TypeId × Value → H} {base : Nat} : ∀ {ts : List TypeId} {Ss : List (AV → Prop)} {vs : List Value} {ds : List (DataW H)} {p : List MemPlace}, RdVs P W ts Ss →
    (∀ (j : Nat) t v, ts[j]? = some t → vs[j]? = some v → Value.okWide P W .any base t v) → DataW.TrodAll enc P W 0 (fun _ => true) true ts vs ds p → (∀ n ∈ DataW.weightsEach P ts ds, n ≤ reachBytes) →
    ∃ xs, VRL F0 [] W xs vs ∧ All1 Ss xs
  | [], [], _, _, _, _, _, hA, _ => by
    obtain ⟨rfl, rfl, rfl⟩ := trodAll_nil hA
    exact ⟨[], .nil, trivial⟩
  | [], _ :: _, _, _, _, h, _, _, _ => h.elim
  | _ :: _, [], _, _, _, h, _, _, _ => h.elim
  | t :: ts, S :: Ss, _, _, _, ⟨h1, h2⟩, hok, hA, hw => by
    obtain ⟨v, vs1, d, ds1, a, b, rfl, rfl, rfl, g1, g2⟩ := trodAll_cons hA
    obtain ⟨w1, w2⟩ := weights_each_cons hw
    obtain ⟨x, k1, k2⟩ := h1 H enc base v d a (hok 0 t v rfl rfl) g1 w1
    obtain ⟨xs, k3, k4⟩ := args_open h2 (fun j t' v' hj hv => hok (j + 1) t' v' (by simpa using hj) (by simpa using hv)) g2 w2
    exact ⟨x :: xs, .cons k1 k3, k2, k4⟩

end Go.SL

set_option linter.unusedVariables false
set_option linter.unusedSectionVars false
namespace Go.SL
open Go
variable [Tabs]
variable {P : Program} {F : Nat → Prop} {μ : List Nm} {w : World} {env : Nat → AV} {hp : List AObj} {dst : Option Nat} {ty : TypeId} {pos : String} {after : Array Edge} {guard : Option (Nat × Bool)}

end Go.SL

set_option linter.unusedVariables false
set_option linter.unusedSimpArgs false
set_option linter.unusedSectionVars false
namespace Go.SL
open Go Go.ChangeShapes Go.WideShapes Go.ChangeAt Go.RowKit
variable [Tabs]
variable {P : Program} {W : World}

end Go.SL

set_option linter.unusedVariables false
set_option linter.unusedSimpArgs false
set_option linter.unusedSectionVars false
namespace Go.SL
open Go
variable [Tabs]
variable {F : Nat → Prop} {μ μ' μ0 μ1 μ2 : List Nm} {w w' w0 w1 w2 : World} {P : Program} {n : Nat} {hp : List AObj}

/-- σ' knows of the first p rows alone, no more than σ. -/
def LeD (p : Nat) (σ' σ : SS) : Prop := σ'.hp = σ.hp.take p ∧ p ≤ σ.hp.length ∧ (∀ x ∈ σ'.hp, rowLt p x = true) ∧ ∀ i, σ'.env i = .any ∨ (σ'.env i = σ.env i ∧ idsLt p (σ.env i) = true)

theorem LeD.le {p : Nat} {a b c : SS} (h : LeD p a b) (h' : Le b c) : LeD p a c := by
  obtain ⟨h1, h2, h3, h4⟩ := h
  refine ⟨by rw [h1, h'.1], by rw [← h'.1]; exact h2, h3, fun i => ?_⟩
  rcases h4 i with h5 | ⟨h5, h6⟩
  · exact .inl h5
  · rcases h'.2 i with h7 | h7
    · exact .inl (h5.trans h7)
    · exact .inr ⟨h5.trans h7, by rw [← h7]; exact h6⟩

theorem free_take {p b : Nat} (h : Free μ F b) : Free (μ.take p) F b := ⟨fun h' => by
  obtain ⟨o, base, esz, tot, _, h2⟩ := blocks_take h'; exact h.1 ⟨o, base, esz, tot, h2⟩, h.2⟩

theorem idsLt_take {p : Nat} {x : AV} {v : Value} (h : VR F μ w x v) (hx : idsLt p x = true) : VR F (μ.take p) w x v :=
  VR.idsLt (k := p) (fun j nm hj hm => by rw [List.getElem?_take, if_pos hj]; exact hm) (fun b _ hb => free_take hb) h hx
theorem idsLtL_take {p : Nat} {xs : List AV} {vs : List Value} (h : VRL F μ w xs vs) (hx : idsLtL p xs = true) : VRL F (μ.take p) w xs vs :=
  VRL.idsLt (k := p) (fun j nm hj hm => by rw [List.getElem?_take, if_pos hj]; exact hm) (fun b _ hb => free_take hb) h hx

theorem HR.takeD {p : Nat} (hr : HR F hp μ w) (hp' : p ≤ hp.length) (hlt : ∀ x ∈ hp.take p, rowLt p x = true) : HR F (hp.take p) (μ.take p) w := by
  have key : ∀ (o : Nat) nm, (μ.take p)[o]? = some nm → o < p ∧ μ[o]? = some nm := by
    intro o nm h
    rw [List.getElem?_take] at h
    split at h
    · rename_i hlt; exact ⟨hlt, h⟩
    · simp at h
  refine ⟨by simp [hr.len], fun o b base esz tot ho => ?_, fun o ho => ?_, fun o x' ho hx' => ?_, fun o o' b base esz tot base' esz' tot' h1 h2 => ?_, fun b hb => ?_, hr.fb, hr.tb.sub fun b h => by obtain ⟨o, base, esz, tot, _, h2⟩ := blocks_take h; exact ⟨o, base, esz, tot, h2⟩⟩
  · obtain ⟨hl, h⟩ := key _ _ ho
    obtain ⟨x', y', g1, g2, g3⟩ := hr.obj o b base esz tot h
    have hm : x' ∈ hp.take p := by
      have : (hp.take p)[o]? = some x' := by rw [List.getElem?_take, if_pos hl]; exact g1
      exact List.mem_of_getElem? this
    have hrow := hlt _ hm
    rw [rowLt_cs, Bool.or_eq_true] at hrow
    refine ⟨x', y', by rw [List.getElem?_take, if_pos hl]; exact g1, g2, g3.conv fun vs g5 => ?_⟩
    rcases hrow with h1 | h1
    · exact g5.move h1 fun b _ hb => free_take hb
    · exact idsLtL_take g5 h1
  · obtain ⟨hl, h⟩ := key _ _ ho
    rw [List.getElem?_take, if_pos hl]; exact hr.em o h
  · intro hd
    obtain ⟨hl, h⟩ := key _ _ hd
    rw [List.getElem?_take, if_pos hl] at ho
    exact hr.live o x' ho hx' h
  · exact hr.inj _ _ _ _ _ _ _ _ _ (key _ _ h1).2 (key _ _ h2).2
  · obtain ⟨o, base, esz, tot, _, h2⟩ := blocks_take hb
    exact hr.fo b ⟨o, base, esz, tot, h2⟩

theorem LeD.sr {p : Nat} {σ σ' : SS} (h : LeD p σ' σ) {a : Act} (hs : SR F n σ μ a w) : SR F n σ' (μ.take p) a w := by
  obtain ⟨h1, h2, h3, h4⟩ := h
  refine ⟨?_, fun i => ?_, hs.size, hs.defers⟩
  · rw [h1]; exact hs.hr.takeD h2 (by rw [← h1]; exact h3)
  · rcases h4 i with h5 | ⟨h5, h6⟩
    · rw [h5]; exact .any
    · rw [h5]; exact idsLt_take (hs.env i) h6

theorem Fr.cutD {p : Nat} (hl : μ0.length = p) (h1 : Fr μ0 w0 μ1 w1) (h2 : Fr (μ1.take p) w1 μ2 w2) : Fr μ0 w0 μ2 w2 := by
  have hp1 : p ≤ μ1.length := by rw [← hl]; exact h1.len
  refine ⟨Nat.le_trans h1.size h2.size, fun b hb hn => ?_, fun b hb => ?_, fun o nm ho => ?_, ?_, h2.oo.1.trans h1.oo.1, h2.oo.2.trans h1.oo.2⟩
  · have hn1 : ¬ blocks μ1 b := h1.out hb hn
    rw [h2.keep b (Nat.lt_of_lt_of_le hb h1.size) (fun h => hn1 (by obtain ⟨o, base, esz, tot, _, h2⟩ := blocks_take h; exact ⟨o, base, esz, tot, h2⟩)), h1.keep b hb hn]
  · rcases h2.new b hb with h | h
    · obtain ⟨o, base, esz, tot, _, h3⟩ := blocks_take h
      exact h1.new b ⟨o, base, esz, tot, h3⟩
    · exact .inr (Nat.le_trans h1.size h)
  · have hop : o < p := by
      rw [← hl]
      rcases Nat.lt_or_ge o μ0.length with h | h
      · exact h
      · simp [List.getElem?_eq_none h] at ho
    rcases h1.ext o nm ho with g | ⟨g0, g⟩
    · exact h2.ext o nm (by rw [List.getElem?_take, if_pos hop]; exact g)
    · rcases h2.ext o _ (by rw [List.getElem?_take, if_pos hop]; exact g) with g' | ⟨_, g'⟩
      · exact .inr ⟨g0, g'⟩
      · exact .inr ⟨g0, g'⟩
  · rw [hl]
    have := h2.len
    simp only [List.length_take] at this
    omega

theorem Post.cutD {K : Exit → SS → Prop} {p : Nat} (hl : μ0.length = p) (f : Fr μ0 w0 μ1 w1) {x : Exit} {a : Act} (h : Post F n K (μ1.take p) w1 x a w2) : Post F n K μ0 w0 x a w2 := by
  obtain ⟨σ', μ', h1, h2, h3⟩ := h
  exact ⟨σ', μ', h1, h2, Fr.cutD hl f h3⟩

theorem W.loopD {α : Type} (p : Nat) (st : α → SS) (inv : α → Prop) (m : α → Nat) {c : Code} {K : Exit → SS → Prop} {σ : SS} (a0 : α) (h0 : inv a0) (hp0 : σ.hp.length = p) (hl : Le (st a0) σ)
    (round : ∀ x, inv x → W P n c (thenK (fun σ' => ∃ y, inv y ∧ m y < m x ∧ LeD p (st y) σ') K) (st x)) : W P n (.loop c) K σ := by
  intro F μ a w hs b kk cs
  have key : ∀ (k : Nat) (x : α), m x = k → inv x → ∀ μ a w, μ.length = p → SR F n (st x) μ a w →
      ∃ e a' w', Post F n K μ w e a' w' ∧ Arrives P (lone (b.at a (.code c :: .inLoop c :: kk)) cs w) b kk cs e a' w' := by
    intro k
    induction k using Nat.strongRecOn with
    | _ k ih =>
      intro x hk hi μ a w hμ hs
      obtain ⟨e, a1, w1, ⟨σ1, μ1, hK, hs1, hf⟩, harr⟩ := round x hi F μ a w hs b (.inLoop c :: kk) cs
      cases e with
      | normal =>
        obtain ⟨y, hy, hlt, hle⟩ := hK
        have hlen : (μ1.take p).length = p := by
          have := hf.len
          simp only [List.length_take]; omega
        obtain ⟨e3, a3, w3, hp3, harr3⟩ := ih (m y) (hk ▸ hlt) y rfl hy (μ1.take p) a1 w1 hlen (hle.sr hs1)
        exact ⟨e3, a3, w3, Post.cutD hμ hf hp3, .of_steps (Steps.trans harr (.one step_inLoop)) harr3⟩
      | exit id => exact ⟨_, a1, w1, ⟨σ1, μ1, hK, hs1, hf⟩, .pass (x := .inLoop c) rfl (fun _ _ => .inl (by simp)) harr⟩
      | goto l => exact ⟨_, a1, w1, ⟨σ1, μ1, hK, hs1, hf⟩, .pass (x := .inLoop c) rfl (fun _ _ => .inl (by simp)) harr⟩
      | ret => exact ⟨_, a1, w1, ⟨σ1, μ1, hK, hs1, hf⟩, .pass (x := .inLoop c) rfl (fun _ _ => .inl (by simp)) harr⟩
      | panic ch => exact ⟨_, a1, w1, ⟨σ1, μ1, hK, hs1, hf⟩, .pass (x := .inLoop c) rfl (fun _ _ => .inl (by simp)) harr⟩
      | outgrown => exact ⟨_, a1, w1, ⟨σ1, μ1, hK, hs1, hf⟩, .pass (x := .inLoop c) rfl (fun _ _ => .inl (by simp)) harr⟩
  have hμ : μ.length = p := by rw [hs.hr.len, hp0]
  obtain ⟨e, a', w', hq, harr⟩ := key _ a0 rfl h0 μ a w hμ (hl.sr hs)
  exact ⟨e, a', w', hq, .of_steps (.one step_loop) harr⟩

/-- Nothing of the first p rows and of the slots kept points further. -/
def cutOk (p : Nat) (out : Env) (hp : List AObj) : Bool := Nat.ble p hp.length && (hp.take p).all (rowLt p) && out.all fun q => idsLt p q.2
theorem tbl_mem {out : Env} : ∀ i, tbl out i = .any ∨ ∃ q ∈ out, tbl out i = q.2 := by
  intro i
  induction out with
  | nil => exact .inl rfl
  | cons q l ih =>
    obtain ⟨d, x⟩ := q
    simp only [tbl]
    by_cases hi : i = d
    · subst hi
      rw [Nat.beq_refl]
      exact .inr ⟨_, List.mem_cons_self, rfl⟩
    · have : Nat.beq i d = false := nbeq hi
      rw [this]
      rcases ih with h | ⟨q, hq, h⟩
      · exact .inl h
      · exact .inr ⟨q, List.mem_cons_of_mem _ hq, h⟩
theorem LeD.mk {p : Nat} {out : Env} {hp hp1 : List AObj} {σ : SS} (hc : cutOk p out hp = true) (he : hp.take p = hp1) (h : Le ⟨tbl out, hp⟩ σ) : LeD p ⟨tbl out, hp1⟩ σ := by
  simp only [cutOk, Bool.and_eq_true, List.all_eq_true] at hc
  refine LeD.le (b := ⟨tbl out, hp⟩) ⟨he.symm, Nat.le_of_ble_eq_true hc.1.1, by rw [← he]; exact hc.1.2, fun i => ?_⟩ h
  rcases tbl_mem (out := out) i with h1 | ⟨q, hq, h1⟩
  · exact .inl h1
  · exact .inr ⟨rfl, by show idsLt p (tbl out i) = true; rw [h1]; exact hc.2 q hq⟩
end Go.SL

set_option linter.unusedVariables false
set_option linter.unusedSectionVars false
namespace Go.SL
open Go
variable [Tabs]
variable {α : Type} {c : α → List AV} {e : Nat}

theorem fm_len (h : ∀ a, (c a).length = e) : ∀ l : List α, (l.flatMap c).length = l.length * e
  | [] => by simp
  | a :: l => by rw [List.flatMap_cons, List.length_append, h a, fm_len h l, List.length_cons, Nat.add_mul]; omega
theorem fm_drop (h : ∀ a, (c a).length = e) : ∀ (l : List α) (j : Nat), (l.flatMap c).drop (j * e) = (l.drop j).flatMap c
  | l, 0 => by simp
  | [], j + 1 => by simp
  | a :: l, j + 1 => by
    rw [List.flatMap_cons, List.drop_succ_cons, show (j + 1) * e = (c a).length + j * e by rw [h a, Nat.add_mul]; omega, ← List.drop_drop, List.drop_left]
    exact fm_drop h l j
/-- The cells of element j. -/
theorem fm_at (h : ∀ a, (c a).length = e) (l : List α) {j : Nat} {a : α} (hj : l[j]? = some a) : ((l.flatMap c).drop (j * e)).take e = c a := by
  rw [fm_drop h]
  have hlt : j < l.length := by
    rcases Nat.lt_or_ge j l.length with h1 | h1
    · exact h1
    · simp [List.getElem?_eq_none h1] at hj
  have e1 : l.drop j = a :: l.drop (j + 1) := by
    rw [List.drop_eq_getElem_cons hlt]
    rw [List.getElem?_eq_getElem hlt] at hj
    injection hj with hj; rw [hj]
  rw [e1, List.flatMap_cons, List.take_left' (h a)]
theorem fm_bound (h : ∀ a, (c a).length = e) (l : List α) {j : Nat} (hj : j < l.length) : j * e + e ≤ (l.flatMap c).length := by
  rw [fm_len h, ← Nat.succ_mul]; exact Nat.mul_le_mul_right _ hj
theorem fm_cell (h : ∀ a, (c a).length = e) (l : List α) {j k : Nat} {a : α} {y : AV} (hj : l[j]? = some a) (hk : k < e) (hy : (c a)[k]? = some y) : (l.flatMap c)[j * e + k]? = some y := by
  have h1 := fm_at h l hj
  have h2 : ((l.flatMap c).drop (j * e))[k]? = (c a)[k]? := by rw [← h1, List.getElem?_take, if_pos hk]
  rw [List.getElem?_drop] at h2
  rw [h2, hy]
theorem fm_no (h : ∀ a, noOwnL (c a) = true) : ∀ l : List α, noOwnL (l.flatMap c) = true
  | [] => rfl
  | a :: l => by rw [List.flatMap_cons, noOwnL_append, h a, fm_no h l]; rfl
end Go.SL

set_option linter.unusedVariables false
set_option linter.unusedSimpArgs false
set_option linter.unusedSectionVars false
namespace Go.SL
open Go
variable [Tabs]
variable {F : Nat → Prop} {μ μ' μ0 μ1 μ2 : List Nm} {w w' w0 w1 w2 : World} {P : Program} {n : Nat} {hp : List AObj}

/-- Row j of the new state is row is[j] of the old one. -/
def pickF (is : List Nat) (L j : Nat) : Nat := (is[j]?).getD L
def pickN (is : List Nat) (μ : List Nm) : List Nm := is.map fun q => (μ[q]?).getD .un
def rowNo : AObj → Bool
  | .dead => true
  | .row _ cs => noOwnL cs
  | .ob _ cs => noOwnL cs
theorem rowNo_cs (x : AObj) : rowNo x = noOwnL x.cs := by cases x <;> rfl
structure LeM (is : List Nat) (σ' σ : SS) : Prop where
  hp : σ'.hp = is.map fun q => (σ.hp[q]?).getD .dead
  lt : ∀ q ∈ is, q < σ.hp.length
  nd : is.Nodup
  no : ∀ r ∈ σ'.hp, rowNo r = true
  env : ∀ i, σ'.env i = .any ∨ ren (pickF is σ.hp.length) (σ'.env i) = σ.env i

theorem pickN_get {is : List Nat} {j : Nat} {nm : Nm} (h : (pickN is μ)[j]? = some nm) : ∃ q, is[j]? = some q ∧ nm = (μ[q]?).getD .un := by
  unfold pickN at h
  rw [List.getElem?_map] at h
  cases hq : is[j]? with
  | none => rw [hq] at h; simp at h
  | some q => rw [hq] at h; simp at h; exact ⟨q, rfl, h.symm⟩
theorem pickN_lt {is : List Nat} {j : Nat} {nm : Nm} (hlt : ∀ q ∈ is, q < μ.length) (h : (pickN is μ)[j]? = some nm) : ∃ q, is[j]? = some q ∧ μ[q]? = some nm := by
  obtain ⟨q, h1, h2⟩ := pickN_get h
  have := hlt q (List.mem_of_getElem? h1)
  rw [List.getElem?_eq_getElem this] at h2
  exact ⟨q, h1, by rw [List.getElem?_eq_getElem this, h2]; rfl⟩
theorem pick_blocks {is : List Nat} {b : Nat} (h : blocks (pickN is μ) b) (hlt : ∀ q ∈ is, q < μ.length) : blocks μ b := by
  obtain ⟨o, base, esz, tot, h⟩ := h
  obtain ⟨q, _, h2⟩ := pickN_lt hlt h
  exact ⟨q, base, esz, tot, h2⟩
theorem pick_free {is : List Nat} {b : Nat} (hlt : ∀ q ∈ is, q < μ.length) (h : Free μ F b) : Free (pickN is μ) F b := ⟨fun h' => h.1 (pick_blocks h' hlt), h.2⟩
theorem pick_hn {is : List Nat} {L j : Nat} {nm : Nm} (hL : μ.length = L) (h : μ[pickF is L j]? = some nm) : (pickN is μ)[j]? = some nm := by
  unfold pickF at h
  unfold pickN
  rw [List.getElem?_map]
  cases hq : is[j]? with
  | none => rw [hq] at h; simp [← hL] at h
  | some q => rw [hq] at h; simp at h; simp [h]

theorem LeM.sr {is : List Nat} {σ σ' : SS} (h : LeM is σ' σ) {a : Act} (hs : SR F n σ μ a w) : SR F n σ' (pickN is μ) a w := by
  have hL : μ.length = σ.hp.length := hs.hr.len
  have hlt : ∀ q ∈ is, q < μ.length := fun q hq => by rw [hL]; exact h.lt q hq
  have row : ∀ (o q : Nat), is[o]? = some q → σ'.hp[o]? = σ.hp[q]? := by
    intro o q hq
    have := h.lt q (List.mem_of_getElem? hq)
    rw [h.hp, List.getElem?_map, hq, Option.map_some, List.getElem?_eq_getElem this]; rfl
  refine ⟨⟨by rw [h.hp]; simp [pickN], fun o b base esz tot ho => ?_, fun o ho => ?_, fun o x' ho hx' hd => ?_, fun o o' b base esz tot base' esz' tot' h1 h2 => ?_, fun b hb => ?_, hs.hr.fb, hs.hr.tb.sub fun b h => pick_blocks h hlt⟩, fun i => ?_, hs.size, hs.defers⟩
  · obtain ⟨q, hq, hm⟩ := pickN_lt hlt ho
    obtain ⟨x', y', g1, g2, g3⟩ := hs.hr.obj q b base esz tot hm
    have g1' : σ'.hp[o]? = some x' := by rw [row o q hq, g1]
    exact ⟨x', y', g1', g2, g3.conv fun vs g5 => g5.move (by rw [← rowNo_cs]; exact h.no _ (List.mem_of_getElem? g1')) fun b _ hb => pick_free hlt hb⟩
  · obtain ⟨q, hq, hm⟩ := pickN_lt hlt ho
    rw [row o q hq]; exact hs.hr.em q hm
  · obtain ⟨q, hq, hm⟩ := pickN_lt hlt hd
    rw [row o q hq] at ho
    exact hs.hr.live q x' ho hx' hm
  · obtain ⟨q, hq, hm⟩ := pickN_lt hlt h1
    obtain ⟨q', hq', hm'⟩ := pickN_lt hlt h2
    have hqq := hs.hr.inj _ _ _ _ _ _ _ _ _ hm hm'
    subst hqq
    have ho : o < is.length := by
      rcases Nat.lt_or_ge o is.length with g | g
      · exact g
      · simp [List.getElem?_eq_none g] at hq
    have ho' : o' < is.length := by
      rcases Nat.lt_or_ge o' is.length with g | g
      · exact g
      · simp [List.getElem?_eq_none g] at hq'
    rw [List.getElem?_eq_getElem ho] at hq
    rw [List.getElem?_eq_getElem ho'] at hq'
    have e1 := (Option.some.inj hq).trans (Option.some.inj hq').symm
    have hpw := List.pairwise_iff_getElem.1 h.nd
    rcases Nat.lt_trichotomy o o' with g | g | g
    · exact absurd e1 (hpw _ _ ho ho' g)
    · exact g
    · exact absurd e1.symm (hpw _ _ ho' ho g)
  · exact hs.hr.fo b (pick_blocks hb hlt)
  · rcases h.env i with h5 | h5
    · rw [h5]; exact .any
    · have := hs.env i
      rw [← h5] at this
      exact this.pull (fun j nm hj => pick_hn hL hj) (fun b _ hb => pick_free hlt hb)

theorem LeM.mk' {is : List Nat} {out out' : Env} {hp hp' : List AObj} {σ : SS} (he : out'.map (fun q => (q.1, ren (pickF is hp.length) q.2)) = out) (h1 : hp' = is.map fun q => (hp[q]?).getD .dead)
    (h2 : ∀ q ∈ is, q < hp.length) (h3 : is.Nodup) (h5 : ∀ r ∈ hp', rowNo r = true) (h : Le ⟨tbl out, hp⟩ σ) : LeM is ⟨tbl out', hp'⟩ σ := by
  have hh : σ.hp = hp := h.1.symm
  refine ⟨by rw [hh]; exact h1, by rw [hh]; exact h2, h3, h5, fun i => ?_⟩
  have key : tbl out' i = .any ∨ ren (pickF is hp.length) (tbl out' i) = tbl out i := by
    subst he
    clear h h5 h1
    induction out' with
    | nil => exact .inl rfl
    | cons q l ih =>
      obtain ⟨d, x⟩ := q
      simp only [List.map_cons, tbl]
      cases hb : Nat.beq i d
      · exact ih
      · exact .inr rfl
  rcases key with h6 | h6
  · exact .inl h6
  · rcases h.2 i with h7 | h7
    · refine .inl ?_
      show tbl out' i = .any
      have h7' : tbl out i = .any := h7
      rw [h7'] at h6
      revert h6
      cases tbl out' i <;> simp [ren]
    · refine .inr ?_
      rw [hh]
      exact h6.trans h7

/-- What is kept of Fr when rows change their numbers. -/
structure Frb (μ : List Nm) (w : World) (μ' : List Nm) (w' : World) : Prop where
  size : w.heap.size ≤ w'.heap.size
  keep : ∀ b, b < w.heap.size → ¬ blocks μ b → w'.heap[b]? = w.heap[b]?
  new : ∀ b, blocks μ' b → blocks μ b ∨ w.heap.size ≤ b
  oo : w'.os = w.os ∧ w'.output = w.output
theorem Fr.b (h : Fr μ w μ' w') : Frb μ w μ' w' := ⟨h.size, h.keep, h.new, h.oo⟩
theorem Frb.fr (h : Frb [] w μ' w') : Fr [] w μ' w' := ⟨h.size, h.keep, h.new, fun o nm ho => by simp at ho, Nat.zero_le _, h.oo⟩
theorem Frb.cut {is : List Nat} (hlt : ∀ q ∈ is, q < μ1.length) (h1 : Frb μ0 w0 μ1 w1) (h2 : Frb (pickN is μ1) w1 μ2 w2) : Frb μ0 w0 μ2 w2 := by
  refine ⟨Nat.le_trans h1.size h2.size, fun b hb hn => ?_, fun b hb => ?_, h2.oo.1.trans h1.oo.1, h2.oo.2.trans h1.oo.2⟩
  · have hn1 : ¬ blocks μ1 b := fun h => by
      rcases h1.new b h with h | h
      · exact hn h
      · omega
    rw [h2.keep b (Nat.lt_of_lt_of_le hb h1.size) (fun h => hn1 (pick_blocks h hlt)), h1.keep b hb hn]
  · rcases h2.new b hb with h | h
    · exact h1.new b (pick_blocks h hlt)
    · exact .inr (Nat.le_trans h1.size h)
def Postb (F : Nat → Prop) (n : Nat) (K : Exit → SS → Prop) (μ : List Nm) (w : World) (x : Exit) (a : Act) (w' : World) : Prop := ∃ σ' μ', K x σ' ∧ SR F n σ' μ' a w' ∧ Frb μ w μ' w'

theorem W.scopeM {α : Type} (st : α → SS) (lab : α → Nat) (inv : α → Prop) (m : α → Nat) {c : Code} {K : Exit → SS → Prop} {σ : SS} (hp0 : σ.hp = [])
    (first : W P n c (fun x σ' => match x with | .goto l => ∃ y is, inv y ∧ lab y = l ∧ LeM is (st y) σ' | x => K x σ') σ)
    (pass : ∀ x, inv x → ∃ rest, findLabel c (lab x) = some rest ∧
      W P n rest (fun e σ' => match e with | .goto l => ∃ y is, inv y ∧ lab y = l ∧ m y < m x ∧ LeM is (st y) σ' | e => K e σ') (st x)) : W P n (.scope c) K σ := by
  intro F μ a w hs b kk cs
  have key : ∀ (k : Nat) (x : α), m x = k → inv x → ∀ rest, findLabel c (lab x) = some rest → ∀ μ a w, SR F n (st x) μ a w →
      ∃ e a' w', Postb F n K μ w e a' w' ∧ Arrives P (lone (b.at a (.code rest :: .inScope c :: kk)) cs w) b kk cs e a' w' := by
    intro k
    induction k using Nat.strongRecOn with
    | _ k ih =>
      intro x hk hi rest hrest μ a w hs
      obtain ⟨rest', hr', hW⟩ := pass x hi
      have : rest' = rest := by rw [hr'] at hrest; exact Option.some.inj hrest
      subst this
      obtain ⟨e, a1, w1, ⟨σ1, μ1, hK, hs1, hf⟩, harr⟩ := hW F μ a w hs b (.inScope c :: kk) cs
      cases e with
      | normal => exact ⟨.normal, a1, w1, ⟨σ1, μ1, hK, hs1, hf.b⟩, Steps.trans harr (.one step_inScope)⟩
      | exit id => exact ⟨.exit id, a1, w1, ⟨σ1, μ1, hK, hs1, hf.b⟩, fun k' hk => harr k' (by simp [exitTo, hk])⟩
      | goto l =>
        obtain ⟨y, is, hy, hl, hlt, hle⟩ := hK
        subst hl
        obtain ⟨rest2, hr2, _⟩ := pass y hy
        obtain ⟨e3, a3, w3, ⟨σ2, μ2, g1, g2, g3⟩, harr3⟩ := ih (m y) (hk ▸ hlt) y rfl hy rest2 hr2 (pickN is μ1) a1 w1 (hle.sr hs1)
        exact ⟨e3, a3, w3, ⟨σ2, μ2, g1, g2, hf.b.cut (fun q hq => by rw [hs1.hr.len]; exact hle.lt q hq) g3⟩, .of_steps (harr _ (by simp [gotoIn, hr2])) harr3⟩
      | ret => exact ⟨_, a1, w1, ⟨σ1, μ1, hK, hs1, hf.b⟩, harr⟩
      | panic ch => exact ⟨_, a1, w1, ⟨σ1, μ1, hK, hs1, hf.b⟩, harr⟩
      | outgrown => exact ⟨_, a1, w1, ⟨σ1, μ1, hK, hs1, hf.b⟩, harr⟩
  have hμ : μ = [] := List.eq_nil_of_length_eq_zero (by rw [hs.hr.len, hp0]; rfl)
  subst hμ
  obtain ⟨e, a1, w1, ⟨σ1, μ1, hK, hs1, hf⟩, harr⟩ := first F [] a w hs b (.inScope c :: kk) cs
  cases e with
  | normal => exact ⟨.normal, a1, w1, ⟨σ1, μ1, hK, hs1, hf⟩, .head step_scope (Steps.trans harr (.one step_inScope))⟩
  | exit id => exact ⟨.exit id, a1, w1, ⟨σ1, μ1, hK, hs1, hf⟩, fun k' hk => .head step_scope (harr k' (by simp [exitTo, hk]))⟩
  | goto l =>
    obtain ⟨y, is, hy, hl, hle⟩ := hK
    subst hl
    obtain ⟨rest2, hr2, _⟩ := pass y hy
    obtain ⟨e3, a3, w3, ⟨σ2, μ2, g1, g2, g3⟩, harr3⟩ := key _ y rfl hy rest2 hr2 (pickN is μ1) a1 w1 (hle.sr hs1)
    exact ⟨e3, a3, w3, ⟨σ2, μ2, g1, g2, (hf.b.cut (fun q hq => by rw [hs1.hr.len]; exact hle.lt q hq) g3).fr⟩, .of_steps (.head step_scope (harr _ (by simp [gotoIn, hr2]))) harr3⟩
  | ret => exact ⟨_, a1, w1, ⟨σ1, μ1, hK, hs1, hf⟩, .of_steps (.one step_scope) harr⟩
  | panic ch => exact ⟨_, a1, w1, ⟨σ1, μ1, hK, hs1, hf⟩, .of_steps (.one step_scope) harr⟩
  | outgrown => exact ⟨_, a1, w1, ⟨σ1, μ1, hK, hs1, hf⟩, .of_steps (.one step_scope) harr⟩

/-- Values of which none has own rows; nothing as an empty slice of row 0. -/
def nilUp : AV → AV
  | .nil => .sl 0 0 0
  | x => x
theorem no_em {b : Nat} : ¬ blocks [Nm.em] b := by
  rintro ⟨o, base, esz, tot, h⟩
  cases o <;> simp at h
theorem nil_sr {l : Env} (e : Nat) (h : (l.all fun q => noOwn q.2) = true) {a : Act} (hs : SR F n ⟨tbl l, []⟩ [] a w) : SR F n ⟨tbl (l.map fun q => (q.1, nilUp q.2)), [.row e []]⟩ [Nm.em] a w := by
  refine ⟨⟨rfl, fun o b base esz tot ho => ?_, fun o ho => ?_, fun o x' ho hx' hd => ?_, fun o o' b base esz tot base' esz' tot' h1 h2 => ?_, fun b hb => absurd hb no_em, hs.hr.fb, hs.hr.tb.sub fun b hb => absurd hb no_em⟩, fun i => ?_, hs.size, hs.defers⟩
  · cases o <;> simp at ho
  · cases o with
    | zero => exact ⟨e, rfl⟩
    | succ o => simp at ho
  · cases o <;> simp at hd
  · cases o <;> simp at h1
  · have key : tbl (l.map fun q => (q.1, nilUp q.2)) i = .any ∨ (tbl (l.map fun q => (q.1, nilUp q.2)) i = nilUp (tbl l i) ∧ noOwn (tbl l i) = true) := by
      clear hs
      induction l with
      | nil => exact .inl rfl
      | cons q l ih =>
        obtain ⟨d, x⟩ := q
        simp only [List.all_cons, Bool.and_eq_true] at h
        simp only [List.map_cons, tbl]
        cases hb : Nat.beq i d
        · exact ih h.2
        · exact .inr ⟨rfl, h.1⟩
    show VR F _ w (tbl (l.map fun q => (q.1, nilUp q.2)) i) _
    rcases key with h5 | ⟨h5, h6⟩
    · rw [h5]; exact .any
    · rw [h5]
      have hv : VR F [] w (tbl l i) (a.tmps.getD i undef) := hs.env i
      revert hv h6
      generalize tbl l i = x
      generalize a.tmps.getD i undef = u
      intro h6 hv
      cases x with
      | nil =>
        show VR F _ w (.sl 0 0 0) _
        cases hv with
        | nil => exact .slE rfl
      | _ => exact VR.moveN (fun b _ hb => ⟨no_em, hb.2⟩) hv h6
theorem em_fr (h : Frb [Nm.em] w μ' w') : Fr [] w μ' w' := by
  refine Frb.fr ⟨h.size, fun b hb _ => h.keep b hb no_em, fun b hb => ?_, h.oo⟩
  rcases h.new b hb with h5 | h5
  · exact absurd h5 no_em
  · exact .inr h5
theorem W.nilRow {c : Code} {K : Exit → SS → Prop} {l : Env} (e : Nat) (h : (l.all fun q => noOwn q.2) = true) (hw : W P n c K ⟨tbl (l.map fun q => (q.1, nilUp q.2)), [.row e []]⟩) : W P n c K ⟨tbl l, []⟩ := by
  intro F μ a w hs b kk cs
  have hμ : μ = [] := List.eq_nil_of_length_eq_zero hs.hr.len
  subst hμ
  obtain ⟨ex, a', w', ⟨σ', μ', h1, h2, h3⟩, h4⟩ := hw F [Nm.em] a w (nil_sr e h hs) b kk cs
  exact ⟨ex, a', w', ⟨σ', μ', h1, h2, em_fr h3.b⟩, h4⟩

theorem Res.le {rs : List ResultVar} {σ σ' : SS} {xs : List AV} (h : Res P rs σ' xs) (hl : Le σ' σ) : Res P rs σ xs := by
  intro F μ w t hr he
  refine h F μ w t (hl.1 ▸ hr) fun i => ?_
  rcases hl.2 i with h1 | h1
  · rw [h1]; exact .any
  · rw [h1]; exact he i
/-- What is handed back, its rows frozen. -/
theorem retK.fz {rs : List ResultVar} {out : Env} {hp : List AObj} {x : AV} {σ : SS} {xs : List AV} {e : Exit} (he : e = .ret ∨ e = .normal) (hl : Le ⟨tbl out, hp⟩ σ) (h1 : resV P out hp rs = some xs) (h2 : Fz 0 hp (oneAV xs) x) :
    retK P 0 rs (fun r hp' => r = x ∧ hp' = []) e σ :=
  retK.mk he (Res.le (resV.ok h1) hl) (by rw [← hl.1]; exact Cv.frz0 h2)
/-- A result told otherwise. -/
theorem Spec0.weak {k : Nat} {args : List AV} {x y : AV} (h : Spec0 P k args x) (hxy : ∀ (F : Nat → Prop) μ w v, VR F μ w x v → VR F μ w y v) : Spec0 P k args y := by
  intro F μ w args' hr ha
  refine (h F μ w args' hr ha).mono ?_
  rintro e w' ⟨r, v, hp', μ', h1, ⟨rfl, h2⟩, h3, h4, h5⟩
  exact ⟨y, v, hp', μ', h1, ⟨rfl, h2⟩, h3, hxy _ _ _ _ h4, h5⟩
theorem nil_im {F : Nat → Prop} {μ : List Nm} {w : World} {v : Value} {e : Nat} (h : VR F μ w .nil v) : VR F μ w (.im e []) v := by
  cases h; exact .im0
/-- A scope with one label, entered from above once and by jumps. -/
theorem W.scopeM1 {α : Type} (st : α → SS) (inv : α → Prop) (m : α → Nat) (l : Nat) {c rest : Code} {K : Exit → SS → Prop} {σ : SS} (hp0 : σ.hp = []) (hl : findLabel c l = some (.seq .skip rest))
    (body : ∀ x, inv x → W P n rest (fun e σ' => match e with | .goto l' => l' = l ∧ ∃ y is, inv y ∧ m y < m x ∧ LeM is (st y) σ' | e => K e σ') (st x))
    (first : ∀ K' : Exit → SS → Prop, (∀ x, inv x → W P n rest K' (st x)) → (∀ e σ', isGoto e = false → K e σ' → K' e σ') → W P n c K' σ) : W P n (.scope c) K σ := by
  refine W.scopeM st (fun _ => l) inv m hp0 (first _ (fun x hx => W.mono (body x hx) fun e σ' h => ?_) (fun e σ' he h => ?_)) (fun x hx => ⟨.seq .skip rest, hl, W.seq (W.skip (W.mono (body x hx) fun e σ' h => ?_))⟩)
  · cases e with
    | goto l' => obtain ⟨rfl, y, is, h1, h2, h3⟩ := h; exact ⟨y, is, h1, rfl, h3⟩
    | _ => exact h
  · cases e with
    | goto l' => simp [isGoto] at he
    | _ => exact h
  · cases e with
    | goto l' => obtain ⟨rfl, y, is, h1, h2, h3⟩ := h; exact ⟨y, is, h1, rfl, h2, h3⟩
    | _ => exact h
/-- A whole row frozen. -/
theorem Fz.row {p o k esz : Nat} {cells : List AV} (ho : hp[o]? = some (AObj.row esz cells)) (hpo : p ≤ o) (hl : cells.length = k * esz) (hn : noOwnL cells = true) : Fz p hp (.sl o 0 k) (.im esz cells) := by
  have h1 : (cells.drop 0).take (k * esz) = cells := by rw [List.drop_zero, ← hl, List.take_length]
  have := Fz.sl (p := p) (off := 0) (len := k) ho hpo (by omega) (by rw [h1]; exact hn)
  rw [h1] at this
  exact this
/-- A loop entered with nothing, whose rounds hand on a slice of their own. -/
theorem W.loopE {α : Type} (st : α → SS) (inv : α → Prop) (m : α → Nat) {c : Code} {K : Exit → SS → Prop} {l : Env} (e : Nat) (hno : (l.all fun q => noOwn q.2) = true) (a0 : α) (h0 : inv a0) (hl : Le (st a0) ⟨tbl (l.map fun q => (q.1, nilUp q.2)), [.row e []]⟩)
    (round : ∀ x, inv x → W P n c (thenK (fun σ' => ∃ y is, inv y ∧ m y < m x ∧ LeM is (st y) σ') K) (st x)) : W P n (.loop c) K ⟨tbl l, []⟩ := by
  intro F μ a w hs b kk cs
  have key : ∀ (k : Nat) (x : α), m x = k → inv x → ∀ μ a w, SR F n (st x) μ a w →
      ∃ e a' w', Postb F n K μ w e a' w' ∧ Arrives P (lone (b.at a (.code c :: .inLoop c :: kk)) cs w) b kk cs e a' w' := by
    intro k
    induction k using Nat.strongRecOn with
    | _ k ih =>
      intro x hk hi μ a w hs
      obtain ⟨e, a1, w1, ⟨σ1, μ1, hK, hs1, hf⟩, harr⟩ := round x hi F μ a w hs b (.inLoop c :: kk) cs
      cases e with
      | normal =>
        obtain ⟨y, is, hy, hlt, hle⟩ := hK
        obtain ⟨e3, a3, w3, ⟨σ2, μ2, g1, g2, g3⟩, harr3⟩ := ih (m y) (hk ▸ hlt) y rfl hy (pickN is μ1) a1 w1 (hle.sr hs1)
        exact ⟨e3, a3, w3, ⟨σ2, μ2, g1, g2, hf.b.cut (fun q hq => by rw [hs1.hr.len]; exact hle.lt q hq) g3⟩, .of_steps (Steps.trans harr (.one step_inLoop)) harr3⟩
      | exit id => exact ⟨_, a1, w1, ⟨σ1, μ1, hK, hs1, hf.b⟩, .pass (x := .inLoop c) rfl (fun _ _ => .inl (by simp)) harr⟩
      | goto l => exact ⟨_, a1, w1, ⟨σ1, μ1, hK, hs1, hf.b⟩, .pass (x := .inLoop c) rfl (fun _ _ => .inl (by simp)) harr⟩
      | ret => exact ⟨_, a1, w1, ⟨σ1, μ1, hK, hs1, hf.b⟩, .pass (x := .inLoop c) rfl (fun _ _ => .inl (by simp)) harr⟩
      | panic ch => exact ⟨_, a1, w1, ⟨σ1, μ1, hK, hs1, hf.b⟩, .pass (x := .inLoop c) rfl (fun _ _ => .inl (by simp)) harr⟩
      | outgrown => exact ⟨_, a1, w1, ⟨σ1, μ1, hK, hs1, hf.b⟩, .pass (x := .inLoop c) rfl (fun _ _ => .inl (by simp)) harr⟩
  have hμ : μ = [] := List.eq_nil_of_length_eq_zero hs.hr.len
  subst hμ
  obtain ⟨e, a', w', ⟨σ2, μ2, g1, g2, g3⟩, harr⟩ := key _ a0 rfl h0 [Nm.em] a w (hl.sr (nil_sr e hno hs))
  exact ⟨e, a', w', ⟨σ2, μ2, g1, g2, em_fr g3⟩, .of_steps (.one step_loop) harr⟩

end Go.SL

set_option linter.unusedVariables false
set_option linter.unusedSimpArgs false
set_option linter.unusedSectionVars false
namespace Go.SL
open Go Go.ChangeShapes Go.WideShapes Go.ChangeAt Go.RowKit
variable [Tabs]
/-- A law that reads no variable: its row, by its call. -/
theorem law_liftX {H : Type} {enc : TypeId × Value → H} {X : World → Array Value → Prop} (hX : ∀ (w w' : World) (args : Array Value), w.heap = w'.heap → X w args → X w' args) {C : Checked} {os : Os} {k : FuncId} {fn : Func} {s : ChangeSpec} {dom : List PathCond} {tb : TypeId} (own : ownKnob C.prog.godebug = none) (started : os.Started) (noInit : C.prog.inits.idxOf? k = none) (hfn : C.prog.funcs[k]? = some fn)
    (witness : ∃ (w : World) (tape : Tape) (i : Input), w.os = os ∧ (w.forCall tape i).Shaped C.prog ∧ i.vars = [] ∧ Input.okWide C.prog (w.forCall tape i) .any w.heap.size k i ∧
      ((s.pre enc C.prog fn dom false (w.forCall tape i).memory i.args ∧ X (w.forCall tape i).memory i.args) ∧ sizedMet enc C.prog fn (OpenSpec.ofChange s) false (w.forCall tape i).memory i.args) ∧ ({} : Assume).holds C.prog (lone (Frame.enter C.prog k i.args .normal) [] (w.forCall tape i)))
    (hvars : s.vars = []) (hres : fn.resultTypes = #[tb]) (htb : C.prog.underlying tb = some .bool)
    (hs : ∀ ds : List (DataW H), ds.length = fn.params.size → s.fn H ds = { results := [.lit (.bool true)], args := ds })
    (hl : laidOutB C.prog = true) (hpar : fn.params.toList.all (fun t => C.prog.readableRec t && decide (t < C.prog.types.size)) = true)
    (hcall : ∀ (W : World) (base : Nat) (args : Array Value) (ds : List (DataW H)) (p : List MemPlace), (∀ (j : Nat) t v, fn.params[j]? = some t → args[j]? = some v → Value.okWide C.prog W .any base t v) →
      DataW.TrodAll enc C.prog W 0 (fun _ => true) true fn.params.toList args.toList ds p → (∀ n ∈ DataW.weightsEach C.prog fn.params.toList ds, n ≤ reachBytes) → X W args →
      Calls C.prog k args W fun e W' => e = .returned (.bool true) ∧ Fr [] W [] W') :
    ReturnsInHanded {} C os k .any (fun w args => (s.pre enc C.prog fn dom false w args ∧ X w args) ∧ sizedMet enc C.prog fn (OpenSpec.ofChange s) false w args) (s.post enc C.prog fn false true false false) := by
  refine returnsInHanded_of_change_and (C := C) (X := X) hX own started noInit hfn witness ?_
  intro W base args ds gs before hval hW _ hsz hx _
  have hW' := hW
  obtain ⟨p, q, hA, hV, rfl, hfz, hnd⟩ := hW
  rw [hvars] at hV
  obtain ⟨rfl, rfl⟩ := trodVars_none hV
  have hpar' : ∀ t ∈ fn.params.toList, C.prog.readableRec t = true ∧ t < C.prog.types.size := fun t ht => by
    have := List.all_eq_true.1 hpar t ht
    simpa using this
  obtain ⟨hlt, hvl, hdl⟩ := TrodAll.lt hA
  have hw : ∀ n ∈ DataW.weightsEach C.prog fn.params.toList ds, n ≤ reachBytes := by
    intro n hn
    have h0 : s.plain.varTypes C.prog = [] := by simp [ChangeSpec.plain, DataSpec.varTypes, hvars]
    rw [h0, List.append_nil, List.append_nil] at hsz
    simpa using List.all_eq_true.1 hsz n hn
  refine (hcall W base args ds p hval hA hw hx).mono fun e W' ⟨he, hf⟩ => ?_
  subst he
  have hsd : s.fn H (ds ++ []) = { results := [.lit (.bool true)], args := ds } := by rw [List.append_nil]; exact hs ds (by simpa using hdl)
  refine ⟨_, rfl, ds, [], p ++ [], [], p, [], hW', ?_, ?_, ?_, hf.frame _, fun h => by cases h⟩
  · rw [hsd, hres]
    exact trodAll_mk1 (shut_bool htb _)
  · rw [hsd]
    exact hf.trodAll hl hpar' hlt hA
  · rw [hsd, hvars]
    exact rfl

theorem law_rowX {X : World → Array Value → Prop} (hX : ∀ (w w' : World) (args : Array Value), w.heap = w'.heap → X w args → X w' args) {C : Checked} {os : Os} {k : FuncId} {fn : Func} {s : ChangeSpec} {dom : List PathCond} {tb : TypeId} {H : Type} {enc : TypeId × Value → H} {Ss : List (AV → Prop)} (own : ownKnob C.prog.godebug = none) (started : os.Started) (noInit : C.prog.inits.idxOf? k = none) (hfn : C.prog.funcs[k]? = some fn)
    (witness : ∃ (w : World) (tape : Tape) (i : Input), w.os = os ∧ (w.forCall tape i).Shaped C.prog ∧ i.vars = [] ∧ Input.okWide C.prog (w.forCall tape i) .any w.heap.size k i ∧
      ((s.pre enc C.prog fn dom false (w.forCall tape i).memory i.args ∧ X (w.forCall tape i).memory i.args) ∧ sizedMet enc C.prog fn (OpenSpec.ofChange s) false (w.forCall tape i).memory i.args) ∧ ({} : Assume).holds C.prog (lone (Frame.enter C.prog k i.args .normal) [] (w.forCall tape i)))
    (hvars : s.vars = []) (hres : fn.resultTypes = #[tb]) (htb : C.prog.underlying tb = some .bool)
    (hs : ∀ ds : List (DataW H), ds.length = fn.params.size → s.fn H ds = { results := [.lit (.bool true)], args := ds })
    (hl : laidOutB C.prog = true) (hpar : fn.params.toList.all (fun t => C.prog.readableRec t && decide (t < C.prog.types.size)) = true)
    (hT : ∀ W args, X W args → TB [] W) (hrd : ∀ W, RdVs C.prog W fn.params.toList Ss) (hspec : ∀ xs, All1 Ss xs → Spec0 C.prog k xs (.sc (.bool true))) :
    ReturnsInHanded {} C os k .any (fun w args => (s.pre enc C.prog fn dom false w args ∧ X w args) ∧ sizedMet enc C.prog fn (OpenSpec.ofChange s) false w args) (s.post enc C.prog fn false true false false) := by
  refine law_liftX hX own started noInit hfn witness hvars hres htb hs hl hpar fun W base args ds p hval hA hw hx => ?_
  obtain ⟨xs, h1, h2⟩ := args_open (hrd W) (fun j t v hj hv => hval j t v (by simpa using hj) (by simpa using hv)) hA hw
  have h0 : HR F0 [] [] W := ⟨rfl, fun o b base esz tot h => by simp at h, fun o h => by simp at h, fun o x h => by simp at h, fun o o' b base esz tot _ _ _ h => by simp at h,
    fun b ⟨_, _, _, _, h⟩ => by simp at h, fun b h => h.elim, hT W args hx⟩
  refine (hspec xs h2 F0 [] W args h0 h1).mono fun e W' ⟨x, v, hp', μ', he, ⟨hx, hh⟩, hr, hv, hf⟩ => ?_
  subst he; subst hx; subst hh
  have hm : μ' = [] := List.length_eq_zero_iff.1 hr.len
  subst hm
  exact ⟨by rw [hv.sc_inv], hf⟩

omit [Tabs] in
theorem int_at {P : Program} {w : World} {fuel : Nat} {t : TypeId} {k : IntKind} {c : Value} {y : DataW Unit × List MemPlace} (ht : P.underlying t = some (.int k)) (h : DataW.trod (fun _ => ()) P w 0 (fun _ => true) false fuel t [c] = some y) :
    ∃ n, c = .int k n ∧ y = (.lit (.int k n), []) := by
  cases fuel with
  | zero => simp [DataW.trod] at h
  | succ fuel =>
    cases c <;> simp [DataW.trod, ht] at h
    rename_i k' n
    obtain ⟨⟨rfl, _⟩, rfl⟩ := h
    exact ⟨n, rfl, rfl⟩
omit [Tabs] in
/-- What a table of numbers holds, from what it reads as. -/
theorem tab_of_trod {P : Program} {W : World} {fuel : Nat} {t e : TypeId} {n : Nat} {k : IntKind} {cs : List Value} {zs : List Int} {p : List MemPlace} (ht : P.underlying t = some (.array n e)) (he : P.underlying e = some (.int k)) (c1 : P.cellsOf e = 1) (ct : P.cellsOf t = n)
    (h : DataW.trod (fun _ => ()) P W 0 (fun _ => true) false fuel t cs = some (.agg (zs.map fun z => .lit (.int k z)), p)) : cs = zs.map (.int k) := by
  obtain ⟨xs, m, rfl, hx, hl, hxn, hi⟩ := DataW.trod_array ht h
  injection hx with hx _
  injection hx with hx
  rw [ct] at hl
  rw [c1] at hi
  have hz : zs.length = n := by rw [← hxn, ← List.length_map (f := fun z => (DataW.lit (.int k z) : DataW Unit)), hx, List.length_map]
  refine List.ext_getElem? fun i => ?_
  rcases Nat.lt_or_ge i n with hlt | hge
  · have h1 := hi i hlt
    have h2 : (cs.drop (i * 1)).take 1 = [cs[i]'(by omega)] := by
      rw [Nat.mul_one, List.drop_eq_getElem_cons (by omega)]; rfl
    rw [h2, List.getElem?_eq_getElem (by omega)] at h1
    obtain ⟨z, hz1, hz2⟩ := int_at he h1
    have h3 := congrArg (fun l => l[i]?) hx
    simp only [List.getElem?_map] at h3
    rw [List.getElem?_eq_getElem (show i < xs.length by omega), hz2, List.getElem?_eq_getElem (show i < zs.length by omega)] at h3
    simp only [Option.map_some, Option.some.injEq] at h3
    injection h3 with h3
    injection h3 with _ h3
    rw [List.getElem?_eq_getElem (show i < cs.length by omega), hz1, List.getElem?_map, List.getElem?_eq_getElem (show i < zs.length by omega), h3]; rfl
  · rw [List.getElem?_eq_none (by omega), List.getElem?_eq_none (by simp; omega)]
end Go.SL

set_option linter.unusedVariables false
set_option linter.unusedSimpArgs false
set_option linter.unusedSectionVars false
namespace Go.SL
open Go
variable [Tabs]
variable {P : Program} {n : Nat} {F : Nat → Prop} {μ μ' μ0 μ1 μ2 : List Nm} {w w' w0 w1 w2 : World}

end Go.SL
