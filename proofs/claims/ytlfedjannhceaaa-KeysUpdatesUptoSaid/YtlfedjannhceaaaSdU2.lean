/-
  From what a start of a call holds to abstract values: each argument, by its type; and back: behind a call that keeps all old blocks each argument reads as it did.
-/
import Derived.Test.YtlfedjannhceaaaSbU2
import Derived.ProofKit
import Derived.SizedLaws
import Derived.Carry
import Derived.DeepKeys
import Derived.Test.YtlfedjannhceaaaScU2
import Derived.OpenShut
import Derived.Handed
set_option linter.unusedVariables false
set_option linter.unusedSectionVars false
namespace Go.SL
open Go Go.ChangeShapes Go.WideShapes Go.ChangeAt Go.RowKit
variable [Tabs]

abbrev F0 : Nat → Prop := fun _ => False
variable {P : Program} {W W' : World}

theorem nblk (b : Nat) : ¬ blocks [] b := fun ⟨_, _, _, _, h⟩ => by simp at h

/-- One after the other. -/
def All2 : List (List AV → Prop) → List (List AV) → Prop
  | [], [] => True
  | S :: Ss, p :: ps => S p ∧ All2 Ss ps
  | _, _ => False

theorem All2.inv {S : List AV → Prop} {Ss : List (List AV → Prop)} : ∀ {parts : List (List AV)}, All2 (S :: Ss) parts → ∃ p ps, parts = p :: ps ∧ S p ∧ All2 Ss ps
  | [], h => h.elim
  | p :: ps, ⟨h1, h2⟩ => ⟨p, ps, rfl, h1, h2⟩
def packed (P : Program) : List Field → Nat → Option Nat
  | [], k => some k
  | f :: fs, k => if f.offset = k then packed P fs (k + P.cellsOf f.type) else none

theorem cells_take {a : Addr} {n : Nat} {cs : List Value} {b off el : Nat} {c : Array Value} {fr : Nat × Nat} (hb : W.heap[b]? = some (Obj.cells c el fr)) (ha : a.block = b) (ho : a.off = off) (h : W.cells? 0 a n = some cs) :
    cs = (c.toList.drop off).take n ∧ off + n ≤ max c.size off := by
  unfold World.cells? at h
  rw [if_pos (Nat.zero_le _)] at h
  have hl := mapM_some_length h
  simp only [List.length_range] at hl
  have hg : ∀ i, i < n → c[off + i]? = cs[i]? ∧ off + i < c.size := by
    intro i hi
    have h1 := mapM_some_get h i i (by simp [hi])
    have h2 : cs[i]? = some (cs[i]'(by omega)) := List.getElem?_eq_getElem _
    rw [h2] at h1
    have h3 : W.cell? (a.add i) = c[off + i]? := by
      unfold World.cell? at h1 ⊢
      have hab : (a.add i).block = b := by unfold Addr.add; split <;> simp [ha]
      have hao : (a.add i).off = off + i := by unfold Addr.add; split <;> simp_all
      rw [hab, hb] at h1 ⊢
      simp only at h1 ⊢
      split at h1
      · simp at h1
      · rename_i hs
        rw [if_neg hs, hao]
    rw [h3] at h1
    refine ⟨by rw [h1, h2], ?_⟩
    rcases Nat.lt_or_ge (off + i) c.size with h4 | h4
    · exact h4
    · rw [Array.getElem?_eq_none h4] at h1; simp at h1
  constructor
  · apply List.ext_getElem?
    intro j
    rcases Nat.lt_or_ge j n with hj | hj
    · rw [List.getElem?_take_of_lt hj, List.getElem?_drop, ← (hg j hj).1, Array.getElem?_toList]
    · rw [List.getElem?_eq_none (by omega), List.getElem?_eq_none (by simp; omega)]
  · rcases Nat.eq_zero_or_pos n with h0 | h0
    · omega
    · have := (hg (n - 1) (by omega)).2; omega

theorem cell_at {a : Addr} {v : Value} (h : W.cell? a = some v) : ∃ c el fr, W.heap[a.block]? = some (Obj.cells c el fr) ∧ a.spot = none := by
  unfold World.cell? at h
  split at h
  · rename_i c el fr hb
    refine ⟨c, el, fr, hb, ?_⟩
    split at h
    · simp at h
    · rename_i hs; cases hsp : a.spot <;> simp_all
  · simp at h

theorem Fr.block (h : Fr [] W [] W') {b : Nat} (hb : b < W.heap.size) : W'.heap[b]? = W.heap[b]? := h.keep b hb (nblk b)

theorem Fr.frame (h : Fr [] W [] W') (may : MemPlace → Prop) : W.keptBut W' may := by
  refine ⟨h.oo.1, h.oo.2, fun i hi => ?_⟩
  rw [h.block hi]
  split <;> simp_all

theorem Fr.sameAt (h : Fr [] W [] W') {p : MemPlace} (hp : p.block < W.heap.size) : W.sameAt W' p := by
  cases p with
  | cell b o => exact World.cell?_of_block (w := W) (h.block hp)
  | map b => exact h.block hp

section
variable {H : Type} {enc : TypeId × Value → H}

theorem Fr.trodAll (h : Fr [] W [] W') (hl : laidOutB P = true) : ∀ {ts : List TypeId} {vs : List Value} {ds : List (DataW H)} {p : List MemPlace}, (∀ t ∈ ts, P.readableRec t = true ∧ t < P.types.size) → (∀ x ∈ p, x.block < W.heap.size) →
    DataW.TrodAll enc P W 0 (fun _ => true) true ts vs ds p → DataW.TrodAll enc P W' 0 (fun b => decide (b < W.heap.size)) true ts vs ds p
  | [], _, _, _, _, _, hA => by
    obtain ⟨rfl, rfl, rfl⟩ := trodAll_nil hA
    exact rfl
  | t :: ts, _, _, _, ht, hp, hA => by
    obtain ⟨v, vs1, d, ds1, a, b, rfl, rfl, rfl, h1, h2⟩ := trodAll_cons hA
    have ht0 := ht t (by simp)
    exact ⟨_, _, (WideElems.Trod_stays hl ht0.1 ht0.2 h1 (fun x hx => h.sameAt (hp x (by simp [hx]))) (fun x hx => by simpa using hp x (by simp [hx]))),
      Fr.trodAll h hl (fun t' ht' => ht t' (by simp [ht'])) (fun x hx => hp x (by simp [hx])) h2, rfl⟩

theorem TrodAll.lt : ∀ {ts : List TypeId} {vs : List Value} {ds : List (DataW H)} {p : List MemPlace}, DataW.TrodAll enc P W 0 (fun _ => true) true ts vs ds p → (∀ x ∈ p, x.block < W.heap.size) ∧ vs.length = ts.length ∧ ds.length = ts.length
  | [], _, _, _, hA => by
    obtain ⟨rfl, rfl, rfl⟩ := trodAll_nil hA
    simp
  | t :: ts, _, _, _, hA => by
    obtain ⟨v, vs1, d, ds1, a, b, rfl, rfl, rfl, h1, h2⟩ := trodAll_cons hA
    obtain ⟨g1, g2, g3⟩ := TrodAll.lt h2
    obtain ⟨m, hm⟩ := h1
    refine ⟨fun x hx => ?_, by simp [g2], by simp [g3]⟩
    rcases List.mem_append.1 hx with h | h
    · exact DataW.trod_lt m _ _ _ hm x h
    · exact g1 x h

end

def flatT (P : Program) (t : TypeId) : Bool := match P.underlying t with
  | some (.struct _) => false
  | some (.array _ _) => false
  | _ => true

theorem okWide_flat {t : TypeId} {base : Nat} {cs : Array Value} (hf : flatT P t = true) (h : Value.okWide P W .any base t (.agg cs)) : False := by
  unfold flatT at hf
  unfold Value.okWide at h
  split at h
  · rename_i h1; rw [h1] at hf; simp at hf
  · rename_i h1; rw [h1] at hf; simp at hf
  · unfold Cell.okWide at h
    split at h <;> (try contradiction)
    unfold Cell.ok at h
    split at h <;> first | contradiction | simp_all

def All1 : List (AV → Prop) → List AV → Prop
  | [], [] => True
  | S :: Ss, x :: xs => S x ∧ All1 Ss xs
  | _, _ => False

theorem All1.inv {S : AV → Prop} {Ss : List (AV → Prop)} : ∀ {xs : List AV}, All1 (S :: Ss) xs → ∃ p ps, xs = p :: ps ∧ S p ∧ All1 Ss ps
  | [], h => h.elim
  | p :: ps, ⟨h1, h2⟩ => ⟨p, ps, rfl, h1, h2⟩
theorem All1.inv0 : ∀ {xs : List AV}, All1 [] xs → xs = []
  | [], _ => rfl
  | _ :: _, h => h.elim

end Go.SL

set_option linter.unusedVariables false
set_option linter.unusedSectionVars false
namespace Go.SL
open Go
variable [Tabs]
variable {P : Program} {F : Nat → Prop} {μ : List Nm} {w : World} {env : Nat → AV} {hp : List AObj} {dst : Option Nat} {ty : TypeId} {pos : String} {after : Array Edge} {guard : Option (Nat × Bool)}

end Go.SL

set_option linter.unusedVariables false
set_option linter.unusedSimpArgs false
set_option linter.unusedSectionVars false
namespace Go.SL
open Go Go.ChangeShapes Go.WideShapes Go.ChangeAt Go.RowKit
variable [Tabs]
variable {P : Program} {W : World}

inductive Lf where
  | int (k : IntKind)
  | bool
  | str
mutual
def leaves (P : Program) : Nat → TypeId → Option (List Lf)
  | 0, _ => none
  | d + 1, t => match P.underlying t with
    | some (.int k) => some [.int k]
    | some .bool => some [.bool]
    | some .string => some [.str]
    | some (.struct fs) => match packed P fs.toList 0 with
      | some c => bif Nat.beq c (P.cellsOf t) then (match leavesF P d fs.toList with
        | some lss => some lss.flatten
        | none => none) else none
      | none => none
    | some (.array n e) => bif Nat.beq (P.cellsOf t) (n * P.cellsOf e) then (match leaves P d e with
      | some ls => some (List.replicate n ls).flatten
      | none => none) else none
    | _ => none
def leavesF (P : Program) : Nat → List Field → Option (List (List Lf))
  | 0, _ => none
  | _, [] => some []
  | d + 1, f :: fs => match leaves P d f.type with
    | some ls => match leavesF P d fs with
      | some lss => some (ls :: lss)
      | none => none
    | none => none
end
end Go.SL

set_option linter.unusedVariables false
set_option linter.unusedSimpArgs false
set_option linter.unusedSectionVars false
namespace Go.SL
open Go
variable [Tabs]
variable {F : Nat → Prop} {μ μ' μ0 μ1 μ2 : List Nm} {w w' w0 w1 w2 : World} {P : Program} {n : Nat} {hp : List AObj}

/-- σ' knows of the first p rows alone, no more than σ. -/
def LeD (p : Nat) (σ' σ : SS) : Prop := σ'.hp = σ.hp.take p ∧ p ≤ σ.hp.length ∧ (∀ x ∈ σ'.hp, rowLt p x = true) ∧ ∀ i, σ'.env i = .any ∨ (σ'.env i = σ.env i ∧ idsLt p (σ.env i) = true)

theorem LeD.le {p : Nat} {a b c : SS} (h : LeD p a b) (h' : Le b c) : LeD p a c := by
  obtain ⟨h1, h2, h3, h4⟩ := h
  refine ⟨by rw [h1, h'.1], by rw [← h'.1]; exact h2, h3, fun i => ?_⟩
  rcases h4 i with h5 | ⟨h5, h6⟩
  · exact .inl h5
  · rcases h'.2 i with h7 | h7
    · exact .inl (h5.trans h7)
    · exact .inr ⟨h5.trans h7, by rw [← h7]; exact h6⟩

theorem free_take {p b : Nat} (h : Free μ F b) : Free (μ.take p) F b := ⟨fun h' => by
  obtain ⟨o, base, esz, tot, _, h2⟩ := blocks_take h'; exact h.1 ⟨o, base, esz, tot, h2⟩, h.2⟩

theorem idsLt_take {p : Nat} {x : AV} {v : Value} (h : VR F μ w x v) (hx : idsLt p x = true) : VR F (μ.take p) w x v :=
  VR.idsLt (k := p) (fun j nm hj hm => by rw [List.getElem?_take, if_pos hj]; exact hm) (fun b _ hb => free_take hb) h hx
theorem idsLtL_take {p : Nat} {xs : List AV} {vs : List Value} (h : VRL F μ w xs vs) (hx : idsLtL p xs = true) : VRL F (μ.take p) w xs vs :=
  VRL.idsLt (k := p) (fun j nm hj hm => by rw [List.getElem?_take, if_pos hj]; exact hm) (fun b _ hb => free_take hb) h hx

theorem HR.takeD {p : Nat} (hr : HR F hp μ w) (hp' : p ≤ hp.length) (hlt : ∀ x ∈ hp.take p, rowLt p x = true) : HR F (hp.take p) (μ.take p) w := by
  have key : ∀ (o : Nat) nm, (μ.take p)[o]? = some nm → o < p ∧ μ[o]? = some nm := by
    intro o nm h
    rw [List.getElem?_take] at h
    split at h
    · rename_i hlt; exact ⟨hlt, h⟩
    · simp at h
  refine ⟨by simp [hr.len], fun o b base esz tot ho => ?_, fun o ho => ?_, fun o x' ho hx' => ?_, fun o o' b base esz tot base' esz' tot' h1 h2 => ?_, fun b hb => ?_, hr.fb, hr.tb.sub fun b h => by obtain ⟨o, base, esz, tot, _, h2⟩ := blocks_take h; exact ⟨o, base, esz, tot, h2⟩⟩
  · obtain ⟨hl, h⟩ := key _ _ ho
    obtain ⟨x', y', g1, g2, g3⟩ := hr.obj o b base esz tot h
    have hm : x' ∈ hp.take p := by
      have : (hp.take p)[o]? = some x' := by rw [List.getElem?_take, if_pos hl]; exact g1
      exact List.mem_of_getElem? this
    have hrow := hlt _ hm
    rw [rowLt_cs, Bool.or_eq_true] at hrow
    refine ⟨x', y', by rw [List.getElem?_take, if_pos hl]; exact g1, g2, g3.conv fun vs g5 => ?_⟩
    rcases hrow with h1 | h1
    · exact g5.move h1 fun b _ hb => free_take hb
    · exact idsLtL_take g5 h1
  · obtain ⟨hl, h⟩ := key _ _ ho
    rw [List.getElem?_take, if_pos hl]; exact hr.em o h
  · intro hd
    obtain ⟨hl, h⟩ := key _ _ hd
    rw [List.getElem?_take, if_pos hl] at ho
    exact hr.live o x' ho hx' h
  · exact hr.inj _ _ _ _ _ _ _ _ _ (key _ _ h1).2 (key _ _ h2).2
  · obtain ⟨o, base, esz, tot, _, h2⟩ := blocks_take hb
    exact hr.fo b ⟨o, base, esz, tot, h2⟩

theorem LeD.sr {p : Nat} {σ σ' : SS} (h : LeD p σ' σ) {a : Act} (hs : SR F n σ μ a w) : SR F n σ' (μ.take p) a w := by
  obtain ⟨h1, h2, h3, h4⟩ := h
  refine ⟨?_, fun i => ?_, hs.size, hs.defers⟩
  · rw [h1]; exact hs.hr.takeD h2 (by rw [← h1]; exact h3)
  · rcases h4 i with h5 | ⟨h5, h6⟩
    · rw [h5]; exact .any
    · rw [h5]; exact idsLt_take (hs.env i) h6

theorem Fr.cutD {p : Nat} (hl : μ0.length = p) (h1 : Fr μ0 w0 μ1 w1) (h2 : Fr (μ1.take p) w1 μ2 w2) : Fr μ0 w0 μ2 w2 := by
  have hp1 : p ≤ μ1.length := by rw [← hl]; exact h1.len
  refine ⟨Nat.le_trans h1.size h2.size, fun b hb hn => ?_, fun b hb => ?_, fun o nm ho => ?_, ?_, h2.oo.1.trans h1.oo.1, h2.oo.2.trans h1.oo.2⟩
  · have hn1 : ¬ blocks μ1 b := h1.out hb hn
    rw [h2.keep b (Nat.lt_of_lt_of_le hb h1.size) (fun h => hn1 (by obtain ⟨o, base, esz, tot, _, h2⟩ := blocks_take h; exact ⟨o, base, esz, tot, h2⟩)), h1.keep b hb hn]
  · rcases h2.new b hb with h | h
    · obtain ⟨o, base, esz, tot, _, h3⟩ := blocks_take h
      exact h1.new b ⟨o, base, esz, tot, h3⟩
    · exact .inr (Nat.le_trans h1.size h)
  · have hop : o < p := by
      rw [← hl]
      rcases Nat.lt_or_ge o μ0.length with h | h
      · exact h
      · simp [List.getElem?_eq_none h] at ho
    rcases h1.ext o nm ho with g | ⟨g0, g⟩
    · exact h2.ext o nm (by rw [List.getElem?_take, if_pos hop]; exact g)
    · rcases h2.ext o _ (by rw [List.getElem?_take, if_pos hop]; exact g) with g' | ⟨_, g'⟩
      · exact .inr ⟨g0, g'⟩
      · exact .inr ⟨g0, g'⟩
  · rw [hl]
    have := h2.len
    simp only [List.length_take] at this
    omega

theorem Post.cutD {K : Exit → SS → Prop} {p : Nat} (hl : μ0.length = p) (f : Fr μ0 w0 μ1 w1) {x : Exit} {a : Act} (h : Post F n K (μ1.take p) w1 x a w2) : Post F n K μ0 w0 x a w2 := by
  obtain ⟨σ', μ', h1, h2, h3⟩ := h
  exact ⟨σ', μ', h1, h2, Fr.cutD hl f h3⟩

theorem W.loopD {α : Type} (p : Nat) (st : α → SS) (inv : α → Prop) (m : α → Nat) {c : Code} {K : Exit → SS → Prop} {σ : SS} (a0 : α) (h0 : inv a0) (hp0 : σ.hp.length = p) (hl : Le (st a0) σ)
    (round : ∀ x, inv x → W P n c (thenK (fun σ' => ∃ y, inv y ∧ m y < m x ∧ LeD p (st y) σ') K) (st x)) : W P n (.loop c) K σ := by
  intro F μ a w hs b kk cs
  have key : ∀ (k : Nat) (x : α), m x = k → inv x → ∀ μ a w, μ.length = p → SR F n (st x) μ a w →
      ∃ e a' w', Post F n K μ w e a' w' ∧ Arrives P (lone (b.at a (.code c :: .inLoop c :: kk)) cs w) b kk cs e a' w' := by
    intro k
    induction k using Nat.strongRecOn with
    | _ k ih =>
      intro x hk hi μ a w hμ hs
      obtain ⟨e, a1, w1, ⟨σ1, μ1, hK, hs1, hf⟩, harr⟩ := round x hi F μ a w hs b (.inLoop c :: kk) cs
      cases e with
      | normal =>
        obtain ⟨y, hy, hlt, hle⟩ := hK
        have hlen : (μ1.take p).length = p := by
          have := hf.len
          simp only [List.length_take]; omega
        obtain ⟨e3, a3, w3, hp3, harr3⟩ := ih (m y) (hk ▸ hlt) y rfl hy (μ1.take p) a1 w1 hlen (hle.sr hs1)
        exact ⟨e3, a3, w3, Post.cutD hμ hf hp3, .of_steps (Steps.trans harr (.one step_inLoop)) harr3⟩
      | exit id => exact ⟨_, a1, w1, ⟨σ1, μ1, hK, hs1, hf⟩, .pass (x := .inLoop c) rfl (fun _ _ => .inl (by simp)) harr⟩
      | goto l => exact ⟨_, a1, w1, ⟨σ1, μ1, hK, hs1, hf⟩, .pass (x := .inLoop c) rfl (fun _ _ => .inl (by simp)) harr⟩
      | ret => exact ⟨_, a1, w1, ⟨σ1, μ1, hK, hs1, hf⟩, .pass (x := .inLoop c) rfl (fun _ _ => .inl (by simp)) harr⟩
      | panic ch => exact ⟨_, a1, w1, ⟨σ1, μ1, hK, hs1, hf⟩, .pass (x := .inLoop c) rfl (fun _ _ => .inl (by simp)) harr⟩
      | outgrown => exact ⟨_, a1, w1, ⟨σ1, μ1, hK, hs1, hf⟩, .pass (x := .inLoop c) rfl (fun _ _ => .inl (by simp)) harr⟩
  have hμ : μ.length = p := by rw [hs.hr.len, hp0]
  obtain ⟨e, a', w', hq, harr⟩ := key _ a0 rfl h0 μ a w hμ (hl.sr hs)
  exact ⟨e, a', w', hq, .of_steps (.one step_loop) harr⟩

/-- Nothing of the first p rows and of the slots kept points further. -/
def cutOk (p : Nat) (out : Env) (hp : List AObj) : Bool := Nat.ble p hp.length && (hp.take p).all (rowLt p) && out.all fun q => idsLt p q.2
theorem tbl_mem {out : Env} : ∀ i, tbl out i = .any ∨ ∃ q ∈ out, tbl out i = q.2 := by
  intro i
  induction out with
  | nil => exact .inl rfl
  | cons q l ih =>
    obtain ⟨d, x⟩ := q
    simp only [tbl]
    by_cases hi : i = d
    · subst hi
      rw [Nat.beq_refl]
      exact .inr ⟨_, List.mem_cons_self, rfl⟩
    · have : Nat.beq i d = false := nbeq hi
      rw [this]
      rcases ih with h | ⟨q, hq, h⟩
      · exact .inl h
      · exact .inr ⟨q, List.mem_cons_of_mem _ hq, h⟩
theorem LeD.mk {p : Nat} {out : Env} {hp hp1 : List AObj} {σ : SS} (hc : cutOk p out hp = true) (he : hp.take p = hp1) (h : Le ⟨tbl out, hp⟩ σ) : LeD p ⟨tbl out, hp1⟩ σ := by
  simp only [cutOk, Bool.and_eq_true, List.all_eq_true] at hc
  refine LeD.le (b := ⟨tbl out, hp⟩) ⟨he.symm, Nat.le_of_ble_eq_true hc.1.1, by rw [← he]; exact hc.1.2, fun i => ?_⟩ h
  rcases tbl_mem (out := out) i with h1 | ⟨q, hq, h1⟩
  · exact .inl h1
  · exact .inr ⟨rfl, by show idsLt p (tbl out i) = true; rw [h1]; exact hc.2 q hq⟩
end Go.SL

set_option linter.unusedVariables false
set_option linter.unusedSectionVars false
namespace Go.SL
open Go
variable [Tabs]
variable {α : Type} {c : α → List AV} {e : Nat}

theorem fm_len (h : ∀ a, (c a).length = e) : ∀ l : List α, (l.flatMap c).length = l.length * e
  | [] => by simp
  | a :: l => by rw [List.flatMap_cons, List.length_append, h a, fm_len h l, List.length_cons, Nat.add_mul]; omega
theorem fm_drop (h : ∀ a, (c a).length = e) : ∀ (l : List α) (j : Nat), (l.flatMap c).drop (j * e) = (l.drop j).flatMap c
  | l, 0 => by simp
  | [], j + 1 => by simp
  | a :: l, j + 1 => by
    rw [List.flatMap_cons, List.drop_succ_cons, show (j + 1) * e = (c a).length + j * e by rw [h a, Nat.add_mul]; omega, ← List.drop_drop, List.drop_left]
    exact fm_drop h l j
theorem fm_take (h : ∀ a, (c a).length = e) : ∀ (l : List α) (j : Nat), (l.flatMap c).take (j * e) = (l.take j).flatMap c
  | l, 0 => by simp
  | [], j + 1 => by simp
  | a :: l, j + 1 => by
    rw [List.flatMap_cons, List.take_succ_cons, List.flatMap_cons, show (j + 1) * e = (c a).length + j * e by rw [h a, Nat.add_mul]; omega, List.take_length_add_append, fm_take h l j]
/-- The cells of element j. -/
theorem fm_at (h : ∀ a, (c a).length = e) (l : List α) {j : Nat} {a : α} (hj : l[j]? = some a) : ((l.flatMap c).drop (j * e)).take e = c a := by
  rw [fm_drop h]
  have hlt : j < l.length := by
    rcases Nat.lt_or_ge j l.length with h1 | h1
    · exact h1
    · simp [List.getElem?_eq_none h1] at hj
  have e1 : l.drop j = a :: l.drop (j + 1) := by
    rw [List.drop_eq_getElem_cons hlt]
    rw [List.getElem?_eq_getElem hlt] at hj
    injection hj with hj; rw [hj]
  rw [e1, List.flatMap_cons, List.take_left' (h a)]
theorem fm_bound (h : ∀ a, (c a).length = e) (l : List α) {j : Nat} (hj : j < l.length) : j * e + e ≤ (l.flatMap c).length := by
  rw [fm_len h, ← Nat.succ_mul]; exact Nat.mul_le_mul_right _ hj
theorem fm_cell (h : ∀ a, (c a).length = e) (l : List α) {j k : Nat} {a : α} {y : AV} (hj : l[j]? = some a) (hk : k < e) (hy : (c a)[k]? = some y) : (l.flatMap c)[j * e + k]? = some y := by
  have h1 := fm_at h l hj
  have h2 : ((l.flatMap c).drop (j * e))[k]? = (c a)[k]? := by rw [← h1, List.getElem?_take, if_pos hk]
  rw [List.getElem?_drop] at h2
  rw [h2, hy]
theorem fm_no (h : ∀ a, noOwnL (c a) = true) : ∀ l : List α, noOwnL (l.flatMap c) = true
  | [] => rfl
  | a :: l => by rw [List.flatMap_cons, noOwnL_append, h a, fm_no h l]; rfl
theorem fm_one (h : ∀ a, (c a).all cellAV = true) : ∀ l : List α, (l.flatMap c).all cellAV = true
  | [] => rfl
  | a :: l => by rw [List.flatMap_cons, List.all_append, h a, fm_one h l]; rfl
theorem fm_row (h : ∀ a, noOwnL (c a) = true) (k e : Nat) (L : List α) : rowLt k (.row e (L.flatMap c)) = true := by simp only [rowLt, fm_no h, Bool.true_or]
theorem Bw.fm {hp : List AObj} {o len : Nat} {L : List α} {xs ys : List AV} (h : ∀ a, (c a).length = e) (hn : ∀ a, noOwnL (c a) = true) (ho : hp[o]? = some (AObj.row e (L.flatMap c))) (hl : len = L.length) (t : Bw hp xs ys) :
    Bw hp (.sl o 0 len :: xs) (.im e (L.flatMap c) :: ys) := by
  subst hl
  have e1 : ((L.flatMap c).drop 0).take (L.length * e) = L.flatMap c := by rw [List.drop_zero, ← fm_len h, List.take_length]
  have := Bw.sl (off := 0) (len := L.length) ho (by rw [fm_len h]; omega) (by rw [e1]; exact fm_no hn L) t
  rwa [e1] at this
theorem Fz.fm {hp : List AObj} {o len : Nat} {L : List α} (h : ∀ a, (c a).length = e) (hn : ∀ a, noOwnL (c a) = true) (ho : hp[o]? = some (AObj.row e (L.flatMap c))) (hl : len = L.length) : Fz 0 hp (.sl o 0 len) (.im e (L.flatMap c)) := by
  subst hl
  have e1 : ((L.flatMap c).drop 0).take (L.length * e) = L.flatMap c := by rw [List.drop_zero, ← fm_len h, List.take_length]
  have := Fz.sl (p := 0) (off := 0) (len := L.length) ho (Nat.zero_le _) (by rw [fm_len h]; omega) (by rw [e1]; exact fm_no hn L)
  rwa [e1] at this
theorem fm_snoc0 (l : List α) (a : α) : (l.flatMap c).drop 0 ++ c a = (l ++ [a]).flatMap c := by simp
end Go.SL

set_option linter.unusedVariables false
set_option linter.unusedSimpArgs false
set_option linter.unusedSectionVars false
namespace Go.SL
open Go
variable [Tabs]
variable {F : Nat → Prop} {μ μ' μ0 μ1 μ2 : List Nm} {w w' w0 w1 w2 : World} {P : Program} {n : Nat} {hp : List AObj}

/-- Row j of the new state is row is[j] of the old one. -/
def pickF (is : List Nat) (L j : Nat) : Nat := (is[j]?).getD L
def pickN (is : List Nat) (μ : List Nm) : List Nm := is.map fun q => (μ[q]?).getD .un
theorem pickN_get {is : List Nat} {j : Nat} {nm : Nm} (h : (pickN is μ)[j]? = some nm) : ∃ q, is[j]? = some q ∧ nm = (μ[q]?).getD .un := by
  unfold pickN at h
  rw [List.getElem?_map] at h
  cases hq : is[j]? with
  | none => rw [hq] at h; simp at h
  | some q => rw [hq] at h; simp at h; exact ⟨q, rfl, h.symm⟩
theorem pickN_lt {is : List Nat} {j : Nat} {nm : Nm} (hlt : ∀ q ∈ is, q < μ.length) (h : (pickN is μ)[j]? = some nm) : ∃ q, is[j]? = some q ∧ μ[q]? = some nm := by
  obtain ⟨q, h1, h2⟩ := pickN_get h
  have := hlt q (List.mem_of_getElem? h1)
  rw [List.getElem?_eq_getElem this] at h2
  exact ⟨q, h1, by rw [List.getElem?_eq_getElem this, h2]; rfl⟩
theorem pick_blocks {is : List Nat} {b : Nat} (h : blocks (pickN is μ) b) (hlt : ∀ q ∈ is, q < μ.length) : blocks μ b := by
  obtain ⟨o, base, esz, tot, h⟩ := h
  obtain ⟨q, _, h2⟩ := pickN_lt hlt h
  exact ⟨q, base, esz, tot, h2⟩
theorem pick_free {is : List Nat} {b : Nat} (hlt : ∀ q ∈ is, q < μ.length) (h : Free μ F b) : Free (pickN is μ) F b := ⟨fun h' => h.1 (pick_blocks h' hlt), h.2⟩
theorem pick_hn {is : List Nat} {L j : Nat} {nm : Nm} (hL : μ.length = L) (h : μ[pickF is L j]? = some nm) : (pickN is μ)[j]? = some nm := by
  unfold pickF at h
  unfold pickN
  rw [List.getElem?_map]
  cases hq : is[j]? with
  | none => rw [hq] at h; simp [← hL] at h
  | some q => rw [hq] at h; simp at h; simp [h]

/-- What is kept of Fr when rows change their numbers. -/
structure Frb (μ : List Nm) (w : World) (μ' : List Nm) (w' : World) : Prop where
  size : w.heap.size ≤ w'.heap.size
  keep : ∀ b, b < w.heap.size → ¬ blocks μ b → w'.heap[b]? = w.heap[b]?
  new : ∀ b, blocks μ' b → blocks μ b ∨ w.heap.size ≤ b
  oo : w'.os = w.os ∧ w'.output = w.output
theorem Res.le {rs : List ResultVar} {σ σ' : SS} {xs : List AV} (h : Res P rs σ' xs) (hl : Le σ' σ) : Res P rs σ xs := by
  intro F μ w t hr he
  refine h F μ w t (hl.1 ▸ hr) fun i => ?_
  rcases hl.2 i with h1 | h1
  · rw [h1]; exact .any
  · rw [h1]; exact he i
/-- What is handed back, its rows frozen. -/
theorem retK.fz {rs : List ResultVar} {out : Env} {hp : List AObj} {x : AV} {σ : SS} {xs : List AV} {e : Exit} (he : e = .ret ∨ e = .normal) (hl : Le ⟨tbl out, hp⟩ σ) (h1 : resV P out hp rs = some xs) (h2 : Fz 0 hp (oneAV xs) x) :
    retK P 0 rs (fun r hp' => r = x ∧ hp' = []) e σ :=
  retK.mk he (Res.le (resV.ok h1) hl) (by rw [← hl.1]; exact Cv.frz0 h2)
theorem nil_im {F : Nat → Prop} {μ : List Nm} {w : World} {v : Value} {e : Nat} (h : VR F μ w .nil v) : VR F μ w (.im e []) v := by
  cases h; exact .im0
end Go.SL

set_option linter.unusedVariables false
set_option linter.unusedSimpArgs false
set_option linter.unusedSectionVars false
namespace Go.SL
open Go Go.ChangeShapes Go.WideShapes Go.ChangeAt Go.RowKit
variable [Tabs]
end Go.SL

set_option linter.unusedVariables false
set_option linter.unusedSimpArgs false
set_option linter.unusedSectionVars false
namespace Go.SL
open Go
variable [Tabs]
variable {P : Program} {n : Nat} {F : Nat → Prop} {μ μ' μ0 μ1 μ2 : List Nm} {w w' w0 w1 w2 : World}

/-- Row j of the new state is row is[j] of the old one, its pointers renamed; the first p rows stay. -/
structure LeN (p : Nat) (is : List Nat) (σ' σ : SS) : Prop where
  len : σ'.hp.length = is.length
  row : ∀ (j q : Nat) (r : AObj), is[j]? = some q → σ'.hp[j]? = some r → σ.hp[q]? = some (renO (pickF is σ.hp.length) r)
  lt : ∀ q ∈ is, q < σ.hp.length
  nd : is.Nodup
  pre : ∀ o, o < p → is[o]? = some o
  env : ∀ i, σ'.env i = .any ∨ ren (pickF is σ.hp.length) (σ'.env i) = σ.env i

theorem LeN.sr {p : Nat} {is : List Nat} {σ σ' : SS} (h : LeN p is σ' σ) {a : Act} (hs : SR F n σ μ a w) : SR F n σ' (pickN is μ) a w := by
  have hL : μ.length = σ.hp.length := hs.hr.len
  have hlt : ∀ q ∈ is, q < μ.length := fun q hq => by rw [hL]; exact h.lt q hq
  have got : ∀ (o q : Nat), is[o]? = some q → ∃ r, σ'.hp[o]? = some r ∧ σ.hp[q]? = some (renO (pickF is σ.hp.length) r) := by
    intro o q hq
    have ho : o < σ'.hp.length := by
      rw [h.len]
      rcases Nat.lt_or_ge o is.length with g | g
      · exact g
      · simp [List.getElem?_eq_none g] at hq
    exact ⟨_, List.getElem?_eq_getElem ho, h.row o q _ hq (List.getElem?_eq_getElem ho)⟩
  refine ⟨⟨by rw [h.len]; simp [pickN], fun o b base esz tot ho => ?_, fun o ho => ?_, fun o x' ho hx' hd => ?_, fun o o' b base esz tot base' esz' tot' h1 h2 => ?_, fun b hb => ?_, hs.hr.fb, hs.hr.tb.sub fun b h => pick_blocks h hlt⟩, fun i => ?_, hs.size, hs.defers⟩
  · obtain ⟨q, hq, hm⟩ := pickN_lt hlt ho
    obtain ⟨x', y', g1, g2, g3⟩ := hs.hr.obj q b base esz tot hm
    obtain ⟨r, k1, k2⟩ := got o q hq
    rw [g1] at k2
    injection k2 with k2
    subst k2
    exact ⟨r, y', k1, g2, g3.unren fun vs g5 => g5.pull (fun j nm hj => pick_hn hL hj) (fun b _ hb => pick_free hlt hb)⟩
  · obtain ⟨q, hq, hm⟩ := pickN_lt hlt ho
    obtain ⟨r, k1, k2⟩ := got o q hq
    obtain ⟨esz, k3⟩ := hs.hr.em q hm
    rw [k3] at k2
    cases r with
    | dead => simp [renO] at k2
    | row e cs =>
      simp only [renO, Option.some.injEq, AObj.row.injEq] at k2
      obtain ⟨rfl, k4⟩ := k2
      have : cs = [] := List.eq_nil_of_length_eq_zero (by rw [← renL_length (pickF is σ.hp.length) cs, ← k4]; rfl)
      subst this
      exact ⟨esz, k1⟩
    | ob s cs => simp [renO] at k2
  · obtain ⟨q, hq, hm⟩ := pickN_lt hlt hd
    obtain ⟨r, k1, k2⟩ := got o q hq
    rw [k1] at ho
    injection ho with ho
    subst ho
    exact hs.hr.live q _ k2 (fun e => hx' (by cases r <;> simp [renO] at e ⊢)) hm
  · obtain ⟨q, hq, hm⟩ := pickN_lt hlt h1
    obtain ⟨q', hq', hm'⟩ := pickN_lt hlt h2
    have hqq := hs.hr.inj _ _ _ _ _ _ _ _ _ hm hm'
    subst hqq
    have ho : o < is.length := by
      rcases Nat.lt_or_ge o is.length with g | g
      · exact g
      · simp [List.getElem?_eq_none g] at hq
    have ho' : o' < is.length := by
      rcases Nat.lt_or_ge o' is.length with g | g
      · exact g
      · simp [List.getElem?_eq_none g] at hq'
    rw [List.getElem?_eq_getElem ho] at hq
    rw [List.getElem?_eq_getElem ho'] at hq'
    have e1 := (Option.some.inj hq).trans (Option.some.inj hq').symm
    have hpw := List.pairwise_iff_getElem.1 h.nd
    rcases Nat.lt_trichotomy o o' with g | g | g
    · exact absurd e1 (hpw _ _ ho ho' g)
    · exact g
    · exact absurd e1.symm (hpw _ _ ho' ho g)
  · exact hs.hr.fo b (pick_blocks hb hlt)
  · rcases h.env i with h5 | h5
    · rw [h5]; exact .any
    · have := hs.env i
      rw [← h5] at this
      exact this.pull (fun j nm hj => pick_hn hL hj) (fun b _ hb => pick_free hlt hb)

theorem LeN.mk' {p : Nat} {is : List Nat} {out out' : Env} {hp hp' : List AObj} {σ : SS} (he : out'.map (fun q => (q.1, ren (pickF is hp.length) q.2)) = out) (h1 : hp'.map (renO (pickF is hp.length)) = is.map fun q => (hp[q]?).getD .dead)
    (h2 : ∀ q ∈ is, q < hp.length) (h3 : is.Nodup) (h4 : is.take p = List.range p) (h : Le ⟨tbl out, hp⟩ σ) : LeN p is ⟨tbl out', hp'⟩ σ := by
  have hh : σ.hp = hp := h.1.symm
  have hl : hp'.length = is.length := by have := congrArg List.length h1; simpa using this
  refine ⟨hl, fun j q r hj hr => ?_, by rw [hh]; exact h2, h3, fun o ho => ?_, fun i => ?_⟩
  · rw [hh]
    have e := congrArg (fun l : List AObj => l[j]?) h1
    simp only [List.getElem?_map, hj, hr, Option.map_some] at e
    have := h2 q (List.mem_of_getElem? hj)
    rw [List.getElem?_eq_getElem this] at e ⊢
    injection e with e
    rw [e]; rfl
  · have := congrArg (fun l : List Nat => l[o]?) h4
    simpa [List.getElem?_take, ho] using this
  · have key : tbl out' i = .any ∨ ren (pickF is hp.length) (tbl out' i) = tbl out i := by
      subst he
      clear h h1 hl
      induction out' with
      | nil => exact .inl rfl
      | cons q l ih =>
        obtain ⟨d, x⟩ := q
        simp only [List.map_cons, tbl]
        cases hb : Nat.beq i d
        · exact ih
        · exact .inr rfl
    rcases key with h6 | h6
    · exact .inl h6
    · rcases h.2 i with h7 | h7
      · refine .inl ?_
        show tbl out' i = .any
        have h7' : tbl out i = .any := h7
        rw [h7'] at h6
        revert h6
        cases tbl out' i <;> simp [ren]
      · refine .inr ?_
        rw [hh]
        exact h6.trans h7

/-- What is kept of Fr when only the first p rows keep their numbers. -/
structure Frp (p : Nat) (μ : List Nm) (w : World) (μ' : List Nm) (w' : World) : Prop where
  size : w.heap.size ≤ w'.heap.size
  keep : ∀ b, b < w.heap.size → ¬ blocks μ b → w'.heap[b]? = w.heap[b]?
  new : ∀ b, blocks μ' b → blocks μ b ∨ w.heap.size ≤ b
  ext : ∀ (o : Nat) (m : Nm), o < p → μ[o]? = some m → μ'[o]? = some m ∨ (m ≠ Nm.un ∧ μ'[o]? = some Nm.dead)
  len : p ≤ μ'.length
  oo : w'.os = w.os ∧ w'.output = w.output
theorem Fr.p {p : Nat} (h : Fr μ w μ' w') (hp : p ≤ μ.length) : Frp p μ w μ' w' := ⟨h.size, h.keep, h.new, fun o m _ hm => h.ext o m hm, Nat.le_trans hp h.len, h.oo⟩
theorem Frp.fr {p : Nat} (h : Frp p μ w μ' w') (hp : μ.length = p) : Fr μ w μ' w' := ⟨h.size, h.keep, h.new, fun o m hm => h.ext o m (by
  rcases Nat.lt_or_ge o μ.length with g | g
  · omega
  · simp [List.getElem?_eq_none g] at hm) hm, by rw [hp]; exact h.len, h.oo⟩
theorem Frp.trans {p : Nat} (h1 : Frp p μ0 w0 μ1 w1) (h2 : Frp p μ1 w1 μ2 w2) : Frp p μ0 w0 μ2 w2 := by
  refine ⟨Nat.le_trans h1.size h2.size, fun b hb hn => ?_, fun b hb => ?_, fun o m ho hm => ?_, h2.len, h2.oo.1.trans h1.oo.1, h2.oo.2.trans h1.oo.2⟩
  · have hn1 : ¬ blocks μ1 b := fun h => by
      rcases h1.new b h with h | h
      · exact hn h
      · omega
    rw [h2.keep b (Nat.lt_of_lt_of_le hb h1.size) hn1, h1.keep b hb hn]
  · rcases h2.new b hb with h | h
    · exact h1.new b h
    · exact .inr (Nat.le_trans h1.size h)
  · rcases h1.ext o m ho hm with g | ⟨g0, g⟩
    · exact h2.ext o m ho g
    · rcases h2.ext o _ ho g with k | ⟨_, k⟩
      · exact .inr ⟨g0, k⟩
      · exact .inr ⟨g0, k⟩
theorem pick_pre {p : Nat} {is : List Nat} (hlt : ∀ q ∈ is, q < μ.length) (hpre : ∀ o, o < p → is[o]? = some o) {o : Nat} (ho : o < p) : (pickN is μ)[o]? = μ[o]? := by
  have h1 := hpre o ho
  have h2 := hlt o (List.mem_of_getElem? h1)
  unfold pickN
  rw [List.getElem?_map, h1, Option.map_some, List.getElem?_eq_getElem h2]; rfl
theorem Frp.pick {p : Nat} {is : List Nat} (hlt : ∀ q ∈ is, q < μ.length) (hpre : ∀ o, o < p → is[o]? = some o) : Frp p μ w (pickN is μ) w := by
  refine ⟨Nat.le_refl _, fun _ _ _ => rfl, fun b hb => .inl (pick_blocks hb hlt), fun o m ho hm => .inl ?_, ?_, rfl, rfl⟩
  · rw [pick_pre hlt hpre ho]; exact hm
  · rcases Nat.lt_or_ge (pickN is μ).length p with g | g
    · have := hpre _ g
      simp [pickN] at this
    · exact g
def Postp (p : Nat) (F : Nat → Prop) (n : Nat) (K : Exit → SS → Prop) (μ : List Nm) (w : World) (x : Exit) (a : Act) (w' : World) : Prop := ∃ σ' μ', K x σ' ∧ SR F n σ' μ' a w' ∧ Frp p μ w μ' w'
/-- How a loop is entered. -/
def Entry (n p : Nat) (σ' σ : SS) : Prop := ∀ (F : Nat → Prop) (μ : List Nm) (a : Act) (w : World), SR F n σ μ a w → ∃ μ1, SR F n σ' μ1 a w ∧ Frp p μ w μ1 w ∧ p ≤ μ1.length
theorem W.loopP {α : Type} (p : Nat) (st : α → SS) (inv : α → Prop) (m : α → Nat) {c : Code} {K : Exit → SS → Prop} {σ : SS} (a0 : α) (h0 : inv a0) (hp0 : σ.hp.length = p) (hst : ∀ x, inv x → p ≤ (st x).hp.length) (he : Entry n p (st a0) σ)
    (round : ∀ x, inv x → W P n c (thenK (fun σ' => ∃ y is, inv y ∧ m y < m x ∧ LeN p is (st y) σ') K) (st x)) : W P n (.loop c) K σ := by
  intro F μ a w hs b kk cs
  have key : ∀ (k : Nat) (x : α), m x = k → inv x → ∀ μ a w, SR F n (st x) μ a w →
      ∃ e a' w', Postp p F n K μ w e a' w' ∧ Arrives P (lone (b.at a (.code c :: .inLoop c :: kk)) cs w) b kk cs e a' w' := by
    intro k
    induction k using Nat.strongRecOn with
    | _ k ih =>
      intro x hk hi μ a w hs
      have hpl : p ≤ μ.length := by rw [hs.hr.len]; exact hst x hi
      obtain ⟨e, a1, w1, ⟨σ1, μ1, hK, hs1, hf⟩, harr⟩ := round x hi F μ a w hs b (.inLoop c :: kk) cs
      cases e with
      | normal =>
        obtain ⟨y, is, hy, hlt, hle⟩ := hK
        obtain ⟨e3, a3, w3, ⟨σ2, μ2, g1, g2, g3⟩, harr3⟩ := ih (m y) (hk ▸ hlt) y rfl hy (pickN is μ1) a1 w1 (hle.sr hs1)
        have hq : ∀ q ∈ is, q < μ1.length := fun q hq => by rw [hs1.hr.len]; exact hle.lt q hq
        exact ⟨e3, a3, w3, ⟨σ2, μ2, g1, g2, ((hf.p hpl).trans (Frp.pick hq hle.pre)).trans g3⟩, .of_steps (Steps.trans harr (.one step_inLoop)) harr3⟩
      | exit id => exact ⟨_, a1, w1, ⟨σ1, μ1, hK, hs1, hf.p hpl⟩, .pass (x := .inLoop c) rfl (fun _ _ => .inl (by simp)) harr⟩
      | goto l => exact ⟨_, a1, w1, ⟨σ1, μ1, hK, hs1, hf.p hpl⟩, .pass (x := .inLoop c) rfl (fun _ _ => .inl (by simp)) harr⟩
      | ret => exact ⟨_, a1, w1, ⟨σ1, μ1, hK, hs1, hf.p hpl⟩, .pass (x := .inLoop c) rfl (fun _ _ => .inl (by simp)) harr⟩
      | panic ch => exact ⟨_, a1, w1, ⟨σ1, μ1, hK, hs1, hf.p hpl⟩, .pass (x := .inLoop c) rfl (fun _ _ => .inl (by simp)) harr⟩
      | outgrown => exact ⟨_, a1, w1, ⟨σ1, μ1, hK, hs1, hf.p hpl⟩, .pass (x := .inLoop c) rfl (fun _ _ => .inl (by simp)) harr⟩
  have hμ : μ.length = p := by rw [hs.hr.len, hp0]
  obtain ⟨μ1, hs1, hf1, _⟩ := he F μ a w hs
  obtain ⟨e, a', w', ⟨σ2, μ2, g1, g2, g3⟩, harr⟩ := key _ a0 rfl h0 μ1 a w hs1
  exact ⟨e, a', w', ⟨σ2, μ2, g1, g2, (hf1.trans g3).fr hμ⟩, .of_steps (.one step_loop) harr⟩

/-- Rows let go: those named are dead from here on. -/
def killL (ks : List Nat) : Nat → List AObj → List AObj
  | _, [] => []
  | i, x :: l => (bif memN ks i then .dead else x) :: killL ks (i + 1) l
def killN (ks : List Nat) : Nat → List Nm → List Nm
  | _, [] => []
  | i, x :: l => (bif memN ks i then unDead x else x) :: killN ks (i + 1) l
theorem killL_get {ks : List Nat} : ∀ {l : List AObj} {i o : Nat}, (killL ks i l)[o]? = (l[o]?).map fun x => bif memN ks (i + o) then .dead else x
  | [], _, _ => by simp [killL]
  | x :: l, i, 0 => by simp [killL]
  | x :: l, i, o + 1 => by simp only [killL, List.getElem?_cons_succ]; rw [killL_get, show i + 1 + o = i + (o + 1) by omega]
theorem killN_get {ks : List Nat} : ∀ {l : List Nm} {i o : Nat}, (killN ks i l)[o]? = (l[o]?).map fun x => bif memN ks (i + o) then unDead x else x
  | [], _, _ => by simp [killN]
  | x :: l, i, 0 => by simp [killN]
  | x :: l, i, o + 1 => by simp only [killN, List.getElem?_cons_succ]; rw [killN_get, show i + 1 + o = i + (o + 1) by omega]
theorem killL_len {ks : List Nat} : ∀ {l : List AObj} {i : Nat}, (killL ks i l).length = l.length
  | [], _ => rfl
  | _ :: l, i => by simp [killL, killL_len]
theorem killN_len {ks : List Nat} : ∀ {l : List Nm} {i : Nat}, (killN ks i l).length = l.length
  | [], _ => rfl
  | _ :: l, i => by simp [killN, killN_len]
theorem killN_at {ks : List Nat} {μ : List Nm} {o : Nat} {nm : Nm} (h : (killN ks 0 μ)[o]? = some nm) (hn : nm ≠ .dead) (hu : nm ≠ .un) : μ[o]? = some nm ∧ memN ks o = false := by
  rw [killN_get, Nat.zero_add] at h
  cases hm : μ[o]? with
  | none => rw [hm] at h; simp at h
  | some m =>
    rw [hm] at h
    simp only [Option.map_some, Option.some.injEq] at h
    cases hk : memN ks o
    · rw [hk] at h; simp only [cond_false] at h; exact ⟨by rw [h], rfl⟩
    · rw [hk] at h; simp only [cond_true] at h
      cases m <;> simp only [unDead] at h <;> first | exact absurd h.symm hn | exact absurd h.symm hu
theorem killN_blocks {ks : List Nat} {μ : List Nm} {b : Nat} (h : blocks (killN ks 0 μ) b) : blocks μ b := by
  obtain ⟨o, base, esz, tot, h⟩ := h
  exact ⟨o, base, esz, tot, (killN_at h (by simp) (by simp)).1⟩
theorem kill_Fr (ks : List Nat) (μ : List Nm) (w : World) : Fr μ w (killN ks 0 μ) w := by
  refine ⟨Nat.le_refl _, fun _ _ _ => rfl, fun b hb => .inl (killN_blocks hb), fun o nm h => ?_, by rw [killN_len]; exact Nat.le_refl _, rfl, rfl⟩
  rw [killN_get, Nat.zero_add, h]
  cases memN ks o
  · exact .inl rfl
  · cases nm <;> simp [unDead]
theorem kill_sr {ks : List Nat} {env : Nat → AV} {hp : List AObj} {a : Act} (hs : SR F n ⟨env, hp⟩ μ a w) : SR F n ⟨env, killL ks 0 hp⟩ (killN ks 0 μ) a w := by
  have hF := kill_Fr ks μ w
  refine ⟨⟨by rw [killN_len, hs.hr.len]; exact killL_len.symm, fun o b base esz tot ho => ?_, fun o ho => ?_, fun o x ho hx hd => ?_, fun o o' b base esz tot base' esz' tot' h1 h2 => ?_, fun b hb => hs.hr.fo b (killN_blocks hb), hs.hr.fb, hs.hr.tbF hF⟩, fun i => (hs.env i).mono hF, hs.size, hs.defers⟩
  · obtain ⟨h1, h2⟩ := killN_at ho (by simp) (by simp)
    obtain ⟨x, y, g1, g2, g3⟩ := hs.hr.obj o b base esz tot h1
    refine ⟨x, y, ?_, g2, g3.mono hF⟩
    show (killL ks 0 hp)[o]? = _
    have g1' : hp[o]? = some x := g1
    rw [killL_get, Nat.zero_add, g1', Option.map_some, h2]; rfl
  · obtain ⟨h1, h2⟩ := killN_at ho (by simp) (by simp)
    obtain ⟨esz, g1⟩ := hs.hr.em o h1
    have g1' : hp[o]? = some (AObj.row esz []) := g1
    refine ⟨esz, ?_⟩
    show (killL ks 0 hp)[o]? = _
    rw [killL_get, Nat.zero_add, g1', Option.map_some, h2]; rfl
  · have ho' : (killL ks 0 hp)[o]? = some x := ho
    rw [killL_get, Nat.zero_add] at ho'
    rw [killN_get, Nat.zero_add] at hd
    cases hh : hp[o]? with
    | none => rw [hh] at ho'; simp at ho'
    | some x' =>
      rw [hh] at ho'
      simp only [Option.map_some, Option.some.injEq] at ho'
      cases hk : memN ks o
      · rw [hk] at ho' hd
        simp only [cond_false] at ho' hd
        subst ho'
        refine hs.hr.live o x' hh hx ?_
        cases hm : μ[o]? with
        | none => rw [hm] at hd; simp at hd
        | some m => rw [hm] at hd; simpa using hd
      · rw [hk] at ho'; simp only [cond_true] at ho'; exact hx ho'.symm
  · exact hs.hr.inj _ _ _ _ _ _ _ _ _ (killN_at h1 (by simp) (by simp)).1 (killN_at h2 (by simp) (by simp)).1
end Go.SL
