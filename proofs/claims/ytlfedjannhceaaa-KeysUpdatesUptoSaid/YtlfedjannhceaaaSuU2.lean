/-
  Arguments read under a bound of bulk (the second form of a statement), and the row of such a law.
-/
import Derived.Test.YtlfedjannhceaaaSdU2
import Derived.JoinedCond
set_option linter.unusedVariables false
set_option linter.unusedSimpArgs false
set_option linter.unusedSectionVars false
namespace Go.SL
open Go Go.ChangeShapes Go.WideShapes Go.ChangeAt Go.RowKit
variable [Tabs]
/-- A measure of readings that bounds each part. -/
class Bulk where
  bk : {H : Type} → DataW H → Nat
  str : ∀ (H : Type) (bytes : List UInt8), bytes.length ≤ bk (DataW.lit (H := H) (.string bytes))
  sl : ∀ (H : Type) (elems spare : List (DataW H)), elems.length ≤ bk (DataW.slice elems spare) ∧ ∀ d ∈ elems, bk d ≤ bk (DataW.slice elems spare)
  agg : ∀ (H : Type) (ps : List (DataW H)), ∀ d ∈ ps, bk d ≤ bk (DataW.agg ps)
abbrev bkM : Nat := 1048576
variable [Bulk]
variable {P : Program} {W W' : World}
/-- Cells that read at a type are such abstract values. -/
def RdU (P : Program) (W : World) (t : TypeId) (S : List AV → Prop) : Prop :=
  ∀ (H : Type) (enc : TypeId × Value → H) (sp : Nat → Bool) (fuel : Nat) (cs : List Value) (x : DataW H × List MemPlace), DataW.trod enc P W 0 sp true fuel t cs = some x →
    Bulk.bk x.1 ≤ bkM → ∃ xs, VRL F0 [] W xs cs ∧ S xs

theorem RdU.mono {t : TypeId} {S S' : List AV → Prop} (h : RdU P W t S) (hs : ∀ xs, S xs → S' xs) : RdU P W t S' := fun H enc sp fuel cs x h1 h2 => by
  obtain ⟨xs, h3, h4⟩ := h H enc sp fuel cs x h1 h2
  exact ⟨xs, h3, hs _ h4⟩

theorem rd_intU {t : TypeId} {k : IntKind} (ht : P.underlying t = some (.int k)) : RdU P W t (fun xs => ∃ n : Int, xs = [.sc (.int k n)] ∧ k.min ≤ n ∧ n ≤ k.max) := by
  intro H enc sp fuel cs x h _
  obtain ⟨n, rfl, _, hw⟩ := DataW.trod_int ht h
  simp only [Lit.wf, Bool.and_eq_true, decide_eq_true_eq] at hw
  exact ⟨[.sc (.int k n)], .cons (.sc rfl) .nil, n, rfl, hw⟩

theorem rd_boolU {t : TypeId} (ht : P.underlying t = some .bool) : RdU P W t (fun xs => ∃ b : Bool, xs = [.sc (.bool b)]) := by
  intro H enc sp fuel cs x h _
  obtain ⟨b, rfl, _⟩ := DataW.trod_bool ht h
  exact ⟨[.sc (.bool b)], .cons (.sc rfl) .nil, b, rfl⟩

theorem rd_stringU {t : TypeId} (ht : P.underlying t = some .string) : RdU P W t (fun xs => ∃ s : ByteArray, xs = [.sc (.string s)] ∧ s.size ≤ bkM) := by
  intro H enc sp fuel cs x h hw
  obtain ⟨s, rfl, rfl, _⟩ := DataW.trod_string ht h
  refine ⟨[.sc (.string s)], .cons (.sc rfl) .nil, s, rfl, ?_⟩
  have := Nat.le_trans (Bulk.str H s.data.toList) hw
  simpa using this

def RdFU (P : Program) (W : World) : List Field → List (List AV → Prop) → Prop
  | [], [] => True
  | f :: fs, S :: Ss => RdU P W f.type S ∧ RdFU P W fs Ss
  | _, _ => False

theorem RdFU.cons {f : Field} {fs : List Field} {S : List AV → Prop} {Ss : List (List AV → Prop)} (h : RdU P W f.type S) (h' : RdFU P W fs Ss) : RdFU P W (f :: fs) (S :: Ss) := ⟨h, h'⟩
theorem RdFU.nil : RdFU P W [] [] := trivial

theorem rd_fieldsU {H : Type} {enc : TypeId × Value → H} {sp : Nat → Bool} {n : Nat} {cs : List Value} : ∀ (fs : List Field) (Ss : List (List AV → Prop)) (k : Nat) (xs : List (DataW H × List MemPlace)), packed P fs k = some cs.length → RdFU P W fs Ss →
    xs.length = fs.length → (∀ (i : Nat) (f : Field), fs[i]? = some f → DataW.trod enc P W 0 sp true n f.type ((cs.drop f.offset).take (P.cellsOf f.type)) = xs[i]?) →
    (∀ y ∈ xs, Bulk.bk y.1 ≤ bkM) → ∃ parts : List (List AV), VRL F0 [] W parts.flatten (cs.drop k) ∧ All2 Ss parts
  | [], [], k, xs, hp, _, _, _, _ => by
    simp only [packed, Option.some.injEq] at hp
    refine ⟨[], ?_, trivial⟩
    rw [List.drop_eq_nil_of_le (by omega)]
    exact .nil
  | [], _ :: _, _, _, _, h, _, _, _ => h.elim
  | _ :: _, [], _, _, _, h, _, _, _ => h.elim
  | f :: fs, S :: Ss, k, [], _, _, hl, _, _ => by simp at hl
  | f :: fs, S :: Ss, k, x :: xs, hp, ⟨h1, h2⟩, hl, hi, hw => by
    simp only [packed] at hp
    split at hp
    · rename_i hk
      have h0 := hi 0 f rfl
      rw [List.getElem?_cons_zero, hk] at h0
      have hw1 := hw x (by simp)
      have hw2 : ∀ y ∈ xs, Bulk.bk y.1 ≤ bkM := fun y hy => hw y (by simp [hy])
      obtain ⟨p, g1, g2⟩ := h1 H enc sp n _ x h0 hw1
      obtain ⟨ps, g3, g4⟩ := rd_fieldsU fs Ss (k + P.cellsOf f.type) xs hp h2 (by simpa using hl) (fun i f' hf => by have := hi (i + 1) f' (by simpa using hf); simpa using this) hw2
      refine ⟨p :: ps, ?_, g2, g4⟩
      rw [List.flatten_cons]
      have e : cs.drop k = (cs.drop k).take (P.cellsOf f.type) ++ cs.drop (k + P.cellsOf f.type) := by
        rw [← List.drop_drop, List.take_append_drop]
      rw [e]
      exact g1.append g3
    · simp at hp

theorem rd_structU {t : TypeId} {fs : Array Field} {Ss : List (List AV → Prop)} (ht : P.underlying t = some (.struct fs)) (hp : packed P fs.toList 0 = some (P.cellsOf t)) (h : RdFU P W fs.toList Ss) :
    RdU P W t (fun xs => ∃ parts : List (List AV), xs = parts.flatten ∧ All2 Ss parts) := by
  intro H enc sp fuel cs x hx hw
  obtain ⟨xs, n, _, rfl, hl, hlen, hi⟩ := DataW.trod_struct ht hx
  have hw : ∀ y ∈ xs, Bulk.bk y.1 ≤ bkM := fun y hy => Nat.le_trans (Bulk.agg H _ y.1 (List.mem_map_of_mem hy)) hw
  obtain ⟨parts, g1, g2⟩ := rd_fieldsU (enc := enc) (sp := sp) (n := n) (cs := cs) fs.toList Ss 0 xs (by rw [hl]; exact hp) h (by simpa using hlen) (fun i f hf => hi i f (by simpa using hf)) hw
  exact ⟨parts.flatten, by simpa using g1, parts, rfl, g2⟩

theorem rd_sliceU {t e : TypeId} {S : List AV → Prop} {k : Nat} (ht : P.underlying t = some (.slice e)) (hc : P.cellsOf e = k) (hk : 0 < k) (he : RdU P W e S) :
    RdU P W t (fun xs => ∃ rows : List (List AV), xs = [.im k rows.flatten] ∧ rows.length ≤ bkM ∧ ∀ r ∈ rows, r.length = k ∧ S r) := by
  intro H enc sp fuel cs x h hw
  rcases DataW.trod_slice ht h with ⟨rfl, rfl⟩ | ⟨a, len, cap, elems, rest, n, rfl, rfl, rfl, _, hlc, hcm, hel, hi, _, _⟩
  · exact ⟨[.im k []], .cons .im0 .nil, [], rfl, by simp, by simp⟩
  · have hsz : len ≤ bkM := by
      have h1 := Nat.le_trans (Bulk.sl H _ _).1 hw
      simp only [List.length_map] at h1
      omega
    rcases Nat.eq_zero_or_pos len with h0 | h0
    · subst h0
      exact ⟨[.im k []], .cons .im0 .nil, [], rfl, by simp, by simp⟩
    · have hex : ∀ i, i < len → ∃ cs' y, W.cells? 0 (a.add (i * k)) k = some cs' ∧ DataW.trod enc P W 0 sp true n e cs' = some y ∧ elems[i]? = some y := by
        intro i hl
        have h1 := hi i hl
        rw [hc, List.getElem?_eq_getElem (by omega)] at h1
        obtain ⟨cs', g1, g2⟩ := Option.bind_eq_some_iff.1 h1
        exact ⟨cs', _, g1, g2, List.getElem?_eq_getElem _⟩
      obtain ⟨c0, y0, g1, _, _⟩ := hex 0 h0
      have hcell : ∃ v, W.cell? a = some v := by
        unfold World.cells? at g1
        rw [if_pos (Nat.zero_le _)] at g1
        have h2 := mapM_some_get g1 0 0 (by simp [hk])
        have h3 := mapM_some_length g1
        simp only [List.length_range] at h3
        rw [List.getElem?_eq_getElem (by omega)] at h2
        refine ⟨_, (Eq.trans ?_ h2)⟩
        simp [Addr.add]
      obtain ⟨v, hv⟩ := hcell
      obtain ⟨c, el, fr, hb, hsp⟩ := cell_at hv
      have key : ∀ m, m ≤ len → ∃ rows : List (List AV), VRL F0 [] W rows.flatten ((c.toList.drop a.off).take (m * k)) ∧ rows.length = m ∧ ∀ r ∈ rows, r.length = k ∧ S r := by
        intro m
        induction m with
        | zero => intro _; exact ⟨[], by simpa using VRL.nil, rfl, by simp⟩
        | succ m ih =>
          intro hm
          obtain ⟨rows, q1, q2, q3⟩ := ih (by omega)
          obtain ⟨cs', y, r1, r2, r3⟩ := hex m (by omega)
          have hoff : (a.add (m * k)).off = a.off + m * k := by unfold Addr.add; split <;> simp_all
          have hblk : (a.add (m * k)).block = a.block := by unfold Addr.add; split <;> rfl
          obtain ⟨e1, e2⟩ := cells_take (off := a.off + m * k) hb hblk hoff r1
          obtain ⟨xs, s1, s2⟩ := he H enc sp n cs' y r2 (Nat.le_trans ((Bulk.sl H _ _).2 y.1 (by
            first | exact List.mem_map_of_mem (List.mem_of_getElem? r3) | exact List.mem_of_getElem? r3)) hw)
          refine ⟨rows ++ [xs], ?_, by simp [q2], ?_⟩
          · have e3 : (c.toList.drop a.off).take ((m + 1) * k) = (c.toList.drop a.off).take (m * k) ++ cs' := by
              rw [e1, Nat.add_mul, Nat.one_mul, ← List.drop_drop, List.take_add]
            rw [e3, List.flatten_append]
            refine q1.append ?_
            simpa using s1
          · intro r hr
            rcases List.mem_append.1 hr with h4 | h4
            · exact q3 r h4
            · simp only [List.mem_singleton] at h4
              subst h4
              refine ⟨?_, s2⟩
              rw [s1.length]
              unfold World.cells? at r1
              rw [if_pos (Nat.zero_le _)] at r1
              have := mapM_some_length r1
              simpa using this
      obtain ⟨rows, q1, q2, q3⟩ := key len (Nat.le_refl _)
      have hfl : rows.flatten.length = len * k := by
        have : ∀ (rows : List (List AV)), (∀ r ∈ rows, r.length = k) → rows.flatten.length = rows.length * k := by
          intro rows
          induction rows with
          | nil => intro _; simp
          | cons r rs ih => intro h; rw [List.flatten_cons, List.length_append, ih (fun x hx => h x (by simp [hx])), h r (by simp), List.length_cons, Nat.add_mul]; omega
        rw [this rows (fun r hr => (q3 r hr).1), q2]
      obtain ⟨b, off, spot⟩ := a
      simp only at hsp hb q1
      subst hsp
      refine ⟨[.im k rows.flatten], .cons (.im (n := len) hb (nblk _) ⟨fun h => h, VRL.no_nil q1⟩ hfl.symm hlc ?_) .nil, rows, rfl, by rw [q2]; exact hsz, q3⟩
      rw [hfl]; exact q1

/-- Values that read at a type are such abstract values. -/
def RdVU (P : Program) (W : World) (t : TypeId) (S : AV → Prop) : Prop :=
  ∀ (H : Type) (enc : TypeId × Value → H) (base : Nat) (v : Value) (d : DataW H) (p : List MemPlace), Value.okWide P W .any base t v → DataW.Trod enc P W 0 (fun _ => true) true t v d p →
    Bulk.bk d ≤ bkM → ∃ x, VR F0 [] W x v ∧ S x

theorem RdVU.flat {t : TypeId} {S : List AV → Prop} {S' : AV → Prop} (hf : flatT P t = true) (h : RdU P W t S) (hs : ∀ xs, S xs → ∃ x, xs = [x] ∧ S' x) : RdVU P W t S' := by
  intro H enc base v d p hok ⟨fuel, hx⟩ hw
  obtain ⟨xs, h1, h2⟩ := h H enc _ fuel _ _ hx hw
  obtain ⟨x, rfl, h3⟩ := hs xs h2
  refine ⟨x, ?_, h3⟩
  have hc : v.cells.toList = [v] := by
    unfold Value.cells
    split
    · exact (okWide_flat hf hok).elim
    · rfl
  rw [hc] at h1
  cases h1 with
  | cons a _ => exact a

theorem RdVU.struct {t : TypeId} {fs : Array Field} {S : List AV → Prop} {S' : AV → Prop} (ht : P.underlying t = some (.struct fs)) (h : RdU P W t S) (hs : ∀ xs, S xs → S' (.agg xs)) : RdVU P W t S' := by
  intro H enc base v d p hok ⟨fuel, hx⟩ hw
  obtain ⟨xs, h1, h2⟩ := h H enc _ fuel _ _ hx hw
  obtain ⟨cs, rfl, _⟩ := okWide_struct ht hok
  exact ⟨.agg xs, .agg h1, hs xs h2⟩

theorem rv_sliceU {t e : TypeId} {S : List AV → Prop} {k : Nat} (ht : P.underlying t = some (.slice e)) (hc : P.cellsOf e = k) (hk : 0 < k) (he : RdU P W e S) :
    RdVU P W t (fun x => ∃ rows : List (List AV), x = .im k rows.flatten ∧ rows.length ≤ bkM ∧ ∀ r ∈ rows, r.length = k ∧ S r) :=
  RdVU.flat (by unfold flatT; rw [ht]) (rd_sliceU ht hc hk he) fun xs ⟨n, h1, h2⟩ => ⟨_, h1, n, rfl, h2⟩
theorem rv_structU {t : TypeId} {fs : Array Field} {Ss : List (List AV → Prop)} (ht : P.underlying t = some (.struct fs)) (hp : packed P fs.toList 0 = some (P.cellsOf t)) (h : RdFU P W fs.toList Ss) :
    RdVU P W t (fun x => ∃ parts : List (List AV), x = .agg parts.flatten ∧ All2 Ss parts) :=
  RdVU.struct ht (rd_structU ht hp h) fun xs ⟨parts, h1, h2⟩ => ⟨parts, by rw [h1], h2⟩

def RdVsU (P : Program) (W : World) : List TypeId → List (AV → Prop) → Prop
  | [], [] => True
  | t :: ts, S :: Ss => RdVU P W t S ∧ RdVsU P W ts Ss
  | _, _ => False
theorem args_openU {H : Type} {enc : TypeId × Value → H} {base : Nat} : ∀ {ts : List TypeId} {Ss : List (AV → Prop)} {vs : List Value} {ds : List (DataW H)} {p : List MemPlace}, RdVsU P W ts Ss →
    (∀ (j : Nat) t v, ts[j]? = some t → vs[j]? = some v → Value.okWide P W .any base t v) → DataW.TrodAll enc P W 0 (fun _ => true) true ts vs ds p → (∀ d ∈ ds, Bulk.bk d ≤ bkM) →
    ∃ xs, VRL F0 [] W xs vs ∧ All1 Ss xs
  | [], [], _, _, _, _, _, hA, _ => by
    obtain ⟨rfl, rfl, rfl⟩ := trodAll_nil hA
    exact ⟨[], .nil, trivial⟩
  | [], _ :: _, _, _, _, h, _, _, _ => h.elim
  | _ :: _, [], _, _, _, h, _, _, _ => h.elim
  | t :: ts, S :: Ss, _, _, _, ⟨h1, h2⟩, hok, hA, hw => by
    obtain ⟨v, vs1, d, ds1, a, b, rfl, rfl, rfl, g1, g2⟩ := trodAll_cons hA
    have w1 := hw d (by simp)
    have w2 : ∀ d ∈ ds1, Bulk.bk d ≤ bkM := fun d hd => hw d (by simp [hd])
    obtain ⟨x, k1, k2⟩ := h1 H enc base v d a (hok 0 t v rfl rfl) g1 w1
    obtain ⟨xs, k3, k4⟩ := args_openU h2 (fun j t' v' hj hv => hok (j + 1) t' v' (by simpa using hj) (by simpa using hv)) g2 w2
    exact ⟨x :: xs, .cons k1 k3, k2, k4⟩

def Lf.okU : Lf → AV → Prop
  | .int k, x => ∃ n : Int, x = .sc (.int k n) ∧ k.min ≤ n ∧ n ≤ k.max
  | .bool, x => ∃ b : Bool, x = .sc (.bool b)
  | .str, x => ∃ s : ByteArray, x = .sc (.string s) ∧ s.size ≤ bkM
def FitU : List Lf → List AV → Prop
  | [], xs => xs = []
  | l :: ls, xs => ∃ x ys, xs = x :: ys ∧ l.okU x ∧ FitU ls ys
theorem FitU.append : ∀ {ls ms : List Lf} {xs ys : List AV}, FitU ls xs → FitU ms ys → FitU (ls ++ ms) (xs ++ ys)
  | [], _, _, _, h, h' => by simp only [FitU] at h; subst h; exact h'
  | l :: ls, _, _, _, ⟨x, zs, e, h1, h2⟩, h' => by subst e; exact ⟨x, zs ++ _, rfl, h1, FitU.append h2 h'⟩
theorem FitU.all2 : ∀ {lss : List (List Lf)} {parts : List (List AV)}, All2 (lss.map FitU) parts → FitU lss.flatten parts.flatten
  | [], [], _ => rfl
  | [], _ :: _, h => h.elim
  | _ :: _, [], h => h.elim
  | ls :: lss, p :: ps, ⟨h1, h2⟩ => by rw [List.flatten_cons, List.flatten_cons]; exact FitU.append h1 (FitU.all2 h2)
theorem FitU.rep {ls : List Lf} : ∀ {rows : List (List AV)}, (∀ r ∈ rows, FitU ls r) → FitU (List.replicate rows.length ls).flatten rows.flatten
  | [], _ => rfl
  | r :: rows, h => by
    rw [List.length_cons, List.replicate_succ, List.flatten_cons, List.flatten_cons]
    exact FitU.append (h r (by simp)) (FitU.rep fun x hx => h x (by simp [hx]))

theorem rd_arrayU {t e : TypeId} {n : Nat} {ls : List Lf} (ht : P.underlying t = some (.array n e)) (hsz : P.cellsOf t = n * P.cellsOf e) (he : RdU P W e (FitU ls)) : RdU P W t (FitU (List.replicate n ls).flatten) := by
  intro H enc sp fuel cs x h hw
  obtain ⟨xs, m, rfl, rfl, hl, hn, hi⟩ := DataW.trod_array ht h
  have hw : ∀ y ∈ xs, Bulk.bk y.1 ≤ bkM := fun y hy => Nat.le_trans (Bulk.agg H _ y.1 (List.mem_map_of_mem hy)) hw
  have key : ∀ j, j ≤ n → ∃ rows : List (List AV), VRL F0 [] W rows.flatten (cs.take (j * P.cellsOf e)) ∧ rows.length = j ∧ ∀ r ∈ rows, FitU ls r := by
    intro j
    induction j with
    | zero => intro _; exact ⟨[], by simpa using VRL.nil, rfl, by simp⟩
    | succ j ih =>
      intro hj
      obtain ⟨rows, q1, q2, q3⟩ := ih (by omega)
      have h1 := hi j (by omega)
      rw [List.getElem?_eq_getElem (by omega)] at h1
      obtain ⟨ys, s1, s2⟩ := he H enc sp m _ _ h1 (hw _ (List.getElem_mem _))
      refine ⟨rows ++ [ys], ?_, by simp [q2], fun r hr => ?_⟩
      · have e3 : cs.take ((j + 1) * P.cellsOf e) = cs.take (j * P.cellsOf e) ++ (cs.drop (j * P.cellsOf e)).take (P.cellsOf e) := by
          rw [Nat.add_mul, Nat.one_mul, List.take_add]
        rw [e3, List.flatten_append]
        exact q1.append (by simpa using s1)
      · rcases List.mem_append.1 hr with h4 | h4
        · exact q3 r h4
        · simp only [List.mem_singleton] at h4; subst h4; exact s2
  obtain ⟨rows, q1, q2, q3⟩ := key n (Nat.le_refl _)
  refine ⟨rows.flatten, ?_, by rw [← q2]; exact FitU.rep q3⟩
  rwa [List.take_of_length_le (by rw [hl, hsz]; exact Nat.le_refl _)] at q1

mutual
theorem rd_leavesU : ∀ (d : Nat) (t : TypeId) (ls : List Lf), leaves P d t = some ls → RdU P W t (FitU ls)
  | 0, t, ls, h => by simp [leaves] at h
  | d + 1, t, ls, h => by
    simp only [leaves] at h
    split at h
    · rename_i k hu; injection h with h; subst h
      exact RdU.mono (rd_intU hu) fun xs ⟨n, e, h1⟩ => ⟨_, [], e, ⟨n, rfl, h1⟩, rfl⟩
    · rename_i hu; injection h with h; subst h
      exact RdU.mono (rd_boolU hu) fun xs ⟨b, e⟩ => ⟨_, [], e, ⟨b, rfl⟩, rfl⟩
    · rename_i hu; injection h with h; subst h
      exact RdU.mono (rd_stringU hu) fun xs ⟨s, e, h1⟩ => ⟨_, [], e, ⟨s, rfl, h1⟩, rfl⟩
    · rename_i fs hu
      split at h
      · rename_i c hc
        cases hb : Nat.beq c (P.cellsOf t)
        · rw [hb] at h; simp at h
        · rw [hb] at h; simp only [cond_true] at h
          have := Nat.eq_of_beq_eq_true hb; subst this
          split at h
          · rename_i lss hl; injection h with h; subst h
            exact RdU.mono (rd_structU hu hc (rd_leavesFU d fs.toList lss hl)) fun xs ⟨parts, e, h1⟩ => by subst e; exact FitU.all2 h1
          · simp at h
      · simp at h
    · rename_i n e hu
      cases hb : Nat.beq (P.cellsOf t) (n * P.cellsOf e)
      · rw [hb] at h; simp at h
      · rw [hb] at h; simp only [cond_true] at h
        have hsz := Nat.eq_of_beq_eq_true hb
        split at h
        · rename_i ls' hl; injection h with h; subst h
          exact rd_arrayU hu hsz (rd_leavesU d e ls' hl)
        · simp at h
    · simp at h
theorem rd_leavesFU : ∀ (d : Nat) (fs : List Field) (lss : List (List Lf)), leavesF P d fs = some lss → RdFU P W fs (lss.map FitU)
  | 0, fs, lss, h => by simp [leavesF] at h
  | d + 1, [], lss, h => by simp only [leavesF, Option.some.injEq] at h; subst h; exact RdFU.nil
  | d + 1, f :: fs, lss, h => by
    simp only [leavesF] at h
    split at h
    · rename_i ls hl; split at h
      · rename_i lss' hls; injection h with h; subst h
        exact RdFU.cons (rd_leavesU d f.type ls hl) (rd_leavesFU d fs lss' hls)
      · simp at h
    · simp at h
end
theorem RdVU.mono' {t : TypeId} {S S' : AV → Prop} (h : RdVU P W t S) (hs : ∀ x, S x → S' x) : RdVU P W t S' := fun H enc base v d p h1 h2 h3 => by
  obtain ⟨x, h4, h5⟩ := h H enc base v d p h1 h2 h3
  exact ⟨x, h4, hs x h5⟩
theorem law_rowU {C : Checked} {os : Os} {k : FuncId} {fn : Func} {s : ChangeSpec} {S : OpenSpec} {kd : (H : Type) → List (DataW H) → Bool} {F : Stop.Interp} {dom : List PathCond} {tb : TypeId} {H : Type} {enc : TypeId × Value → H} {Ss : List (AV → Prop)} (hS : S = { OpenSpec.ofChange s with cond := some kd })
    (hkd : ∀ ds : List (DataW H), kd H ds = true → ∀ d ∈ ds, Bulk.bk d ≤ bkM)
    (own : ownKnob C.prog.godebug = none) (started : os.Started) (noInit : C.prog.inits.idxOf? k = none) (hfn : C.prog.funcs[k]? = some fn)
    (witness : ∃ (w : World) (tape : Tape) (i : Input), w.os = os ∧ (w.forCall tape i).Shaped C.prog ∧ i.vars = [] ∧ Input.okWide C.prog (w.forCall tape i) .any w.heap.size k i ∧
      S.pre6 enc C.prog fn dom false (w.forCall tape i).memory i.args ∧ ({} : Assume).holds C.prog (lone (Frame.enter C.prog k i.args .normal) [] (w.forCall tape i)))
    (hvars : s.vars = []) (hres : fn.resultTypes = #[tb]) (htb : C.prog.underlying tb = some .bool)
    (hs : ∀ ds : List (DataW H), ds.length = fn.params.size → s.fn H ds = { results := [.lit (.bool true)], args := ds })
    (hl : laidOutB C.prog = true) (hpar : fn.params.toList.all (fun t => C.prog.readableRec t && decide (t < C.prog.types.size)) = true)
    (hT : ∀ W, TB [] W) (hrd : ∀ W, RdVsU C.prog W fn.params.toList Ss) (hspec : ∀ xs, All1 Ss xs → Spec0 C.prog k xs (.sc (.bool true))) :
    ReturnsInHanded {} C os k .any (S.pre6 enc C.prog fn dom false) ((S.at F).post enc C.prog fn false true false false) := by
  subst hS
  refine returnsInHanded_of_cond (C := C) (k := kd) rfl own started noInit hfn witness ?_
  intro W base args ds gs before hval hW _ hk _
  have hW' := hW
  obtain ⟨p, q, hA, hV, rfl, hfz, hnd⟩ := hW
  have hV0 : DataW.TrodVars enc C.prog W (fun _ => true) s.vars gs q := hV
  rw [hvars] at hV0
  obtain ⟨rfl, rfl⟩ := trodVars_none hV0
  have hpar' : ∀ t ∈ fn.params.toList, C.prog.readableRec t = true ∧ t < C.prog.types.size := fun t ht => by
    have := List.all_eq_true.1 hpar t ht
    simpa using this
  obtain ⟨hlt, hvl, hdl⟩ := TrodAll.lt hA
  rw [List.append_nil] at hk
  have hw := hkd ds hk
  obtain ⟨xs, h1, h2⟩ := args_openU (hrd W) (fun j t v hj hv => hval j t v (by simpa using hj) (by simpa using hv)) hA hw
  have h0 : HR F0 [] [] W := ⟨rfl, fun o b base esz tot h => by simp at h, fun o h => by simp at h, fun o x h => by simp at h, fun o o' b base esz tot _ _ _ h => by simp at h,
    fun b ⟨_, _, _, _, h⟩ => by simp at h, fun b h => h.elim, hT W⟩
  refine (hspec xs h2 F0 [] W args h0 h1).mono fun e W' ⟨x, v, hp', μ', he, ⟨hx, hh⟩, hr, hv, hf⟩ => ?_
  subst he; subst hx; subst hh
  have hm : μ' = [] := List.length_eq_zero_iff.1 hr.len
  subst hm
  have hv' := hv.sc_inv
  subst hv'
  have hsd : s.fn H (ds ++ []) = { results := [.lit (.bool true)], args := ds } := by rw [List.append_nil]; exact hs ds (by simpa using hdl)
  refine ⟨_, rfl, ds, [], p ++ [], [], p, [], hW', ?_, ?_, ?_, hf.frame _, fun h => by cases h⟩
  · show DataW.TrodAll _ _ _ _ _ _ _ _ (s.fn H (ds ++ [])).results _
    rw [hsd, hres]
    exact trodAll_mk1 (shut_bool htb _)
  · show DataW.TrodAll _ _ _ _ _ _ _ _ (s.fn H (ds ++ [])).args _
    rw [hsd]
    exact hf.trodAll hl hpar' hlt hA
  · show DataW.TrodVars _ _ _ _ s.vars (s.fn H (ds ++ [])).vars _
    rw [hsd, hvars]
    exact rfl
end Go.SL
