/-
  Rows that list tables: as law_lift and law_row, with what is told of the start.
-/
import Derived.Test.YtbimmnnjnlfddaaDoorSlX
import Derived.Handed
import Derived.OpenShut
set_option linter.unusedVariables false
set_option linter.unusedSimpArgs false
set_option linter.unusedSectionVars false
namespace Go.SL
open Go Go.ChangeShapes Go.WideShapes Go.ChangeAt Go.RowKit
variable [Tabs]
/-- A law that reads no variable: its row, by its call. -/
theorem law_liftX {H : Type} {enc : TypeId × Value → H} {X : World → Array Value → Prop} (hX : ∀ (w w' : World) (args : Array Value), w.heap = w'.heap → X w args → X w' args) {C : Checked} {os : Os} {k : FuncId} {fn : Func} {s : ChangeSpec} {dom : List PathCond} {tb : TypeId} (own : ownKnob C.prog.godebug = none) (started : os.Started) (noInit : C.prog.inits.idxOf? k = none) (hfn : C.prog.funcs[k]? = some fn)
    (witness : ∃ (w : World) (tape : Tape) (i : Input), w.os = os ∧ (w.forCall tape i).Shaped C.prog ∧ i.vars = [] ∧ Input.okWide C.prog (w.forCall tape i) .any w.heap.size k i ∧
      ((s.pre enc C.prog fn dom false (w.forCall tape i).memory i.args ∧ X (w.forCall tape i).memory i.args) ∧ sizedMet enc C.prog fn (OpenSpec.ofChange s) false (w.forCall tape i).memory i.args) ∧ ({} : Assume).holds C.prog (lone (Frame.enter C.prog k i.args .normal) [] (w.forCall tape i)))
    (hvars : s.vars = []) (hres : fn.resultTypes = #[tb]) (htb : C.prog.underlying tb = some .bool)
    (hs : ∀ ds : List (DataW H), ds.length = fn.params.size → s.fn H ds = { results := [.lit (.bool true)], args := ds })
    (hl : laidOutB C.prog = true) (hpar : fn.params.toList.all (fun t => C.prog.readableRec t && decide (t < C.prog.types.size)) = true)
    (hcall : ∀ (W : World) (base : Nat) (args : Array Value) (ds : List (DataW H)) (p : List MemPlace), (∀ (j : Nat) t v, fn.params[j]? = some t → args[j]? = some v → Value.okWide C.prog W .any base t v) →
      DataW.TrodAll enc C.prog W 0 (fun _ => true) true fn.params.toList args.toList ds p → (∀ n ∈ DataW.weightsEach C.prog fn.params.toList ds, n ≤ reachBytes) → X W args →
      Calls C.prog k args W fun e W' => e = .returned (.bool true) ∧ Fr [] W [] W') :
    ReturnsInHanded {} C os k .any (fun w args => (s.pre enc C.prog fn dom false w args ∧ X w args) ∧ sizedMet enc C.prog fn (OpenSpec.ofChange s) false w args) (s.post enc C.prog fn false true false false) := by
  refine returnsInHanded_of_change_and (C := C) (X := X) hX own started noInit hfn witness ?_
  intro W base args ds gs before hval hW _ hsz hx _
  have hW' := hW
  obtain ⟨p, q, hA, hV, rfl, hfz, hnd⟩ := hW
  rw [hvars] at hV
  obtain ⟨rfl, rfl⟩ := trodVars_none hV
  have hpar' : ∀ t ∈ fn.params.toList, C.prog.readableRec t = true ∧ t < C.prog.types.size := fun t ht => by
    have := List.all_eq_true.1 hpar t ht
    simpa using this
  obtain ⟨hlt, hvl, hdl⟩ := TrodAll.lt hA
  have hw : ∀ n ∈ DataW.weightsEach C.prog fn.params.toList ds, n ≤ reachBytes := by
    intro n hn
    have h0 : s.plain.varTypes C.prog = [] := by simp [ChangeSpec.plain, DataSpec.varTypes, hvars]
    rw [h0, List.append_nil, List.append_nil] at hsz
    simpa using List.all_eq_true.1 hsz n hn
  refine (hcall W base args ds p hval hA hw hx).mono fun e W' ⟨he, hf⟩ => ?_
  subst he
  have hsd : s.fn H (ds ++ []) = { results := [.lit (.bool true)], args := ds } := by rw [List.append_nil]; exact hs ds (by simpa using hdl)
  refine ⟨_, rfl, ds, [], p ++ [], [], p, [], hW', ?_, ?_, ?_, hf.frame _, fun h => by cases h⟩
  · rw [hsd, hres]
    exact trodAll_mk1 (shut_bool htb _)
  · rw [hsd]
    exact hf.trodAll hl hpar' hlt hA
  · rw [hsd, hvars]
    exact rfl

theorem law_rowX {X : World → Array Value → Prop} (hX : ∀ (w w' : World) (args : Array Value), w.heap = w'.heap → X w args → X w' args) {C : Checked} {os : Os} {k : FuncId} {fn : Func} {s : ChangeSpec} {dom : List PathCond} {tb : TypeId} {H : Type} {enc : TypeId × Value → H} {Ss : List (AV → Prop)} (own : ownKnob C.prog.godebug = none) (started : os.Started) (noInit : C.prog.inits.idxOf? k = none) (hfn : C.prog.funcs[k]? = some fn)
    (witness : ∃ (w : World) (tape : Tape) (i : Input), w.os = os ∧ (w.forCall tape i).Shaped C.prog ∧ i.vars = [] ∧ Input.okWide C.prog (w.forCall tape i) .any w.heap.size k i ∧
      ((s.pre enc C.prog fn dom false (w.forCall tape i).memory i.args ∧ X (w.forCall tape i).memory i.args) ∧ sizedMet enc C.prog fn (OpenSpec.ofChange s) false (w.forCall tape i).memory i.args) ∧ ({} : Assume).holds C.prog (lone (Frame.enter C.prog k i.args .normal) [] (w.forCall tape i)))
    (hvars : s.vars = []) (hres : fn.resultTypes = #[tb]) (htb : C.prog.underlying tb = some .bool)
    (hs : ∀ ds : List (DataW H), ds.length = fn.params.size → s.fn H ds = { results := [.lit (.bool true)], args := ds })
    (hl : laidOutB C.prog = true) (hpar : fn.params.toList.all (fun t => C.prog.readableRec t && decide (t < C.prog.types.size)) = true)
    (hT : ∀ W args, X W args → TB [] W) (hrd : ∀ W, RdVs C.prog W fn.params.toList Ss) (hspec : ∀ xs, All1 Ss xs → Spec0 C.prog k xs (.sc (.bool true))) :
    ReturnsInHanded {} C os k .any (fun w args => (s.pre enc C.prog fn dom false w args ∧ X w args) ∧ sizedMet enc C.prog fn (OpenSpec.ofChange s) false w args) (s.post enc C.prog fn false true false false) := by
  refine law_liftX hX own started noInit hfn witness hvars hres htb hs hl hpar fun W base args ds p hval hA hw hx => ?_
  obtain ⟨xs, h1, h2⟩ := args_open (hrd W) (fun j t v hj hv => hval j t v (by simpa using hj) (by simpa using hv)) hA hw
  have h0 : HR F0 [] [] W := ⟨rfl, fun o b base esz tot h => by simp at h, fun o h => by simp at h, fun o esz cells h => by simp at h, fun o o' b base esz tot _ _ _ h => by simp at h,
    fun b ⟨_, _, _, _, h⟩ => by simp at h, fun b h => h.elim, hT W args hx⟩
  refine (hspec xs h2 F0 [] W args h0 h1).mono fun e W' ⟨x, v, hp', μ', he, ⟨hx, hh⟩, hr, hv, hf⟩ => ?_
  subst he; subst hx; subst hh
  have hm : μ' = [] := List.length_eq_zero_iff.1 hr.len
  subst hm
  exact ⟨by rw [hv.sc_inv], hf⟩

omit [Tabs] in
theorem int_at {P : Program} {w : World} {fuel : Nat} {t : TypeId} {k : IntKind} {c : Value} {y : DataW Unit × List MemPlace} (ht : P.underlying t = some (.int k)) (h : DataW.trod (fun _ => ()) P w 0 (fun _ => true) false fuel t [c] = some y) :
    ∃ n, c = .int k n ∧ y = (.lit (.int k n), []) := by
  cases fuel with
  | zero => simp [DataW.trod] at h
  | succ fuel =>
    cases c <;> simp [DataW.trod, ht] at h
    rename_i k' n
    obtain ⟨⟨rfl, _⟩, rfl⟩ := h
    exact ⟨n, rfl, rfl⟩
omit [Tabs] in
/-- What a table of numbers holds, from what it reads as. -/
theorem tab_of_trod {P : Program} {W : World} {fuel : Nat} {t e : TypeId} {n : Nat} {k : IntKind} {cs : List Value} {zs : List Int} {p : List MemPlace} (ht : P.underlying t = some (.array n e)) (he : P.underlying e = some (.int k)) (c1 : P.cellsOf e = 1) (ct : P.cellsOf t = n)
    (h : DataW.trod (fun _ => ()) P W 0 (fun _ => true) false fuel t cs = some (.agg (zs.map fun z => .lit (.int k z)), p)) : cs = zs.map (.int k) := by
  obtain ⟨xs, m, rfl, hx, hl, hxn, hi⟩ := DataW.trod_array ht h
  injection hx with hx _
  injection hx with hx
  rw [ct] at hl
  rw [c1] at hi
  have hz : zs.length = n := by rw [← hxn, ← List.length_map (f := fun z => (DataW.lit (.int k z) : DataW Unit)), hx, List.length_map]
  refine List.ext_getElem? fun i => ?_
  rcases Nat.lt_or_ge i n with hlt | hge
  · have h1 := hi i hlt
    have h2 : (cs.drop (i * 1)).take 1 = [cs[i]'(by omega)] := by
      rw [Nat.mul_one, List.drop_eq_getElem_cons (by omega)]; rfl
    rw [h2, List.getElem?_eq_getElem (by omega)] at h1
    obtain ⟨z, hz1, hz2⟩ := int_at he h1
    have h3 := congrArg (fun l => l[i]?) hx
    simp only [List.getElem?_map] at h3
    rw [List.getElem?_eq_getElem (show i < xs.length by omega), hz2, List.getElem?_eq_getElem (show i < zs.length by omega)] at h3
    simp only [Option.map_some, Option.some.injEq] at h3
    injection h3 with h3
    injection h3 with _ h3
    rw [List.getElem?_eq_getElem (show i < cs.length by omega), hz1, List.getElem?_map, List.getElem?_eq_getElem (show i < zs.length by omega), h3]; rfl
  · rw [List.getElem?_eq_none (by omega), List.getElem?_eq_none (by simp; omega)]
end Go.SL
