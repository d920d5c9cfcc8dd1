/-
  slices.SortFunc on an own row of structs, by the kit's contract: a permutation of what the row held, sorted.
-/
import Derived.Test.YtlfedjannhceaaaSdU2
import Derived.Shelf.SlSortCmp.WholeK
set_option linter.unusedVariables false
set_option linter.unusedSimpArgs false
set_option linter.unusedSectionVars false
namespace Go.SL
open Go Go.Proofs
open Go.Sort (flatK HoldsK get_flatK size_flatK)
variable [Tabs]
variable {P : Program} {α : Type} [Inhabited α] {F : Nat → Prop} {μ : List Nm} {w : World} {hp : List AObj}

/-- Cells that are plain values. -/
def scs (vs : List Value) : List AV := vs.map .sc
theorem VRL.scs : ∀ {vs us : List Value}, VRL F μ w (SL.scs vs) us → us = vs
  | [], us, h => by cases h; rfl
  | v :: vs, us, h => by
    cases h with
    | cons h1 h2 =>
      cases h1
      rw [VRL.scs h2]
theorem scs.rel : ∀ {vs : List Value}, (∀ v ∈ vs, plainV v = true) → VRL F μ w (scs vs) vs
  | [], _ => .nil
  | v :: vs, h => .cons (.sc (h v (by simp))) (scs.rel fun u hu => h u (by simp [hu]))
theorem scs_flat (enc : α → List Value) : ∀ L : List α, L.flatMap (fun a => scs (enc a)) = scs (L.flatMap enc)
  | [] => rfl
  | a :: L => by
    rw [List.flatMap_cons, scs_flat enc L, List.flatMap_cons]
    simp only [scs, List.map_append]
theorem flat_len {enc : α → List Value} {k : Nat} (hk : ∀ x, (enc x).length = k) : ∀ L : List α, (L.flatMap enc).length = L.length * k
  | [] => by simp
  | a :: L => by simp only [List.flatMap_cons, List.length_append, hk, flat_len hk L, List.length_cons, Nat.succ_mul]; omega
theorem flat_get {enc : α → List Value} {k : Nat} (hk : ∀ x, (enc x).length = k) (k0 : 0 < k) : ∀ (L : List α) (j : Nat), j < L.length * k → (L.flatMap enc)[j]? = some ((enc L.toArray[j / k]!)[j % k]!)
  | [], j, h => by simp at h
  | a :: L, j, h => by
    rw [List.flatMap_cons]
    by_cases hj : j < k
    · rw [List.getElem?_append_left (by rw [hk]; exact hj), Nat.div_eq_of_lt hj, Nat.mod_eq_of_lt hj]
      have : j < (enc a).length := by rw [hk]; exact hj
      simp [List.getElem?_eq_getElem this, this]
    · rw [List.getElem?_append_right (by rw [hk]; omega), hk, flat_get hk k0 L (j - k) (by simp [Nat.succ_mul] at h; omega)]
      have e1 : j / k = (j - k) / k + 1 := by
        have : j = (j - k) + k := by omega
        conv => lhs; rw [this, Nat.add_div_right _ k0]
      have e2 : j % k = (j - k) % k := by
        have : j = (j - k) + k := by omega
        conv => lhs; rw [this, Nat.add_mod_right]
      rw [e1, e2]
      simp
theorem flatK_flat {enc : α → List Value} {k : Nat} (hk : ∀ x, (enc x).length = k) (k0 : 0 < k) (d : Array α) : (flatK enc k d).toList = d.toList.flatMap enc := by
  apply List.ext_getElem?
  intro j
  by_cases h : j < d.size * k
  · rw [flat_get hk k0 _ j (by simpa using h)]
    have h' : j < (flatK enc k d).size := by simpa using h
    rw [Array.getElem?_toList, Array.getElem?_eq_getElem h']
    have := get_flatK enc k d j h
    rw [getElem!_pos _ j h'] at this
    rw [this]
  · rw [List.getElem?_eq_none (by simp; omega), List.getElem?_eq_none (by rw [flat_len hk]; simp; omega)]

theorem Spec.sort {ρ : Shelf.Ren} (Ls : SlLaysF0.n6 P ρ) (k : Nat) (k0 : 0 < k) (aE : ∀ w, (isAgg (ρ.t 24)).run P w = .ok true w) (zE : ∀ w, (Go.sizeOf (ρ.t 24)).run P w = .ok k w) (enc : α → List Value) (hk : ∀ x, (enc x).length = k)
    (h1 : ∀ x, ∀ v ∈ enc x, v.oneCell' = true) (hpl : ∀ x, ∀ v ∈ enc x, plainV v = true) (cf : α → α → Int) (hO : Sort.SWO (ltOf cf)) (g : Nat)
    (eg : ∀ args w, (callFunc g args).run P w = .ok (.enter g args) w) (hcmp : ∀ blk off size w, CmpLays P g #[] enc k cf blk off size w) {o : Nat} {L : List α}
    (ho : hp[o]? = some (.row k (L.flatMap fun a => scs (enc a)))) (hL : L ≠ []) (hsz : L.length < 4611686018427387904) :
    Spec P (ρ.f 6) [.sl o 0 L.length, .fn g [] []] hp (fun r hp' => r = .tup [] ∧ ∃ L' : List α, L'.Perm L ∧ L'.Pairwise (fun a b => ltOf cf b a = false) ∧ hp' = hp.set o (.row k (L'.flatMap fun a => scs (enc a)))) := by
  intro F μ w args hr hargs
  obtain ⟨args⟩ := args
  simp only at hargs
  cases hargs with | cons hv1 hargs =>
  cases hargs with | cons hv2 hargs =>
  cases hargs with | nil =>
  rename_i v1 v2
  have hlen : 0 < L.length := List.length_pos_iff.2 hL
  have hv2' : v2 = .func (.func g) #[] #[] := by
    cases hv2 with
    | fn q1 q2 =>
      rename_i xs ys
      have e1 : xs = #[] := by
        have := VRL.length q1; simp at this; exact Array.eq_empty_of_size_eq_zero (by simpa using this.symm)
      have e2 : ys = #[] := by
        have := VRL.length q2; simp at this; exact Array.eq_empty_of_size_eq_zero (by simpa using this.symm)
      rw [e1, e2]
  subst hv2'
  rcases hr.row ho with g2 | ⟨g2, g3⟩ | ⟨b, base, tot, c, el, fr, g2, g3, g4, g5, g6, g7⟩
  · generalize L.length = n at hv1 hlen
    cases hv1 with
    | sl h hc hll => rw [g2] at h; simp at h
    | slN h => rw [g2] at h; simp at h
    | slE h => rw [g2] at h; simp at h
    | slD h => rw [g2] at h; simp at h
  · exfalso
    have := congrArg List.length g3
    rw [scs_flat] at this
    simp only [scs, List.length_map, flat_len hk, List.length_nil] at this
    rcases Nat.mul_eq_zero.1 this with h | h <;> omega
  · rw [scs_flat] at g5 g6
    have hln : (scs (L.flatMap enc)).length = L.length * k := by simp only [scs, List.length_map, flat_len hk]
    rw [hln] at g5 g6
    have hwin : (c.toList.drop base).take (L.length * k) = L.flatMap enc := VRL.scs g6
    obtain ⟨cap, rfl⟩ : ∃ cap, v1 = .slice (some ⟨b, base + 0, none⟩) L.length cap := by
      generalize hn : L.length = n at hv1
      cases hv1 with
      | sl h hc hll =>
        rw [g2] at h
        injection h with h; injection h with e1 e2 e3 e4
        subst e1; subst e2
        exact ⟨_, rfl⟩
      | slN h => omega
      | slE h => omega
      | slD h => rw [g2] at h; simp at h
    have hH : HoldsK enc k w b (base + 0) L.toArray := by
      intro j hj
      rw [size_flatK] at hj
      have hj' : j < L.length * k := by simpa using hj
      have hc1 : c[base + j]? = some ((enc L.toArray[j / k]!)[j % k]!) := by
        have := flat_get hk k0 L j hj'
        rw [← hwin, List.getElem?_take, if_pos hj', List.getElem?_drop] at this
        simpa using this
      constructor
      · rw [get_flatK enc k _ j hj]
        simp only [World.cell?, g3, Nat.add_zero]
        simpa using hc1
      · have := g7.2 (base + 0 + j) (by omega)
        obtain ⟨lo, hi⟩ := fr
        simp only at this
        simp only [World.frozen?, g3]
        simpa using this
    have hblk : b < w.heap.size := heap_lt g3
    have hcon := AnyQ.slices_SortFunc Ls k aE zE enc hk h1 cf hO g #[] b (base + 0) cap L.toArray w eg (hcmp _ _ _ _) hH hblk (by simpa using hsz)
    refine hcon.mono ?_
    rintro e w' ⟨rfl, d', m, os, hperm, hsorted, rfl⟩
    have hd : d'.size = L.length := by simpa using hperm.1
    -- the world behind it
    have hs : (sortWorldK enc k w b (base + 0) m d' os).heap = w.heap.modify b (Sort.onCells (Sort.putCells id (base + 0) (flatK enc k d'))) ++ os := rfl
    have hsize : w.heap.size ≤ (sortWorldK enc k w b (base + 0) m d' os).heap.size := by rw [hs]; simp
    have hoth : ∀ q, q < w.heap.size → q ≠ b → (sortWorldK enc k w b (base + 0) m d' os).heap[q]? = w.heap[q]? := by
      intro q hq hne
      rw [hs, Array.getElem?_append_left (by simpa using hq), Array.getElem?_modify, if_neg (fun h => hne h.symm)]
    have hthe : (sortWorldK enc k w b (base + 0) m d' os).heap[b]? = some (.cells (Sort.putCells id (base + 0) (flatK enc k d') c) el fr) := by
      rw [hs, Array.getElem?_append_left (by simpa using hblk), Array.getElem?_modify, if_pos rfl, g3]
      rfl
    have hF : Fr μ w μ (sortWorldK enc k w b (base + 0) m d' os) := ⟨hsize, fun q hq hn => hoth q hq (fun h => hn (h ▸ ⟨o, base, k, tot, g2⟩)), fun q hq => .inl hq, fun o nm h => .inl h, Nat.le_refl _, rfl, rfl⟩
    refine ⟨.tup [], .tuple #[], hp.set o (.row k (d'.toList.flatMap fun a => scs (enc a))), μ, rfl, ⟨rfl, d'.toList, ?_, ?_, rfl⟩, ?_, .tup .nil, hF⟩
    · have := hperm.2.2
      have e : d'.toList.take L.length = d'.toList := List.take_of_length_le (by simp [hd])
      simp at this
      rwa [e] at this
    · rw [List.pairwise_iff_getElem]
      intro i j hi hj hij
      have := hsorted i j (Nat.zero_le _) hij (by simp at hj; simpa [hd] using hj)
      simp at hi hj
      rw [getElem!_pos _ j hj, getElem!_pos _ i hi] at this
      simpa using this
    · have hob : ∀ o', o' ≠ o → (hp.set o (.row k (d'.toList.flatMap fun a => scs (enc a))))[o']? = hp[o']? := fun o' h => by rw [List.getElem?_set_ne (fun h' => h h'.symm)]
      have hlt : o < hp.length := by
        rcases Nat.lt_or_ge o hp.length with h | h
        · exact h
        · rw [List.getElem?_eq_none h] at ho; simp at ho
      refine ⟨by simp [hr.len], fun o' b' base' esz' tot' h' => ?_, fun o' h' => ?_, fun o' x h' hx => ?_, hr.inj, hr.foF hF, hr.fbF hF, hr.tbF hF⟩
      · by_cases hoo : o' = o
        · subst hoo
          rw [g2] at h'
          injection h' with h'; injection h' with e1 e2 e3 e4
          subst e1; subst e2; subst e3; subst e4
          refine ⟨_, _, by rw [List.getElem?_set_self hlt], hthe, ?_⟩
          have hln' : (scs (d'.toList.flatMap enc)).length = L.length * k := by simp only [scs, List.length_map, flat_len hk]; simp [hd]
          refine .row (by simpa [Sort.putCells] using g4) (by rw [scs_flat, hln']; exact g5) ?_ g7
          rw [scs_flat, hln']
          have hwin' : ((Sort.putCells id (base + 0) (flatK enc k d') c).toList.drop base).take (L.length * k) = d'.toList.flatMap enc := by
            rw [← flatK_flat hk k0 d']
            apply List.ext_getElem?
            intro j
            by_cases hj : j < L.length * k
            · rw [List.getElem?_take, if_pos hj, List.getElem?_drop, Array.getElem?_toList, Array.getElem?_toList]
              have hb : base + j < c.size := by omega
              have hfk : j < (flatK enc k d').size := by rw [size_flatK, hd]; exact hj
              simp only [Sort.putCells, Array.getElem?_mapIdx, Array.getElem?_eq_getElem hb, Option.map_some, id]
              rw [if_pos ⟨by omega, by rw [size_flatK, hd]; omega⟩, Array.getElem?_eq_getElem hfk]
              congr 1
              rw [show base + j - (base + 0) = j by omega, getElem!_pos _ j hfk]
            · rw [List.getElem?_eq_none (by simp; omega), List.getElem?_eq_none (by simp [hd]; omega)]
          rw [hwin']
          exact scs.rel fun v hv => by
            obtain ⟨a, _, ha⟩ := List.mem_flatMap.1 hv
            exact hpl a v ha
        · obtain ⟨x, y, q1, q2, q3⟩ := hr.obj o' b' base' esz' tot' h'
          refine ⟨x, y, by rw [hob o' hoo]; exact q1, ?_, q3.mono hF⟩
          rw [hoth b' (heap_lt q2) (fun h => hoo (hr.inj _ _ _ _ _ _ _ _ _ h' (h ▸ g2)))]
          exact q2
      · obtain ⟨esz, q⟩ := hr.em o' h'
        have hne : o' ≠ o := fun h => by rw [h, g2] at h'; simp at h'
        exact ⟨esz, by rw [hob o' hne]; exact q⟩
      · by_cases hoo : o' = o
        · subst hoo; rw [g2]; simp
        · rw [hob o' hoo] at h'
          exact hr.live o' x h' hx
end Go.SL
