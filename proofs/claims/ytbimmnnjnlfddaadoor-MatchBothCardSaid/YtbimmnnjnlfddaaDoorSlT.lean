/-
  Bytes once more: sub-slices of own bytes, growing own bytes, rows that are named anew.
-/
import Derived.Test.YtbimmnnjnlfddaaDoorSlS
set_option linter.unusedSimpArgs false
set_option linter.unnecessarySimpa false
set_option linter.unusedVariables false
set_option linter.unusedSectionVars false
namespace Go.SL
open Go
variable [Tabs]

variable {P : Program} {n : Nat} {env : Nat → AV} {hp hp' hp0 : List AObj} {ops : Array Oper} {K : Exit → SS → Prop}
variable {dst : Option Nat} {ty : TypeId} {pos : String} {after : Array Edge} {guard : Option (Nat × Bool)}

theorem W.heap {c : Code} (hp' : List AObj) (hh : hp = hp') (h : W P n c K ⟨env, hp'⟩) : W P n c K ⟨env, hp⟩ := by subst hh; exact h
theorem WO.heap {l : List Nat} (hp' : List AObj) (hh : hp = hp') (h : WO P n ops l K ⟨env, hp'⟩) : WO P n ops l K ⟨env, hp⟩ := by subst hh; exact h
theorem DC.heap {Td : TR → TR} {l : List Oper} (hp' : List AObj) (hh : hp = hp') (h : DC P n ops K hp0 Td l hp' env) : DC P n ops K hp0 Td l hp env := by subst hh; exact h

theorem DC.done {Td : TR → TR} (hs : stat ops ((Td []).map (·.2.isEf)) (mOf ops) = true) (ho : oblP (Td []) hp0 (mOf ops)) (hk : K .normal ⟨env, hp⟩) : DC P n ops K hp0 Td [] hp env := DC.nil (mOf ops) hs ho hk

def hasO (T : TR) (i : Nat) : Bool := match T[i]? with
  | some (_, .q _ O) => !O.isEmpty
  | some (_, .al _ _ _) => true
  | _ => false
def chk (T : TR) (M : List Nat) (L : List (Nat × Nat)) : Bool :=
  (List.range T.length).all fun i => !hasO T i || (List.range (efs T T.length + 1)).all fun m => !winB T M i m || L.any fun p => Nat.beq p.1 i && Nat.beq p.2 m
def oblRow (T : TR) (hp : List AObj) (m : Nat) : List (Nat × AObj) → Prop
  | [] => True
  | q :: l => (CL T hp m)[q.1]? = some q.2 ∧ oblRow T hp m l
def obl2 (T : TR) (hp : List AObj) : List (Nat × Nat) → Prop
  | [] => True
  | (i, m) :: L => oblRow T hp m (obsAt T hp i) ∧ obl2 T hp L
theorem oblRow_mem {T : TR} {hp : List AObj} {m : Nat} : ∀ {l : List (Nat × AObj)}, oblRow T hp m l → ∀ q ∈ l, (CL T hp m)[q.1]? = some q.2
  | [], _, q, hq => by simp at hq
  | q' :: l, h, q, hq => by
    simp only [List.mem_cons] at hq
    rcases hq with rfl | hq
    · exact h.1
    · exact oblRow_mem h.2 q hq
theorem obl2_mem {T : TR} {hp : List AObj} : ∀ {L : List (Nat × Nat)}, obl2 T hp L → ∀ p ∈ L, oblRow T hp p.2 (obsAt T hp p.1)
  | [], _, q, hq => by simp at hq
  | (i, m) :: l, h, q, hq => by
    simp only [List.mem_cons] at hq
    rcases hq with rfl | hq
    · exact h.1
    · exact obl2_mem h.2 q hq

theorem allP_of : ∀ {l : List Prop}, (∀ p ∈ l, p) → allP l
  | [], _ => trivial
  | q :: l, h => ⟨h q (by simp), allP_of fun p hp => h p (by simp [hp])⟩

theorem oblP_of {T : TR} {hp : List AObj} {M : List Nat} {L : List (Nat × Nat)} (hc : chk T M L = true) (h : obl2 T hp L) : oblP T hp M := by
  refine allP_of fun p hp' => ?_
  rw [List.mem_flatMap] at hp'
  obtain ⟨i, hi, hp'⟩ := hp'
  rw [List.mem_flatMap] at hp'
  obtain ⟨q, hq, hp'⟩ := hp'
  rw [List.mem_map] at hp'
  obtain ⟨m, hm, rfl⟩ := hp'
  rw [List.mem_filter] at hm
  unfold chk at hc
  rw [List.all_eq_true] at hc
  have h1 := hc i hi
  have ho : hasO T i = true := by
    unfold obsAt at hq
    unfold hasO
    split at hq
    · rename_i O h2
      rw [h2]
      cases O with
      | nil => simp at hq
      | cons a b => rfl
    · rename_i h2; rw [h2]
    · simp at hq
  rw [ho, Bool.not_true, Bool.false_or, List.all_eq_true] at h1
  have h2 := h1 m hm.1
  rw [hm.2, Bool.not_true, Bool.false_or, List.any_eq_true] at h2
  obtain ⟨⟨i', m'⟩, h3, h4⟩ := h2
  rw [Bool.and_eq_true] at h4
  have e1 : i' = i := Nat.eq_of_beq_eq_true h4.1
  have e2 : m' = m := Nat.eq_of_beq_eq_true h4.2
  subst e1; subst e2
  exact oblRow_mem (obl2_mem h _ h3) q hq

theorem DC.fin {Td : TR → TR} (L : List (Nat × Nat)) (hs : stat ops ((Td []).map (·.2.isEf)) (mOf ops) = true) (hc : chk (Td []) (mOf ops) L = true) (ho : obl2 (Td []) hp0 L) (hk : K .normal ⟨env, hp⟩) : DC P n ops K hp0 Td [] hp env :=
  DC.nil (mOf ops) hs (oblP_of hc ho) hk

theorem rowLt_bytes {k e : Nat} {l : List UInt8} : rowLt k (.row e (l.map byteAV)) = true := by simp only [rowLt, noOwn_bytes, Bool.true_or]
theorem idsLt_im {k e : Nat} {l : List UInt8} : idsLt k (.im e (l.map byteAV)) = true := rfl

/-- The second row's bytes get a name. -/
theorem W.gen2 {c : Code} {r0 : AObj} (l : List UInt8) (hh : hp = [r0, .row 1 (l.map byteAV)]) (h : ∀ L, L = l → W P n c K ⟨env, [r0, .row 1 (L.map byteAV)]⟩) : W P n c K ⟨env, hp⟩ := by
  subst hh; exact h l rfl
theorem cong2 {α β γ : Type} (f : α → β → γ) {a a' : α} {b b' : β} (h : a = a') (h' : b = b') : f a b = f a' b' := by rw [h, h']

/-- The last row's bytes get a name. -/
theorem W.gen {c : Code} {pre : List AObj} {cells : List AV} (l : List UInt8) (hh : hp = pre ++ [.row 1 cells]) (hc : cells = l.map byteAV) (h : ∀ L, L = l → W P n c K ⟨env, pre ++ [.row 1 (L.map byteAV)]⟩) : W P n c K ⟨env, hp⟩ := by
  subst hh; subst hc; exact h l rfl
theorem WO.gen {li : List Nat} {pre : List AObj} {cells : List AV} (l : List UInt8) (hh : hp = pre ++ [.row 1 cells]) (hc : cells = l.map byteAV) (h : ∀ L, L = l → WO P n ops li K ⟨env, pre ++ [.row 1 (L.map byteAV)]⟩) : WO P n ops li K ⟨env, hp⟩ := by
  subst hh; subst hc; exact h l rfl
/-- One row's bytes get a name. -/
theorem W.gat {c : Code} (pre post : List AObj) (l : List UInt8) (hh : hp = pre ++ .row 1 (l.map byteAV) :: post) (h : ∀ L, L = l → W P n c K ⟨env, pre ++ .row 1 (L.map byteAV) :: post⟩) : W P n c K ⟨env, hp⟩ := by
  subst hh; exact h l rfl
theorem WO.gat {li : List Nat} (pre post : List AObj) (l : List UInt8) (hh : hp = pre ++ .row 1 (l.map byteAV) :: post) (h : ∀ L, L = l → WO P n ops li K ⟨env, pre ++ .row 1 (L.map byteAV) :: post⟩) : WO P n ops li K ⟨env, hp⟩ := by
  subst hh; exact h l rfl
theorem W.gen1 {c : Code} (l : List UInt8) (hh : hp = [.row 1 (l.map byteAV)]) (h : ∀ L, L = l → W P n c K ⟨env, [.row 1 (L.map byteAV)]⟩) : W P n c K ⟨env, hp⟩ := by
  subst hh; exact h l rfl

theorem step_subO {t e : TypeId} {x : Operand} {lo hi : Option Operand} {o off len p q a m : Nat} {cells : List AV} (ht : Und P t (.slice e)) (hs : SizeOf P e 1) (hx : opd env x = .sl o off len)
    (ho : hp[o]? = some (AObj.row 1 cells)) (hl : Bd env lo 0 p) (hh : Bd env hi len q) (h1 : p ≤ q) (h2 : q ≤ len) (ha : off + p = a) (hm : q - p = m) :
    Step P ⟨dst, .slice t x lo hi none, ty, pos, after, guard⟩ env hp (is (.sl o a m) hp) := by
  subst hm; exact step_sliceO ht hs hx ho hl hh h1 h2 ha

theorem step_subB {t e : TypeId} {x : Operand} {lo hi : Option Operand} {l l' : List UInt8} {p q m : Nat} (ht : Und P t (.slice e)) (hs : SizeOf P e 1) (hx : opd env x = .im 1 (l.map byteAV))
    (hl : Bd env lo 0 p) (hh : Bd env hi l.length q) (h1 : p ≤ q) (h2 : q ≤ l.length) (hm : q - p = m) (hl' : (l.drop p).take m = l') :
    Step P ⟨dst, .slice t x lo hi none, ty, pos, after, guard⟩ env hp (is (.im 1 (l'.map byteAV)) hp) := by
  subst hl'; subst hm; exact step_sliceB ht hs hx hl hh h1 h2

theorem step_appE {sT xT e : TypeId} {m o : Nat} {s x : Operand} {d : TypeDesc} {b : List UInt8} (ht : Und P sT (.slice e)) (hi : EI P e (.int .u8 0) 1 1) (hxt : Und P xT d) (hd : notInt d)
    (hx : opd env s = .sl o 0 0) (ho : hp[o]? = some (AObj.row 1 [])) (hs : Src P env hp 1 x m (b.map byteAV)) (hb : m ≤ 200000000000000) :
    Step P ⟨dst, .call ⟨.builtin .append, #[s, x], #[sT, xT]⟩, ty, pos, after, guard⟩ env hp (is (.sl hp.length 0 m) (hp.set o .dead ++ [.row 1 (b.map byteAV)])) := by
  have := step_append (P := P) (dst := dst) (ty := ty) (pos := pos) (after := after) (guard := guard) ht hi hxt hd hx ho rfl hs (by omega) (by decide) (by decide) rfl
  rw [Nat.zero_add] at this
  exact this

theorem step_appB {sT xT e : TypeId} {len m o k : Nat} {s x : Operand} {d : TypeDesc} {a b : List UInt8} (ht : Und P sT (.slice e)) (hi : EI P e (.int .u8 0) 1 1) (hxt : Und P xT d) (hd : notInt d)
    (hx : opd env s = .sl o 0 len) (ho : hp[o]? = some (AObj.row 1 (a.map byteAV))) (hl : len = a.length) (hs : Src P env hp 1 x m (b.map byteAV)) (hb : len + m ≤ 200000000000000) (hk : len + m = k) :
    Step P ⟨dst, .call ⟨.builtin .append, #[s, x], #[sT, xT]⟩, ty, pos, after, guard⟩ env hp (is (.sl hp.length 0 k) (hp.set o .dead ++ [.row 1 ((a ++ b).map byteAV)])) := by
  subst hk
  have := step_append (P := P) (dst := dst) (ty := ty) (pos := pos) (after := after) (guard := guard) ht hi hxt hd hx ho (by simp [hl]) hs (by omega) (by decide) (by decide) rfl
  rw [List.drop_zero, ← List.map_append] at this
  exact this

theorem step_copyS {dT sT e : TypeId} {len o off : Nat} {d s : Operand} {l : List UInt8} {b : ByteArray} (ht : Und P dT (.slice e)) (hi : EI P e (.int .u8 0) 1 1)
    (hx : opd env d = .sl o off len) (ho : hp[o]? = some (AObj.row 1 (l.map byteAV))) (hs : opd env s = .sc (.string b)) (hend : off + len ≤ l.length) (hl : b.size = len) :
    Step P ⟨dst, .call ⟨.builtin .copy, #[d, s], #[dT, sT]⟩, ty, pos, after, guard⟩ env hp (is (.sc (.int .i64 ((len : Nat) : Int))) (hp.set o (.row 1 ((splice l off b.data.toList).map byteAV)))) := by
  subst hl
  have := step_copy (P := P) (dst := dst) (ty := ty) (pos := pos) (after := after) (guard := guard) (hp := hp) (sT := sT) ht hi hx ho (by simpa using hend) (Src.str hs)
  have e1 : (b.data.toList.map byteAV).take (min b.size b.size * 1) = b.data.toList.map byteAV := by
    rw [Nat.min_self, Nat.mul_one, List.take_of_length_le]
    rw [List.length_map]
    show b.data.toList.length ≤ b.data.size
    rw [Array.length_toList]
    exact Nat.le_refl _
  have e2 : splice (l.map byteAV) off (b.data.toList.map byteAV) = (splice l off b.data.toList).map byteAV := by
    simp [splice]
  rw [e1, e2, Nat.min_self] at this
  exact this

end Go.SL
