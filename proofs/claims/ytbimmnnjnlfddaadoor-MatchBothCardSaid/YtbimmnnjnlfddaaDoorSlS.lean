/-
  The rules once more, so that what they leave is in plain form: a printed walk's states stay small.
-/
import Derived.Test.YtbimmnnjnlfddaaDoorSlR
set_option linter.unusedSimpArgs false
set_option linter.unnecessarySimpa false
set_option linter.unusedVariables false
set_option linter.unusedSectionVars false
namespace Go.SL
open Go
variable [Tabs]

variable {P : Program} {n : Nat} {env : Nat → AV} {hp hp' hp0 : List AObj} {ops : Array Oper} {K : Exit → SS → Prop} {o : Oper} {i d : Nat} {rest : List Nat} {x : AV}

theorem WO.op (ho : ops[i]? = some o) (hw : wants ops env o = some true) (hd : o.dst = some d) (hn : Nat.blt d n = true) (hs : Step P o env hp (is x hp')) (hk : WO P n ops rest K ⟨upd env d x, hp'⟩) :
    WO P n ops (i :: rest) K ⟨env, hp⟩ :=
  WO.one ho hw (by rw [hd]; exact dok hn) hs (by rw [hd]; exact hk)
theorem WO.op0 (ho : ops[i]? = some o) (hw : wants ops env o = some true) (hd : o.dst = none) (hs : Step P o env hp (is x hp')) (hk : WO P n ops rest K ⟨env, hp'⟩) :
    WO P n ops (i :: rest) K ⟨env, hp⟩ :=
  WO.one ho hw (by rw [hd]; trivial) hs (by rw [hd]; exact hk)
theorem WO.sk (ho : ops[i]? = some o) (hw : wants ops env o = some false) (hd : o.dst = some d) (hn : Nat.blt d n = true) (hk : WO P n ops rest K ⟨upd env d (.sc undef), hp⟩) :
    WO P n ops (i :: rest) K ⟨env, hp⟩ :=
  WO.skip ho hw (by rw [hd]; exact dok hn) (by rw [hd]; exact hk)
theorem WO.sk0 (ho : ops[i]? = some o) (hw : wants ops env o = some false) (hd : o.dst = none) (hk : WO P n ops rest K ⟨env, hp⟩) :
    WO P n ops (i :: rest) K ⟨env, hp⟩ :=
  WO.skip ho hw (by rw [hd]; trivial) (by rw [hd]; exact hk)
theorem WO.spl {l : List Nat} (d : Nat) {b : Bool} (hd : env d = .sc (.bool b)) (ht : b = true → WO P n ops l K ⟨upd env d (.sc (.bool true)), hp⟩)
    (hf : b = false → WO P n ops l K ⟨upd env d (.sc (.bool false)), hp⟩) : WO P n ops l K ⟨env, hp⟩ := WO.split d hd ht hf
theorem WO.put {l : List Nat} (d : Nat) (x : AV) (hd : env d = x) (h : WO P n ops l K ⟨upd env d x, hp⟩) : WO P n ops l K ⟨env, hp⟩ := WO.set d x hd h
theorem WO.wk {l : List Nat} (d : Nat) (y : AV) (hw : Wk (env d) y) (h : WO P n ops l K ⟨upd env d y, hp⟩) : WO P n ops l K ⟨env, hp⟩ := WO.weak d y hw h
theorem W.wk {c : Code} (d : Nat) (y : AV) (hw : Wk (env d) y) (h : W P n c K ⟨upd env d y, hp⟩) : W P n c K ⟨env, hp⟩ := W.weak d y hw h
theorem W.put {c : Code} (d : Nat) (x : AV) (hd : env d = x) (h : W P n c K ⟨upd env d x, hp⟩) : W P n c K ⟨env, hp⟩ := W.set d x hd h

section
variable {Td : TR → TR} {l : List Oper}

theorem DC.op {r : AV} (hw : wants ops (rs ops env o) o = some true) (hd : o.dst = some d) (hn : Nat.blt d n = true) (hs : ∀ hp, Step P o (rs ops env o) hp (is r hp))
    (h : DC P n ops K hp0 (fun T => Td ((o, .q r []) :: T)) l hp (upd env d r)) : DC P n ops K hp0 Td (o :: l) hp env :=
  DC.q hw (by rw [hd]; exact dok hn) hs (by rw [hd]; exact h)
theorem DC.op1 {r : AV} {j : Nat} {row : AObj} (hw : wants ops (rs ops env o) o = some true) (hd : o.dst = some d) (hn : Nat.blt d n = true) (hr : hp[j]? = some row) (hs : ∀ hp, hp[j]? = some row → Step P o (rs ops env o) hp (is r hp))
    (h : DC P n ops K hp0 (fun T => Td ((o, .q r [(j, row)]) :: T)) l hp (upd env d r)) : DC P n ops K hp0 Td (o :: l) hp env :=
  DC.q1 hw (by rw [hd]; exact dok hn) hr hs (by rw [hd]; exact h)
theorem DC.op2 {r : AV} {j j' : Nat} {row row' : AObj} (hw : wants ops (rs ops env o) o = some true) (hd : o.dst = some d) (hn : Nat.blt d n = true) (hr : hp[j]? = some row) (hr' : hp[j']? = some row')
    (hs : ∀ hp, hp[j]? = some row → hp[j']? = some row' → Step P o (rs ops env o) hp (is r hp))
    (h : DC P n ops K hp0 (fun T => Td ((o, .q r [(j, row), (j', row')]) :: T)) l hp (upd env d r)) : DC P n ops K hp0 Td (o :: l) hp env :=
  DC.q2 hw (by rw [hd]; exact dok hn) hr hr' hs (by rw [hd]; exact h)
theorem DC.opA {esz m : Nat} {cells : List AV} {mk : Nat → AV} {y : AV} {h1 : List AObj} (hw : wants ops (rs ops env o) o = some true) (hd : o.dst = some d) (hn : Nat.blt d n = true) (hs : StepAl P o (rs ops env o) esz cells mk)
    (hm : mk hp.length = y) (hh : hp ++ [.row esz cells] = h1) (h : DC P n ops K hp0 (fun T => Td ((o, .al esz cells mk) :: T)) l h1 (upd env d y)) : DC P n ops K hp0 Td (o :: l) hp env := by
  subst hh; subst hm
  exact DC.al hw (by rw [hd]; exact dok hn) hs (by rw [hd]; exact h)
theorem DC.opE {r : AV} (hw : wants ops (rs ops env o) o = some true) (hd : o.dst = some d) (hn : Nat.blt d n = true) (hs : Step P o (rs ops env o) hp (is r hp')) (hl : hp.length ≤ hp'.length)
    (h1 : allLt hp.length env (o.looksAt ops)) (h2 : allRow hp.length hp)
    (h : DC P n ops K hp0 (fun T => Td ((o, .ef r hp') :: T)) l hp' (upd env d r)) : DC P n ops K hp0 Td (o :: l) hp env :=
  DC.ef hw (by rw [hd]; exact dok hn) hs hl h1 h2 (by rw [hd]; exact h)
theorem DC.opE0 {r : AV} (hw : wants ops (rs ops env o) o = some true) (hd : o.dst = none) (hs : Step P o (rs ops env o) hp (is r hp')) (hl : hp.length ≤ hp'.length)
    (h1 : allLt hp.length env (o.looksAt ops)) (h2 : allRow hp.length hp)
    (h : DC P n ops K hp0 (fun T => Td ((o, .ef r hp') :: T)) l hp' env) : DC P n ops K hp0 Td (o :: l) hp env :=
  DC.ef hw (by rw [hd]; trivial) hs hl h1 h2 (by rw [hd]; exact h)
theorem DC.skp (hw : wants ops (rs ops env o) o = some false) (hd : o.dst = some d) (hn : Nat.blt d n = true)
    (h : DC P n ops K hp0 (fun T => Td ((o, .sk) :: T)) l hp (upd env d (.sc undef))) : DC P n ops K hp0 Td (o :: l) hp env :=
  DC.sk hw (by rw [hd]; exact dok hn) (by rw [hd]; exact h)
theorem DC.skp0 (hw : wants ops (rs ops env o) o = some false) (hd : o.dst = none)
    (h : DC P n ops K hp0 (fun T => Td ((o, .sk) :: T)) l hp env) : DC P n ops K hp0 Td (o :: l) hp env :=
  DC.sk hw (by rw [hd]; trivial) (by rw [hd]; exact h)
end

variable {dst : Option Nat} {ty : TypeId} {pos : String} {after : Array Edge} {guard : Option (Nat × Bool)}

section
variable {x : Operand}
theorem mv_sc {v : Value} (hx : opd env x = .sc v) : Step P ⟨dst, .move x, ty, pos, after, guard⟩ env hp (is (.sc v) hp) := hx ▸ step_move
theorem mv_ptr {a b : Nat} (hx : opd env x = .ptr a b) : Step P ⟨dst, .move x, ty, pos, after, guard⟩ env hp (is (.ptr a b) hp) := hx ▸ step_move
theorem mv_sl {a b c : Nat} (hx : opd env x = .sl a b c) : Step P ⟨dst, .move x, ty, pos, after, guard⟩ env hp (is (.sl a b c) hp) := hx ▸ step_move
theorem mv_im {a : Nat} {b : List AV} (hx : opd env x = .im a b) : Step P ⟨dst, .move x, ty, pos, after, guard⟩ env hp (is (.im a b) hp) := hx ▸ step_move
theorem mv_ip {a : Nat} {b : List AV} (hx : opd env x = .ip b a) : Step P ⟨dst, .move x, ty, pos, after, guard⟩ env hp (is (.ip b a) hp) := hx ▸ step_move
theorem mv_agg {b : List AV} (hx : opd env x = .agg b) : Step P ⟨dst, .move x, ty, pos, after, guard⟩ env hp (is (.agg b) hp) := hx ▸ step_move
theorem mv_tup {b : List AV} (hx : opd env x = .tup b) : Step P ⟨dst, .move x, ty, pos, after, guard⟩ env hp (is (.tup b) hp) := hx ▸ step_move
theorem mv_nil (hx : opd env x = .nil) : Step P ⟨dst, .move x, ty, pos, after, guard⟩ env hp (is .nil hp) := hx ▸ step_move
theorem mv_fn {f : Nat} {a b : List AV} (hx : opd env x = .fn f a b) : Step P ⟨dst, .move x, ty, pos, after, guard⟩ env hp (is (.fn f a b) hp) := hx ▸ step_move
theorem as_sc {v : Value} (hx : opd env x = .sc v) : Step P ⟨dst, .assign x, ty, pos, after, guard⟩ env hp (is (.sc v) hp) := hx ▸ step_assign
theorem as_ptr {a b : Nat} (hx : opd env x = .ptr a b) : Step P ⟨dst, .assign x, ty, pos, after, guard⟩ env hp (is (.ptr a b) hp) := hx ▸ step_assign
theorem as_sl {a b c : Nat} (hx : opd env x = .sl a b c) : Step P ⟨dst, .assign x, ty, pos, after, guard⟩ env hp (is (.sl a b c) hp) := hx ▸ step_assign
theorem as_im {a : Nat} {b : List AV} (hx : opd env x = .im a b) : Step P ⟨dst, .assign x, ty, pos, after, guard⟩ env hp (is (.im a b) hp) := hx ▸ step_assign
theorem as_ip {a : Nat} {b : List AV} (hx : opd env x = .ip b a) : Step P ⟨dst, .assign x, ty, pos, after, guard⟩ env hp (is (.ip b a) hp) := hx ▸ step_assign
theorem as_agg {b : List AV} (hx : opd env x = .agg b) : Step P ⟨dst, .assign x, ty, pos, after, guard⟩ env hp (is (.agg b) hp) := hx ▸ step_assign
theorem as_tup {b : List AV} (hx : opd env x = .tup b) : Step P ⟨dst, .assign x, ty, pos, after, guard⟩ env hp (is (.tup b) hp) := hx ▸ step_assign
theorem as_nil (hx : opd env x = .nil) : Step P ⟨dst, .assign x, ty, pos, after, guard⟩ env hp (is .nil hp) := hx ▸ step_assign
theorem as_fn {f : Nat} {a b : List AV} (hx : opd env x = .fn f a b) : Step P ⟨dst, .assign x, ty, pos, after, guard⟩ env hp (is (.fn f a b) hp) := hx ▸ step_assign
end

theorem pk_t {c x y : Operand} {b : Bool} {v : Value} (hc : opd env c = .sc (.bool b)) (hb : b = true) (hx : opd env x = .sc v) : Step P ⟨dst, .pick c x y, ty, pos, after, guard⟩ env hp (is (.sc v) hp) := hx ▸ step_pick_t hc hb
theorem pk_f {c x y : Operand} {b : Bool} {v : Value} (hc : opd env c = .sc (.bool b)) (hb : b = false) (hx : opd env y = .sc v) : Step P ⟨dst, .pick c x y, ty, pos, after, guard⟩ env hp (is (.sc v) hp) := hx ▸ step_pick_f hc hb

theorem al_boxA {t : TypeId} {x : Operand} {cs : List AV} (hx : opd env x = .agg cs) (hc : cs.all cellAV = true) : StepAl P ⟨dst, .box t x, ty, pos, after, guard⟩ env 1 cs (fun k => .ptr k 0) := al_box hx hc
theorem al_boxS {t : TypeId} {x : Operand} {v : Value} (hx : opd env x = .sc v) (hc : cellAV (.sc v) = true) : StepAl P ⟨dst, .box t x, ty, pos, after, guard⟩ env 1 [.sc v] (fun k => .ptr k 0) :=
  al_box hx (by show (cellAV (.sc v) && true) = true; rw [hc]; rfl)

/-- A new row, in a region in the text's order. -/
theorem WO.opA {esz : Nat} {cells : List AV} {mk : Nat → AV} {y : AV} {h1 : List AObj} (ho : ops[i]? = some o) (hw : wants ops env o = some true) (hd : o.dst = some d) (hn : Nat.blt d n = true) (hs : StepAl P o env esz cells mk)
    (hm : mk hp.length = y) (hh : hp ++ [.row esz cells] = h1) (hk : WO P n ops rest K ⟨upd env d y, h1⟩) : WO P n ops (i :: rest) K ⟨env, hp⟩ := by
  subst hh; subst hm
  exact WO.op ho hw hd hn hs.step hk

end Go.SL
