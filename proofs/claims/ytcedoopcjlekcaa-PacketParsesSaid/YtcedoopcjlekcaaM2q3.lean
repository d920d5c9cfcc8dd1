/-
  Datagrams: good ones are printed and read again.
-/
import Derived.Test.YtcedoopcjlekcaaM1q3
import Derived.Test.YtcedoopcjlekcaaE1q3
import Derived.Test.YtcedoopcjlekcaaY3q3
set_option linter.unusedVariables false
set_option linter.unusedSimpArgs false
set_option maxRecDepth 100000
set_option maxHeartbeats 1000000
namespace Go.Proofs.Ytcedoopcjlekcaa
open Go Go.SL Go.Proofs

theorem ba_len (b : ByteArray) : b.data.toList.length = b.size := by rw [Array.length_toList]; rfl
def icB (ty co re c : Nat) (D : List UInt8) : List UInt8 := [ub ty, ub co, ub1 c, ub c, ub3 re, ub2 re, ub1 re, ub re] ++ D
def udB (sp dp n c : Nat) (D : List UInt8) : List UInt8 := [ub1 sp, ub sp, ub1 dp, ub dp, ub1 n, ub n, ub1 c, ub c] ++ D
def tcB (sp dp se ac x wi c ur : Nat) (D : List UInt8) : List UInt8 := [ub1 sp, ub sp, ub1 dp, ub dp, ub3 se, ub2 se, ub1 se, ub se, ub3 ac, ub2 ac, ub1 ac, ub ac, ub1 x, ub x, ub1 wi, ub wi, ub1 c, ub c, ub1 ur, ub ur] ++ D
theorem icB_len (ty co re c : Nat) (D : List UInt8) : (icB ty co re c D).length = 8 + D.length := by simp only [icB, List.length_append, List.length_cons, List.length_nil]
theorem udB_len (sp dp n c : Nat) (D : List UInt8) : (udB sp dp n c D).length = 8 + D.length := by simp only [udB, List.length_append, List.length_cons, List.length_nil]
theorem tcB_len (sp dp se ac x wi c ur : Nat) (D : List UInt8) : (tcB sp dp se ac x wi c ur D).length = 20 + D.length := by simp only [tcB, List.length_append, List.length_cons, List.length_nil]
/-- What is read of a datagram, whichever number its protocol has that has its kind. -/
def l4R (a b k ty co re sp dp : Nat) (ns : Bool) (se ac fl wi ur : Nat) (op da : ByteArray) (D : List UInt8) : Prop := ∀ p : Nat, (k = 1 ↔ p = 1) → (k = 2 ↔ p = 17) → (k = 3 ↔ p = 6) →
  Spec0 Try.prog 19 [I .u32 (a : Nat), I .u32 (b : Nat), I .i64 (p : Nat), .im 1 (D.map byteAV)] (.tup [l4V (k : Nat) (ty : Nat) (co : Nat) (re : Nat) (sp : Nat) (dp : Nat) ns (se : Nat) (ac : Nat) (fl : Nat) (wi : Nat) (ur : Nat) op da, I .i64 0])
theorem ic_both (a b : Nat) (ha : a < 4294967296) (hb : b < 4294967296) (ty co re : Nat) (da : ByteArray) (h1 : ty ≤ 255) (h2 : co ≤ 255) (h3 : re < 4294967296) (h4 : da.size ≤ 65507) :
    ∃ D : List UInt8, (∃ c, D = icB ty co re c da.data.toList) ∧ D.length = 8 + da.size ∧ Enc 52 52 [I .u32 (a : Nat), I .u32 (b : Nat), l4V 1 (ty : Nat) (co : Nat) (re : Nat) 0 0 false 0 0 0 0 0 ⟨#[]⟩ da] D ∧ l4R a b 1 ty co re 0 0 false 0 0 0 0 0 ⟨#[]⟩ da D := by
  generalize hE : icB ty co re 0 da.data.toList = E
  have hd := ba_len da
  have lE : E.length = 8 + da.size := by rw [← hE, icB_len, hd]
  generalize hc : 65535 - fo (ws E E.length) = c
  have hcc : c ≤ 65535 := by omega
  have k1 := w_Check (l := E) (by omega)
  have k2 := w_refCheck (l := E) (by omega)
  rw [hc, ← hE] at k1 k2
  have lD : (icB ty co re c da.data.toList).length = 8 + da.size := by rw [icB_len, hd]
  refine ⟨icB ty co re c da.data.toList, ⟨_, rfl⟩, lD, ⟨SpecO.cg (w_E4_ic a b ha hb ty co re da h1 h2 h3 h4 c hcc k1) rfl lD.symm, SpecO.cg (w_E4_ic a b ha hb ty co re da h1 h2 h3 h4 c hcc k1) rfl lD.symm⟩, fun p p1 p2 p3 => ?_⟩
  obtain rfl := p1.1 rfl
  generalize hD : icB ty co re c da.data.toList = D at *
  have eD : D = (E.set 2 (ub1 c)).set 3 (ub c) := by rw [← hD, ← hE]; rfl
  have hs : fo (ws D D.length) = 65535 := by
    have hf : ws E E.length = 0 → c = 65535 := fun h => by rw [h, fo_zero] at hc; omega
    have hg := fo_le (ws E E.length)
    have := chk_at (E := E) (i := 2) (c := c) (s := 0) (by decide) (by omega) (by rw [← hE]; rfl) (by rw [← hE]; rfl) (by omega) hcc (by rw [Nat.zero_add] at *; omega)
    rw [Nat.zero_add, ← eD, lE, ← lD] at this
    exact this
  have h := w_L4_ic_ok a b D ha hb (by omega) (by omega) hs
  rw [show (List.getD D 0 0).toNat = ty by rw [← hD]; exact ub_nat h1, show (List.getD D 1 0).toNat = co by rw [← hD]; exact ub_nat h2, show be (List.take 4 (List.drop 4 D)) = re by rw [← hD]; exact be_ub4 (n := re) h3,
    show List.drop 8 D = da.data.toList by rw [← hD]; rfl, ba_mk] at h
  exact h
theorem ud_both (a b : Nat) (ha : a < 4294967296) (hb : b < 4294967296) (sp dp : Nat) (ns : Bool) (da : ByteArray) (h1 : sp ≤ 65535) (h2 : dp ≤ 65535) (h4 : da.size ≤ 65507) :
    ∃ D : List UInt8, (∃ c, D = udB sp dp (8 + da.size) c da.data.toList) ∧ D.length = 8 + da.size ∧ Enc 52 52 [I .u32 (a : Nat), I .u32 (b : Nat), l4V 2 0 0 0 (sp : Nat) (dp : Nat) ns 0 0 0 0 0 ⟨#[]⟩ da] D ∧ l4R a b 2 0 0 0 sp dp ns 0 0 0 0 0 ⟨#[]⟩ da D := by
  generalize hE : udB sp dp (8 + da.size) 0 da.data.toList = E
  have hd := ba_len da
  have lE : E.length = 8 + da.size := by rw [← hE, udB_len, hd]
  generalize hv : fo (psu a b 17 E.length + ws E E.length) = v
  have hvv : v ≤ 65535 := by rw [← hv]; exact fo_le _
  have hpp := psu_pos (a := a) (b := b) (p := 17) (n := E.length) (by decide)
  have hv1 := (fo_pos (x := psu a b 17 E.length + ws E E.length) (by omega)).1
  have k1 := w_whole (a := a) (b := b) (p := 17) (l := E) ha hb (by decide) (by omega)
  rw [hv, ← hE] at k1
  have r1 := w_refPseudo (a := a) (b := b) (p := 17) (n := E.length) ha hb (by decide) (by omega)
  have r2 := w_refSum (l := E) (by omega)
  have r3 := w_Add (a := fo (psu a b 17 E.length)) (b := fo (ws E E.length)) (fo_le _) (fo_le _)
  rw [fo_add, fo_add', hv] at r3
  rw [lE] at r1
  rw [show fo (psu a b 17 E.length) = fo (psu a b 17 (8 + da.size)) by rw [lE]] at r3
  rw [← hE] at r2
  rw [show fo (ws E E.length) = fo (ws (udB sp dp (8 + da.size) 0 da.data.toList) (udB sp dp (8 + da.size) 0 da.data.toList).length) by rw [hE]] at r3
  have lD : ∀ c, (udB sp dp (8 + da.size) c da.data.toList).length = 8 + da.size := fun c => by rw [udB_len, hd]
  have rd : ∀ c, be (List.take 2 (udB sp dp (8 + da.size) c da.data.toList)) = sp ∧ be (List.take 2 (List.drop 2 (udB sp dp (8 + da.size) c da.data.toList))) = dp ∧ List.drop 8 (udB sp dp (8 + da.size) c da.data.toList) = da.data.toList ∧ be (List.take 2 (List.drop 4 (udB sp dp (8 + da.size) c da.data.toList))) = 8 + da.size ∧ (c ≤ 65535 → be (List.take 2 (List.drop 6 (udB sp dp (8 + da.size) c da.data.toList))) = c) :=
    fun c => ⟨be_ub2 (n := sp) (by omega), be_ub2 (n := dp) (by omega), rfl, be_ub2 (n := 8 + da.size) (by omega), fun hc => be_ub2 (n := c) (by omega)⟩
  have hs : ∀ c, c ≤ 65535 → 0 < c → (c + v) % 65535 = 0 → fo (psu a b 17 (udB sp dp (8 + da.size) c da.data.toList).length + ws (udB sp dp (8 + da.size) c da.data.toList) (udB sp dp (8 + da.size) c da.data.toList).length) = 65535 := by
    intro c hcc h0 hm
    have := chk_at (E := E) (i := 6) (c := c) (s := psu a b 17 E.length) (by decide) (by omega) (by rw [← hE]; rfl) (by rw [← hE]; rfl) (by omega) hcc (by rw [hv]; exact hm)
    rw [show (E.set 6 (ub1 c)).set 7 (ub c) = udB sp dp (8 + da.size) c da.data.toList by rw [← hE]; rfl] at this
    rw [lE] at this
    rw [lD]; exact this
  cases ns
  · by_cases hz : v = 65535
    · refine ⟨udB sp dp (8 + da.size) 65535 da.data.toList, ⟨_, rfl⟩, lD _, ⟨SpecO.cg (w_E4_udz a b ha hb sp dp da h1 h2 h4 v hvv k1 hz) rfl (lD _).symm, SpecO.cg (w_E4_udz a b ha hb sp dp da h1 h2 h4 v hvv k1 hz) rfl (lD _).symm⟩, fun p p1 p2 p3 => ?_⟩
      obtain rfl := p2.1 rfl
      obtain ⟨d1, d2, d3, d4, d5⟩ := rd 65535
      have h := w_L4_ud_ok a b (udB sp dp (8 + da.size) 65535 da.data.toList) ha hb (by rw [lD]; omega) (by rw [lD]; omega) (by rw [d4, lD]) (by rw [d5 (by decide)]; decide) (hs 65535 (by decide) (by decide) (by omega))
      rw [d1, d2, d3, ba_mk] at h
      exact h
    · refine ⟨udB sp dp (8 + da.size) (65535 - v) da.data.toList, ⟨_, rfl⟩, lD _, ⟨SpecO.cg (w_E4_udn a b ha hb sp dp da h1 h2 h4 v hvv k1 hz) rfl (lD _).symm, SpecO.cg (w_E4_udn a b ha hb sp dp da h1 h2 h4 v hvv k1 hz) rfl (lD _).symm⟩, fun p p1 p2 p3 => ?_⟩
      obtain rfl := p2.1 rfl
      obtain ⟨d1, d2, d3, d4, d5⟩ := rd (65535 - v)
      have h := w_L4_ud_ok a b (udB sp dp (8 + da.size) (65535 - v) da.data.toList) ha hb (by rw [lD]; omega) (by rw [lD]; omega) (by rw [d4, lD]) (by rw [d5 (by omega)]; omega) (hs (65535 - v) (by omega) (by omega) (by omega))
      rw [d1, d2, d3, ba_mk] at h
      exact h
  · refine ⟨udB sp dp (8 + da.size) 0 da.data.toList, ⟨_, rfl⟩, lD _, ⟨SpecO.cg (w_E4_ud0 a b ha hb sp dp da h1 h2 h4 v hvv k1) rfl (lD _).symm, SpecO.cg (w_E4_ud0 a b ha hb sp dp da h1 h2 h4 v hvv k1) rfl (lD _).symm⟩, fun p p1 p2 p3 => ?_⟩
    obtain rfl := p2.1 rfl
    obtain ⟨d1, d2, d3, d4, d5⟩ := rd 0
    have h := w_L4_ud_none a b (udB sp dp (8 + da.size) 0 da.data.toList) ha hb (by rw [lD]; omega) (by rw [lD]; omega) (by rw [d4, lD]) (d5 (by decide))
    rw [d1, d2, d3, ba_mk] at h
    exact h
theorem tc_both (a b : Nat) (ha : a < 4294967296) (hb : b < 4294967296) (sp dp se ac fl wi ur : Nat) (op da : ByteArray) (h1 : sp ≤ 65535) (h2 : dp ≤ 65535) (h5 : se < 4294967296) (h6 : ac < 4294967296) (h7 : fl ≤ 4095) (h8 : wi ≤ 65535) (h9 : ur ≤ 65535) (h10 : op.size ≤ 40) (h11 : op.size % 4 = 0) (h4 : da.size ≤ 65495 - op.size) :
    ∃ D : List UInt8, (∃ c, D = tcB sp dp se ac ((20 + op.size) / 4 * 4096 + fl) wi c ur (op.data.toList ++ da.data.toList)) ∧ D.length = 20 + op.size + da.size ∧ Enc 52 52 [I .u32 (a : Nat), I .u32 (b : Nat), l4V 3 0 0 0 (sp : Nat) (dp : Nat) false (se : Nat) (ac : Nat) (fl : Nat) (wi : Nat) (ur : Nat) op da] D ∧ l4R a b 3 0 0 0 sp dp false se ac fl wi ur op da D := by
  generalize hx : (20 + op.size) / 4 * 4096 + fl = x
  have hx2 : (5 + op.size / 4) * 4096 + fl = x := by omega
  generalize hE : tcB sp dp se ac x wi 0 ur (op.data.toList ++ da.data.toList) = E
  have hd := ba_len da
  have ho := ba_len op
  have lE : E.length = 20 + op.size + da.size := by rw [← hE, tcB_len, List.length_append]; omega
  generalize hv : fo (psu a b 6 E.length + ws E E.length) = v
  have hvv : v ≤ 65535 := by rw [← hv]; exact fo_le _
  have hpp := psu_pos (a := a) (b := b) (p := 6) (n := E.length) (by decide)
  have k1 := w_whole (a := a) (b := b) (p := 6) (l := E) ha hb (by decide) (by omega)
  rw [hv, ← hE] at k1
  have r1 := w_refPseudo (a := a) (b := b) (p := 6) (n := E.length) ha hb (by decide) (by omega)
  have r2 := w_refSum (l := E) (by omega)
  have r3 := w_Add (a := fo (psu a b 6 E.length)) (b := fo (ws E E.length)) (fo_le _) (fo_le _)
  rw [fo_add, fo_add', hv] at r3
  rw [lE] at r1
  rw [show fo (psu a b 6 E.length) = fo (psu a b 6 (20 + op.size + da.size)) by rw [lE]] at r3
  rw [← hE] at r2
  rw [show fo (ws E E.length) = fo (ws (tcB sp dp se ac x wi 0 ur (op.data.toList ++ da.data.toList)) (tcB sp dp se ac x wi 0 ur (op.data.toList ++ da.data.toList)).length) by rw [hE]] at r3
  have lD : (tcB sp dp se ac x wi (65535 - v) ur (op.data.toList ++ da.data.toList)).length = 20 + op.size + da.size := by rw [tcB_len, List.length_append]; omega
  have s1 : SpecO Try.prog 52 [I .u32 (a : Nat), I .u32 (b : Nat), l4V 3 0 0 0 (sp : Nat) (dp : Nat) false (se : Nat) (ac : Nat) (fl : Nat) (wi : Nat) (ur : Nat) op da] ((tcB sp dp se ac x wi (65535 - v) ur (op.data.toList ++ da.data.toList)).map byteAV) (20 + op.size + da.size) [I .i64 0] := by
    subst hx; exact w_E4_tc a b ha hb sp dp se ac fl wi ur op da h1 h2 h5 h6 h7 h8 h9 h10 h11 h4 v hvv k1
  have s2 : SpecO Try.prog 52 [I .u32 (a : Nat), I .u32 (b : Nat), l4V 3 0 0 0 (sp : Nat) (dp : Nat) false (se : Nat) (ac : Nat) (fl : Nat) (wi : Nat) (ur : Nat) op da] ((tcB sp dp se ac x wi (65535 - v) ur (op.data.toList ++ da.data.toList)).map byteAV) (20 + op.size + da.size) [I .i64 0] := by
    subst hx; exact w_E4_tc a b ha hb sp dp se ac fl wi ur op da h1 h2 h5 h6 h7 h8 h9 h10 h11 h4 v hvv k1
  refine ⟨_, ⟨_, rfl⟩, lD, ⟨SpecO.cg s1 rfl lD.symm, SpecO.cg s2 rfl lD.symm⟩, fun p p1 p2 p3 => ?_⟩
  obtain rfl := p3.1 rfl
  clear s1 s2 r1 r2 r3 k1
  have eD : tcB sp dp se ac x wi (65535 - v) ur (op.data.toList ++ da.data.toList) = (E.set 16 (ub1 (65535 - v))).set 17 (ub (65535 - v)) := by rw [← hE]; rfl
  have hs : fo (psu a b 6 (tcB sp dp se ac x wi (65535 - v) ur (op.data.toList ++ da.data.toList)).length + ws (tcB sp dp se ac x wi (65535 - v) ur (op.data.toList ++ da.data.toList)) (tcB sp dp se ac x wi (65535 - v) ur (op.data.toList ++ da.data.toList)).length) = 65535 := by
    have := chk_at (E := E) (i := 16) (c := 65535 - v) (s := psu a b 6 E.length) (by decide) (by omega) (by rw [← hE]; rfl) (by rw [← hE]; rfl) (by omega) (by omega) (by rw [hv]; omega)
    rw [← eD] at this
    rw [lD, ← lE]; exact this
  generalize hD : tcB sp dp se ac x wi (65535 - v) ur (op.data.toList ++ da.data.toList) = D at *
  have g12 : 4 * ((List.getD D 12 0).toNat / 16) = 20 + op.size := by rw [← hD]; show 4 * ((ub1 x).toNat / 16) = _; simp only [ub1, UInt8.toNat_ofNat']; omega
  have h := w_L4_tc_ok a b D ha hb (by omega) (by omega) (by rw [g12]; omega) (by rw [g12]; omega) hs
  rw [g12, show be (List.take 2 D) = sp by rw [← hD]; exact be_ub2 (n := sp) (by omega), show be (List.take 2 (List.drop 2 D)) = dp by rw [← hD]; exact be_ub2 (n := dp) (by omega),
    show be (List.take 4 (List.drop 4 D)) = se by rw [← hD]; exact be_ub4 (n := se) h5, show be (List.take 4 (List.drop 8 D)) = ac by rw [← hD]; exact be_ub4 (n := ac) h6,
    show be (List.take 2 (List.drop 12 D)) = x by (rw [← hD]; exact be_ub2 (n := x) (by omega)), show x % 4096 = fl by omega, show be (List.take 2 (List.drop 14 D)) = wi by rw [← hD]; exact be_ub2 (n := wi) (by omega), show be (List.take 2 (List.drop 18 D)) = ur by rw [← hD]; exact be_ub2 (n := ur) (by omega),
    show List.take (20 + op.size - 20) (List.drop 20 D) = op.data.toList by (have : List.drop 20 D = op.data.toList ++ da.data.toList := by (rw [← hD]; rfl)); rw [this, show 20 + op.size - 20 = op.data.toList.length by omega, List.take_left],
    show List.drop (20 + op.size) D = da.data.toList by (have : List.drop 20 D = op.data.toList ++ da.data.toList := by (rw [← hD]; rfl)); rw [← List.drop_drop, this, ← ho, List.drop_left], ba_mk, ba_mk] at h
  exact h
theorem op_both (a b : Nat) (ha : a < 4294967296) (hb : b < 4294967296) (da : ByteArray) (h4 : da.size ≤ 65515) :
    ∃ D : List UInt8, D.length = da.size ∧ D = da.data.toList ∧ Enc 52 52 [I .u32 (a : Nat), I .u32 (b : Nat), l4V 0 0 0 0 0 0 false 0 0 0 0 0 ⟨#[]⟩ da] D ∧ l4R a b 0 0 0 0 0 0 false 0 0 0 0 0 ⟨#[]⟩ da D := by
  refine ⟨da.data.toList, ba_len da, rfl, ⟨SpecO.cg (w_E4_op a b ha hb da h4) rfl (ba_len da).symm, SpecO.cg (w_E4_op a b ha hb da h4) rfl (ba_len da).symm⟩, fun p p1 p2 p3 => ?_⟩
  have h := w_L4_op a b p da.data.toList (by omega) (by omega) (by omega)
  rw [ba_mk] at h
  exact h



end Go.Proofs.Ytcedoopcjlekcaa
