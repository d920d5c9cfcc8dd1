/-
  A tunnel's packet, and that it is read again.
-/
import Derived.Test.YtkhpligflffamaaL0q3
import Derived.Test.YtkhpligflffamaaEAq3
import Derived.Test.YtkhpligflffamaaY2q3
import Derived.Test.YtkhpligflffamaaY3q3
import Derived.Test.YtkhpligflffamaaENq3
import Derived.Test.YtkhpligflffamaaRNq3
import Derived.Test.YtkhpligflffamaaRDq3
import Derived.Test.YtkhpligflffamaaDCq3
import Derived.Test.YtkhpligflffamaaSMq3
set_option linter.unusedVariables false
set_option linter.unusedSimpArgs false
set_option maxRecDepth 100000
set_option maxHeartbeats 1000000
namespace Go.Proofs.Ytkhpligflffamaa
open Go Go.SL Go.Proofs

theorem Spec0.cg {k : Nat} {a : List AV} {x y : AV} (h : Spec0 Try.prog k a x) (e : x = y) : Spec0 Try.prog k a y := e ▸ h
theorem SpecO.cg {k : Nat} {a : List AV} {L M : List AV} {n m : Nat} {r : List AV} (h : SpecO Try.prog k a L n r) (e : L = M) (e2 : n = m) : SpecO Try.prog k a M m r := e ▸ e2 ▸ h
theorem ba_mk (b : ByteArray) : (⟨b.data.toList.toArray⟩ : ByteArray) = b := by cases b; simp
abbrev ipV (tos id frag ttl proto src dst : Int) (opt : ByteArray) : AV := .agg [I .i64 tos, I .i64 id, I .i64 frag, I .i64 ttl, I .i64 proto, I .u32 src, I .u32 dst, S opt]
abbrev l4V (k ty co re sp dp : Int) (ns : Bool) (se ac fl wi ur : Int) (op da : ByteArray) : AV := .agg [I .i64 k, I .i64 ty, I .i64 co, I .u32 re, I .i64 sp, I .i64 dp, B ns, I .u32 se, I .u32 ac, I .i64 fl, I .i64 wi, I .i64 ur, S op, S da]
def ipB (b0 tos tot id frag ttl proto c src dst : Nat) (O : List UInt8) : List UInt8 := [ub b0, ub tos, ub1 tot, ub tot, ub1 id, ub id, ub1 frag, ub frag, ub ttl, ub proto, ub1 c, ub c, ub3 src, ub2 src, ub1 src, ub src, ub3 dst, ub2 dst, ub1 dst, ub dst] ++ O
def ipR (tos id frag ttl proto src dst n : Nat) (opt : ByteArray) (X : List UInt8) : Prop := ∀ R : List UInt8, n ≤ R.length → (X ++ R).length ≤ 200000000000000 → Spec0 Try.prog 23 [.im 1 ((X ++ R).map byteAV)] (.tup [ipV (tos : Nat) (id : Nat) (frag : Nat) (ttl : Nat) (proto : Nat) (src : Nat) (dst : Nat) opt, I .i64 (X.length : Nat), I .i64 ((X.length + n : Nat)), I .i64 0])
theorem ip_read {tos id frag ttl proto src dst n : Nat} {op : ByteArray} (h1 : tos ≤ 255) (h2 : id ≤ 65535) (h3 : frag ≤ 65535) (h4 : ttl ≤ 255) (h5 : proto ≤ 255) (h6 : src < 4294967296) (h7 : dst < 4294967296) (h8 : op.size ≤ 40) (h9 : op.size % 4 = 0) (h10 : n ≤ 65515 - op.size)
    {c : Nat} (hcc : c ≤ 65535) (hc : c = 65535 - fo (ws (ipB (64 + (20 + op.size) / 4) tos (20 + op.size + n) id frag ttl proto 0 src dst op.data.toList) (ipB (64 + (20 + op.size) / 4) tos (20 + op.size + n) id frag ttl proto 0 src dst op.data.toList).length)) :
    ipR tos id frag ttl proto src dst n op (ipB (64 + (20 + op.size) / 4) tos (20 + op.size + n) id frag ttl proto c src dst op.data.toList) := by
  intro R hR hl
  have hz : op.data.toList.length = op.size := by rw [Array.length_toList]; rfl
  generalize hE : ipB (64 + (20 + op.size) / 4) tos (20 + op.size + n) id frag ttl proto 0 src dst op.data.toList = E at hc
  generalize hX : ipB (64 + (20 + op.size) / 4) tos (20 + op.size + n) id frag ttl proto c src dst op.data.toList = X at *
  have lX : X.length = 20 + op.size := by rw [← hX]; simp only [ipB, List.length_append, List.length_cons, List.length_nil]; omega
  have lE : E.length = 20 + op.size := by rw [← hE]; simp only [ipB, List.length_append, List.length_cons, List.length_nil]; omega
  have eX : X = (E.set 10 (ub1 c)).set 11 (ub c) := by rw [← hX, ← hE]; rfl
  have e0 : (List.getD (X ++ R) 0 0).toNat = 64 + (20 + op.size) / 4 := by rw [← hX]; exact ub_nat (by omega)
  have e1 : (List.getD (X ++ R) 1 0).toNat = tos := by rw [← hX]; exact ub_nat h1
  have e2 : be (List.take 2 (List.drop 2 (X ++ R))) = 20 + op.size + n := by rw [← hX]; exact be_ub2 (by omega)
  have e4 : be (List.take 2 (List.drop 4 (X ++ R))) = id := by rw [← hX]; exact be_ub2 (n := id) (by omega)
  have e6 : be (List.take 2 (List.drop 6 (X ++ R))) = frag := by rw [← hX]; exact be_ub2 (n := frag) (by omega)
  have e8 : (List.getD (X ++ R) 8 0).toNat = ttl := by rw [← hX]; exact ub_nat h4
  have e9 : (List.getD (X ++ R) 9 0).toNat = proto := by rw [← hX]; exact ub_nat h5
  have e12 : be (List.take 4 (List.drop 12 (X ++ R))) = src := by rw [← hX]; exact be_ub4 (n := src) h6
  have e16 : be (List.take 4 (List.drop 16 (X ++ R))) = dst := by rw [← hX]; exact be_ub4 (n := dst) h7
  have eO : List.take (20 + op.size - 20) (List.drop 20 (X ++ R)) = op.data.toList := by
    have : List.drop 20 (X ++ R) = op.data.toList ++ R := by rw [← hX]; rfl
    rw [this, show 20 + op.size - 20 = op.data.toList.length by omega, List.take_left]
  have eT : List.take (20 + op.size) (X ++ R) = X := by rw [← lX, List.take_left]
  have eh : 4 * ((64 + (20 + op.size) / 4) % 16) = 20 + op.size := by omega
  have hs : fo (ws X X.length) = 65535 := by
    have h0 : 64 ≤ (E.getD 0 0).toNat := by
      rw [← hE]; show 64 ≤ (ub (64 + (20 + op.size) / 4)).toNat; rw [ub_nat (by omega)]; omega
    have hw := ws_ge E E.length (by omega)
    have hf := fo_pos (show 0 < 0 + ws E E.length by omega)
    have := chk_at (E := E) (i := 10) (c := c) (s := 0) (by decide) (by omega) (by rw [← hE]; rfl) (by rw [← hE]; rfl) (by omega) hcc (by rw [Nat.zero_add] at *; omega)
    rw [Nat.zero_add, ← eX, lE, ← lX] at this
    exact this
  have hle : (X ++ R).length = 20 + op.size + R.length := by rw [List.length_append, lX]
  have h := w_Ip_ok (X ++ R) hl (by omega) (by rw [e0]; omega) (by rw [e0, eh]; omega) (by rw [e0, eh]; omega) (by rw [e2]; omega) (by rw [e0, eh, e2]; omega) (by rw [e0, eh, eT]; exact hs)
  rw [e0, e1, e2, e4, e6, e8, e9, e12, e16, eh, eO, ba_mk] at h
  rw [lX]
  exact h
def udB (sp dp n c : Nat) (D : List UInt8) : List UInt8 := [ub1 sp, ub sp, ub1 dp, ub dp, ub1 n, ub n, ub1 c, ub c] ++ D
theorem udB_len (sp dp n c : Nat) (D : List UInt8) : (udB sp dp n c D).length = 8 + D.length := by simp only [udB, List.length_append, List.length_cons, List.length_nil]

theorem popt_cons {o : Opt} {rest : List UInt8} (h : okO o = true) : popt (opB o ++ rest) = (popt rest).map (o :: ·) := by
  obtain ⟨h1, h2, h3, h4, h5, h6⟩ := (okO_iff o).1 h
  obtain ⟨c, k, d⟩ := o
  simp only at h1 h2 h3 h4 h5 h6
  obtain ⟨c, rfl⟩ := Int.eq_ofNat_of_zero_le h1
  obtain ⟨k, rfl⟩ := Int.eq_ofNat_of_zero_le h3
  have hd := ba_len d
  have e3 : ((opB ⟨(c : Nat), (k : Nat), d⟩ ++ rest).getD 3 0).toNat = d.size / 4 := ub_nat (n := d.size / 4) (by omega)
  have e0 : ((opB ⟨(c : Nat), (k : Nat), d⟩ ++ rest).getD 0 0).toNat * 256 + ((opB ⟨(c : Nat), (k : Nat), d⟩ ++ rest).getD 1 0).toNat = c := by
    show (ub1 c).toNat * 256 + (ub c).toNat = c
    simp only [ub, ub1, UInt8.toNat_ofNat']; omega
  have e2 : ((opB ⟨(c : Nat), (k : Nat), d⟩ ++ rest).getD 2 0).toNat = k := ub_nat (n := k) (by omega)
  have hm : 4 * (d.size / 4 % 32) = d.size := by omega
  have lo : (opB ⟨(c : Nat), (k : Nat), d⟩).length = 4 + d.size := by unfold opB; rw [List.length_append, hd]; simp only [List.length_cons, List.length_nil]
  have ll : (opB ⟨(c : Nat), (k : Nat), d⟩ ++ rest).length = 4 + d.size + rest.length := by rw [List.length_append, lo]
  have d4 : (opB ⟨(c : Nat), (k : Nat), d⟩ ++ rest).drop 4 = d.data.toList ++ rest := rfl
  have dm : (opB ⟨(c : Nat), (k : Nat), d⟩ ++ rest).drop (4 + d.size) = rest := by rw [← lo, List.drop_left]
  rw [popt, if_neg (by intro h; rw [h] at ll; simp only [List.length_nil] at ll; omega), if_neg (by omega), e3, hm, if_neg (by omega), dm, e0, e2, d4]
  have : (⟨(List.take d.size (d.data.toList ++ rest)).toArray⟩ : ByteArray) = d := by rw [← hd, List.take_left]
  rw [this]
theorem popt_all : ∀ {l : List Opt}, l.all okO = true → popt (l.flatMap opB) = some l
  | [], _ => by rw [List.flatMap_nil, popt, if_pos rfl]
  | o :: l, h => by
    simp only [List.all_cons, Bool.and_eq_true] at h
    rw [List.flatMap_cons, popt_cons h.1, popt_all h.2]; rfl
theorem opB_mod : ∀ {l : List Opt}, l.all okO = true → (l.flatMap opB).length % 4 = 0
  | [], _ => rfl
  | o :: l, h => by
    simp only [List.all_cons, Bool.and_eq_true] at h
    have h2 := opB_mod h.2
    have h6 := ((okO_iff o).1 h.1).2.2.2.2.2
    have lo : (opB o).length = 4 + o.d.size := by unfold opB; rw [List.length_append, ba_len]; simp only [List.length_cons, List.length_nil]
    rw [List.flatMap_cons, List.length_append, lo]; omega
theorem hdr_len (O : List UInt8) (vn : Nat) (oam cr : Bool) (fr : ByteArray) : (hdrL O vn oam cr fr).length = 8 + O.length + fr.size := by
  unfold hdrL; rw [List.length_append, List.length_append, ba_len]; simp only [List.length_cons, List.length_nil]
theorem rd_hdr {l : List Opt} {vn : Nat} {oam cr : Bool} {fr : ByteArray} (h : okA l) (hv : vn ≤ 16777215) :
    vnS ⟨(hdrL (l.flatMap opB) vn oam cr fr).toArray⟩ = vn ∧ oamS ⟨(hdrL (l.flatMap opB) vn oam cr fr).toArray⟩ = oam ∧ (⟨(hdrL (l.flatMap opB) vn oam cr fr).toArray⟩ : ByteArray).extract (zS ⟨(hdrL (l.flatMap opB) vn oam cr fr).toArray⟩) (⟨(hdrL (l.flatMap opB) vn oam cr fr).toArray⟩ : ByteArray).size = fr ∧ rdR ⟨(hdrL (l.flatMap opB) vn oam cr fr).toArray⟩ = some l := by
  have hmod := opB_mod h.1
  have hp := popt_all h.1
  have hle := h.2
  generalize l.flatMap opB = O at *
  have hl := hdr_len O vn oam cr fr
  have hz : zS ⟨(hdrL O vn oam cr fr).toArray⟩ = 8 + O.length := by
    show 8 + 4 * ((ub (O.length / 4)).toNat % 64) = _
    rw [ub_nat (by omega)]; omega
  have hsz : (⟨(hdrL O vn oam cr fr).toArray⟩ : ByteArray).size = 8 + O.length + fr.size := hl
  refine ⟨?_, ?_, ?_, ?_⟩
  · show (ub2 vn).toNat * 65536 + (ub1 vn).toNat * 256 + (ub vn).toNat = vn
    simp only [ub, ub1, ub2, UInt8.toNat_ofNat']; omega
  · show ((((fl oam cr).toNat &&& 128 : Nat) : Int) != 0) = oam
    cases oam <;> cases cr <;> rfl
  · rw [hz, hsz]
    apply ByteArray.ext
    apply Array.toList_inj.1
    rw [ex_data]
    show ((hdrL O vn oam cr fr).drop (8 + O.length)).take (8 + O.length + fr.size - (8 + O.length)) = fr.data.toList
    have : (hdrL O vn oam cr fr).drop (8 + O.length) = fr.data.toList := by
      unfold hdrL
      rw [List.drop_left' (by rw [List.length_append]; rfl)]
    rw [this, List.take_of_length_le (by rw [ba_len]; omega)]
  · rw [rdR, hz, hsz, if_neg (by omega), if_neg (by omega), ex_data]
    show popt (((hdrL O vn oam cr fr).drop 8).take (8 + O.length - 8)) = _
    have : (hdrL O vn oam cr fr).drop 8 = O ++ fr.data.toList := by
      unfold hdrL; rw [List.append_assoc]; rfl
    rw [this, show 8 + O.length - 8 = O.length by omega, List.take_left]
    exact hp
theorem ud_sp (a b sp : Nat) (ha : a < 4294967296) (hb : b < 4294967296) (Ld : List UInt8) (h1 : sp ≤ 65535) (h4 : Ld.length ≤ 65507) :
    SpecO Try.prog 18 [I .u32 (a : Nat), I .u32 (b : Nat), l4V 2 0 0 0 (sp : Nat) 6081 true 0 0 0 0 0 ⟨#[]⟩ ⟨Ld.toArray⟩] ((udB sp 6081 (8 + Ld.length) 0 Ld).map byteAV) (udB sp 6081 (8 + Ld.length) 0 Ld).length [I .i64 0] ∧
    SpecO Try.prog 21 [I .u32 (a : Nat), I .u32 (b : Nat), l4V 2 0 0 0 (sp : Nat) 6081 true 0 0 0 0 0 ⟨#[]⟩ ⟨Ld.toArray⟩] ((udB sp 6081 (8 + Ld.length) 0 Ld).map byteAV) (udB sp 6081 (8 + Ld.length) 0 Ld).length [I .i64 0] := by
  have lE := udB_len sp 6081 (8 + Ld.length) 0 Ld
  have k1 := w_whole (a := a) (b := b) (p := 17) (l := udB sp 6081 (8 + Ld.length) 0 Ld) ha hb (by decide) (by omega)
  have hz : (⟨Ld.toArray⟩ : ByteArray).size = Ld.length := rfl
  have hd : (⟨Ld.toArray⟩ : ByteArray).data.toList = Ld := by simp
  have s1 := w_E4_ud0 a b ha hb sp 6081 ⟨Ld.toArray⟩ h1 (by decide) (by rw [hz]; exact h4) _ (fo_le _) (by rw [hz, hd]; exact k1)
  have s2 := w_rE4_ud0 a b ha hb sp 6081 ⟨Ld.toArray⟩ h1 (by decide) (by rw [hz]; exact h4)
  rw [hz, hd] at s1 s2
  exact ⟨SpecO.cg s1 rfl lE.symm, SpecO.cg s2 rfl lE.symm⟩
def ipT (src dst n c : Nat) : List UInt8 := ipB (64 + (20 + (⟨#[]⟩ : ByteArray).size) / 4) 0 (20 + (⟨#[]⟩ : ByteArray).size + n) 0 16384 64 17 c src dst (⟨#[]⟩ : ByteArray).data.toList
theorem ip_sp (src dst n : Nat) (h1 : src < 4294967296) (h2 : dst < 4294967296) (h3 : n ≤ 65515) : ∃ X : List UInt8, X.length = 20 ∧
    SpecO Try.prog 19 [ipV 0 0 16384 64 17 (src : Nat) (dst : Nat) ⟨#[]⟩, I .i64 (n : Nat)] (X.map byteAV) X.length [I .i64 0] ∧ SpecO Try.prog 22 [ipV 0 0 16384 64 17 (src : Nat) (dst : Nat) ⟨#[]⟩, I .i64 (n : Nat)] (X.map byteAV) X.length [I .i64 0] ∧ ipR 0 0 16384 64 17 src dst n ⟨#[]⟩ X := by
  have hz : (⟨#[]⟩ : ByteArray).size = 0 := rfl
  have lX : ∀ c, (ipT src dst n c).length = 20 := fun c => rfl
  generalize hc : 65535 - fo (ws (ipT src dst n 0) (ipT src dst n 0).length) = c
  have hcc : c ≤ 65535 := by omega
  have k1 := w_Check (l := ipT src dst n 0) (by rw [lX]; decide)
  have k2 := w_refCheck (l := ipT src dst n 0) (by rw [lX]; decide)
  rw [hc] at k1 k2
  exact ⟨ipT src dst n c, lX c, SpecO.cg (w_Ei 0 0 16384 64 17 src dst n ⟨#[]⟩ (by decide) (by decide) (by decide) (by decide) (by decide) h1 h2 (by decide) rfl (by rw [hz]; omega) c hcc k1) rfl (lX c).symm, SpecO.cg (w_rEi 0 0 16384 64 17 src dst n ⟨#[]⟩ (by decide) (by decide) (by decide) (by decide) (by decide) h1 h2 (by decide) rfl (by rw [hz]; omega) c hcc k2) rfl (lX c).symm,
    ip_read (by decide) (by decide) (by decide) (by decide) (by decide) h1 h2 (by decide) rfl (by rw [hz]; omega) hcc hc.symm⟩
theorem tun_ok (src dst sp vn : Nat) (oam : Bool) (l : List Opt) (fr : ByteArray) (h1 : src < 4294967296) (h2 : dst < 4294967296) (hsp : sp ≤ 65535) (hvn : vn ≤ 16777215) (hl0 : l.length ≤ 4611686018427387) (hz0 : ∀ o ∈ l, o.d.size ≤ 200000000000000) (ha : okA l) (hfr : fr.size ≤ 9018) :
    ∃ L : List UInt8, L.length ≤ 65535 ∧ 28 ≤ L.length ∧ Spec0 Try.prog 7 [.agg [I .u32 (src : Nat), I .u32 (dst : Nat), I .i64 (sp : Nat), I .i64 (vn : Nat), B oam, OL l, S fr]] (.tup [.im 1 (L.map byteAV), I .i64 0]) ∧ Spec0 Try.prog 8 [.agg [I .u32 (src : Nat), I .u32 (dst : Nat), I .i64 (sp : Nat), I .i64 (vn : Nat), B oam, OL l, S fr]] (.tup [.im 1 (L.map byteAV), I .i64 0]) ∧ Spec0 Try.prog 10 [.im 1 (L.map byteAV)] (.tup [.agg [I .u32 (src : Nat), I .u32 (dst : Nat), I .i64 (sp : Nat), I .i64 (vn : Nat), B oam, OL l, S fr], I .i64 0]) := by
  obtain ⟨d1, d2, d3, d4⟩ := rd_hdr (vn := vn) (oam := oam) (cr := l.any crit) (fr := fr) ha hvn
  have hO := w_options l hl0 hz0
  rw [if_pos ha] at hO
  have hle := ha.2
  have hlen := hdr_len (l.flatMap opB) vn oam (l.any crit) fr
  generalize hLd : hdrL (l.flatMap opB) vn oam (l.any crit) fr = Ld at *
  obtain ⟨s1, s2⟩ := ud_sp src dst sp h1 h2 Ld hsp (by omega)
  have lD := udB_len sp 6081 (8 + Ld.length) 0 Ld
  have dD : List.drop 8 (udB sp 6081 (8 + Ld.length) 0 Ld) = Ld := rfl
  have b0 : be (List.take 2 (udB sp 6081 (8 + Ld.length) 0 Ld)) = sp := be_ub2 (n := sp) (by omega)
  have b2 : be (List.take 2 (List.drop 2 (udB sp 6081 (8 + Ld.length) 0 Ld))) = 6081 := be_ub2 (n := 6081) (by decide)
  have b4 : be (List.take 2 (List.drop 4 (udB sp 6081 (8 + Ld.length) 0 Ld))) = 8 + Ld.length := be_ub2 (n := 8 + Ld.length) (by omega)
  have b6 : be (List.take 2 (List.drop 6 (udB sp 6081 (8 + Ld.length) 0 Ld))) = 0 := be_ub2 (n := 0) (by decide)
  generalize udB sp 6081 (8 + Ld.length) 0 Ld = D at *
  obtain ⟨X, lX, x1, x2, xR⟩ := ip_sp src dst D.length h1 h2 (by omega)
  have hE : Spec0 Try.prog 7 [.agg [I .u32 (src : Nat), I .u32 (dst : Nat), I .i64 (sp : Nat), I .i64 (vn : Nat), B oam, OL l, S fr]] (.tup [.im 1 ((X ++ D).map byteAV), I .i64 0]) := by
    have fin : ∀ {K : AV}, K = .tup [.im 1 ((X ++ List.take D.length D).map byteAV), I .i64 0] → K = .tup [.im 1 ((X ++ D).map byteAV), I .i64 0] := fun h => by rw [h, List.take_length]
    cases oam <;> cases hc : l.any crit <;> rw [hc] at hO hLd
    · exact Spec0.cg (w_En_ff src dst sp vn l fr hfr hsp hvn _ hle hO ⟨Ld.toArray⟩ (by rw [← hLd]; rfl) D (by omega) s1 X (by omega) x1) (fin rfl)
    · exact Spec0.cg (w_En_ft src dst sp vn l fr hfr hsp hvn _ hle hO ⟨Ld.toArray⟩ (by rw [← hLd]; rfl) D (by omega) s1 X (by omega) x1) (fin rfl)
    · exact Spec0.cg (w_En_tf src dst sp vn l fr hfr hsp hvn _ hle hO ⟨Ld.toArray⟩ (by rw [← hLd]; rfl) D (by omega) s1 X (by omega) x1) (fin rfl)
    · exact Spec0.cg (w_En_tt src dst sp vn l fr hfr hsp hvn _ hle hO ⟨Ld.toArray⟩ (by rw [← hLd]; rfl) D (by omega) s1 X (by omega) x1) (fin rfl)
  have hl : (X ++ D).length = 20 + D.length := by rw [List.length_append, lX]
  refine ⟨X ++ D, by omega, by omega, hE, w_rEn src dst sp vn oam l fr hsp hvn hl0 hz0 (by omega) _ (fun h => absurd ha h) (fun _ h => by omega) (fun _ _ => ⟨Ld, D, X, hLd.symm, by omega, by omega, s2, x2, rfl⟩), ?_⟩
  have hI := xR D (Nat.le_refl _) (by omega)
  rw [lX] at hI
  have hL := w_L4_ud_none src dst D h1 h2 (by omega) (by omega) (by rw [b4]; omega) b6
  rw [b0, b2, dD] at hL
  have hR := w_read ⟨Ld.toArray⟩ (by rw [ba_szL]; omega)
  rw [d1, d2, d3, d4] at hR
  have eD : ((X ++ D).drop 20).take (20 + D.length - 20) = D := by
    rw [← lX, List.drop_left, lX, Nat.add_sub_cancel_left, List.take_length]
  exact w_Dc_ok (X ++ D) (by omega) 0 0 16384 64 17 src dst 20 (20 + D.length) ⟨#[]⟩ hI (by omega) (by omega) 2 0 0 0 sp 6081 0 0 0 0 0 true ⟨#[]⟩ ⟨Ld.toArray⟩ (by rw [eD]; exact hL) vn oam l fr hR hE

end Go.Proofs.Ytkhpligflffamaa
