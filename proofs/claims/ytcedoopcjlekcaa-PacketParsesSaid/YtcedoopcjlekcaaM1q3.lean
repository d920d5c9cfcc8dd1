/-
  Heads: good ones are printed and read again.
-/
import Derived.Test.YtcedoopcjlekcaaL0q3
import Derived.Test.YtcedoopcjlekcaaE2q3
import Derived.Test.YtcedoopcjlekcaaY1q3
import Derived.Test.YtcedoopcjlekcaaY2q3
set_option linter.unusedVariables false
set_option linter.unusedSimpArgs false
set_option maxRecDepth 100000
set_option maxHeartbeats 1000000
namespace Go.Proofs.Ytcedoopcjlekcaa
open Go Go.SL Go.Proofs

theorem SpecO.cg {k : Nat} {a : List AV} {L M : List AV} {n m : Nat} {r : List AV} (h : SpecO Try.prog k a L n r) (e : L = M) (e2 : n = m) : SpecO Try.prog k a M m r := e ▸ e2 ▸ h
theorem ba_mk (b : ByteArray) : (⟨b.data.toList.toArray⟩ : ByteArray) = b := by cases b; simp
/-- Both answer the same: bytes of their own, or an error. -/
def Enc (k1 k2 : Nat) (args : List AV) (L : List UInt8) : Prop := SpecO Try.prog k1 args (L.map byteAV) L.length [I .i64 0] ∧ SpecO Try.prog k2 args (L.map byteAV) L.length [I .i64 0]
abbrev ethV (d s tag ty : Int) (tg : Bool) : AV := .agg [I .u64 d, I .u64 s, B tg, I .i64 tag, I .i64 ty]
abbrev arpV (ao sha spa tha tpa : Int) : AV := .agg [I .i64 ao, I .u64 sha, I .u32 spa, I .u64 tha, I .u32 tpa]
abbrev ipV (tos id frag ttl proto src dst : Int) (opt : ByteArray) : AV := .agg [I .i64 tos, I .i64 id, I .i64 frag, I .i64 ttl, I .i64 proto, I .u32 src, I .u32 dst, S opt]
abbrev l4V (k ty co re sp dp : Int) (ns : Bool) (se ac fl wi ur : Int) (op da : ByteArray) : AV := .agg [I .i64 k, I .i64 ty, I .i64 co, I .u32 re, I .i64 sp, I .i64 dp, B ns, I .u32 se, I .u32 ac, I .i64 fl, I .i64 wi, I .i64 ur, S op, S da]
def ethR (d s tag ty : Nat) (tg : Bool) (H : List UInt8) : Prop := ∀ R : List UInt8, (H ++ R).length ≤ 9018 → Spec0 Try.prog 16 [.im 1 ((H ++ R).map byteAV)] (.tup [ethV (d : Nat) (s : Nat) (tag : Nat) (ty : Nat) tg, I .i64 (H.length : Nat), I .i64 0])

abbrev One (k : Nat) (args : List AV) (L : List UInt8) : Prop := SpecO Try.prog k args (L.map byteAV) L.length [I .i64 0]
theorem eth_ok0 (d s ty : Nat) (g1 : d ≤ 281474976710655) (g2 : s ≤ 281474976710655) (g4 : ty ≤ 65535) (g5 : ty ≠ 33024) : One 27 [ethV (d : Nat) (s : Nat) 0 (ty : Nat) false] [ub5 d, ub4 d, ub3 d, ub2 d, ub1 d, ub d, ub5 s, ub4 s, ub3 s, ub2 s, ub1 s, ub s, ub1 ty, ub ty] ∧ ethR d s 0 ty false [ub5 d, ub4 d, ub3 d, ub2 d, ub1 d, ub d, ub5 s, ub4 s, ub3 s, ub2 s, ub1 s, ub s, ub1 ty, ub ty] := by
  refine ⟨w_Eh0 d s ty g1 g2 g4 g5, fun R hR => ?_⟩
  have e3 : be (List.take 2 (List.drop 12 ([ub5 d, ub4 d, ub3 d, ub2 d, ub1 d, ub d, ub5 s, ub4 s, ub3 s, ub2 s, ub1 s, ub s, ub1 ty, ub ty] ++ R))) = ty := be_ub2 (n := ty) (by omega)
  have h := w_Head_ok _ (Nat.le_trans hR (by decide)) (by simp only [List.length_append, List.length_cons]; omega) hR (by rw [e3]; exact g5)
  rw [e3, show be (List.take 6 ([ub5 d, ub4 d, ub3 d, ub2 d, ub1 d, ub d, ub5 s, ub4 s, ub3 s, ub2 s, ub1 s, ub s, ub1 ty, ub ty] ++ R)) = d from be_ub6 (n := d) (by omega),
    show be (List.take 6 (List.drop 6 ([ub5 d, ub4 d, ub3 d, ub2 d, ub1 d, ub d, ub5 s, ub4 s, ub3 s, ub2 s, ub1 s, ub s, ub1 ty, ub ty] ++ R))) = s from be_ub6 (n := s) (by omega)] at h
  exact h
theorem eth_ok1 (d s tag ty : Nat) (g1 : d ≤ 281474976710655) (g2 : s ≤ 281474976710655) (g3 : tag ≤ 65535) (g4 : ty ≤ 65535) (g5 : ty ≠ 33024) : One 27 [ethV (d : Nat) (s : Nat) (tag : Nat) (ty : Nat) true] [ub5 d, ub4 d, ub3 d, ub2 d, ub1 d, ub d, ub5 s, ub4 s, ub3 s, ub2 s, ub1 s, ub s, 129, 0, ub1 tag, ub tag, ub1 ty, ub ty] ∧ ethR d s tag ty true [ub5 d, ub4 d, ub3 d, ub2 d, ub1 d, ub d, ub5 s, ub4 s, ub3 s, ub2 s, ub1 s, ub s, 129, 0, ub1 tag, ub tag, ub1 ty, ub ty] := by
  refine ⟨w_Eh1 d s ty g1 g2 g4 g5 tag g3, fun R hR => ?_⟩
  have e3 : be (List.take 2 (List.drop 16 ([ub5 d, ub4 d, ub3 d, ub2 d, ub1 d, ub d, ub5 s, ub4 s, ub3 s, ub2 s, ub1 s, ub s, 129, 0, ub1 tag, ub tag, ub1 ty, ub ty] ++ R))) = ty := be_ub2 (n := ty) (by omega)
  have h := w_Head_tag _ (Nat.le_trans hR (by decide)) (by simp only [List.length_append, List.length_cons]; omega) hR (show be [129, 0] = 33024 by rfl) (by rw [e3]; exact g5)
  rw [e3, show be (List.take 6 ([ub5 d, ub4 d, ub3 d, ub2 d, ub1 d, ub d, ub5 s, ub4 s, ub3 s, ub2 s, ub1 s, ub s, 129, 0, ub1 tag, ub tag, ub1 ty, ub ty] ++ R)) = d from be_ub6 (n := d) (by omega),
    show be (List.take 6 (List.drop 6 ([ub5 d, ub4 d, ub3 d, ub2 d, ub1 d, ub d, ub5 s, ub4 s, ub3 s, ub2 s, ub1 s, ub s, 129, 0, ub1 tag, ub tag, ub1 ty, ub ty] ++ R))) = s from be_ub6 (n := s) (by omega),
    show be (List.take 2 (List.drop 14 ([ub5 d, ub4 d, ub3 d, ub2 d, ub1 d, ub d, ub5 s, ub4 s, ub3 s, ub2 s, ub1 s, ub s, 129, 0, ub1 tag, ub tag, ub1 ty, ub ty] ++ R))) = tag from be_ub2 (n := tag) (by omega)] at h
  exact h
def arpR (ao sha spa tha tpa : Nat) (A : List UInt8) : Prop := ∀ R : List UInt8, (A ++ R).length ≤ 9018 → Spec0 Try.prog 17 [.im 1 ((A ++ R).map byteAV)] (.tup [arpV (ao : Nat) (sha : Nat) (spa : Nat) (tha : Nat) (tpa : Nat), I .i64 0])

theorem arp_ok (ao sha spa tha tpa : Nat) (g1 : ao ≤ 65535) (g2 : sha ≤ 281474976710655) (g3 : spa < 4294967296) (g4 : tha ≤ 281474976710655) (g5 : tpa < 4294967296) : One 51 [arpV (ao : Nat) (sha : Nat) (spa : Nat) (tha : Nat) (tpa : Nat)] [0, 1, 8, 0, 6, 4, ub1 ao, ub ao, ub5 sha, ub4 sha, ub3 sha, ub2 sha, ub1 sha, ub sha, ub3 spa, ub2 spa, ub1 spa, ub spa, ub5 tha, ub4 tha, ub3 tha, ub2 tha, ub1 tha, ub tha, ub3 tpa, ub2 tpa, ub1 tpa, ub tpa] ∧ arpR ao sha spa tha tpa [0, 1, 8, 0, 6, 4, ub1 ao, ub ao, ub5 sha, ub4 sha, ub3 sha, ub2 sha, ub1 sha, ub sha, ub3 spa, ub2 spa, ub1 spa, ub spa, ub5 tha, ub4 tha, ub3 tha, ub2 tha, ub1 tha, ub tha, ub3 tpa, ub2 tpa, ub1 tpa, ub tpa] := by
  refine ⟨w_Ea ao sha spa tha tpa g1 g2 g3 g4 g5, fun R hR => ?_⟩
  generalize hA : ([0, 1, 8, 0, 6, 4, ub1 ao, ub ao, ub5 sha, ub4 sha, ub3 sha, ub2 sha, ub1 sha, ub sha, ub3 spa, ub2 spa, ub1 spa, ub spa, ub5 tha, ub4 tha, ub3 tha, ub2 tha, ub1 tha, ub tha, ub3 tpa, ub2 tpa, ub1 tpa, ub tpa] : List UInt8) = A at *
  have hl : A.length = 28 := by rw [← hA]; rfl
  have e1 : be (List.take 2 (List.drop 6 (A ++ R))) = ao := by rw [← hA]; exact be_ub2 (n := ao) (by omega)
  have e2 : be (List.take 6 (List.drop 8 (A ++ R))) = sha := by rw [← hA]; exact be_ub6 (n := sha) (by omega)
  have e3 : be (List.take 4 (List.drop 14 (A ++ R))) = spa := by rw [← hA]; exact be_ub4 (n := spa) (by omega)
  have e4 : be (List.take 6 (List.drop 18 (A ++ R))) = tha := by rw [← hA]; exact be_ub6 (n := tha) (by omega)
  have e5 : be (List.take 4 (List.drop 24 (A ++ R))) = tpa := by rw [← hA]; exact be_ub4 (n := tpa) (by omega)
  have h := w_Arp_ok (A ++ R) (Nat.le_trans hR (by decide)) (by rw [List.length_append]; omega) (by rw [← hA]; rfl)
  rw [e1, e2, e3, e4, e5] at h
  exact h
def ipB (b0 tos tot id frag ttl proto c src dst : Nat) (O : List UInt8) : List UInt8 := [ub b0, ub tos, ub1 tot, ub tot, ub1 id, ub id, ub1 frag, ub frag, ub ttl, ub proto, ub1 c, ub c, ub3 src, ub2 src, ub1 src, ub src, ub3 dst, ub2 dst, ub1 dst, ub dst] ++ O
def ipR (tos id frag ttl proto src dst n : Nat) (opt : ByteArray) (X : List UInt8) : Prop := ∀ R : List UInt8, n ≤ R.length → (X ++ R).length ≤ 200000000000000 → Spec0 Try.prog 15 [.im 1 ((X ++ R).map byteAV)] (.tup [ipV (tos : Nat) (id : Nat) (frag : Nat) (ttl : Nat) (proto : Nat) (src : Nat) (dst : Nat) opt, I .i64 (X.length : Nat), I .i64 ((X.length + n : Nat)), I .i64 0])
theorem ip_read {tos id frag ttl proto src dst n : Nat} {op : ByteArray} (h1 : tos ≤ 255) (h2 : id ≤ 65535) (h3 : frag ≤ 65535) (h4 : ttl ≤ 255) (h5 : proto ≤ 255) (h6 : src < 4294967296) (h7 : dst < 4294967296) (h8 : op.size ≤ 40) (h9 : op.size % 4 = 0) (h10 : n ≤ 65515 - op.size)
    {c : Nat} (hcc : c ≤ 65535) (hc : c = 65535 - fo (ws (ipB (64 + (20 + op.size) / 4) tos (20 + op.size + n) id frag ttl proto 0 src dst op.data.toList) (ipB (64 + (20 + op.size) / 4) tos (20 + op.size + n) id frag ttl proto 0 src dst op.data.toList).length)) :
    ipR tos id frag ttl proto src dst n op (ipB (64 + (20 + op.size) / 4) tos (20 + op.size + n) id frag ttl proto c src dst op.data.toList) := by
  intro R hR hl
  have hz : op.data.toList.length = op.size := by rw [Array.length_toList]; rfl
  generalize hE : ipB (64 + (20 + op.size) / 4) tos (20 + op.size + n) id frag ttl proto 0 src dst op.data.toList = E at hc
  generalize hX : ipB (64 + (20 + op.size) / 4) tos (20 + op.size + n) id frag ttl proto c src dst op.data.toList = X at *
  have lX : X.length = 20 + op.size := by rw [← hX]; simp only [ipB, List.length_append, List.length_cons, List.length_nil]; omega
  have lE : E.length = 20 + op.size := by rw [← hE]; simp only [ipB, List.length_append, List.length_cons, List.length_nil]; omega
  have eX : X = (E.set 10 (ub1 c)).set 11 (ub c) := by rw [← hX, ← hE]; rfl
  have e0 : (List.getD (X ++ R) 0 0).toNat = 64 + (20 + op.size) / 4 := by rw [← hX]; exact ub_nat (by omega)
  have e1 : (List.getD (X ++ R) 1 0).toNat = tos := by rw [← hX]; exact ub_nat h1
  have e2 : be (List.take 2 (List.drop 2 (X ++ R))) = 20 + op.size + n := by rw [← hX]; exact be_ub2 (by omega)
  have e4 : be (List.take 2 (List.drop 4 (X ++ R))) = id := by rw [← hX]; exact be_ub2 (n := id) (by omega)
  have e6 : be (List.take 2 (List.drop 6 (X ++ R))) = frag := by rw [← hX]; exact be_ub2 (n := frag) (by omega)
  have e8 : (List.getD (X ++ R) 8 0).toNat = ttl := by rw [← hX]; exact ub_nat h4
  have e9 : (List.getD (X ++ R) 9 0).toNat = proto := by rw [← hX]; exact ub_nat h5
  have e12 : be (List.take 4 (List.drop 12 (X ++ R))) = src := by rw [← hX]; exact be_ub4 (n := src) h6
  have e16 : be (List.take 4 (List.drop 16 (X ++ R))) = dst := by rw [← hX]; exact be_ub4 (n := dst) h7
  have eO : List.take (20 + op.size - 20) (List.drop 20 (X ++ R)) = op.data.toList := by
    have : List.drop 20 (X ++ R) = op.data.toList ++ R := by rw [← hX]; rfl
    rw [this, show 20 + op.size - 20 = op.data.toList.length by omega, List.take_left]
  have eT : List.take (20 + op.size) (X ++ R) = X := by rw [← lX, List.take_left]
  have eh : 4 * ((64 + (20 + op.size) / 4) % 16) = 20 + op.size := by omega
  have hs : fo (ws X X.length) = 65535 := by
    have h0 : 64 ≤ (E.getD 0 0).toNat := by
      rw [← hE]; show 64 ≤ (ub (64 + (20 + op.size) / 4)).toNat; rw [ub_nat (by omega)]; omega
    have hw := ws_ge E E.length (by omega)
    have hf := fo_pos (show 0 < 0 + ws E E.length by omega)
    have := chk_at (E := E) (i := 10) (c := c) (s := 0) (by decide) (by omega) (by rw [← hE]; rfl) (by rw [← hE]; rfl) (by omega) hcc (by rw [Nat.zero_add] at *; omega)
    rw [Nat.zero_add, ← eX, lE, ← lX] at this
    exact this
  have hle : (X ++ R).length = 20 + op.size + R.length := by rw [List.length_append, lX]
  have h := w_Ip_ok (X ++ R) hl (by omega) (by rw [e0]; omega) (by rw [e0, eh]; omega) (by rw [e0, eh]; omega) (by rw [e2]; omega) (by rw [e0, eh, e2]; omega) (by rw [e0, eh, eT]; exact hs)
  rw [e0, e1, e2, e4, e6, e8, e9, e12, e16, eh, eO, ba_mk] at h
  rw [lX]
  exact h

theorem ip_ok (tos id frag ttl proto src dst n : Nat) (op : ByteArray) (h1 : tos ≤ 255) (h2 : id ≤ 65535) (h3 : frag ≤ 65535) (h4 : ttl ≤ 255) (h5 : proto ≤ 255) (h6 : src < 4294967296) (h7 : dst < 4294967296) (h8 : op.size ≤ 40) (h9 : op.size % 4 = 0) (h10 : n ≤ 65515 - op.size) :
    ∃ c, One 53 [ipV (tos : Nat) (id : Nat) (frag : Nat) (ttl : Nat) (proto : Nat) (src : Nat) (dst : Nat) op, I .i64 (n : Nat)] (ipB (64 + (20 + op.size) / 4) tos (20 + op.size + n) id frag ttl proto c src dst op.data.toList) ∧ ipR tos id frag ttl proto src dst n op (ipB (64 + (20 + op.size) / 4) tos (20 + op.size + n) id frag ttl proto c src dst op.data.toList) := by
  have hs : op.data.toList.length = op.size := by rw [Array.length_toList]; rfl
  have lX : ∀ c, (ipB (64 + (20 + op.size) / 4) tos (20 + op.size + n) id frag ttl proto c src dst op.data.toList).length = 20 + op.size := fun c => by simp only [ipB, List.length_append, List.length_cons, List.length_nil]; omega
  have lE := lX 0
  generalize hc : 65535 - fo (ws (ipB (64 + (20 + op.size) / 4) tos (20 + op.size + n) id frag ttl proto 0 src dst op.data.toList) (ipB (64 + (20 + op.size) / 4) tos (20 + op.size + n) id frag ttl proto 0 src dst op.data.toList).length) = c
  have hcc : c ≤ 65535 := by omega
  have k1 := w_Check (l := ipB (64 + (20 + op.size) / 4) tos (20 + op.size + n) id frag ttl proto 0 src dst op.data.toList) (by omega)
  rw [hc] at k1
  exact ⟨c, SpecO.cg (w_Ei tos id frag ttl proto src dst n op h1 h2 h3 h4 h5 h6 h7 h8 h9 h10 c hcc k1) rfl (lX c).symm, ip_read h1 h2 h3 h4 h5 h6 h7 h8 h9 h10 hcc hc.symm⟩

end Go.Proofs.Ytcedoopcjlekcaa
