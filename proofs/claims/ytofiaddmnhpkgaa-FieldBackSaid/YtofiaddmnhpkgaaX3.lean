/-
  Two fields of a State set in either order; structs compared with themselves.
-/
import Derived.Test.YtofiaddmnhpkgaaX2
set_option linter.unusedVariables false
set_option maxRecDepth 100000
set_option maxHeartbeats 2000000
namespace Go.Proofs.Ytofiaddmnhpkgaa
open Go Go.SL Go.Proofs

/-- Are States the same? -/
def eqSt (r t : Stt) : Bool := ((r.dst == t.dst && (r.src == t.src && (r.tagged == t.tagged && (r.tag == t.tag && (r.ty == t.ty && true))))) && (r.isArp == t.isArp && ((r.op == t.op && (r.sha == t.sha && (r.spa == t.spa && (r.tha == t.tha && (r.tpa == t.tpa && true))))) && (r.isIp == t.isIp && ((r.tos == t.tos && (r.id == t.id && (r.frag == t.frag && (r.ttl == t.ttl && (r.proto == t.proto && (r.isrc == t.isrc && (r.idst == t.idst && (r.iopt == t.iopt && true)))))))) && ((r.kind == t.kind && (r.typ == t.typ && (r.code == t.code && (r.rest == t.rest && (r.sport == t.sport && (r.dport == t.dport && (r.noSum == t.noSum && (r.seq == t.seq && (r.ack == t.ack && (r.flags == t.flags && (r.win == t.win && (r.urg == t.urg && (r.lopt == t.lopt && (r.data == t.data && true)))))))))))))) && (r.body == t.body && (r.pad == t.pad && true)))))))) && (r.ct == t.ct && (r.dp == t.dp && (r.inn == t.inn && (r.out == t.out && ((r.r0 == t.r0 && (r.r1 == t.r1 && (r.r2 == t.r2 && (r.r3 == t.r3 && true)))) && ((r.oproto == t.oproto && (r.osrc == t.osrc && (r.odst == t.odst && (r.osport == t.osport && (r.odport == t.odport && true))))) && true))))))
theorem bself (a : ByteArray) : (a == a) = true := by rw [beq_toListBytes]; simp
theorem eqSt_self (r : Stt) : eqSt r r = true := by simp only [eqSt, beq_self_eq_true, bself, Bool.and_self]
theorem allI_eq : ∀ k : Nat, k ≤ 28 → IntKind.u64.wrap (IntKind.u64.wrap (1 * 2 ^ min (Int.toNat (Int.ofNat (bN k))) IntKind.u64.bits) - 1) = allI k := by decide
theorem hasF_put (s : Stt) (v : Int) : ∀ k j : Nat, hasF (putF s v k) j = hasF s j := by
  intro k j
  unfold putF
  split <;> rfl
theorem raw_put (s : Stt) (v : Int) : ∀ k j : Nat, k ≠ j → raw (putF s v k) j = raw s j := by
  intro k j h
  unfold putF
  split <;> (unfold raw; split <;> first | rfl | exact absurd rfl h)
theorem put_put (s : Stt) (v u : Int) (k j : Nat) (h : k ≠ j) : putF (putF s v k) u j = putF (putF s u j) v k := by
  unfold putF
  split <;> (split <;> first | rfl | exact absurd rfl h)
end Go.Proofs.Ytofiaddmnhpkgaa
