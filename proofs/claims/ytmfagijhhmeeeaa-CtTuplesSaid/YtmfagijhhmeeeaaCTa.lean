/-
  The law CtTuples.
-/
import Derived.Test.YtmfagijhhmeeeaaOGa
import Derived.Test.YtmfagijhhmeeeaaXLa
set_option linter.unusedVariables false
set_option linter.unusedSimpArgs false
set_option maxRecDepth 100000
set_option maxHeartbeats 1000000
namespace Go.Proofs.Ytmfagijhhmeeeaa
open Go Go.SL Go.Proofs
theorem tuples (p : Pkt) (t a : Tup) (b : Bool) (h1 : Spec0 Try.prog 10 [.agg p.cells] (.tup [.agg a.cells, B b])) (h2 : Spec0 Try.prog 11 [.agg p.cells] (.tup [.agg a.cells, B b])) (h3 : Spec0 Try.prog 12 [] (B true)) : Spec0 Try.prog 3 [.agg p.cells, .agg t.cells] (B true) := sx0 hm hF 1000 20 [.c 3 1 1 (AV.tup [AV.agg [I .i64 a.proto, I .u32 a.src, I .u32 a.dst, I .i64 a.sport, I .i64 a.dport], B b]), .c 3 2 1 (AV.tup [AV.agg [I .i64 a.proto, I .u32 a.src, I .u32 a.dst, I .i64 a.sport, I .i64 a.dport], B b]), .c 3 3 0 (B true), .b 3 3 4 true, .b 3 3 9 true, .b 3 3 16 true, .b 3 3 23 true] [(t.proto == t.proto && (t.src == t.src && (t.dst == t.dst && (t.sport == t.sport && (t.dport == t.dport && true))))) = true, (t.proto == t.proto && (t.dst == t.dst && (t.src == t.src && (t.dport == t.dport && (t.sport == t.sport && true))))) = true, (b == b) = true, (a.proto == a.proto && (a.src == a.src && (a.dst == a.dst && (a.sport == a.sport && (a.dport == a.dport && true))))) = true, Spec0 Try.prog 12 [] (B true), Spec0 Try.prog 11 [AV.agg (Pkt.cells p)] (AV.tup [AV.agg [I .i64 a.proto, I .u32 a.src, I .u32 a.dst, I .i64 a.sport, I .i64 a.dport], B b]), Spec0 Try.prog 10 [AV.agg (Pkt.cells p)] (AV.tup [AV.agg [I .i64 a.proto, I .u32 a.src, I .u32 a.dst, I .i64 a.sport, I .i64 a.dport], B b])] (by kernel_rfl) ⟨(by first | omega | simp <;> omega), (by first | omega | simp <;> omega), (by first | omega | simp <;> omega), (by first | omega | simp <;> omega), h3, h2, h1, trivial⟩
theorem w_CtTuples (p : Pkt) (t : Tup) (r0 : 0 ≤ p.rest) (r1 : p.rest ≤ 4294967295) : Spec0 Try.prog 3 [.agg p.cells, .agg t.cells] (B true) := by
  by_cases h : isT p
  · exact tuples p t (tupV p) true (of_ok p h r0 r1) (rof_ok p h r0 r1) w_lives
  · exact tuples p t zT false (of_no p h) (rof_no p h) w_lives

end Go.Proofs.Ytmfagijhhmeeeaa
