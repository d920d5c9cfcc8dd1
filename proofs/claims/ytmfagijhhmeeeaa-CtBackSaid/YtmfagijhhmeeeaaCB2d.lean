/-
  The law CtBack.
-/
import Derived.Test.YtmfagijhhmeeeaaCBd
set_option linter.unusedVariables false
set_option linter.unusedSimpArgs false
set_option maxRecDepth 100000
set_option maxHeartbeats 1000000
namespace Go.Proofs.Ytmfagijhhmeeeaa
open Go Go.SL Go.Proofs

theorem isT_congr {p q : Pkt} (h : isT p) (h1 : q.isIp = p.isIp) (h2 : q.frag = p.frag) (h3 : q.kind = p.kind) (h4 : q.typ = p.typ) (h5 : q.code = p.code) : isT q := by
  unfold isT at h ⊢
  rw [h1, h2, h3, h4, h5]; exact h
theorem of_u (p q : Pkt) (hk : p.kind ≠ 1) (h : isT p) (r0 : 0 ≤ p.rest) (r1 : p.rest ≤ 4294967295) (h1 : q.isIp = p.isIp) (h2 : q.frag = p.frag) (h3 : q.kind = p.kind) (h4 : q.typ = p.typ) (h5 : q.code = p.code) (h6 : q.rest = p.rest) :
    Spec0 Try.prog 10 [.agg q.cells] (.tup [.agg (Tup.cells ⟨q.proto, q.isrc, q.idst, q.sport, q.dport⟩), B true]) := by
  have := of_ok q (isT_congr h h1 h2 h3 h4 h5) (by rw [h6]; exact r0) (by rw [h6]; exact r1)
  unfold tupV at this
  rwa [if_neg (by rw [h3]; exact hk)] at this
theorem of_i (p q : Pkt) (hk : p.kind = 1) (h : isT p) (r0 : 0 ≤ p.rest) (r1 : p.rest ≤ 4294967295) (h1 : q.isIp = p.isIp) (h2 : q.frag = p.frag) (h3 : q.kind = p.kind) (h4 : q.typ = p.typ) (h5 : q.code = p.code) (h6 : q.rest = p.rest) :
    Spec0 Try.prog 10 [.agg q.cells] (.tup [.agg (Tup.cells ⟨q.proto, q.isrc, q.idst, p.rest / 65536, p.rest / 65536⟩), B true]) := by
  have := of_ok q (isT_congr h h1 h2 h3 h4 h5) (by rw [h6]; exact r0) (by rw [h6]; exact r1)
  unfold tupV at this
  rwa [if_pos (by rw [h3]; exact hk), h6] at this
theorem w_CtBack (p : Pkt) (dst port z : Int) (r0 : 0 ≤ p.rest) (r1 : p.rest ≤ 4294967295) : Spec0 Try.prog 4 [.agg p.cells, I .u32 dst, I .i64 port, I .i64 z] (B true) := by
  by_cases h : isT p
  · have o := of_ok p h r0 r1
    by_cases z0 : 0 ≤ z
    · by_cases z1 : z ≤ 65535
      · by_cases q0 : 0 ≤ port
        · by_cases q1 : port ≤ 65535
          · by_cases hk : p.kind = 1
            · by_cases hE : p.isrc = p.idst ∧ dst = p.isrc
              · obtain ⟨e1, rfl⟩ := hE
                exact bk_iE p z port _ w_lives z0 z1 q0 q1 hk (of_i p p hk h r0 r1 rfl rfl rfl rfl rfl rfl) (of_i p _ hk h r0 r1 rfl rfl rfl rfl rfl rfl) e1
              · by_cases hX : dst = p.idst
                · subst hX
                  exact bk_iX p z port _ w_lives z0 z1 q0 q1 hk (of_i p p hk h r0 r1 rfl rfl rfl rfl rfl rfl) (of_i p _ hk h r0 r1 rfl rfl rfl rfl rfl rfl) (of_i p _ hk h r0 r1 rfl rfl rfl rfl rfl rfl) (of_i p _ hk h r0 r1 rfl rfl rfl rfl rfl rfl) hE
                · exact bk_iN p z dst port _ w_lives z0 z1 q0 q1 hk (of_i p p hk h r0 r1 rfl rfl rfl rfl rfl rfl) (of_i p _ hk h r0 r1 rfl rfl rfl rfl rfl rfl) (of_i p _ hk h r0 r1 rfl rfl rfl rfl rfl rfl) (of_i p _ hk h r0 r1 rfl rfl rfl rfl rfl rfl) hE hX
            · by_cases hE : p.isrc = p.idst ∧ dst = p.isrc ∧ p.sport = p.dport ∧ port = p.sport
              · obtain ⟨e1, rfl, e2, rfl⟩ := hE
                exact bk_uE p z w_lives z0 z1 q0 q1 hk (of_u p p hk h r0 r1 rfl rfl rfl rfl rfl rfl) (of_u p _ hk h r0 r1 rfl rfl rfl rfl rfl rfl) e1 e2
              · by_cases hX : dst = p.idst ∧ port = p.dport
                · obtain ⟨rfl, rfl⟩ := hX
                  exact bk_uX p z w_lives z0 z1 q0 q1 hk (of_u p p hk h r0 r1 rfl rfl rfl rfl rfl rfl) (of_u p _ hk h r0 r1 rfl rfl rfl rfl rfl rfl) (of_u p _ hk h r0 r1 rfl rfl rfl rfl rfl rfl) (of_u p _ hk h r0 r1 rfl rfl rfl rfl rfl rfl) hE
                · exact bk_uN p z dst port w_lives z0 z1 q0 q1 hk (of_u p p hk h r0 r1 rfl rfl rfl rfl rfl rfl) (of_u p _ hk h r0 r1 rfl rfl rfl rfl rfl rfl) (of_u p _ hk h r0 r1 rfl rfl rfl rfl rfl rfl) (of_u p _ hk h r0 r1 rfl rfl rfl rfl rfl rfl) hE hX
          · exact bk_p1 p dst port z w_lives _ o z0 z1 q0 (by omega)
        · exact bk_p0 p dst port z w_lives _ o z0 z1 (by omega)
      · exact bk_z1 p dst port z w_lives _ o z0 (by omega)
    · exact bk_z0 p dst port z w_lives _ o (by omega)
  · exact bk_no p dst port z w_lives (of_no p h)

end Go.Proofs.Ytmfagijhhmeeeaa
