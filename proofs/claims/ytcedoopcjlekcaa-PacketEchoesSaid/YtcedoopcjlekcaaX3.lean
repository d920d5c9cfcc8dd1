/-
  The law PacketEchoes.
-/
import Derived.Test.YtcedoopcjlekcaaX2
set_option linter.unusedVariables false
set_option linter.unusedSimpArgs false
set_option maxRecDepth 100000
set_option maxHeartbeats 1000000
namespace Go.Proofs.Ytcedoopcjlekcaa
open Go Go.SL Go.Proofs
theorem ec_0 (s : Pkt) (h0 : (!s.isIp) = true) : Spec0 Try.prog 5 [.agg s.cells] (B true) := sx0 hm hF 1000 20 [.b 12 1 2 true, .b 13 1 2 true, .c 5 3 0 (B true), .b 5 3 5 false] [(!eqPk zP zP) = false, Spec0 Try.prog 9 [] (B true), (!s.isIp) = true, (!s.isIp) = true] (by kernel_rfl) ⟨by rw [eqPk_self]; rfl, w_lives, h0, h0, trivial⟩
theorem ec_1 (s : Pkt) (h0 : (!s.isIp) = false) (h1 : (!(iand s.frag 16383 == 0)) = true) : Spec0 Try.prog 5 [.agg s.cells] (B true) := sx0 hm hF 1000 20 [.b 12 1 2 false, .b 12 1 7 true, .b 13 1 2 false, .b 13 1 7 true, .c 5 3 0 (B true), .b 5 3 5 false] [(!eqPk zP zP) = false, Spec0 Try.prog 9 [] (B true), (!(iand s.frag 16383 == 0)) = true, (!s.isIp) = false, (!(iand s.frag 16383 == 0)) = true, (!s.isIp) = false] (by kernel_rfl) ⟨by rw [eqPk_self]; rfl, w_lives, h1, h0, h1, h0, trivial⟩
theorem ec_2 (s : Pkt) (h0 : (!s.isIp) = false) (h1 : (!(iand s.frag 16383 == 0)) = false) (h2 : (s.kind != 1) = true) : Spec0 Try.prog 5 [.agg s.cells] (B true) := sx0 hm hF 1000 20 [.b 12 1 2 false, .b 12 1 7 false, .b 12 1 13 true, .b 13 1 2 false, .b 13 1 7 false, .b 13 1 13 true, .c 5 3 0 (B true), .b 5 3 5 false] [(!eqPk zP zP) = false, Spec0 Try.prog 9 [] (B true), (s.kind != 1) = true, (!(iand s.frag 16383 == 0)) = false, (!s.isIp) = false, (s.kind != 1) = true, (!(iand s.frag 16383 == 0)) = false, (!s.isIp) = false] (by kernel_rfl) ⟨by rw [eqPk_self]; rfl, w_lives, h2, h1, h0, h2, h1, h0, trivial⟩
theorem ec_3 (s : Pkt) (h0 : (!s.isIp) = false) (h1 : (!(iand s.frag 16383 == 0)) = false) (h2 : (s.kind != 1) = false) (h3 : (s.typ != 8) = true) : Spec0 Try.prog 5 [.agg s.cells] (B true) := sx0 hm hF 1000 20 [.b 12 1 2 false, .b 12 1 7 false, .b 12 1 13 false, .b 12 1 19 true, .b 13 1 2 false, .b 13 1 7 false, .b 13 1 13 false, .b 13 1 19 true, .c 5 3 0 (B true), .b 5 3 5 false] [(!eqPk zP zP) = false, Spec0 Try.prog 9 [] (B true), (s.typ != 8) = true, (s.kind != 1) = false, (!(iand s.frag 16383 == 0)) = false, (!s.isIp) = false, (s.typ != 8) = true, (s.kind != 1) = false, (!(iand s.frag 16383 == 0)) = false, (!s.isIp) = false] (by kernel_rfl) ⟨by rw [eqPk_self]; rfl, w_lives, h3, h2, h1, h0, h3, h2, h1, h0, trivial⟩
theorem ec_4 (s : Pkt) (h0 : (!s.isIp) = false) (h1 : (!(iand s.frag 16383 == 0)) = false) (h2 : (s.kind != 1) = false) (h3 : (s.typ != 8) = false) (h4 : (s.code != 0) = true) : Spec0 Try.prog 5 [.agg s.cells] (B true) := sx0 hm hF 1000 20 [.b 12 1 2 false, .b 12 1 7 false, .b 12 1 13 false, .b 12 1 19 false, .b 12 1 25 true, .b 13 1 2 false, .b 13 1 7 false, .b 13 1 13 false, .b 13 1 19 false, .b 13 1 25 true, .c 5 3 0 (B true), .b 5 3 5 false] [(!eqPk zP zP) = false, Spec0 Try.prog 9 [] (B true), (s.code != 0) = true, (s.typ != 8) = false, (s.kind != 1) = false, (!(iand s.frag 16383 == 0)) = false, (!s.isIp) = false, (s.code != 0) = true, (s.typ != 8) = false, (s.kind != 1) = false, (!(iand s.frag 16383 == 0)) = false, (!s.isIp) = false] (by kernel_rfl) ⟨by rw [eqPk_self]; rfl, w_lives, h4, h3, h2, h1, h0, h4, h3, h2, h1, h0, trivial⟩
theorem ec_5 (s : Pkt) (h0 : (!s.isIp) = false) (h1 : (!(iand s.frag 16383 == 0)) = false) (h2 : (s.kind != 1) = false) (h3 : (s.typ != 8) = false) (h4 : (s.code != 0) = false) : Spec0 Try.prog 5 [.agg s.cells] (B true) := sx0 hm hF 1000 20 [.b 12 1 2 false, .b 12 1 7 false, .b 12 1 13 false, .b 12 1 19 false, .b 12 1 25 false, .b 13 1 2 false, .b 13 1 7 false, .b 13 1 13 false, .b 13 1 19 false, .b 13 1 25 false, .c 5 3 0 (B true), .b 5 3 5 false, .b 12 1 2 false, .b 12 1 7 false, .b 12 1 13 false] [(s.kind != 1) = false, (!(iand s.frag 16383 == 0)) = false, (!s.isIp) = false, (!eqPk ({ s with dst := s.src, src := s.dst, isrc := s.idst, idst := s.isrc, ttl := 64, typ := 0 }) ({ s with dst := s.src, src := s.dst, isrc := s.idst, idst := s.isrc, ttl := 64, typ := 0 })) = false, Spec0 Try.prog 9 [] (B true), (s.code != 0) = false, (s.typ != 8) = false, (s.kind != 1) = false, (!(iand s.frag 16383 == 0)) = false, (!s.isIp) = false, (s.code != 0) = false, (s.typ != 8) = false, (s.kind != 1) = false, (!(iand s.frag 16383 == 0)) = false, (!s.isIp) = false] (by kernel_rfl) ⟨h2, h1, h0, by rw [eqPk_self]; rfl, w_lives, h4, h3, h2, h1, h0, h4, h3, h2, h1, h0, trivial⟩
theorem w_PacketEchoes (s : Pkt) : Spec0 Try.prog 5 [.agg s.cells] (B true) := by
  cases h0 : (!s.isIp)
  · cases h1 : (!(iand s.frag 16383 == 0))
    · cases h2 : (s.kind != 1)
      · cases h3 : (s.typ != 8)
        · cases h4 : (s.code != 0)
          · exact ec_5 s h0 h1 h2 h3 h4
          · exact ec_4 s h0 h1 h2 h3 h4
        · exact ec_3 s h0 h1 h2 h3
      · exact ec_2 s h0 h1 h2
    · exact ec_1 s h0 h1
  · exact ec_0 s h0
end Go.Proofs.Ytcedoopcjlekcaa
