/-
  The law ActPicks: a flow picks one of its ways, the same each time.
-/
import Derived.Test.YtmihiknppifkdaaGreatX5
set_option linter.unusedVariables false
set_option linter.unusedSimpArgs false
set_option maxRecDepth 100000
set_option maxHeartbeats 1000000
namespace Go.Proofs.YtmihiknppifkdaaGreat
open Go Go.SL Go.Proofs

theorem w_livesP : Spec0 Tryz.prog 8 [] (B true) := sx0 hm hF 1000 20 [] [] (by kernel_rfl) trivial
theorem ap_81 (s : Stt) (w : List Way) (h : Spec0 Tryz.prog 7 [.agg s.cells, pkA w] (.tup [.agg zS.cells, I .i64 81])) : Spec0 Tryz.prog 3 [.agg s.cells, .im 2 (w.flatMap wayC)] (B true) :=
  sx0 hm hF 1000 20 [.c 3 2 2 (.tup [.agg zS.cells, I .i64 81]), .c 3 3 2 (.tup [.agg zS.cells, I .i64 81]), .c 3 4 0 (B true)] [_, _, _] (by kernel_rfl) ⟨w_livesP, h, h, trivial⟩
theorem ap_110 (s : Stt) (w : List Way) (h : Spec0 Tryz.prog 7 [.agg s.cells, pkA w] (.tup [.agg zS.cells, I .i64 110])) (hc : Spec0 Tryz.prog 9 [pkA w] (I .i64 110)) : Spec0 Tryz.prog 3 [.agg s.cells, .im 2 (w.flatMap wayC)] (B true) :=
  sx0 hm hF 1000 20 [.c 3 2 2 (.tup [.agg zS.cells, I .i64 110]), .c 3 3 2 (.tup [.agg zS.cells, I .i64 110]), .c 3 4 0 (B true), .c 3 7 7 (I .i64 110)] [_, _, _, _] (by kernel_rfl) ⟨hc, w_livesP, h, h, trivial⟩
def eqW (a b : Way) : Bool := b.ip == a.ip && b.port == a.port
theorem any_take {α : Type} {p : α → Bool} {w : List α} {i : Nat} {a : α} (hi : w[i]? = some a) : (w.take (i + 1)).any p = ((w.take i).any p || p a) := by
  rw [List.take_add_one, hi, List.any_append]; simp
@[reducible] def pT (s : Stt) (a : Way) : Stt := { s with idst := a.ip, dport := a.port }
@[reducible] def pkS (s : Stt) (w : List Way) (a : Way) (x : Nat × Bool) : SS := ⟨tbl [(1, .im 2 (w.flatMap wayC)), (2, .ptr 0 0), (4, B false), (6, .ptr 2 0), (10, B x.2), (11, I .i64 (x.1 : Nat))], [.row 1 s.cells, .row 1 (cellsOf (pkA w)), .row 1 (pT s a).cells, .row 1 (pT s a).cells]⟩
theorem ap_ok (s : Stt) (w : List Way) (hw : w.length ≤ 140737488351232) (j : Nat) (a : Way) (hj : j < w.length) (ha : w[j]? = some a) (h : Spec0 Tryz.prog 7 [.agg s.cells, pkA w] (.tup [.agg (pT s a).cells, I .i64 0])) : Spec0 Tryz.prog 3 [.agg s.cells, .im 2 (w.flatMap wayC)] (B true) := by
  have hl := (fm_len wayC_len w).symm
  refine Spec0.walk Tryz.func3 rfl rfl ?_
  refine W.sxP hm hF 3 7 1000 20 [.c 3 2 2 (.tup [.agg (pT s a).cells, I .i64 0]), .c 3 3 2 (.tup [.agg (pT s a).cells, I .i64 0]), .c 3 4 0 (B true), .b 3 4 5 false] [(!eqSt (pT s a) (pT s a)) = false, Spec0 Tryz.prog 8 [] (B true), _, _]
    [(1, .im 2 (w.flatMap wayC)), (2, .ptr 0 0), (4, B false), (6, .ptr 2 0), (10, B false)] [.row 1 s.cells, .row 1 (cellsOf (pkA w)), .row 1 (pT s a).cells, .row 1 (pT s a).cells] (by kernel_rfl) ⟨by rw [eqSt_self]; rfl, w_livesP, h, h, trivial⟩ ?_
  refine W.seq ?_
  refine W.seq ?_
  refine W.sx hm hF 3 1000 20 [] [] .normal [(1, .im 2 (w.flatMap wayC)), (2, .ptr 0 0), (4, B false), (6, .ptr 2 0), (10, B false), (11, I .i64 0)] [.row 1 s.cells, .row 1 (cellsOf (pkA w)), .row 1 (pT s a).cells, .row 1 (pT s a).cells] (by kernel_rfl) trivial (fun σ h => W.weaken h ?_)
  refine W.block ?_
  refine W.loop (pkS s w a) (fun x => x.1 ≤ w.length ∧ x.2 = (w.take x.1).any (eqW a)) (fun x => w.length - x.1) (0, false) ⟨Nat.zero_le _, by simp⟩ (Le.refl _) ?_
  rintro ⟨i, b⟩ ⟨hi, hb⟩
  simp only at hi hb
  by_cases hlt : i < w.length
  · have hd : decide (((i : Nat) : Int) < (w.length : Nat)) = true := decide_eq_true (by omega)
    obtain ⟨c, hget⟩ : ∃ c, w[i]? = some c := ⟨_, List.getElem?_eq_getElem hlt⟩
    have hn := any_take (p := eqW a) hget
    rw [← hb] at hn
    cases b with
    | true =>
      refine W.sx hm hF 3 1000 20 [.n 3 10 2 w.length, .b 3 10 3 true, .z 3 11 1 ((i + 1 : Nat) : Int)] [IntKind.i64.wrap (((i : Nat) : Int) + 1) = ((i + 1 : Nat) : Int), decide (((i : Nat) : Int) < (w.length : Nat)) = true, w.length * 2 = (w.flatMap wayC).length, 0 < 2]
        .normal [(1, .im 2 (w.flatMap wayC)), (2, .ptr 0 0), (4, B false), (6, .ptr 2 0), (10, B true), (11, I .i64 ((i + 1 : Nat) : Int))] [.row 1 s.cells, .row 1 (cellsOf (pkA w)), .row 1 (pT s a).cells, .row 1 (pT s a).cells] (by kernel_rfl) ⟨i64_n i (by omega), hd, hl, by decide, trivial⟩ (fun σ h => ⟨(i + 1, true), ⟨hlt, by rw [hn]; rfl⟩, by simp only; omega, h⟩)
    | false =>
      cases h1 : c.ip == a.ip
      · refine W.sx hm hF 3 1000 20 [.n 3 10 2 w.length, .b 3 10 3 true, .j 3 12 4 w.length i, .l 3 12 6 (I .u32 c.ip), .b 3 12 11 false, .z 3 11 1 ((i + 1 : Nat) : Int)]
          [IntKind.i64.wrap (((i : Nat) : Int) + 1) = ((i + 1 : Nat) : Int), (c.ip == a.ip) = false, (w.flatMap wayC)[i * 2 + 0]? = some (I .u32 c.ip), w.length * 2 = (w.flatMap wayC).length, 0 < 2, ((i : Nat) : Int) = (i : Int), i < w.length, decide (((i : Nat) : Int) < (w.length : Nat)) = true, w.length * 2 = (w.flatMap wayC).length, 0 < 2]
          .normal [(1, .im 2 (w.flatMap wayC)), (2, .ptr 0 0), (4, B false), (6, .ptr 2 0), (10, B false), (11, I .i64 ((i + 1 : Nat) : Int))] [.row 1 s.cells, .row 1 (cellsOf (pkA w)), .row 1 (pT s a).cells, .row 1 (pT s a).cells] (by kernel_rfl)
          ⟨i64_n i (by omega), h1, fm_cell wayC_len w hget (by decide) rfl, hl, by decide, rfl, hlt, hd, hl, by decide, trivial⟩ (fun σ h => ⟨(i + 1, false), ⟨hlt, by rw [hn]; simp [eqW, h1]⟩, by simp only; omega, h⟩)
      · cases h2 : c.port == a.port
        · refine W.sx hm hF 3 1000 20 [.n 3 10 2 w.length, .b 3 10 3 true, .j 3 12 4 w.length i, .l 3 12 6 (I .u32 c.ip), .b 3 12 11 true, .j 3 12 15 w.length i, .l 3 12 17 (I .i64 c.port), .b 3 12 22 false, .z 3 11 1 ((i + 1 : Nat) : Int)]
            [IntKind.i64.wrap (((i : Nat) : Int) + 1) = ((i + 1 : Nat) : Int), (c.port == a.port) = false, (w.flatMap wayC)[i * 2 + 1]? = some (I .i64 c.port), w.length * 2 = (w.flatMap wayC).length, 0 < 2, ((i : Nat) : Int) = (i : Int), i < w.length, (c.ip == a.ip) = true, (w.flatMap wayC)[i * 2 + 0]? = some (I .u32 c.ip), w.length * 2 = (w.flatMap wayC).length, 0 < 2, ((i : Nat) : Int) = (i : Int), i < w.length, decide (((i : Nat) : Int) < (w.length : Nat)) = true, w.length * 2 = (w.flatMap wayC).length, 0 < 2]
            .normal [(1, .im 2 (w.flatMap wayC)), (2, .ptr 0 0), (4, B false), (6, .ptr 2 0), (10, B false), (11, I .i64 ((i + 1 : Nat) : Int))] [.row 1 s.cells, .row 1 (cellsOf (pkA w)), .row 1 (pT s a).cells, .row 1 (pT s a).cells] (by kernel_rfl)
            ⟨i64_n i (by omega), h2, fm_cell wayC_len w hget (by decide) rfl, hl, by decide, rfl, hlt, h1, fm_cell wayC_len w hget (by decide) rfl, hl, by decide, rfl, hlt, hd, hl, by decide, trivial⟩ (fun σ h => ⟨(i + 1, false), ⟨hlt, by rw [hn]; simp [eqW, h2]⟩, by simp only; omega, h⟩)
        · refine W.sx hm hF 3 1000 20 [.n 3 10 2 w.length, .b 3 10 3 true, .j 3 12 4 w.length i, .l 3 12 6 (I .u32 c.ip), .b 3 12 11 true, .j 3 12 15 w.length i, .l 3 12 17 (I .i64 c.port), .b 3 12 22 true, .z 3 11 1 ((i + 1 : Nat) : Int)]
            [IntKind.i64.wrap (((i : Nat) : Int) + 1) = ((i + 1 : Nat) : Int), (c.port == a.port) = true, (w.flatMap wayC)[i * 2 + 1]? = some (I .i64 c.port), w.length * 2 = (w.flatMap wayC).length, 0 < 2, ((i : Nat) : Int) = (i : Int), i < w.length, (c.ip == a.ip) = true, (w.flatMap wayC)[i * 2 + 0]? = some (I .u32 c.ip), w.length * 2 = (w.flatMap wayC).length, 0 < 2, ((i : Nat) : Int) = (i : Int), i < w.length, decide (((i : Nat) : Int) < (w.length : Nat)) = true, w.length * 2 = (w.flatMap wayC).length, 0 < 2]
            .normal [(1, .im 2 (w.flatMap wayC)), (2, .ptr 0 0), (4, B false), (6, .ptr 2 0), (10, B true), (11, I .i64 ((i + 1 : Nat) : Int))] [.row 1 s.cells, .row 1 (cellsOf (pkA w)), .row 1 (pT s a).cells, .row 1 (pT s a).cells] (by kernel_rfl)
            ⟨i64_n i (by omega), h2, fm_cell wayC_len w hget (by decide) rfl, hl, by decide, rfl, hlt, h1, fm_cell wayC_len w hget (by decide) rfl, hl, by decide, rfl, hlt, hd, hl, by decide, trivial⟩ (fun σ h => ⟨(i + 1, true), ⟨hlt, by rw [hn]; simp [eqW, h1, h2]⟩, by simp only; omega, h⟩)
  · have hie : i = w.length := by omega
    have hd : decide (((i : Nat) : Int) < (w.length : Nat)) = false := decide_eq_false (by omega)
    have hbt : b = true := by
      rw [hb, hie, List.take_length, List.any_eq_true]
      exact ⟨a, List.mem_of_getElem? ha, by simp [eqW]⟩
    subst hbt
    refine W.sx hm hF 3 1000 20 [.n 3 10 2 w.length, .b 3 10 3 false] [decide (((i : Nat) : Int) < (w.length : Nat)) = false, w.length * 2 = (w.flatMap wayC).length, 0 < 2] (.exit 0) [(2, .ptr 0 0), (6, .ptr 2 0), (10, B true)] [.row 1 s.cells, .row 1 (cellsOf (pkA w)), .row 1 (pT s a).cells, .row 1 (pT s a).cells] (by kernel_rfl) ⟨hd, hl, by decide, trivial⟩ (fun σ h => W.weaken h ?_)
    exact W.sxR hm hF 3 1000 20 [.b 3 14 4 true] [eqSt s s = true] [.tmp 4] .ret (B true) (by kernel_rfl) ⟨eqSt_self s, trivial⟩ (fun σ xs h1 h2 => retK.mk (.inl rfl) h1 h2)
theorem w_ActPicks (s : Stt) (w : List Way) (hw : w.length ≤ 140737488351232) : Spec0 Tryz.prog 3 [.agg s.cells, .im 2 (w.flatMap wayC)] (B true) := by
  have hl := (fm_len wayC_len w).symm
  have h0 := w_ways w hw
  cases hk : waysOk w
  · rw [hk] at h0
    exact ap_110 s w (st_no s w hl h0) (ck_no w hl h0)
  · rw [hk] at h0
    have hn : 1 ≤ w.length := by
      simp only [waysOk, Bool.and_eq_true, decide_eq_true_eq] at hk; omega
    obtain ⟨j, hj, hp⟩ := w_pick (hashZ s.isrc s.idst s.proto s.sport s.dport) w.length hn (by omega)
    obtain ⟨a, ha⟩ : ∃ a, w[j]? = some a := ⟨_, List.getElem?_eq_getElem hj⟩
    cases h1 : s.isIp
    · exact ap_81 s w (st_nf2 s w hl h0 h1)
    · have hnn : (!s.isIp) = false := by rw [h1]; rfl
      cases h3 : s.kind == 3
      · cases h2 : s.kind == 2
        · exact ap_81 s w (st_nf1 s w hl h0 h1 h3 h2)
        · exact ap_ok s w hw j a hj ha (st_udp s w hl h0 h1 h3 h2 hnn j a hj ha hp)
      · have h2 : (s.kind == 2) = false := by
          have : s.kind = 3 := by simpa using h3
          rw [this]; rfl
        exact ap_ok s w hw j a hj ha (st_tcp s w hl h0 h1 h3 h2 hnn j a hj ha hp)

end Go.Proofs.YtmihiknppifkdaaGreat
