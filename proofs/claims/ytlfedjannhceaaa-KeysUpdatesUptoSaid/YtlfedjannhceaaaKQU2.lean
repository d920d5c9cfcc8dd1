/-
  The keys of a kind's rows that have numbers already: stay.
-/
import Derived.Test.YtlfedjannhceaaaKOU2
import Derived.Test.YtlfedjannhceaaaSeU2
import Derived.Test.YtlfedjannhceaaaSgU2
set_option linter.unusedVariables false
set_option linter.unusedSimpArgs false
set_option maxRecDepth 100000
set_option maxHeartbeats 1000000
namespace Go.Proofs.Ytlfedjannhceaaa
open Go Go.SL Go.Proofs
theorem bself (a : ByteArray) : (a == a) = true := by rw [beq_toListBytes]; simp
/-- One row of those that are gone through. -/
def stayStep (old : List Key) (kind : Int) (x : List Int × List Key) (r : Rw) : List Int × List Key :=
  if (r.kind != kind) = true ∨ (x.2.any fun a => a.name == r.name) = true then x else (hadAdd x.1 (findV old r.name).1, x.2 ++ [⟨r.name, (findV old r.name).1⟩])
def stayF (old : List Key) (kind : Int) (hs : List Int) (rows : List Rw) : List Int × List Key := rows.foldl (stayStep old kind) (hs, [])
theorem stayF_next {old : List Key} {kind : Int} {hs : List Int} {rows : List Rw} {i : Nat} {r : Rw} (h : rows[i]? = some r) : stayF old kind hs (rows.take (i + 1)) = stayStep old kind (stayF old kind hs (rows.take i)) r := by
  unfold stayF
  rw [List.take_add_one, h, List.foldl_append]; rfl
theorem hadC_no (hs : List Int) : noOwnL (hadC hs) = true := by
  unfold hadC
  rw [noOwnL_append]
  have h1 : ∀ l : List Int, noOwnL (l.map kI) = true := fun l => by induction l with
    | nil => rfl
    | cons a l ih => exact ih
  have h2 : ∀ n : Nat, noOwnL (List.replicate n (B true)) = true := fun n => by induction n with
    | zero => rfl
    | succ n ih => rw [List.replicate_succ]; exact ih
  rw [h1, h2]; rfl
theorem hadO_ren (f : Nat → Nat) (hs : List Int) : renO f (hadO hs) = hadO hs := by
  simp only [renO, renL_noOwn f _ (hadC_no hs)]
theorem keys_ren (f : Nat → Nat) (l : List Key) : renO f (.row 2 (l.flatMap keyC)) = .row 2 (l.flatMap keyC) := by
  simp only [renO, renL_noOwn f _ (fm_no (c := keyC) (fun _ => rfl) l)]
@[reducible] def poolO (nx mx : Int) : AObj := .row 1 [.mp 0, I .i64 nx, I .i64 mx]
theorem stay_names (old : List Key) (kind : Int) : ∀ (rows : List Rw) (x : List Int × List Key), (x.2.map (·.name)).Nodup → ((rows.foldl (stayStep old kind) x).2.map (·.name)).Nodup
  | [], x, h => h
  | r :: rows, x, h => by
    rw [List.foldl_cons]
    refine stay_names old kind rows _ ?_
    unfold stayStep
    split
    · exact h
    · rename_i hh
      simp only [not_or, Bool.not_eq_true] at hh
      simp only [List.map_append, List.map_cons, List.map_nil]
      rw [List.nodup_append]
      refine ⟨h, by simp, ?_⟩
      intro a ha b hb hab
      simp only [List.mem_singleton] at hb
      subst hb
      obtain ⟨k, hk, rfl⟩ := List.mem_map.1 ha
      have := List.any_eq_false.1 hh.2 k hk
      exact this (by rw [hab]; exact bself _)

theorem w_stay (old : List Key) (rows : List Rw) (kind nx mx : Int) (hs : List Int) (hl0 : rows.length ≤ 1034834473170) (hold : old.length ≤ 4611686018427387) :
    SL.Spec Try.prog 20 [.ptr 1 0, KL old, RL rows, I .i64 kind] [hadO hs, poolO nx mx] (SL.is (.sl 2 0 (stayF old kind hs rows).2.length) [hadO (stayF old kind hs rows).1, poolO nx mx, .row 2 ((sortK (stayF old kind hs rows).2).flatMap keyC)]) := by
  have hl := Eq.symm (fm_len (c := rowC) (e := 13) (fun _ => rfl) rows)
  refine Spec.walk Try.func20 rfl rfl ?_
  refine W.sxP hm hF 20 2 1000 20 [] [] [(0, .ptr 1 0), (1, KL old), (2, RL rows), (3, I .i64 kind), (9, .nil)] [hadO hs, poolO nx mx] (by kernel_rfl) trivial ?_
  refine W.seq ?_
  refine W.seq ?_
  refine W.sx hm hF 20 1000 20 [.n 20 2 1 rows.length] [rows.length * 13 = (rows.flatMap rowC).length, 0 < 13] .normal [(0, .ptr 1 0), (1, KL old), (3, I .i64 kind), (9, .nil), (14, RL rows), (15, I .i64 (rows.length : Nat)), (16, I .i64 0)] [hadO hs, poolO nx mx] (by kernel_rfl) ⟨hl, by decide, trivial⟩ (fun σ h => W.weaken h ?_)
  refine W.block ?_
  refine W.loopP 2 (fun i : Nat => ⟨tbl [(0, .ptr 1 0), (1, KL old), (3, I .i64 kind), (9, .sl 2 0 (stayF old kind hs (rows.take i)).2.length), (14, RL rows), (15, I .i64 (rows.length : Nat)), (16, I .i64 ((i : Nat) : Int))], [hadO (stayF old kind hs (rows.take i)).1, poolO nx mx, .row 2 ((stayF old kind hs (rows.take i)).2.flatMap keyC)]⟩) (fun i => i ≤ rows.length ∧ (stayF old kind hs (rows.take i)).2.length ≤ i) (fun i => rows.length - i) 0 ⟨Nat.zero_le _, Nat.le_refl _⟩ rfl (fun x _ => by simp) (Entry.nil (l := [(0, .ptr 1 0), (1, KL old), (3, I .i64 kind), (9, .nil), (14, RL rows), (15, I .i64 (rows.length : Nat)), (16, I .i64 0)]) (hp := [hadO hs, poolO nx mx]) 2) ?_
  rintro i ⟨hi, hol⟩
  by_cases hlt : i < rows.length
  · obtain ⟨r, hget⟩ : ∃ r, rows[i]? = some r := ⟨_, List.getElem?_eq_getElem hlt⟩
    have hX := stayF_next (old := old) (kind := kind) (hs := hs) hget
    generalize stayF old kind hs (rows.take i) = x at hX hol
    obtain ⟨h1, out⟩ := x
    simp only at hol
    simp only
    cases hk : (r.kind != kind) with
    | true =>
      have hX1 : stayF old kind hs (rows.take (i + 1)) = (h1, out) := by rw [hX]; unfold stayStep; rw [if_pos (.inl hk)]
      refine W.sx hm hF 20 1000 20 [.b 20 3 0 true, .j 20 4 0 (List.length rows) i, .l 20 4 1 (AV.agg (rowC r)), .b 20 5 3 true, .x 20 9 0 (Xt.na (i + 1))] [i + 1 < cap IntKind.i64, i + 1 = i + 1, (r.kind != kind) = true, List.take 13 (List.drop (i * 13) (List.flatMap rowC rows)) = rowC r, i * 13 + 13 ≤ List.length (List.flatMap rowC rows), List.length rows * 13 = List.length (List.flatMap rowC rows), 0 < 13, (↑i : Int) = (↑i : Int), i < List.length rows, decide ((↑i : Int) < (↑(List.length rows) : Int)) = true] .normal [(0, .ptr 1 0), (1, KL old), (3, I .i64 kind), (9, .sl 2 0 out.length), (14, RL rows), (15, I .i64 (rows.length : Nat)), (16, I .i64 ((i + 1 : Nat) : Int))] [hadO h1, poolO nx mx, .row 2 (out.flatMap keyC), .row 1 (rowC r)] (by kernel_rfl) ⟨(by simp [cap] <;> omega), (by rfl), (by assumption), (by exact fm_at (c := (rowC)) (fun _ => rfl) _ (by assumption)), (by exact fm_bound (c := (rowC)) (fun _ => rfl) _ (by omega)), (by exact Eq.symm (fm_len (c := (rowC)) (fun _ => rfl) _)), (by omega), (by rfl), (by assumption), (by simp <;> omega), trivial⟩ (fun σ h => ⟨i + 1, [0, 1, 2], ⟨hlt, by rw [hX1]; exact Nat.le_succ_of_le hol⟩, by omega, ?_⟩)
      rw [hX1]
      exact LeN.mk' (is := [0, 1, 2]) rfl (by simp only [List.map_cons, List.map_nil, hadO_ren, keys_ren]; rfl) (by simp) (by decide) rfl h
    | false =>
      cases hct : (out.any fun a => a.name == r.name) with
      | true =>
        have hX1 : stayF old kind hs (rows.take (i + 1)) = (h1, out) := by rw [hX]; unfold stayStep; rw [if_pos (.inr hct)]
        have hct := hct ▸ w_contains out r (by omega)
        refine W.sx hm hF 20 1000 20 [.b 20 3 0 true, .j 20 4 0 (List.length rows) i, .l 20 4 1 (AV.agg (rowC r)), .b 20 5 3 false, .h 20 5 7 [KL out, AV.fn 30 [] [AV.ip (rowC r) 0]] (B true), .x 20 9 0 (Xt.na (i + 1))] [i + 1 < cap IntKind.i64, i + 1 = i + 1, Bw [AObj.ob (Shp.map (List.range h1.length) h1.length) (hadC h1), AObj.row 1 [AV.mp 0, I .i64 nx, I .i64 mx], AObj.row 2 (List.flatMap keyC out), AObj.row 1 [I .i64 r.kind, S r.name, S r.owner, S r.peer, S r.text, I .u64 r.mac, I .u32 r.ip, I .u32 r.ip2, I .i64 r.num, I .i64 r.num2, B r.flag, B r.flag2, AV.im 2 (List.flatMap wayC r.ways)]] [AV.sl 2 0 (List.length out), AV.fn 30 [] [AV.ptr 3 0]] [KL out, AV.fn 30 [] [AV.ip (rowC r) 0]], Spec0 Try.prog 29 [KL out, AV.fn 30 [] [AV.ip (rowC r) 0]] (B true), (r.kind != kind) = false, List.take 13 (List.drop (i * 13) (List.flatMap rowC rows)) = rowC r, i * 13 + 13 ≤ List.length (List.flatMap rowC rows), List.length rows * 13 = List.length (List.flatMap rowC rows), 0 < 13, (↑i : Int) = (↑i : Int), i < List.length rows, decide ((↑i : Int) < (↑(List.length rows) : Int)) = true] .normal [(0, .ptr 1 0), (1, KL old), (3, I .i64 kind), (9, .sl 2 0 out.length), (14, RL rows), (15, I .i64 (rows.length : Nat)), (16, I .i64 ((i + 1 : Nat) : Int))] [hadO h1, poolO nx mx, .row 2 (out.flatMap keyC), .row 1 (rowC r)] (by kernel_rfl) ⟨(by simp [cap] <;> omega), (by rfl), (by exact Bw.fm (c := keyC) (fun _ => rfl) (fun _ => rfl) rfl rfl (.fz (.fn .nil (.cons (.ptr rfl (Nat.zero_le _) rfl) .nil)) .nil)), (by assumption), (by assumption), (by exact fm_at (c := (rowC)) (fun _ => rfl) _ (by assumption)), (by exact fm_bound (c := (rowC)) (fun _ => rfl) _ (by omega)), (by exact Eq.symm (fm_len (c := (rowC)) (fun _ => rfl) _)), (by omega), (by rfl), (by assumption), (by simp <;> omega), trivial⟩ (fun σ h => ⟨i + 1, [0, 1, 2], ⟨hlt, by rw [hX1]; exact Nat.le_succ_of_le hol⟩, by omega, ?_⟩)
        rw [hX1]
        exact LeN.mk' (is := [0, 1, 2]) rfl (by simp only [List.map_cons, List.map_nil, hadO_ren, keys_ren]; rfl) (by simp) (by decide) rfl h
      | false =>
        obtain ⟨v, hv⟩ : ∃ v, v = (findV old r.name).1 := ⟨_, rfl⟩
        obtain ⟨b, hb⟩ : ∃ b, b = (findV old r.name).2 := ⟨_, rfl⟩
        have hX1 : stayF old kind hs (rows.take (i + 1)) = (hadAdd h1 v, out ++ [⟨r.name, v⟩]) := by rw [hX]; unfold stayStep; rw [if_neg (by simp only [hk, hct]; simp), hv]
        have hct := hct ▸ w_contains out r (by omega)
        have hf : Spec0 Try.prog 13 [KL old, S r.name] (.tup [I .i64 v, B b]) := by rw [hv, hb]; exact w_findV old r.name hold
        obtain ⟨out', ho'⟩ : ∃ o, o = out ++ [(⟨r.name, v⟩ : Key)] := ⟨_, rfl⟩
        obtain ⟨hs2, hh2⟩ : ∃ h, h = hadAdd h1 v := ⟨_, rfl⟩
        obtain ⟨res, hres⟩ : ∃ q, q = fi (fun a => a == v) h1 0 := ⟨_, rfl⟩
        have hA : findAV Try.prog 3 (I .i64 v) ((hadC h1).take (List.range h1.length).length) 0 = some res := by rw [hres]; exact had_find h1 v
        have hall : updB res (List.range h1.length) h1.length = List.range hs2.length ∧ updV (List.range h1.length).length res (I .i64 v) (B true) (hadC h1) = hadC hs2 ∧ (∀ j, res = some j → (hadC h1)[j]? = some (I .i64 v)) ∧ updK res h1.length = hs2.length := by
          unfold hadAdd at hh2
          by_cases hm : v ∈ h1
          · obtain ⟨j, g1, g2, g3⟩ := had_some hm
            rw [if_pos hm] at hh2
            rw [hres, g1, hh2]
            exact ⟨rfl, had_upd_old v g2, fun j' e => by injection e with e; subst e; exact hadC_key g3, rfl⟩
          · rw [if_neg hm] at hh2
            rw [hres, had_no hm, hh2]
            exact ⟨had_upd_births h1 v, had_upd_new h1 v, fun j' e => by simp at e, by simp [updK]⟩
        obtain ⟨hB, hC, hD, hK⟩ := hall
        refine W.sx hm hF 20 1000 20 [.b 20 3 0 true, .j 20 4 0 (List.length rows) i, .l 20 4 1 (AV.agg (rowC r)), .b 20 5 3 false, .h 20 5 7 [KL out, AV.fn 30 [] [AV.ip (rowC r) 0]] (B false), .c 20 6 3 (AV.tup [I .i64 v, B b]), .x 20 7 5 (Xt.mk res (B true) (List.range hs2.length) (hadC hs2)), .x 20 8 6 (Xt.ap 1 (List.length out + 1) (keyC (Key.mk r.name v)) (List.flatMap keyC out')), .x 20 9 0 (Xt.na (i + 1))] [i + 1 < cap IntKind.i64, i + 1 = i + 1, 1 = 1, 2 ≤ List.length [S r.name, I .i64 v], List.all (List.take 2 (List.drop 0 [S r.name, I .i64 v])) cellAV = true, List.take 2 (List.drop 0 [S r.name, I .i64 v]) = keyC (Key.mk r.name v), 0 + List.length out * 2 = List.length (List.flatMap keyC out), (List.length out + 1) * 24 ≤ 140737488355328 ∨ 24 = 1 ∧ List.length out + 1 ≤ 200000000000000, List.length out + 1 = List.length out + 1, List.drop 0 (List.flatMap keyC out) ++ keyC (Key.mk r.name v) = List.flatMap keyC out', findAV Try.prog 3 (I .i64 v) (List.take (List.length (List.range h1.length)) (hadC h1)) 0 = some res, updB res (List.range h1.length) h1.length = (List.range hs2.length), updV (List.length (List.range h1.length)) res (I .i64 v) (B true) (hadC h1) = (hadC hs2), ∀ (j : Nat), res = some j → (hadC h1)[j]? = some (I .i64 v), Spec0 Try.prog 13 [KL old, S r.name] (AV.tup [I .i64 v, B b]), Bw [AObj.ob (Shp.map (List.range h1.length) h1.length) (hadC h1), AObj.row 1 [AV.mp 0, I .i64 nx, I .i64 mx], AObj.row 2 (List.flatMap keyC out), AObj.row 1 [I .i64 r.kind, S r.name, S r.owner, S r.peer, S r.text, I .u64 r.mac, I .u32 r.ip, I .u32 r.ip2, I .i64 r.num, I .i64 r.num2, B r.flag, B r.flag2, AV.im 2 (List.flatMap wayC r.ways)]] [AV.sl 2 0 (List.length out), AV.fn 30 [] [AV.ptr 3 0]] [KL out, AV.fn 30 [] [AV.ip (rowC r) 0]], Spec0 Try.prog 29 [KL out, AV.fn 30 [] [AV.ip (rowC r) 0]] (B false), (r.kind != kind) = false, List.take 13 (List.drop (i * 13) (List.flatMap rowC rows)) = rowC r, i * 13 + 13 ≤ List.length (List.flatMap rowC rows), List.length rows * 13 = List.length (List.flatMap rowC rows), 0 < 13, (↑i : Int) = (↑i : Int), i < List.length rows, decide ((↑i : Int) < (↑(List.length rows) : Int)) = true] .normal [(0, .ptr 1 0), (1, KL old), (3, I .i64 kind), (9, .sl 5 0 (out.length + 1)), (14, RL rows), (15, I .i64 (rows.length : Nat)), (16, I .i64 ((i + 1 : Nat) : Int))] [.ob (.map (List.range hs2.length) (updK res h1.length)) (hadC hs2), poolO nx mx, .dead, .row 1 (rowC r), .row 2 [S r.name, I .i64 v], .row 2 (out'.flatMap keyC)] (by kernel_rfl) ⟨(by simp [cap] <;> omega), (by rfl), (by omega), (by simp <;> omega), (by rfl), (by rfl), (by rw [fm_len (c := keyC) (e := 2) (fun _ => rfl)]; omega), (by omega), (by omega), (by subst ho'; exact fm_snoc0 (c := keyC) out ⟨r.name, v⟩), (by assumption), (by assumption), (by assumption), (by assumption), hf, (by exact Bw.fm (c := keyC) (fun _ => rfl) (fun _ => rfl) rfl rfl (.fz (.fn .nil (.cons (.ptr rfl (Nat.zero_le _) rfl) .nil)) .nil)), (by assumption), (by assumption), (by exact fm_at (c := (rowC)) (fun _ => rfl) _ (by assumption)), (by exact fm_bound (c := (rowC)) (fun _ => rfl) _ (by omega)), (by exact Eq.symm (fm_len (c := (rowC)) (fun _ => rfl) _)), (by omega), (by rfl), (by assumption), (by simp <;> omega), trivial⟩ (fun σ h => ⟨i + 1, [0, 1, 5], ⟨hlt, by rw [hX1]; simp; omega⟩, by omega, ?_⟩)
        rw [hX1, ← ho', ← hh2]
        refine LeN.mk' (is := [0, 1, 5]) ?_ ?_ (by simp) (by decide) rfl h
        · have e : out'.length = out.length + 1 := by rw [ho']; simp
          simp only [List.map_cons, List.map_nil, e]; rfl
        · simp only [List.map_cons, List.map_nil, hadO_ren, keys_ren]
          rw [hK]; rfl
  · have hie : i = rows.length := by omega
    have hbb : decide (((i : Nat) : Int) < (rows.length : Nat)) = false := decide_eq_false (by omega)
    have hX : stayF old kind hs (rows.take i) = stayF old kind hs rows := by rw [hie, List.take_length]
    rw [hX]
    have hn : ((stayF old kind hs rows).2.map (·.name)).Nodup := stay_names old kind rows (hs, []) (by simp)
    have hlen : (stayF old kind hs rows).2.length ≤ rows.length := by rw [← hX, ← hie]; exact hol
    generalize stayF old kind hs rows = x at hn hlen
    obtain ⟨h1, out⟩ := x
    simp only at hn hlen
    simp only
    refine W.sx hm hF 20 1000 20 [.b 20 3 0 false] [decide (((i : Nat) : Int) < (rows.length : Nat)) = false] (.exit 0) [(9, .sl 2 0 out.length)] [hadO h1, poolO nx mx, .row 2 (out.flatMap keyC)] (by kernel_rfl) ⟨hbb, trivial⟩ (fun σ h => W.weaken h ?_)
    cases out with
    | nil =>
      have e : sortK [] = [] := by unfold sortK; simp
      rw [e]
      exact W.sx hm hF 20 1000 20 [.x 49 10 3 (Xt.ix 0 (List.getD (ByteArray.mk (List.toArray (List.append (List.append [0, 1, 2, 2, 3, 3, 3, 3, 4, 4, 4, 4, 4, 4, 4, 4, 5, 5, 5, 5, 5, 5, 5, 5, 5, 5, 5, 5, 5, 5, 5, 5, 6, 6, 6, 6, 6, 6, 6, 6, 6, 6, 6, 6, 6, 6, 6, 6, 6, 6, 6, 6, 6, 6, 6, 6, 6, 6, 6, 6, 6, 6, 6, 6] [7, 7, 7, 7, 7, 7, 7, 7, 7, 7, 7, 7, 7, 7, 7, 7, 7, 7, 7, 7, 7, 7, 7, 7, 7, 7, 7, 7, 7, 7, 7, 7, 7, 7, 7, 7, 7, 7, 7, 7, 7, 7, 7, 7, 7, 7, 7, 7, 7, 7, 7, 7, 7, 7, 7, 7, 7, 7, 7, 7, 7, 7, 7, 7]) (List.append [8, 8, 8, 8, 8, 8, 8, 8, 8, 8, 8, 8, 8, 8, 8, 8, 8, 8, 8, 8, 8, 8, 8, 8, 8, 8, 8, 8, 8, 8, 8, 8, 8, 8, 8, 8, 8, 8, 8, 8, 8, 8, 8, 8, 8, 8, 8, 8, 8, 8, 8, 8, 8, 8, 8, 8, 8, 8, 8, 8, 8, 8, 8, 8] [8, 8, 8, 8, 8, 8, 8, 8, 8, 8, 8, 8, 8, 8, 8, 8, 8, 8, 8, 8, 8, 8, 8, 8, 8, 8, 8, 8, 8, 8, 8, 8, 8, 8, 8, 8, 8, 8, 8, 8, 8, 8, 8, 8, 8, 8, 8, 8, 8, 8, 8, 8, 8, 8, 8, 8, 8, 8, 8, 8, 8, 8, 8, 8])))).data.toList 0 0))] [Int.ofNat 0 = (↑0 : Int), (ByteArray.mk (List.toArray (List.append (List.append [0, 1, 2, 2, 3, 3, 3, 3, 4, 4, 4, 4, 4, 4, 4, 4, 5, 5, 5, 5, 5, 5, 5, 5, 5, 5, 5, 5, 5, 5, 5, 5, 6, 6, 6, 6, 6, 6, 6, 6, 6, 6, 6, 6, 6, 6, 6, 6, 6, 6, 6, 6, 6, 6, 6, 6, 6, 6, 6, 6, 6, 6, 6, 6] [7, 7, 7, 7, 7, 7, 7, 7, 7, 7, 7, 7, 7, 7, 7, 7, 7, 7, 7, 7, 7, 7, 7, 7, 7, 7, 7, 7, 7, 7, 7, 7, 7, 7, 7, 7, 7, 7, 7, 7, 7, 7, 7, 7, 7, 7, 7, 7, 7, 7, 7, 7, 7, 7, 7, 7, 7, 7, 7, 7, 7, 7, 7, 7]) (List.append [8, 8, 8, 8, 8, 8, 8, 8, 8, 8, 8, 8, 8, 8, 8, 8, 8, 8, 8, 8, 8, 8, 8, 8, 8, 8, 8, 8, 8, 8, 8, 8, 8, 8, 8, 8, 8, 8, 8, 8, 8, 8, 8, 8, 8, 8, 8, 8, 8, 8, 8, 8, 8, 8, 8, 8, 8, 8, 8, 8, 8, 8, 8, 8] [8, 8, 8, 8, 8, 8, 8, 8, 8, 8, 8, 8, 8, 8, 8, 8, 8, 8, 8, 8, 8, 8, 8, 8, 8, 8, 8, 8, 8, 8, 8, 8, 8, 8, 8, 8, 8, 8, 8, 8, 8, 8, 8, 8, 8, 8, 8, 8, 8, 8, 8, 8, 8, 8, 8, 8, 8, 8, 8, 8, 8, 8, 8, 8])))).data.toList[0]? = some (List.getD (ByteArray.mk (List.toArray (List.append (List.append [0, 1, 2, 2, 3, 3, 3, 3, 4, 4, 4, 4, 4, 4, 4, 4, 5, 5, 5, 5, 5, 5, 5, 5, 5, 5, 5, 5, 5, 5, 5, 5, 6, 6, 6, 6, 6, 6, 6, 6, 6, 6, 6, 6, 6, 6, 6, 6, 6, 6, 6, 6, 6, 6, 6, 6, 6, 6, 6, 6, 6, 6, 6, 6] [7, 7, 7, 7, 7, 7, 7, 7, 7, 7, 7, 7, 7, 7, 7, 7, 7, 7, 7, 7, 7, 7, 7, 7, 7, 7, 7, 7, 7, 7, 7, 7, 7, 7, 7, 7, 7, 7, 7, 7, 7, 7, 7, 7, 7, 7, 7, 7, 7, 7, 7, 7, 7, 7, 7, 7, 7, 7, 7, 7, 7, 7, 7, 7]) (List.append [8, 8, 8, 8, 8, 8, 8, 8, 8, 8, 8, 8, 8, 8, 8, 8, 8, 8, 8, 8, 8, 8, 8, 8, 8, 8, 8, 8, 8, 8, 8, 8, 8, 8, 8, 8, 8, 8, 8, 8, 8, 8, 8, 8, 8, 8, 8, 8, 8, 8, 8, 8, 8, 8, 8, 8, 8, 8, 8, 8, 8, 8, 8, 8] [8, 8, 8, 8, 8, 8, 8, 8, 8, 8, 8, 8, 8, 8, 8, 8, 8, 8, 8, 8, 8, 8, 8, 8, 8, 8, 8, 8, 8, 8, 8, 8, 8, 8, 8, 8, 8, 8, 8, 8, 8, 8, 8, 8, 8, 8, 8, 8, 8, 8, 8, 8, 8, 8, 8, 8, 8, 8, 8, 8, 8, 8, 8, 8])))).data.toList 0 0)] .ret [(8, .sl 2 0 0)] [hadO h1, poolO nx mx, .row 2 []] (by kernel_rfl) ⟨(by rfl), (by first | (simp only [List.all_cons, List.all_nil, rowLt, hno, Bool.true_or, Bool.and_true, Bool.true_and]; rfl) | omega | decide | simp), trivial⟩ (fun σ h => retK.rows (is := [0, 1, 2]) (.inl rfl) h rfl rfl (by simp only [List.map_cons, List.map_nil, hadO_ren]; rfl) (by simp) (by decide) rfl ⟨rfl, rfl⟩)
    | cons k0 out0 =>
      obtain ⟨out, ho⟩ : ∃ o, o = k0 :: out0 := ⟨_, rfl⟩
      rw [← ho] at hn hlen ⊢
      have hso := w_sortK (hp := [hadO h1, poolO nx mx, .row 2 (out.flatMap keyC)]) (o := 2) rfl (by rw [ho]; simp) (by omega) hn
      obtain ⟨out2, ho2⟩ : ∃ o, o = sortK out := ⟨_, rfl⟩
      rw [← ho2] at hso ⊢
      exact W.sx hm hF 20 1000 20 [.u 20 10 1 (AV.tup []) [AObj.ob (Shp.map (List.range h1.length) h1.length) (hadC h1), AObj.row 1 [AV.mp 0, I IntKind.i64 nx, I IntKind.i64 mx], AObj.row 2 (List.flatMap keyC out2)]] [SL.Spec Try.prog 31 [AV.sl 2 0 (List.length out), AV.fn 32 [] []] [AObj.ob (Shp.map (List.range h1.length) h1.length) (hadC h1), AObj.row 1 [AV.mp 0, I .i64 nx, I .i64 mx], AObj.row 2 (List.flatMap keyC out)] (is (AV.tup []) [AObj.ob (Shp.map (List.range h1.length) h1.length) (hadC h1), AObj.row 1 [AV.mp 0, I IntKind.i64 nx, I IntKind.i64 mx], AObj.row 2 (List.flatMap keyC out2)]), List.length [AObj.ob (Shp.map (List.range h1.length) h1.length) (hadC h1), AObj.row 1 [AV.mp 0, I .i64 nx, I .i64 mx], AObj.row 2 (List.flatMap keyC out)] ≤ List.length [AObj.ob (Shp.map (List.range h1.length) h1.length) (hadC h1), AObj.row 1 [AV.mp 0, I IntKind.i64 nx, I IntKind.i64 mx], AObj.row 2 (List.flatMap keyC out2)]] .ret [(8, .sl 2 0 out.length)] [hadO h1, poolO nx mx, .row 2 (out2.flatMap keyC)] (by kernel_rfl) ⟨(by assumption), (by simp <;> omega), trivial⟩ (fun σ h => retK.rows (is := [0, 1, 2]) (.inl rfl) h rfl rfl (by simp only [List.map_cons, List.map_nil, hadO_ren, keys_ren]; rfl) (by simp) (by decide) rfl ⟨rfl, rfl⟩)

end Go.Proofs.Ytlfedjannhceaaa
