/-
  Keys sorted by their names: slices.SortFunc on an own row.
-/
import Derived.Test.YtlfedjannhceaaaKSU2
import Derived.Test.YtlfedjannhceaaaKYU2
import Derived.Test.YtlfedjannhceaaaSfU2
set_option linter.unusedVariables false
set_option linter.unusedSimpArgs false
set_option maxRecDepth 100000
namespace Go.Proofs.Ytlfedjannhceaaa
open Go Go.SL Go.Proofs Go.Shelf
def sortKey_ren : Go.Shelf.Ren := ⟨fun | 6 => 31 | 15 => 37 | 14 => 36 | 28 => 48 | 29 => 49 | 20 => 40 | 21 => 41 | 22 => 42 | 23 => 43 | 24 => 44 | 25 => 45 | 26 => 46 | 27 => 47 | 46 => 50 | 47 => 51 | 48 => 52 | 49 => 53 | 50 => 54 | 57 => 55 | n => n, fun | 22 => 22 | 24 => 37 | 25 => 68 | 3 => 3 | 39 => 75 | 0 => 0 | 53 => 44 | 55 => 43 | 4 => 4 | 46 => 80 | 45 => 79 | 50 => 34 | 5 => 5 | 9 => 9 | 66 => 87 | 70 => 91 | 76 => 93 | 77 => 94 | n => n, fun | n => n⟩
theorem sortKey : Go.Proofs.SlLaysF0.n6 Try.prog sortKey_ren where
  mixed := by kernel_rfl
  f6 := ⟨ "slices.SortFunc[[]skein/api.Key,skein/api.Key]", by decide, Try.func31.trans (congrArg some (by kernel_rfl))⟩
  f14 := ⟨ "slices.pdqsortCmpFunc[skein/api.Key]", by decide, Try.func36.trans (congrArg some (by kernel_rfl))⟩
  f15 := Try.func37.trans (congrArg some (by kernel_rfl))
  f20 := ⟨ "slices.insertionSortCmpFunc[skein/api.Key]", by decide, Try.func40.trans (congrArg some (by kernel_rfl))⟩
  f21 := ⟨ "slices.heapSortCmpFunc[skein/api.Key]", by decide, Try.func41.trans (congrArg some (by kernel_rfl))⟩
  f22 := ⟨ "slices.breakPatternsCmpFunc[skein/api.Key]", by decide, Try.func42.trans (congrArg some (by kernel_rfl))⟩
  f23 := ⟨ "slices.choosePivotCmpFunc[skein/api.Key]", by decide, Try.func43.trans (congrArg some (by kernel_rfl))⟩
  f24 := ⟨ "slices.reverseRangeCmpFunc[skein/api.Key]", by decide, Try.func44.trans (congrArg some (by kernel_rfl))⟩
  f25 := ⟨ "slices.partialInsertionSortCmpFunc[skein/api.Key]", by decide, Try.func45.trans (congrArg some (by kernel_rfl))⟩
  f26 := ⟨ "slices.partitionEqualCmpFunc[skein/api.Key]", by decide, Try.func46.trans (congrArg some (by kernel_rfl))⟩
  f27 := ⟨ "slices.partitionCmpFunc[skein/api.Key]", by decide, Try.func47.trans (congrArg some (by kernel_rfl))⟩
  f28 := Try.func48.trans (congrArg some (by kernel_rfl))
  f29 := Try.func49.trans (congrArg some (by kernel_rfl))
  f46 := ⟨ "slices.siftDownCmpFunc[skein/api.Key]", by decide, Try.func50.trans (congrArg some (by kernel_rfl))⟩
  f47 := Try.func51.trans (congrArg some (by kernel_rfl))
  f48 := Try.func52.trans (congrArg some (by kernel_rfl))
  f49 := ⟨ "slices.medianAdjacentCmpFunc[skein/api.Key]", by decide, Try.func53.trans (congrArg some (by kernel_rfl))⟩
  f50 := ⟨ "slices.medianCmpFunc[skein/api.Key]", by decide, Try.func54.trans (congrArg some (by kernel_rfl))⟩
  f57 := ⟨ "slices.order2CmpFunc[skein/api.Key]", by decide, Try.func55.trans (congrArg some (by kernel_rfl))⟩
  t0 := Try.underlying0
  a0 := Try.isAgg0
  z0 := Try.sizeOf0
  v0 := Try.zeroValue0
  t3 := Try.underlying3
  a3 := Try.isAgg3
  z3 := Try.sizeOf3
  v3 := Try.zeroValue3
  t4 := Try.underlying4
  a4 := Try.isAgg4
  z4 := Try.sizeOf4
  v4 := Try.zeroValue4
  t5 := Try.underlying5
  a5 := Try.isAgg5
  z5 := Try.sizeOf5
  v5 := Try.zeroValue5
  t9 := Try.underlying9
  a9 := Try.isAgg9
  z9 := Try.sizeOf9
  v9 := Try.zeroValue9
  t22 := Try.underlying22
  a22 := Try.isAgg22
  z22 := Try.sizeOf22
  v22 := Try.zeroValue22
  t25 := Try.underlying68
  a25 := Try.isAgg68
  z25 := Try.sizeOf68
  v25 := Try.zeroValue68
  t39 := Try.underlying75
  a39 := Try.isAgg75
  z39 := Try.sizeOf75
  v39 := Try.zeroValue75
  t45 := Try.underlying79
  a45 := Try.isAgg79
  z45 := Try.sizeOf79
  v45 := Try.zeroValue79
  t46 := Try.underlying80
  a46 := Try.isAgg80
  z46 := Try.sizeOf80
  v46 := Try.zeroValue80
  t50 := Try.underlying34
  a50 := Try.isAgg34
  z50 := Try.sizeOf34
  v50 := Try.zeroValue34
  t53 := Try.underlying44
  a53 := Try.isAgg44
  z53 := Try.sizeOf44
  v53 := Try.zeroValue44
  t55 := Try.underlying43
  a55 := Try.isAgg43
  z55 := Try.sizeOf43
  v55 := Try.zeroValue43
  t66 := Try.underlying87
  a66 := Try.isAgg87
  z66 := Try.sizeOf87
  v66 := Try.zeroValue87
  t70 := Try.underlying91
  a70 := Try.isAgg91
  z70 := Try.sizeOf91
  v70 := Try.zeroValue91
  t76 := Try.underlying93
  a76 := Try.isAgg93
  z76 := Try.sizeOf93
  v76 := Try.zeroValue93
  t77 := Try.underlying94
  a77 := Try.isAgg94
  z77 := Try.sizeOf94
  v77 := Try.zeroValue94
def ltN (a b : Key) : Bool := Op.bytesLess a.name.toList b.name.toList
def leN (a b : Key) : Bool := !ltN b a
/-- Keys, rising by their names. -/
def sortK (l : List Key) : List Key := l.mergeSort leN
theorem sgnB (p q : Bool) : decide ((if p = true then (-1 : Int) else if (!(p || q)) = true then 1 else 0) < 0) = p := by cases p <;> cases q <;> rfl
theorem ltN_cmp (a b : Key) : ltOf (fun x y : Key => cmpS x.name y.name) a b = ltN a b := sgnB _ _
theorem leN_iff (a b : Key) : leN a b = true ↔ a.name.toList ≤ b.name.toList := by
  unfold leN ltN
  rw [bytesLess_eq]
  simp
theorem ltN_iff (a b : Key) : ltN a b = true ↔ a.name.toList < b.name.toList := by
  unfold ltN
  rw [bytesLess_eq]
  simp
theorem ltN_false (a b : Key) : ltN a b = false ↔ b.name.toList ≤ a.name.toList := by
  rw [← leN_iff]; unfold leN; simp
theorem swoN : Sort.SWO (ltOf fun x y : Key => cmpS x.name y.name) where
  irrefl x := by rw [ltN_cmp, ltN_false]; exact List.le_refl _
  trans x y z h1 h2 := by rw [ltN_cmp, ltN_iff] at *; exact List.lt_trans h1 h2
  ntrans x y z h1 h2 := by rw [ltN_cmp, ltN_false] at *; exact List.le_trans h2 h1
instance : Inhabited Key := ⟨⟨⟨#[]⟩, 0⟩⟩
theorem sortK_perm (l : List Key) : (sortK l).Perm l := List.mergeSort_perm l leN
theorem sortK_sorted (l : List Key) : (sortK l).Pairwise fun a b => leN a b = true :=
  List.pairwise_mergeSort (fun a b c h1 h2 => by rw [leN_iff] at *; exact List.le_trans h1 h2) (fun a b => by
    rcases List.le_total a.name.toList b.name.toList with h | h
    · rw [(leN_iff a b).2 h]; rfl
    · rw [(leN_iff b a).2 h]; simp) l
/-- What is sorted of keys that have names of their own is told by what they are. -/
theorem sortK_only {l l' : List Key} (hn : (l.map (·.name)).Nodup) (hp : l'.Perm l) (hs : l'.Pairwise fun a b => ltOf (fun x y : Key => cmpS x.name y.name) b a = false) : l' = sortK l := by
  refine List.Perm.eq_of_pairwise (le := fun a b => leN a b = true) ?_ (hs.imp fun {a b} h => by rw [ltN_cmp] at h; unfold leN; rw [h]; rfl) (sortK_sorted l) (hp.trans (sortK_perm l).symm)
  intro a b ha hb h1 h2
  rw [leN_iff] at h1 h2
  have e := List.le_antisymm h1 h2
  have ha' : a ∈ l := hp.mem_iff.1 ha
  have hb' : b ∈ l := (sortK_perm l).mem_iff.1 hb
  have e' : a.name = b.name := by
    have : a.name.data.toList = b.name.data.toList := by rw [← Lib.toList_data, ← Lib.toList_data]; exact e
    have h3 := Array.toList_inj.1 this
    cases ha0 : a.name; cases hb0 : b.name
    rw [ha0, hb0] at h3
    simp only at h3
    rw [h3]
  clear h1 h2 e hs hp ha hb
  induction l with
  | nil => simp at ha'
  | cons c l ih =>
    simp only [List.map_cons, List.nodup_cons, List.mem_map, not_exists, not_and] at hn
    rcases List.mem_cons.1 ha' with h1 | ha2 <;> rcases List.mem_cons.1 hb' with h2 | hb2
    · rw [h1, h2]
    · rw [h1] at e'; exact absurd e'.symm (hn.1 b hb2)
    · rw [h2] at e'; exact absurd e' (hn.1 a ha2)
    · exact ih hn.2 ha2 hb2
theorem w_sortK {hp : List AObj} {o : Nat} {l : List Key} (ho : hp[o]? = some (.row 2 (l.flatMap keyC))) (hl : l ≠ []) (hsz : l.length < 4611686018427387904) (hn : (l.map (·.name)).Nodup) :
    SL.Spec Try.prog 31 [.sl o 0 l.length, .fn 32 [] []] hp (SL.is (.tup []) (hp.set o (.row 2 ((sortK l).flatMap keyC)))) := by
  have eg : ∀ args w, (callFunc 32 args).run Try.prog w = .ok (.enter 32 args) w := enters_of Try.func32 (by kernel_rfl) rfl
  have h := SL.Spec.sort (hp := hp) (o := o) (L := l) sortKey 2 (by decide) Try.isAgg37 Try.sizeOf37 encK (fun _ => rfl) (fun x v hv => by simp [encK] at hv; rcases hv with rfl | rfl <;> rfl) (fun x v hv => by simp [encK] at hv; rcases hv with rfl | rfl <;> rfl)
    (fun x y => cmpS x.name y.name) swoN 32 eg (fun _ _ _ _ => fun _ _ _ _ x y => clo32 x y _) ho hl hsz
  intro F μ w args hr ha
  refine (h F μ w args hr ha).mono ?_
  rintro e w' ⟨r, v, hp', μ', rfl, ⟨rfl, l', h1, h2, rfl⟩, h3, h4, h5⟩
  rw [sortK_only hn h1 h2] at h3
  exact ⟨_, v, _, μ', rfl, ⟨rfl, rfl⟩, h3, h4, h5⟩
end Go.Proofs.Ytlfedjannhceaaa
