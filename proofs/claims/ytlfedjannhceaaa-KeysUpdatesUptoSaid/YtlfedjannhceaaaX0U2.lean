/-
  The functions by number, and that each has a body.
-/
import Derived.Test.YtlfedjannhceaaaSdU2
import Derived.Test.YtlfedjannhceaaaChecked
set_option maxRecDepth 100000
namespace Go.Proofs.Ytlfedjannhceaaa
open Go Go.SL Go.Proofs
/-- The tables that none writes. -/
def tabL : Nat → Option (List Value)
  | _ => none
instance : Tabs := ⟨tabL⟩
noncomputable def ft : List (Nat × Func) := [(2, Try.f2), (3, Try.f3), (4, Try.f4), (5, Try.f5), (6, Try.f6), (7, Try.f7), (8, Try.f8), (9, Try.f9), (10, Try.f10), (11, Try.f11), (12, Try.f12), (13, Try.f13), (14, Try.f14), (15, Try.f15), (16, Try.f16), (17, Try.f17), (18, Try.f18), (19, Try.f19), (20, Try.f20), (21, Try.f21), (22, Try.f22), (23, Try.f23), (24, Try.f24), (25, Try.f25), (26, Try.f26), (27, Try.f27), (28, Try.f28), (29, Try.f29), (30, Try.f30), (31, Try.f31), (32, Try.f32), (33, Try.f33), (34, Try.f34), (35, Try.f35), (36, Try.f36), (37, Try.f37), (38, Try.f38), (39, Try.f39), (40, Try.f40), (41, Try.f41), (42, Try.f42), (43, Try.f43), (44, Try.f44), (45, Try.f45), (46, Try.f46), (47, Try.f47), (48, Try.f48), (49, Try.f49), (50, Try.f50), (51, Try.f51), (52, Try.f52), (53, Try.f53), (54, Try.f54), (55, Try.f55)]
theorem hF : AllF Try.prog ft := ⟨⟨Try.func2, Try.call2⟩, ⟨Try.func3, Try.call3⟩, ⟨Try.func4, Try.call4⟩, ⟨Try.func5, Try.call5⟩, ⟨Try.func6, Try.call6⟩, ⟨Try.func7, Try.call7⟩, ⟨Try.func8, Try.call8⟩, ⟨Try.func9, Try.call9⟩, ⟨Try.func10, Try.call10⟩, ⟨Try.func11, Try.call11⟩, ⟨Try.func12, Try.call12⟩, ⟨Try.func13, Try.call13⟩, ⟨Try.func14, Try.call14⟩, ⟨Try.func15, Try.call15⟩, ⟨Try.func16, Try.call16⟩, ⟨Try.func17, Try.call17⟩, ⟨Try.func18, Try.call18⟩, ⟨Try.func19, Try.call19⟩, ⟨Try.func20, Try.call20⟩, ⟨Try.func21, Try.call21⟩, ⟨Try.func22, Try.call22⟩, ⟨Try.func23, Try.call23⟩, ⟨Try.func24, Try.call24⟩, ⟨Try.func25, Try.call25⟩, ⟨Try.func26, Try.call26⟩, ⟨Try.func27, Try.call27⟩, ⟨Try.func28, Try.call28⟩, ⟨Try.func29, Try.call29⟩, ⟨Try.func30, Try.call30⟩, ⟨Try.func31, Try.call31⟩, ⟨Try.func32, Try.call32⟩, ⟨Try.func33, Try.call33⟩, ⟨Try.func34, Try.call34⟩, ⟨Try.func35, Try.call35⟩, ⟨Try.func36, Try.call36⟩, ⟨Try.func37, Try.call37⟩, ⟨Try.func38, Try.call38⟩, ⟨Try.func39, Try.call39⟩, ⟨Try.func40, Try.call40⟩, ⟨Try.func41, Try.call41⟩, ⟨Try.func42, Try.call42⟩, ⟨Try.func43, Try.call43⟩, ⟨Try.func44, Try.call44⟩, ⟨Try.func45, Try.call45⟩, ⟨Try.func46, Try.call46⟩, ⟨Try.func47, Try.call47⟩, ⟨Try.func48, Try.call48⟩, ⟨Try.func49, Try.call49⟩, ⟨Try.func50, Try.call50⟩, ⟨Try.func51, Try.call51⟩, ⟨Try.func52, Try.call52⟩, ⟨Try.func53, Try.call53⟩, ⟨Try.func54, Try.call54⟩, ⟨Try.func55, Try.call55⟩, trivial⟩
theorem hm : Try.prog.follows .mixedOrders = true := Checked.mixed Try.checked
end Go.Proofs.Ytlfedjannhceaaa
