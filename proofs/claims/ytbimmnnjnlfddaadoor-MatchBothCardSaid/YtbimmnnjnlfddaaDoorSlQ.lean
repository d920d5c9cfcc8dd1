/-
  Small change for printed walks.
-/
import Derived.Test.YtbimmnnjnlfddaaDoorSlP
import Derived.IntWalk
set_option linter.unusedSimpArgs false
set_option linter.unnecessarySimpa false
set_option linter.unusedVariables false
set_option linter.unusedSectionVars false
namespace Go.SL
open Go
variable [Tabs]

variable {F F' : Nat → Prop} {μ μ' μ'' : List Nm} {w w' w'' : World} {P : Program} {n : Nat} {env : Nat → AV} {hp : List AObj}
variable {dst : Option Nat} {ty : TypeId} {pos : String} {after : Array Edge} {guard : Option (Nat × Bool)}

theorem u8_of {z : Int} (h : 0 ≤ z ∧ z ≤ 255) : z = ((UInt8.ofNat z.toNat).toNat : Int) := by
  rw [UInt8.toNat_ofNat']
  omega

theorem u8_wrap (p : Int) : IntKind.u8.wrap p = ((UInt8.ofNat (p % 256).toNat).toNat : Int) := by
  rw [IntKind.wrap_u8, UInt8.toNat_ofNat']
  omega

theorem byte_le (c : UInt8) : c.toNat ≤ 255 := by have := c.toNat_lt; omega
theorem i64_byte (c : UInt8) : IntKind.i64.wrap (c.toNat : Int) = c.toNat := IntWalk.i64_in _ (by have := byte_le c; omega)
theorem u64_byte (c : UInt8) : IntKind.u64.wrap (c.toNat : Int) = c.toNat := IntWalk.u64_in _ (by have := byte_le c; omega)
theorem u32_byte (c : UInt8) : IntKind.u32.wrap (c.toNat : Int) = c.toNat := IntWalk.u32_in _ (by have := byte_le c; omega)
theorem u16_byte (c : UInt8) : IntKind.u16.wrap (c.toNat : Int) = c.toNat := IntWalk.u16_in _ (by have := byte_le c; omega)
theorem i32_byte (c : UInt8) : IntKind.i32.wrap (c.toNat : Int) = c.toNat := IntWalk.i32_in _ (by have := byte_le c; omega)

theorem take_map {α β : Type} {f : α → β} {l : List α} {a b : Nat} : ((l.map f).drop a).take b = ((l.drop a).take b).map f := by
  rw [← List.map_drop, ← List.map_take]
theorem take_whole {α β : Type} {f : α → β} {l : List α} {b : Nat} (h : l.length ≤ b) : ((l.map f).drop 0).take b = l.map f := by
  rw [List.drop_zero, List.take_of_length_le (by simpa using h)]

theorem noOwn_bytes {l : List UInt8} : noOwnL (l.map byteAV) = true := by
  induction l with
  | nil => rfl
  | cons b l ih => simpa [noOwnL, noOwn] using ih
theorem noOwn_im {l : List UInt8} {e : Nat} : noOwn (.im e (l.map byteAV)) = true := rfl

theorem Src.imB {x : Operand} {l : List UInt8} (hx : opd env x = .im 1 (l.map byteAV)) : Src P env hp 1 x l.length (l.map byteAV) :=
  Src.im hx (by simp) (by decide) (bytes_one l)

theorem Src.ownB {x : Operand} {m o off : Nat} {cells : List AV} {l : List UInt8} (hx : opd env x = .sl o off m) (ho : hp[o]? = some (AObj.row 1 cells)) (hc : (cells.drop off).take m = l.map byteAV) (hl : off + m ≤ cells.length) :
    Src P env hp 1 x m (l.map byteAV) := by
  have := Src.own (P := P) hx ho (by omega) (by rw [Nat.mul_one, hc]; exact bytes_one l)
  rwa [Nat.mul_one, hc] at this

theorem Bw.slB {o off len : Nat} {cells xs ys : List AV} {l : List UInt8} (ho : hp[o]? = some (AObj.row 1 cells)) (hc : (cells.drop off).take len = l.map byteAV) (hl : off + len ≤ cells.length) (t : Bw hp xs ys) :
    Bw hp (.sl o off len :: xs) (.im 1 (l.map byteAV) :: ys) := by
  have := Bw.sl (esz := 1) (off := off) (len := len) ho (by omega) (by rw [Nat.mul_one, hc]; exact noOwn_bytes) t
  rwa [Nat.mul_one, hc] at this

theorem step_convR {s t : TypeId} {x : Operand} {k k' : IntKind} {p z : Int} {d : TypeDesc} (hs : Und P s d) (ht : Und P t (.int k')) (hx : opd env x = .sc (.int k p)) (hz : k'.wrap p = z) :
    Step P ⟨dst, .convert s t x, ty, pos, after, guard⟩ env hp (is (.sc (.int k' z)) hp) := by
  subst hz; exact step_conv hs ht hx

theorem Fz.bytes {p o off len : Nat} {cells : List AV} {l : List UInt8} (ho : hp[o]? = some (AObj.row 1 cells)) (hpo : p ≤ o) (hc : (cells.drop off).take len = l.map byteAV) (hl : off + len ≤ cells.length) :
    Fz p hp (.sl o off len) (.im 1 (l.map byteAV)) := by
  have := Fz.sl (p := p) (off := off) (len := len) ho hpo (by omega) (by rw [Nat.mul_one, hc]; exact noOwn_bytes)
  rwa [Nat.mul_one, hc] at this

/-- The end of a function that hands back what owns nothing, over no own row. -/
theorem ret0 {rs : List ResultVar} {σ : SS} {xs : List AV} {x : AV} (hr : Res P rs σ xs) (hf : Fz 0 σ.hp (oneAV xs) x) :
    ∃ xs x' hp', Res P rs σ xs ∧ Cv 0 σ.hp (oneAV xs) hp' x' ∧ x' = x ∧ hp' = [] := ⟨xs, x, [], hr, Cv.frz0 hf, rfl, rfl⟩

theorem retS {p : Nat} {rs : List ResultVar} {σ : SS} {xs : List AV} {x : AV} {hp : List AObj} (hr : Res P rs σ xs) (hp' : σ.hp = hp) (hl : p ≤ hp.length) (hx : oneAV xs = x) :
    ∃ xs x' hp', Res P rs σ xs ∧ Cv p σ.hp (oneAV xs) hp' x' ∧ x' = x ∧ hp' = hp := ⟨xs, x, hp, hr, by rw [hp', hx]; exact Cv.refl hl, rfl, rfl⟩

end Go.SL
