/-
  What layer 7 (tlv) puts and gets, in plain Lean.
  No condition but a number's bounds.
-/
import Derived.Test.YtamibbjpapkfeaaTlvE
namespace Go.Proofs.Ytamibbjpapkfeaa.Ab
set_option linter.unusedSimpArgs false
set_option linter.unusedVariables false
open Go
/-- An octet of a number. -/
abbrev c8 (n : Int) : UInt8 := UInt8.ofNat n.toNat
def tput (k : Int) (c : Bool) (v : List UInt8) : List UInt8 × Int :=
  if 63 < k then ([], 2) else if 127 < v.length then ([], 3) else (c8 (4 * k + 1 + (if c then 2 else 0)) :: c8 (2 * (v.length : Int) + 1) :: v, 0)
structure Got where
  k : Int
  c : Bool
  v : List UInt8
  n : Int
  e : Int
def noGot (e : Int) : Got := ⟨0, false, [], 0, e⟩
def tget : List UInt8 → Got
  | [] => noGot 20
  | x :: r => if x.toNat % 2 = 0 then noGot 70 else match r with
    | [] => noGot 20
    | y :: r => if y.toNat % 2 = 1 then (if r.length < y.toNat / 2 then noGot 20 else ⟨(x.toNat / 4 : Nat), x.toNat / 2 % 2 == 1, r.take (y.toNat / 2), (2 + y.toNat / 2 : Nat), 0⟩)
      else match r with
        | [] => noGot 20
        | _ :: _ => noGot 70
theorem all_byte {p : UInt8 → Prop} (h : ∀ n : Fin 256, p (UInt8.ofNat n.val)) (y : UInt8) : p y := by
  have := h ⟨y.toNat, y.toNat_lt⟩
  simpa using this
theorem asI_I (n : Int) : (Dat.dI n).asI = n := rfl
theorem asB_B (n : Bool) : (Dat.dB n).asB = n := rfl
theorem asS_S (n : List UInt8) : (Dat.dS n).asS = n := rfl
/-! What is reckoned of octets. -/
def iB (op : BinOp) (k : IntKind) (a b : Int) : Int := (iop op k a b).asI
theorem o_and1 (x : UInt8) : (iop .and .u8 (x.toNat : Int) 1).asI = ((x.toNat % 2 : Nat) : Int) := all_byte (p := fun x => (iop .and .u8 (x.toNat : Int) 1).asI = ((x.toNat % 2 : Nat) : Int)) (by decide +kernel) x
theorem o_and2 (x : UInt8) : ((iop .and .u8 (x.toNat : Int) 2).asI = 0) = (x.toNat / 2 % 2 = 0) := by
  have := all_byte (p := fun x => (iop .and .u8 (x.toNat : Int) 2).asI = ((2 * (x.toNat / 2 % 2) : Nat) : Int)) (by decide +kernel) x
  rw [this]; simp; omega
theorem o_shr1 (x : UInt8) : (iop .shr .u8 (x.toNat : Int) 1).asI = ((x.toNat / 2 : Nat) : Int) := all_byte (p := fun x => (iop .shr .u8 (x.toNat : Int) 1).asI = ((x.toNat / 2 : Nat) : Int)) (by decide +kernel) x
theorem o_shr2 (x : UInt8) : (iop .shr .u8 (x.toNat : Int) 2).asI = ((x.toNat / 4 : Nat) : Int) := all_byte (p := fun x => (iop .shr .u8 (x.toNat : Int) 2).asI = ((x.toNat / 4 : Nat) : Int)) (by decide +kernel) x
theorem w64 (n : Int) (h0 : -9223372036854775808 ≤ n) (h1 : n ≤ 9223372036854775807) : IntKind.i64.wrap n = n := by
  rw [IntKind.wrap_i64]; omega
theorem w8 (n : Int) (h0 : 0 ≤ n) (h1 : n ≤ 255) : IntKind.u8.wrap n = n := by
  rw [IntKind.wrap_u8]; omega
end Go.Proofs.Ytamibbjpapkfeaa.Ab
