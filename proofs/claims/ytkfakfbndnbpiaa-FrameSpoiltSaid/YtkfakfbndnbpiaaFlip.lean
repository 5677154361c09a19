/- One bit of a byte turned. No program, no conditions. -/
import Derived.Test.YtkfakfbndnbpiaaWireP
namespace Go.Ev
open Go.RowKit

def flip8 (x : UInt8) (k : Nat) : UInt8 := UInt8.ofNat (BitVec.ofNat 8 x.toNat ^^^ BitVec.ofNat 8 (2 ^ k)).toNat
theorem flip8_fin : ∀ (x : Fin 256) (k : Fin 8), (BitVec.ofNat 8 x.val ^^^ BitVec.ofNat 8 (2 ^ k.val)).toNat ≠ x.val := by decide +kernel
theorem flip8_ne (x : UInt8) (k : Nat) (hk : k < 8) : x ≠ flip8 x k := by
  intro h
  have h1 := congrArg UInt8.toNat h
  have h2 := flip8_fin ⟨x.toNat, x.toNat_lt⟩ ⟨k, hk⟩
  unfold flip8 at h1
  have h3 := (BitVec.ofNat 8 x.toNat ^^^ BitVec.ofNat 8 (2 ^ k)).isLt
  rw [UInt8.toNat_ofNat', Nat.mod_eq_of_lt (by omega)] at h1
  exact h2 h1.symm
theorem and7_fin : ∀ x : Fin 256, (BitVec.ofNat 8 x.val &&& BitVec.ofNat 8 7).toNat = x.val % 8 := by decide +kernel
theorem and7 (x : UInt8) : bits .and .u8 (x.toNat : Int) 7 = ((x.toNat % 8 : Nat) : Int) := by
  refine (bits_u8 .and x.toNat 7).trans ?_
  show ((BitVec.ofNat 8 x.toNat &&& BitVec.ofNat 8 7).toNat : Int) = _
  rw [and7_fin ⟨x.toNat, x.toNat_lt⟩]
theorem shl_one : ∀ k : Fin 8, IntKind.u8.wrap ((1 : Int) * 2 ^ shAmt .u8 k.val) = ((2 ^ k.val : Nat) : Int) := by decide +kernel
theorem flip8_bits (x : UInt8) (k : Nat) : bits .xor .u8 (x.toNat : Int) ((2 ^ k : Nat) : Int) = ((flip8 x k).toNat : Int) := by
  refine (bits_u8 .xor x.toNat (2 ^ k)).trans ?_
  show ((BitVec.ofNat 8 x.toNat ^^^ BitVec.ofNat 8 (2 ^ k)).toNat : Int) = _
  unfold flip8
  have h3 := (BitVec.ofNat 8 x.toNat ^^^ BitVec.ofNat 8 (2 ^ k)).isLt
  rw [UInt8.toNat_ofNat', Nat.mod_eq_of_lt (by omega)]
end Go.Ev
