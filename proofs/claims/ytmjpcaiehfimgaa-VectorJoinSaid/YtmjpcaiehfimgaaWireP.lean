/- Plain laws of the wire's numbers: bytes of a number, zigzag, eight bytes; no program. No conditions. -/
import Derived.Test.YtmjpcaiehfimgaaSlice
namespace Go.Ev
open Go.RowKit

theorem Blk.up {m m' : World} {b : Nat} {t : TypeId} {cs : List Value} (h : Blk m b t cs) (hE : Ext m [] m') : Blk m' b t cs := h.ext hE (by simp)

/-! ### Wraps -/
theorem wrap_u8 (x : Int) : IntKind.u8.wrap x = x % 256 := by simp [IntKind.wrap, IntKind.signed, IntKind.bits]
theorem wrap_u32 (x : Int) : IntKind.u32.wrap x = x % 4294967296 := by simp [IntKind.wrap, IntKind.signed, IntKind.bits]
theorem wrap_u64 (x : Int) : IntKind.u64.wrap x = x % 18446744073709551616 := by simp [IntKind.wrap, IntKind.signed, IntKind.bits]
theorem wrap_i64 (x : Int) : IntKind.i64.wrap x = if x % 18446744073709551616 ≥ 9223372036854775808 then x % 18446744073709551616 - 18446744073709551616 else x % 18446744073709551616 := by
  simp [IntKind.wrap, IntKind.signed, IntKind.bits]
theorem wrap_i64_in (x : Int) (h1 : -9223372036854775808 ≤ x) (h2 : x ≤ 9223372036854775807) : IntKind.i64.wrap x = x := by
  rw [wrap_i64]; split <;> omega
theorem wrap_u64_in (x : Int) (h1 : 0 ≤ x) (h2 : x < 18446744073709551616) : IntKind.u64.wrap x = x := by rw [wrap_u64]; omega
theorem wrap_u8_byte (b : UInt8) : IntKind.u8.wrap (b.toNat : Int) = (b.toNat : Int) := by rw [wrap_u8]; have := b.toNat_lt; omega
theorem wrap_u8_nat (n : Nat) : IntKind.u8.wrap (n : Int) = ((UInt8.ofNat n).toNat : Int) := by rw [wrap_u8]; simp
theorem fdiv_pow (a : Nat) (k : Nat) : ((a : Int)).fdiv (2 ^ k) = ((a / 2 ^ k : Nat) : Int) := by
  have h : (2 : Int) ^ k = ((2 ^ k : Nat) : Int) := by simp
  rw [h, Int.fdiv_eq_ediv_of_nonneg _ (Int.natCast_nonneg _)]
  rfl
def bop8 (op : BinOp) (a b : BitVec 8) : BitVec 8 := match op with
  | .and => a &&& b
  | .or => a ||| b
  | .xor => a ^^^ b
  | _ => a &&& ~~~ b
theorem wrap_bv8 (z : BitVec 8) : IntKind.u8.wrap (z.toNat : Int) = (z.toNat : Int) := by
  rw [wrap_u8]; have := z.isLt; omega
theorem bits_u8 (op : BinOp) (a b : Nat) : bits op .u8 (a : Int) (b : Int) = ((bop8 op (BitVec.ofNat 8 a) (BitVec.ofNat 8 b)).toNat : Int) := by
  have h : ∀ x : Nat, BitVec.ofInt IntKind.u8.bits (x : Int) = BitVec.ofNat 8 x := fun x => BitVec.ofInt_natCast ..
  unfold bits
  rw [h a, h b]
  cases op <;> exact wrap_bv8 _
theorem or128_fin : ∀ x : Fin 256, (BitVec.ofNat 8 x.val ||| BitVec.ofNat 8 128).toNat = x.val % 128 + 128 := by decide +kernel
theorem and127_fin : ∀ x : Fin 256, (BitVec.ofNat 8 x.val &&& BitVec.ofNat 8 127).toNat = x.val % 128 := by decide +kernel
theorem or128 (n : Nat) : bits .or .u8 ((UInt8.ofNat n).toNat : Int) 128 = ((UInt8.ofNat (n % 128 + 128)).toNat : Int) := by
  have h := bits_u8 .or (UInt8.ofNat n).toNat 128
  have h1 := or128_fin ⟨(UInt8.ofNat n).toNat, UInt8.toNat_lt _⟩
  refine h.trans ?_
  show ((BitVec.ofNat 8 (UInt8.ofNat n).toNat ||| BitVec.ofNat 8 128).toNat : Int) = _
  rw [h1]
  simp only [UInt8.toNat_ofNat']
  omega

theorem wrap_bv64 (z : BitVec 64) : IntKind.u64.wrap (z.toNat : Int) = (z.toNat : Int) := by
  rw [wrap_u64]; have := z.isLt; omega
def bop64 (op : BinOp) (a b : BitVec 64) : BitVec 64 := match op with
  | .and => a &&& b
  | .or => a ||| b
  | .xor => a ^^^ b
  | _ => a &&& ~~~ b
theorem bits_u64 (op : BinOp) (a b : Nat) : bits op .u64 (a : Int) (b : Int) = ((bop64 op (BitVec.ofNat 64 a) (BitVec.ofNat 64 b)).toNat : Int) := by
  have h : ∀ x : Nat, BitVec.ofInt IntKind.u64.bits (x : Int) = BitVec.ofNat 64 x := fun x => BitVec.ofInt_natCast ..
  unfold bits
  rw [h a, h b]
  cases op <;> exact wrap_bv64 _
theorem xor_zero64 (a : Nat) (h : a < 18446744073709551616) : bits .xor .u64 (a : Int) 0 = (a : Int) := by
  have h1 := bits_u64 .xor a 0
  refine h1.trans ?_
  show ((BitVec.ofNat 64 a ^^^ BitVec.ofNat 64 0).toNat : Int) = _
  rw [show BitVec.ofNat 64 0 = 0#64 from rfl, BitVec.xor_zero, BitVec.toNat_ofNat]
  rw [Nat.mod_eq_of_lt (by omega)]
theorem xor_ones64 (a : Nat) (h : a < 18446744073709551616) : bits .xor .u64 (a : Int) 18446744073709551615 = ((18446744073709551615 - a : Nat) : Int) := by
  have h1 := bits_u64 .xor a 18446744073709551615
  refine h1.trans ?_
  show ((BitVec.ofNat 64 a ^^^ BitVec.ofNat 64 18446744073709551615).toNat : Int) = _
  rw [show BitVec.ofNat 64 18446744073709551615 = BitVec.allOnes 64 from rfl, BitVec.xor_allOnes, BitVec.toNat_not, BitVec.toNat_ofNat]
  rw [Nat.mod_eq_of_lt (by omega)]

/-! ### A number's bytes -/
def encU (n : Nat) : List UInt8 := if n < 128 then [UInt8.ofNat n] else UInt8.ofNat (n % 128 + 128) :: encU (n / 128)
termination_by n
decreasing_by omega
theorem encU_small {n : Nat} (h : n < 128) : encU n = [UInt8.ofNat n] := by rw [encU, if_pos h]
theorem encU_big {n : Nat} (h : 128 ≤ n) : encU n = UInt8.ofNat (n % 128 + 128) :: encU (n / 128) := by rw [encU, if_neg (by omega)]
theorem encU_len (k : Nat) : ∀ n : Nat, n < 128 ^ (k + 1) → (encU n).length ≤ k + 1 := by
  induction k with
  | zero => intro n h; rw [encU_small (by simpa using h)]; simp
  | succ k ih =>
    intro n h
    rcases Nat.lt_or_ge n 128 with h1 | h1
    · rw [encU_small h1]; simp
    · rw [encU_big h1]
      have : n / 128 < 128 ^ (k + 1) := by
        rw [Nat.div_lt_iff_lt_mul (by omega)]
        rw [Nat.pow_succ] at h
        exact h
      have := ih _ this
      simp; omega
theorem encU_len10 {n : Nat} (h : n < 18446744073709551616) : (encU n).length ≤ 10 := encU_len 9 n (by omega)
/-- A number that may be below 0. -/
def zig (n : Int) : Nat := if 0 ≤ n then 2 * n.toNat else 2 * (-n - 1).toNat + 1
theorem zig_lt (n : Int) (h1 : -9223372036854775808 ≤ n) (h2 : n ≤ 9223372036854775807) : zig n < 18446744073709551616 := by
  unfold zig; split <;> omega
theorem zig_bits (n : Int) (h1 : -9223372036854775808 ≤ n) (h2 : n ≤ 9223372036854775807) :
    bits .xor .u64 (IntKind.u64.wrap (IntKind.u64.wrap n * 2 ^ 1)) (IntKind.u64.wrap (n.fdiv (2 ^ 63))) = (zig n : Int) := by
  rcases Int.lt_or_le n 0 with h | h
  · have ha : IntKind.u64.wrap (IntKind.u64.wrap n * 2 ^ 1) = ((18446744073709551615 - zig n : Nat) : Int) := by
      rw [wrap_u64, wrap_u64]; unfold zig; rw [if_neg (by omega)]; omega
    have hb : IntKind.u64.wrap (n.fdiv (2 ^ 63)) = 18446744073709551615 := by
      rw [wrap_u64, Int.fdiv_eq_ediv_of_nonneg _ (by decide)]; omega
    rw [ha, hb, xor_ones64 _ (by omega)]
    have := zig_lt n h1 h2
    omega
  · have ha : IntKind.u64.wrap (IntKind.u64.wrap n * 2 ^ 1) = ((zig n : Nat) : Int) := by
      rw [wrap_u64, wrap_u64]; unfold zig; rw [if_pos h]; omega
    have hb : IntKind.u64.wrap (n.fdiv (2 ^ 63)) = 0 := by
      rw [wrap_u64, Int.fdiv_eq_ediv_of_nonneg _ (by decide)]; omega
    rw [ha, hb, xor_zero64 _ (zig_lt n h1 h2)]
/-- Eight bytes, the greatest first. -/
def enc8 (n : Nat) : Nat → List UInt8
  | 0 => []
  | k + 1 => UInt8.ofNat (n / 256 ^ k) :: enc8 n k
theorem shr_8 (n j : Nat) (hj : j ≤ 7) : (n : Int).fdiv (2 ^ shAmt .u64 (8 * j)) = ((n / 256 ^ j : Nat) : Int) := by
  have h : shAmt .u64 (8 * j) = 8 * j := by unfold shAmt; exact Nat.min_eq_left (by show 8 * j ≤ 64; omega)
  rw [h, fdiv_pow n (8 * j), Nat.pow_mul]
theorem enc8_len (n : Nat) : ∀ k, (enc8 n k).length = k
  | 0 => rfl
  | k + 1 => by simp [enc8, enc8_len n k]

/-! ### A number read -/
/-- Seven bits a byte, the least first; i: which byte, n: what it is so far. -/
def rdU (most : Nat) : Nat → Nat → List UInt8 → Except Int (Nat × List UInt8)
  | _, _, [] => .error 10
  | i, n, b :: r => if i = 9 ∧ 1 < b.toNat then .error 11
    else if 128 ≤ b.toNat then rdU most (i + 1) (n + b.toNat % 128 * 128 ^ i) r
    else if b.toNat = 0 ∧ 0 < i then .error 11
    else if most < n + b.toNat % 128 * 128 ^ i then .error 12
    else .ok (n + b.toNat % 128 * 128 ^ i, r)
theorem or_add64 (n y k : Nat) (hn : n < 2 ^ k) (h : n + y * 2 ^ k < 18446744073709551616) : bits .or .u64 (n : Int) ((y * 2 ^ k : Nat) : Int) = ((n + y * 2 ^ k : Nat) : Int) := by
  have h1 := bits_u64 .or n (y * 2 ^ k)
  refine h1.trans ?_
  show ((BitVec.ofNat 64 n ||| BitVec.ofNat 64 (y * 2 ^ k)).toNat : Int) = _
  rw [BitVec.toNat_or, BitVec.toNat_ofNat, BitVec.toNat_ofNat, Nat.mod_eq_of_lt (by omega), Nat.mod_eq_of_lt (by omega), Nat.or_comm, Nat.mul_comm y, ← Nat.two_pow_add_eq_or_of_lt hn, Nat.add_comm]
theorem and127 (x : UInt8) : bits .and .u8 (x.toNat : Int) 127 = ((x.toNat % 128 : Nat) : Int) := by
  have h := bits_u8 .and x.toNat 127
  refine h.trans ?_
  show ((BitVec.ofNat 8 x.toNat &&& BitVec.ofNat 8 127).toNat : Int) = _
  have h1 := and127_fin ⟨x.toNat, x.toNat_lt⟩
  rw [h1]
theorem rdU_err (most : Nat) : ∀ (l : List UInt8) (i n : Nat) (k : Int), rdU most i n l = .error k → k = 10 ∨ k = 11 ∨ k = 12
  | [], i, n, k, h => by simp [rdU] at h; omega
  | b :: l, i, n, k, h => by
    unfold rdU at h
    split at h
    · injection h with h; omega
    · split at h
      · exact rdU_err most l _ _ k h
      · split at h
        · injection h with h; omega
        · split at h
          · injection h with h; omega
          · cases h
theorem rdU_most (most : Nat) : ∀ (l : List UInt8) (i n v : Nat) (l' : List UInt8), rdU most i n l = .ok (v, l') → v ≤ most ∧ l'.length < l.length
  | [], i, n, v, l', h => by simp [rdU] at h
  | b :: l, i, n, v, l', h => by
    unfold rdU at h
    split at h
    · cases h
    · split at h
      · have := rdU_most most l _ _ v l' h
        exact ⟨this.1, by simp; omega⟩
      · split at h
        · cases h
        · split at h
          · cases h
          · rename_i hm
            injection h with h
            simp only [Prod.mk.injEq] at h
            obtain ⟨rfl, rfl⟩ := h
            exact ⟨by omega, by simp⟩
/-- A reading under a guard: of a reader that has failed nothing is read; a failure is the reader's. -/
def gR {α : Type} (z : α) (e : Int) (l : List UInt8) (r : Except Int (α × List UInt8)) : α × List UInt8 × Int :=
  if e = 0 then match r with
    | .ok (a, l') => (a, l', 0)
    | .error k => (z, l, k)
  else (z, l, e)
theorem gR_off {α : Type} {z : α} {e : Int} {l : List UInt8} {r : Except Int (α × List UInt8)} (h : e ≠ 0) : gR z e l r = (z, l, e) := by unfold gR; rw [if_neg h]
theorem gR_ok {α : Type} {z a : α} {l l' : List UInt8} {r : Except Int (α × List UInt8)} (h : r = .ok (a, l')) : gR z 0 l r = (a, l', 0) := by unfold gR; rw [if_pos rfl, h]
theorem gR_err {α : Type} {z : α} {k : Int} {l : List UInt8} {r : Except Int (α × List UInt8)} (h : r = .error k) : gR z 0 l r = (z, l, k) := by unfold gR; rw [if_pos rfl, h]
def rdByte : List UInt8 → Except Int (UInt8 × List UInt8)
  | [] => .error 10
  | b :: l => .ok (b, l)
def be (n : Nat) : List UInt8 → Nat
  | [] => n
  | b :: l => be (n * 256 + b.toNat) l
def rdFixed (l : List UInt8) : Except Int (Nat × List UInt8) := if 8 ≤ l.length then .ok (be 0 (l.take 8), l.drop 8) else .error 10
def rdText (most : Nat) (l : List UInt8) : Except Int (List UInt8 × List UInt8) := match rdU most 0 0 l with
  | .error k => .error k
  | .ok (n, l') => if n ≤ l'.length then .ok (l'.take n, l'.drop n) else .error 10
/-- What a number of a number that may be below 0 stands for. -/
def unzig (n : Nat) : Int := if n % 2 = 0 then (n / 2 : Nat) else -((n / 2 : Nat) : Int) - 1
theorem xor_zero_i64 (a : Nat) (h : a < 9223372036854775808) : bits .xor .i64 (a : Int) 0 = (a : Int) := by
  have h2 : ∀ x : Nat, BitVec.ofInt IntKind.i64.bits (x : Int) = BitVec.ofNat 64 x := fun x => BitVec.ofInt_natCast ..
  show IntKind.i64.wrap ((BitVec.ofInt IntKind.i64.bits (a : Int) ^^^ BitVec.ofInt IntKind.i64.bits ((0 : Nat) : Int)).toNat : Int) = _
  rw [h2, h2]
  show IntKind.i64.wrap ((BitVec.ofNat 64 a ^^^ BitVec.ofNat 64 0).toNat : Int) = _
  rw [show BitVec.ofNat 64 0 = 0#64 from rfl, BitVec.xor_zero, BitVec.toNat_ofNat, Nat.mod_eq_of_lt (by omega), wrap_i64_in _ (by omega) (by omega)]
theorem xor_ones_i64 (a : Nat) (h : a < 9223372036854775808) : bits .xor .i64 (a : Int) (-1) = -(a : Int) - 1 := by
  have h2 : ∀ x : Nat, BitVec.ofInt IntKind.i64.bits (x : Int) = BitVec.ofNat 64 x := fun x => BitVec.ofInt_natCast ..
  show IntKind.i64.wrap ((BitVec.ofInt IntKind.i64.bits (a : Int) ^^^ BitVec.ofInt IntKind.i64.bits (-1)).toNat : Int) = _
  rw [h2]
  show IntKind.i64.wrap ((BitVec.ofNat 64 a ^^^ BitVec.allOnes 64).toNat : Int) = _
  rw [BitVec.xor_allOnes, BitVec.toNat_not, BitVec.toNat_ofNat, Nat.mod_eq_of_lt (by omega), wrap_i64]
  split <;> omega
theorem and_one_u64 (n : Nat) (h : n < 18446744073709551616) : bits .and .u64 (n : Int) 1 = ((n % 2 : Nat) : Int) := by
  refine (bits_u64 .and n 1).trans ?_
  show ((BitVec.ofNat 64 n &&& BitVec.ofNat 64 1).toNat : Int) = _
  rw [BitVec.toNat_and, BitVec.toNat_ofNat, BitVec.toNat_ofNat, Nat.mod_eq_of_lt (by omega)]
  rw [show 1 % 2 ^ 64 = 1 from rfl, Nat.and_one_is_mod]
theorem unzig_bits (n : Nat) (h : n < 18446744073709551616) :
    bits .xor .i64 (IntKind.i64.wrap ((n : Int).fdiv (2 ^ 1))) (IntKind.i64.wrap (0 - IntKind.i64.wrap (bits .and .u64 (n : Int) 1))) = unzig n := by
  have h1 := fdiv_pow n 1
  rw [h1, and_one_u64 n h]
  rw [wrap_i64_in ((n / 2 ^ 1 : Nat) : Int) (by omega) (by omega), wrap_i64_in ((n % 2 : Nat) : Int) (by omega) (by omega), wrap_i64_in _ (by omega) (by omega)]
  unfold unzig
  split
  · rename_i h2
    rw [h2]
    exact xor_zero_i64 _ (by omega)
  · have h2 : n % 2 = 1 := by omega
    rw [h2]
    exact xor_ones_i64 _ (by omega)
theorem unzig_zig (n : Int) : unzig (zig n) = n := by
  unfold zig unzig
  split
  · rw [if_pos (by omega)]; omega
  · rw [if_neg (by omega)]; omega
theorem or_add64' (n y k : Nat) (hn : n < 2 ^ k) (h : y * 2 ^ k + n < 18446744073709551616) : bits .or .u64 ((y * 2 ^ k : Nat) : Int) (n : Int) = ((y * 2 ^ k + n : Nat) : Int) := by
  have h1 := bits_u64 .or (y * 2 ^ k) n
  refine h1.trans ?_
  show ((BitVec.ofNat 64 (y * 2 ^ k) ||| BitVec.ofNat 64 n).toNat : Int) = _
  rw [BitVec.toNat_or, BitVec.toNat_ofNat, BitVec.toNat_ofNat, Nat.mod_eq_of_lt (by omega), Nat.mod_eq_of_lt (by omega), Nat.mul_comm y, ← Nat.two_pow_add_eq_or_of_lt hn]
theorem be_snoc (x : UInt8) : ∀ (a : List UInt8) (n : Nat), be n (a ++ [x]) = be n a * 256 + x.toNat
  | [], n => rfl
  | b :: a, n => by simp only [List.cons_append, be]; exact be_snoc x a _
theorem be_lt : ∀ (a : List UInt8) (n : Nat), be n a < (n + 1) * 256 ^ a.length
  | [], n => by simp [be]
  | b :: a, n => by
    simp only [be, List.length_cons]
    have h1 := be_lt a (n * 256 + b.toNat)
    have h2 := b.toNat_lt
    have h3 : (n * 256 + b.toNat + 1) * 256 ^ a.length ≤ ((n + 1) * 256) * 256 ^ a.length := Nat.mul_le_mul_right _ (by omega)
    rw [Nat.pow_succ, Nat.mul_comm (256 ^ a.length), ← Nat.mul_assoc]
    omega
theorem shl8_or (n : Nat) (x : UInt8) (h : n < 256 ^ 7) : bits .or .u64 (IntKind.u64.wrap ((n : Int) * 2 ^ 8)) (IntKind.u64.wrap (x.toNat : Int)) = ((n * 256 + x.toNat : Nat) : Int) := by
  have hx := x.toNat_lt
  have h1 : (n : Int) * 2 ^ 8 = ((n * 2 ^ 8 : Nat) : Int) := by rw [Int.natCast_mul]; rfl
  rw [h1, wrap_u64_in _ (by omega) (by omega), wrap_u64_in _ (by omega) (by omega)]
  exact or_add64' x.toNat n 8 hx (by omega)
end Go.Ev
