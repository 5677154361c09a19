/- Numbers in bytes, there and back, in plain lists. No program, no conditions. -/
import Derived.Test.YtkfakfbndnbpiaaWireP
namespace Go.Ev
open Go.RowKit
theorem ofNat_toNat8 (b : UInt8) : UInt8.ofNat b.toNat = b := by
  apply UInt8.toNat_inj.1
  have := b.toNat_lt
  rw [UInt8.toNat_ofNat', Nat.mod_eq_of_lt (by omega)]
theorem rdU_spells (most : Nat) : ∀ (l : List UInt8) (i n v : Nat) (l' : List UInt8), rdU most i n l = .ok (v, l') → ∃ d, v = n + d * 128 ^ i ∧ l = encU d ++ l' ∧ (0 < i → 0 < d)
  | [], i, n, v, l', h => by simp [rdU] at h
  | b :: l, i, n, v, l', h => by
    have hb := b.toNat_lt
    unfold rdU at h
    split at h
    · cases h
    · split at h
      · rename_i hbig
        obtain ⟨d, h1, h2, h3⟩ := rdU_spells most l _ _ v l' h
        have hd := h3 (by omega)
        refine ⟨b.toNat % 128 + 128 * d, ?_, ?_, by omega⟩
        · rw [h1, Nat.pow_succ, Nat.add_mul, Nat.add_assoc]
          congr 2
          rw [Nat.mul_comm 128 d, Nat.mul_assoc, Nat.mul_comm (128 ^ i) 128]
        · rw [encU_big (by omega), h2, List.cons_append]
          have e1 : (b.toNat % 128 + 128 * d) % 128 + 128 = b.toNat := by omega
          have e2 : (b.toNat % 128 + 128 * d) / 128 = d := by omega
          rw [e1, e2, ofNat_toNat8]
      · rename_i hsm
        split at h
        · cases h
        · rename_i hz
          split at h
          · cases h
          · injection h with h
            simp only [Prod.mk.injEq] at h
            obtain ⟨rfl, rfl⟩ := h
            refine ⟨b.toNat, by rw [Nat.mod_eq_of_lt (by omega)], ?_, by omega⟩
            rw [encU_small (by omega), ofNat_toNat8]; rfl
/-- What is read as a number is what is written for it. -/
theorem rdU_once {most v : Nat} {l l' : List UInt8} (h : rdU most 0 0 l = .ok (v, l')) : l = encU v ++ l' := by
  obtain ⟨d, h1, h2, _⟩ := rdU_spells most l 0 0 v l' h
  have : v = d := by simpa using h1
  rw [this]; exact h2
theorem rdU_enc (most : Nat) : ∀ (k : Nat) (d i n : Nat) (l : List UInt8), d < 128 ^ (k + 1) → n + d * 128 ^ i ≤ most → n + d * 128 ^ i < 18446744073709551616 → (0 < i → 0 < d) → rdU most i n (encU d ++ l) = .ok (n + d * 128 ^ i, l) := by
  intro k
  induction k with
  | zero =>
    intro d i n l hd hm h64 hi
    have hd : d < 128 := by simpa using hd
    rw [encU_small hd]
    have e : (UInt8.ofNat d).toNat = d := by rw [UInt8.toNat_ofNat', Nat.mod_eq_of_lt (by omega)]
    show rdU most i n (UInt8.ofNat d :: l) = _
    unfold rdU
    rw [e]
    have h9 : ¬ (i = 9 ∧ 1 < d) := by
      rintro ⟨rfl, h1⟩
      have : d * 128 ^ 9 ≥ 2 * 128 ^ 9 := Nat.mul_le_mul_right _ h1
      omega
    rw [if_neg h9, if_neg (by omega), if_neg (by omega), Nat.mod_eq_of_lt hd, if_neg (by omega)]
  | succ k ih =>
    intro d i n l hd hm h64 hi
    by_cases hs : d < 128
    · have e : (UInt8.ofNat d).toNat = d := by rw [UInt8.toNat_ofNat', Nat.mod_eq_of_lt (by omega)]
      rw [encU_small hs]
      show rdU most i n (UInt8.ofNat d :: l) = _
      unfold rdU
      rw [e]
      have h9 : ¬ (i = 9 ∧ 1 < d) := by
        rintro ⟨rfl, h1⟩
        have : d * 128 ^ 9 ≥ 2 * 128 ^ 9 := Nat.mul_le_mul_right _ h1
        omega
      rw [if_neg h9, if_neg (by omega), if_neg (by omega), Nat.mod_eq_of_lt hs, if_neg (by omega)]
    · rw [encU_big (by omega)]
      have e : (UInt8.ofNat (d % 128 + 128)).toNat = d % 128 + 128 := by rw [UInt8.toNat_ofNat', Nat.mod_eq_of_lt (by omega)]
      show rdU most i n (UInt8.ofNat (d % 128 + 128) :: (encU (d / 128) ++ l)) = _
      have h9 : i ≠ 9 := by
        rintro rfl
        have : d * 128 ^ 9 ≥ 128 * 128 ^ 9 := Nat.mul_le_mul_right _ (by omega)
        omega
      have hv : n + (d % 128 + 128) % 128 * 128 ^ i + d / 128 * 128 ^ (i + 1) = n + d * 128 ^ i := by
        have h1 : (d % 128 + 128) % 128 = d % 128 := by omega
        rw [h1, Nat.pow_succ, Nat.add_assoc]
        congr 1
        rw [Nat.mul_comm (128 ^ i) 128, ← Nat.mul_assoc, ← Nat.add_mul]
        congr 1; omega
      unfold rdU
      rw [e, if_neg (fun hh => h9 hh.1), if_pos (by omega)]
      have hlt : d / 128 < 128 ^ (k + 1) := by
        rw [Nat.pow_succ] at hd
        exact Nat.div_lt_of_lt_mul (by rw [Nat.mul_comm]; exact hd)
      rw [ih (d / 128) (i + 1) _ l hlt (by rw [hv]; exact hm) (by rw [hv]; exact h64) (fun _ => by omega), hv]
/-- What is written is read back. -/
theorem rdU_back {most n : Nat} (l : List UInt8) (hm : n ≤ most) (h64 : n < 18446744073709551616) : rdU most 0 0 (encU n ++ l) = .ok (n, l) := by
  have := rdU_enc most 9 n 0 0 l (by omega) (by simpa using hm) (by simpa using h64) (by omega)
  simpa using this
theorem zig_unzig (n : Nat) : zig (unzig n) = n := by
  unfold zig unzig
  split
  · rw [if_pos (by omega)]; omega
  · rw [if_neg (by omega)]; omega
theorem unzig_bounds (n : Nat) (h : n < 18446744073709551616) : -9223372036854775808 ≤ unzig n ∧ unzig n ≤ 9223372036854775807 := by
  unfold unzig
  split <;> omega
end Go.Ev
