/- The sum of package wire in plain bits: by nibbles as by single bits; and that it hangs on every bit. No program, no conditions. -/
import Derived.Test.YtkfakfbndnbpiaaWireP
namespace Go.Ev
open Go.RowKit

def crcP : BitVec 32 := 0xEDB88320#32
def step1 (x : BitVec 32) : BitVec 32 := (x >>> 1) ^^^ (if x.getLsbD 0 then crcP else 0#32)
def steps : Nat → BitVec 32 → BitVec 32
  | 0, x => x
  | k + 1, x => steps k (step1 x)
theorem steps_succ (k : Nat) : ∀ x, steps (k + 1) x = step1 (steps k x) := by
  induction k with
  | zero => intro x; rfl
  | succ k ih => intro x; show steps (k + 1) (step1 x) = _; rw [ih]; rfl
theorem steps_add (a b : Nat) : ∀ x, steps (a + b) x = steps b (steps a x) := by
  induction a with
  | zero => intro x; simp [steps]
  | succ a ih => intro x; rw [Nat.add_right_comm]; exact ih _
theorem xor_shuffle (a b p q : BitVec 32) : (a ^^^ b) ^^^ (p ^^^ q) = (a ^^^ p) ^^^ (b ^^^ q) := by ac_rfl
theorem if_xor (p q : Bool) (z : BitVec 32) : (if (p ^^ q) = true then z else 0#32) = (if p = true then z else 0#32) ^^^ (if q = true then z else 0#32) := by
  cases p <;> cases q <;> simp
theorem step1_xor (x y : BitVec 32) : step1 (x ^^^ y) = step1 x ^^^ step1 y := by
  unfold step1
  rw [BitVec.ushiftRight_xor_distrib, BitVec.getLsbD_xor, if_xor, xor_shuffle]
theorem steps_xor (k : Nat) : ∀ x y, steps k (x ^^^ y) = steps k x ^^^ steps k y := by
  induction k with
  | zero => intro x y; rfl
  | succ k ih => intro x y; show steps k (step1 (x ^^^ y)) = _; rw [step1_xor, ih]; rfl
theorem step1_even {x : BitVec 32} (h : x.getLsbD 0 = false) : step1 x = x >>> 1 := by unfold step1; rw [h]; simp only [Bool.false_eq_true, if_false, BitVec.xor_zero]
theorem high_bits (x : BitVec 32) (i : Nat) (h : i < 4) : (x &&& ~~~15#32).getLsbD i = false := by
  have : ∀ i : Fin 4, (~~~15#32).getLsbD i.val = false := by decide
  rw [BitVec.getLsbD_and, this ⟨i, h⟩, Bool.and_false]
theorem steps4_high (x : BitVec 32) : steps 4 (x &&& ~~~15#32) = x >>> 4 := by
  have h0 := high_bits x 0 (by omega)
  have h1 := high_bits x 1 (by omega)
  have h2 := high_bits x 2 (by omega)
  have h3 := high_bits x 3 (by omega)
  generalize hy : x &&& ~~~15#32 = y at *
  show step1 (step1 (step1 (step1 y))) = _
  rw [step1_even h0, step1_even (x := y >>> 1) (by rw [BitVec.getLsbD_ushiftRight]; exact h1), step1_even (x := y >>> 1 >>> 1) (by rw [BitVec.getLsbD_ushiftRight, BitVec.getLsbD_ushiftRight]; exact h2),
    step1_even (x := y >>> 1 >>> 1 >>> 1) (by rw [BitVec.getLsbD_ushiftRight, BitVec.getLsbD_ushiftRight, BitVec.getLsbD_ushiftRight]; exact h3)]
  subst hy
  apply BitVec.eq_of_getLsbD_eq
  intro i hi
  rw [BitVec.getLsbD_ushiftRight, BitVec.getLsbD_ushiftRight, BitVec.getLsbD_ushiftRight, BitVec.getLsbD_ushiftRight, BitVec.getLsbD_ushiftRight, BitVec.getLsbD_and]
  rw [show 1 + (1 + (1 + (1 + i))) = 4 + i by omega]
  by_cases h : 4 + i < 32
  · have : ∀ j : Fin 28, (~~~15#32).getLsbD (4 + j.val) = true := by decide
    rw [this ⟨i, by omega⟩, Bool.and_true]
  · rw [BitVec.getLsbD_of_ge x _ (by omega), Bool.false_and]
theorem split_nibble (x : BitVec 32) : x = (x &&& ~~~15#32) ^^^ (x &&& 15#32) := by
  apply BitVec.eq_of_getLsbD_eq
  intro i hi
  simp only [BitVec.getLsbD_xor, BitVec.getLsbD_and, BitVec.getLsbD_not, decide_eq_true hi, Bool.true_and]
  cases x.getLsbD i <;> cases (15#32).getLsbD i <;> rfl
/-- Four single steps are one by the table. -/
theorem steps4_table (x : BitVec 32) : steps 4 x = (x >>> 4) ^^^ steps 4 (x &&& 15#32) := by
  have h : steps 4 x = steps 4 ((x &&& ~~~15#32) ^^^ (x &&& 15#32)) := congrArg (steps 4) (split_nibble x)
  rw [h, steps_xor, steps4_high]
theorem step1_inj0 {x : BitVec 32} (h : step1 x = 0#32) : x = 0#32 := by
  have h31 := congrArg (fun z : BitVec 32 => z.getLsbD 31) h
  unfold step1 at h h31
  cases hx : x.getLsbD 0 with
  | true =>
    rw [hx] at h31
    have hP : crcP.getLsbD 31 = true := by decide
    have e1 : (x >>> 1).getLsbD 31 = false := by rw [BitVec.getLsbD_ushiftRight, BitVec.getLsbD_of_ge _ _ (by omega)]
    have e2 : (0#32).getLsbD 31 = false := by decide
    simp only [if_true, BitVec.getLsbD_xor, e1, hP, e2] at h31
    cases h31
  | false =>
    rw [hx] at h
    have h1 : x >>> 1 = 0#32 := by simpa using h
    apply BitVec.eq_of_getLsbD_eq
    intro i hi
    cases i with
    | zero => rw [hx]; simp
    | succ i =>
      have := congrArg (fun z : BitVec 32 => z.getLsbD i) h1
      simp only [BitVec.getLsbD_ushiftRight] at this
      rw [show i + 1 = 1 + i by omega, this]; simp
theorem steps_inj0 (k : Nat) : ∀ {x : BitVec 32}, steps k x = 0#32 → x = 0#32 := by
  induction k with
  | zero => intro x h; exact h
  | succ k ih => intro x h; exact step1_inj0 (ih h)
theorem xor_eq_zero' {x y : BitVec 32} (h : x ^^^ y = 0#32) : x = y := by
  have := congrArg (· ^^^ y) h
  simpa [BitVec.xor_assoc] using this
theorem steps_inj (k : Nat) {x y : BitVec 32} (h : steps k x = steps k y) : x = y := by
  apply xor_eq_zero'
  apply steps_inj0 k
  rw [steps_xor, h, BitVec.xor_self]
def b32 (b : UInt8) : BitVec 32 := BitVec.ofNat 32 b.toNat
theorem b32_inj {a b : UInt8} (h : b32 a = b32 b) : a = b := by
  have h1 := congrArg BitVec.toNat h
  simp only [b32, BitVec.toNat_ofNat] at h1
  have := a.toNat_lt
  have := b.toNat_lt
  exact UInt8.toNat_inj.1 (by omega)
/-- One byte more. -/
def crcB (s : BitVec 32) (b : UInt8) : BitVec 32 := steps 8 (s ^^^ b32 b)
def crcL (s : BitVec 32) (l : List UInt8) : BitVec 32 := l.foldl crcB s
def crc (l : List UInt8) : BitVec 32 := ~~~ crcL (BitVec.allOnes 32) l
theorem crcB_inj_s {s s' : BitVec 32} {b : UInt8} (h : crcB s b = crcB s' b) : s = s' := by
  have h1 := steps_inj 8 h
  have := congrArg (· ^^^ b32 b) h1
  simpa [BitVec.xor_assoc] using this
theorem crcB_inj_b {s : BitVec 32} {b b' : UInt8} (h : crcB s b = crcB s b') : b = b' := by
  have h1 := steps_inj 8 h
  have := congrArg (s ^^^ ·) h1
  simp only [← BitVec.xor_assoc, BitVec.xor_self, BitVec.zero_xor] at this
  exact b32_inj this
theorem crcL_inj (l : List UInt8) : ∀ {s s' : BitVec 32}, crcL s l = crcL s' l → s = s' := by
  induction l with
  | nil => intro s s' h; exact h
  | cons b l ih => intro s s' h; exact crcB_inj_s (ih h)
/-- Another byte at one place: another sum. -/
theorem crc_set (l : List UInt8) (k : Nat) (h : k < l.length) (b : UInt8) (hb : l[k] ≠ b) : crc (l.set k b) ≠ crc l := by
  intro he
  have h1 : crcL (BitVec.allOnes 32) (l.set k b) = crcL (BitVec.allOnes 32) l := by
    have := congrArg (~~~ ·) he
    simpa [crc] using this
  have h2 : l = l.take k ++ l[k] :: l.drop (k + 1) := by rw [← List.drop_eq_getElem_cons h, List.take_append_drop]
  have h3 : l.set k b = l.take k ++ b :: l.drop (k + 1) := by rw [List.set_eq_take_append_cons_drop, if_pos h]
  rw [h3] at h1
  conv at h1 => rhs; rw [h2]
  unfold crcL at h1
  rw [List.foldl_append, List.foldl_append, List.foldl_cons, List.foldl_cons] at h1
  exact hb (crcB_inj_b (crcL_inj (l.drop (k + 1)) h1)).symm

/-! ### As values -/
def v32 (x : BitVec 32) : Value := .int .u32 (x.toNat : Int)
theorem wrap_bv32 (z : BitVec 32) : IntKind.u32.wrap (z.toNat : Int) = (z.toNat : Int) := by
  rw [wrap_u32]; have := z.isLt; omega
theorem ofInt_bv32 (x : BitVec 32) : BitVec.ofInt IntKind.u32.bits (x.toNat : Int) = x := by
  show BitVec.ofInt 32 (x.toNat : Int) = x
  rw [BitVec.ofInt_natCast]; simp
theorem xor_v32 (x y : BitVec 32) : bits .xor .u32 (x.toNat : Int) (y.toNat : Int) = ((x ^^^ y).toNat : Int) := by
  unfold bits
  rw [ofInt_bv32, ofInt_bv32]
  exact wrap_bv32 _
theorem and_v32 (x y : BitVec 32) : bits .and .u32 (x.toNat : Int) (y.toNat : Int) = ((x &&& y).toNat : Int) := by
  unfold bits
  rw [ofInt_bv32, ofInt_bv32]
  exact wrap_bv32 _
theorem shr_v32 (x : BitVec 32) (k : Nat) : (x.toNat : Int).fdiv (2 ^ k) = ((x >>> k).toNat : Int) := by
  rw [fdiv_pow, BitVec.toNat_ushiftRight, Nat.shiftRight_eq_div_pow]
theorem byte_v32 (b : UInt8) : IntKind.u32.wrap (b.toNat : Int) = ((b32 b).toNat : Int) := by
  have := b.toNat_lt
  rw [wrap_u32]; unfold b32; rw [BitVec.toNat_ofNat]; omega
theorem lsb_and (x : BitVec 32) : x &&& 1#32 = if x.getLsbD 0 then 1#32 else 0#32 := by
  apply BitVec.eq_of_getLsbD_eq
  intro i hi
  rw [BitVec.getLsbD_and]
  cases i with
  | zero => cases h : x.getLsbD 0 <;> simp
  | succ i =>
    have : (1#32).getLsbD (i + 1) = false := by simp [BitVec.getLsbD_one]
    rw [this, Bool.and_false]
    split
    · exact this.symm
    · simp
theorem mul_v32 (x : BitVec 32) : IntKind.u32.wrap (3988292384 * ((x &&& 1#32).toNat : Int)) = (((if x.getLsbD 0 then crcP else 0#32) : BitVec 32).toNat : Int) := by
  rw [lsb_and]
  cases x.getLsbD 0 <;> rfl
theorem not_v32 (x : BitVec 32) : bits .xor .u32 (if IntKind.u32.signed then -1 else IntKind.u32.max) (x.toNat : Int) = ((~~~ x).toNat : Int) := by
  have h : (if IntKind.u32.signed then -1 else IntKind.u32.max) = ((BitVec.allOnes 32).toNat : Int) := by decide
  rw [h, xor_v32, BitVec.xor_comm, BitVec.xor_allOnes]
theorem lsb_test (x : BitVec 32) : (((x &&& 1#32).toNat : Int) == 1) = x.getLsbD 0 := by
  rw [lsb_and]
  cases x.getLsbD 0 <;> rfl
end Go.Ev
