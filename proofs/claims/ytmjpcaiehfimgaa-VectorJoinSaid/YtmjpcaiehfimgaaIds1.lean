/- Ids and ranges: which are right, which stand ahead. -/
import Derived.Test.YtmjpcaiehfimgaaTypes
import Derived.Test.YtmjpcaiehfimgaaRange
import Derived.Test.YtmjpcaiehfimgaaArr
import Derived.Test.YtmjpcaiehfimgaaMake
import Derived.Test.YtmjpcaiehfimgaaIdsP
namespace Go.Proofs.Ytmjpcaiehfimgaa
open Go.RowKit Go.Ev Go.Ids

/-- A range's cells. -/
def rC (x : Rng) : List Value := [.int .u64 x.c, .int .u64 x.f, .int .u64 x.t]
def rV (x : Rng) : Value := .agg (rC x).toArray
/-- An id. -/
structure Idn where
  c : Nat
  k : Nat
def iC (x : Idn) : List Value := [.int .u64 x.c, .int .u64 x.k]
def iV (x : Idn) : Value := .agg (iC x).toArray
def Idn.right (x : Idn) : Bool := num x.c && num x.k
def Idn.lt (x y : Idn) : Bool := decide (x.c < y.c) || (decide (x.c = y.c) && decide (x.k < y.k))
theorem dge (a : Nat) (b : Int) (c : Nat) (h : b = c) : decide ((a : Int) ≥ b) = decide (c ≤ a) := by subst h; rw [decide_eq_decide]; omega
theorem dle (a : Nat) (b : Int) (c : Nat) (h : b = c) : decide ((a : Int) ≤ b) = decide (a ≤ c) := by subst h; rw [decide_eq_decide]; omega
theorem dlt (a c : Nat) : decide ((a : Int) < (c : Int)) = decide (a < c) := by rw [decide_eq_decide]; omega
theorem deq (a c : Nat) : ((a : Int) == (c : Int)) = decide (a = c) := by
  by_cases h : a = c
  · simp [h]
  · have : ¬ (a : Int) = (c : Int) := by omega
    simp [h, this]
theorem number_c (m : World) (n : Nat) : FnR Try.prog 57 [.int .u64 n] m fun r m' => r = .bool (num n) ∧ m' = m := by
  refine FnE.enter ⟨_, Try.func57, by kernel_rfl, by kernel_rfl⟩ Try.func57 rfl rfl ?_
  repeat (first | with_reducible refine WP.seq ?_ | with_reducible refine WP.block ?_ | with_reducible refine WP.region ?_)
  refine RL.auto T_ok rfl ?_
  refine RL.nil ?_; repeat (first | with_reducible refine QN.block_normal ?_ | with_reducible refine QN.next ?_); repeat (first | with_reducible refine WP.seq ?_ | with_reducible refine WP.block ?_ | with_reducible refine WP.region ?_)
  refine RL.pure T_ok 3 rfl ?_
  by_cases h : 1 ≤ n
  · refine RL.eqv (v' := .bool true) (congrArg _ (by rw [dge n 1 1 rfl]; exact decide_eq_true h)) ?_
    refine RL.auto T_ok rfl ?_
    refine RL.nil ?_; repeat (first | with_reducible refine QN.block_normal ?_ | with_reducible refine QN.next ?_); repeat (first | with_reducible refine WP.seq ?_ | with_reducible refine WP.block ?_ | with_reducible refine WP.region ?_)
    refine WP.ret ?_; repeat (first | with_reducible refine QN.then_ret ?_ | with_reducible refine QN.block_ret ?_)
    refine QN.ret1 rfl rfl ⟨_, rfl, congrArg _ ?_, rfl⟩
    rw [dle n 9007199254740991 9007199254740991 rfl]; simp [num, h]
  · refine RL.eqv (v' := .bool false) (congrArg _ (by rw [dge n 1 1 rfl]; exact decide_eq_false h)) ?_
    refine RL.auto T_ok rfl ?_
    refine RL.nil ?_; repeat (first | with_reducible refine QN.block_normal ?_ | with_reducible refine QN.next ?_); repeat (first | with_reducible refine WP.seq ?_ | with_reducible refine WP.block ?_ | with_reducible refine WP.region ?_)
    refine WP.ret ?_; repeat (first | with_reducible refine QN.then_ret ?_ | with_reducible refine QN.block_ret ?_)
    refine QN.ret1 rfl rfl ⟨_, rfl, congrArg _ ?_, rfl⟩
    simp [num, h]
theorem right_c (m : World) (x : Rng) : FnR Try.prog 68 [rV x] m fun r m' => r = .bool x.right ∧ Ext m [] m' := by
  refine FnE.enter ⟨_, Try.func68, by kernel_rfl, by kernel_rfl⟩ Try.func68 rfl rfl ?_
  repeat (first | with_reducible refine WP.seq ?_ | with_reducible refine WP.block ?_ | with_reducible refine WP.region ?_)
  refine RL.box rfl rfl (fun b m1 hb hC => ⟨_, rfl, ?_⟩)
  have hB : Blk m1 b 62 (rC x) := hC.here
  have hE : Ext m [] m1 := hC.new (by omega)
  clear hC
  refine RL.auto T_ok rfl ?_
  refine RL.nil ?_; repeat (first | with_reducible refine QN.block_normal ?_ | with_reducible refine QN.next ?_); repeat (first | with_reducible refine WP.seq ?_ | with_reducible refine WP.block ?_ | with_reducible refine WP.region ?_)
  repeat (first | refine RL.pure T_ok 1 rfl ?_ | refine RL.load T_ok rfl rfl rfl (hB.cell _ rfl) rfl ?_)
  refine RL.call (fi := []) (ca := []) rfl rfl rfl rfl (number_c m1 x.c) ?_
  rintro _ m2 ⟨rfl, rfl⟩
  refine ⟨_, rfl, ?_⟩
  refine RL.pure T_ok 1 rfl ?_
  by_cases h1 : num x.c = true
  · refine RL.eqv (v' := .bool true) (congrArg _ h1) ?_
    repeat (first | refine RL.pure T_ok 1 rfl ?_ | refine RL.load T_ok rfl rfl rfl (hB.cell _ rfl) rfl ?_)
    by_cases h2 : 1 ≤ x.f
    · refine RL.eqv (v' := .bool true) (congrArg _ (by rw [dge x.f 1 1 rfl]; exact decide_eq_true h2)) ?_
      repeat (first | refine RL.pure T_ok 1 rfl ?_ | refine RL.load T_ok rfl rfl rfl (hB.cell _ rfl) rfl ?_)
      by_cases h3 : x.f < x.t
      · refine RL.eqv (v' := .bool true) (congrArg _ (by rw [dlt]; exact decide_eq_true h3)) ?_
        repeat (first | refine RL.pure T_ok 1 rfl ?_ | refine RL.load T_ok rfl rfl rfl (hB.cell _ rfl) rfl ?_)
        refine RL.nil ?_; repeat (first | with_reducible refine QN.block_normal ?_ | with_reducible refine QN.next ?_); repeat (first | with_reducible refine WP.seq ?_ | with_reducible refine WP.block ?_ | with_reducible refine WP.region ?_)
        refine WP.ret ?_; repeat (first | with_reducible refine QN.then_ret ?_ | with_reducible refine QN.block_ret ?_)
        refine QN.ret1 rfl rfl ⟨_, rfl, congrArg _ ?_, hE⟩
        rw [dle x.t 9007199254740992 9007199254740992 rfl]; simp [Rng.right, h1, h2, h3]
      · refine RL.eqv (v' := .bool false) (congrArg _ (by rw [dlt]; exact decide_eq_false h3)) ?_
        repeat (first | refine RL.pure T_ok 1 rfl ?_ | refine RL.load T_ok rfl rfl rfl (hB.cell _ rfl) rfl ?_)
        refine RL.nil ?_; repeat (first | with_reducible refine QN.block_normal ?_ | with_reducible refine QN.next ?_); repeat (first | with_reducible refine WP.seq ?_ | with_reducible refine WP.block ?_ | with_reducible refine WP.region ?_)
        refine WP.ret ?_; repeat (first | with_reducible refine QN.then_ret ?_ | with_reducible refine QN.block_ret ?_)
        refine QN.ret1 rfl rfl ⟨_, rfl, congrArg _ ?_, hE⟩
        simp [Rng.right, h1, h2, h3]
    · refine RL.eqv (v' := .bool false) (congrArg _ (by rw [dge x.f 1 1 rfl]; exact decide_eq_false h2)) ?_
      repeat (first | refine RL.pure T_ok 1 rfl ?_ | refine RL.load T_ok rfl rfl rfl (hB.cell _ rfl) rfl ?_)
      refine RL.nil ?_; repeat (first | with_reducible refine QN.block_normal ?_ | with_reducible refine QN.next ?_); repeat (first | with_reducible refine WP.seq ?_ | with_reducible refine WP.block ?_ | with_reducible refine WP.region ?_)
      refine WP.ret ?_; repeat (first | with_reducible refine QN.then_ret ?_ | with_reducible refine QN.block_ret ?_)
      refine QN.ret1 rfl rfl ⟨_, rfl, congrArg _ ?_, hE⟩
      simp [Rng.right, h1, h2]
  · refine RL.eqv (v' := .bool false) (congrArg _ (Bool.not_eq_true _ ▸ h1)) ?_
    repeat (first | refine RL.pure T_ok 1 rfl ?_ | refine RL.load T_ok rfl rfl rfl (hB.cell _ rfl) rfl ?_)
    refine RL.nil ?_; repeat (first | with_reducible refine QN.block_normal ?_ | with_reducible refine QN.next ?_); repeat (first | with_reducible refine WP.seq ?_ | with_reducible refine WP.block ?_ | with_reducible refine WP.region ?_)
    refine WP.ret ?_; repeat (first | with_reducible refine QN.then_ret ?_ | with_reducible refine QN.block_ret ?_)
    refine QN.ret1 rfl rfl ⟨_, rfl, congrArg _ ?_, hE⟩
    simp [Rng.right, h1]
theorem refrightI_c (m : World) (x : Idn) : FnR Try.prog 16 [iV x] m fun r m' => r = .bool x.right ∧ Ext m [] m' := by
  refine FnE.enter ⟨_, Try.func16, by kernel_rfl, by kernel_rfl⟩ Try.func16 rfl rfl ?_
  repeat (first | with_reducible refine WP.seq ?_ | with_reducible refine WP.block ?_ | with_reducible refine WP.region ?_)
  refine RL.box rfl rfl (fun b m1 hb hC => ⟨_, rfl, ?_⟩)
  have hB : Blk m1 b 25 (iC x) := hC.here
  have hE : Ext m [] m1 := hC.new (by omega)
  clear hC
  refine RL.auto T_ok rfl ?_
  refine RL.nil ?_; repeat (first | with_reducible refine QN.block_normal ?_ | with_reducible refine QN.next ?_); repeat (first | with_reducible refine WP.seq ?_ | with_reducible refine WP.block ?_ | with_reducible refine WP.region ?_)
  repeat (first | refine RL.pure T_ok 1 rfl ?_ | refine RL.load T_ok rfl rfl rfl (hB.cell _ rfl) rfl ?_)
  by_cases h1 : 1 ≤ x.c
  · refine RL.eqv (v' := .bool true) (congrArg _ (by rw [dge x.c 1 1 rfl]; exact decide_eq_true h1)) ?_
    repeat (first | refine RL.pure T_ok 1 rfl ?_ | refine RL.load T_ok rfl rfl rfl (hB.cell _ rfl) rfl ?_)
    by_cases h2 : x.c ≤ 9007199254740991
    · refine RL.eqv (v' := .bool true) (congrArg _ (by rw [dle x.c 9007199254740991 9007199254740991 rfl]; exact decide_eq_true h2)) ?_
      repeat (first | refine RL.pure T_ok 1 rfl ?_ | refine RL.load T_ok rfl rfl rfl (hB.cell _ rfl) rfl ?_)
      by_cases h3 : 1 ≤ x.k
      · refine RL.eqv (v' := .bool true) (congrArg _ (by rw [dge x.k 1 1 rfl]; exact decide_eq_true h3)) ?_
        repeat (first | refine RL.pure T_ok 1 rfl ?_ | refine RL.load T_ok rfl rfl rfl (hB.cell _ rfl) rfl ?_)
        refine RL.nil ?_; repeat (first | with_reducible refine QN.block_normal ?_ | with_reducible refine QN.next ?_); repeat (first | with_reducible refine WP.seq ?_ | with_reducible refine WP.block ?_ | with_reducible refine WP.region ?_)
        refine WP.ret ?_; repeat (first | with_reducible refine QN.then_ret ?_ | with_reducible refine QN.block_ret ?_)
        refine QN.ret1 rfl rfl ⟨_, rfl, congrArg _ ?_, hE⟩
        rw [dle x.k 9007199254740991 9007199254740991 rfl]; simp [Idn.right, num, h1, h2, h3]
      · refine RL.eqv (v' := .bool false) (congrArg _ (by rw [dge x.k 1 1 rfl]; exact decide_eq_false h3)) ?_
        repeat (first | refine RL.pure T_ok 1 rfl ?_ | refine RL.load T_ok rfl rfl rfl (hB.cell _ rfl) rfl ?_)
        refine RL.nil ?_; repeat (first | with_reducible refine QN.block_normal ?_ | with_reducible refine QN.next ?_); repeat (first | with_reducible refine WP.seq ?_ | with_reducible refine WP.block ?_ | with_reducible refine WP.region ?_)
        refine WP.ret ?_; repeat (first | with_reducible refine QN.then_ret ?_ | with_reducible refine QN.block_ret ?_)
        refine QN.ret1 rfl rfl ⟨_, rfl, congrArg _ ?_, hE⟩
        simp [Idn.right, num, h1, h2, h3]
    · refine RL.eqv (v' := .bool false) (congrArg _ (by rw [dle x.c 9007199254740991 9007199254740991 rfl]; exact decide_eq_false h2)) ?_
      repeat (first | refine RL.pure T_ok 1 rfl ?_ | refine RL.load T_ok rfl rfl rfl (hB.cell _ rfl) rfl ?_)
      refine RL.nil ?_; repeat (first | with_reducible refine QN.block_normal ?_ | with_reducible refine QN.next ?_); repeat (first | with_reducible refine WP.seq ?_ | with_reducible refine WP.block ?_ | with_reducible refine WP.region ?_)
      refine WP.ret ?_; repeat (first | with_reducible refine QN.then_ret ?_ | with_reducible refine QN.block_ret ?_)
      refine QN.ret1 rfl rfl ⟨_, rfl, congrArg _ ?_, hE⟩
      simp [Idn.right, num, h1, h2]
  · refine RL.eqv (v' := .bool false) (congrArg _ (by rw [dge x.c 1 1 rfl]; exact decide_eq_false h1)) ?_
    repeat (first | refine RL.pure T_ok 1 rfl ?_ | refine RL.load T_ok rfl rfl rfl (hB.cell _ rfl) rfl ?_)
    refine RL.nil ?_; repeat (first | with_reducible refine QN.block_normal ?_ | with_reducible refine QN.next ?_); repeat (first | with_reducible refine WP.seq ?_ | with_reducible refine WP.block ?_ | with_reducible refine WP.region ?_)
    refine WP.ret ?_; repeat (first | with_reducible refine QN.then_ret ?_ | with_reducible refine QN.block_ret ?_)
    refine QN.ret1 rfl rfl ⟨_, rfl, congrArg _ ?_, hE⟩
    simp [Idn.right, num, h1]
theorem refrightR_c (m : World) (x : Rng) : FnR Try.prog 72 [rV x] m fun r m' => r = .bool x.right ∧ Ext m [] m' := by
  refine FnE.enter ⟨_, Try.func72, by kernel_rfl, by kernel_rfl⟩ Try.func72 rfl rfl ?_
  repeat (first | with_reducible refine WP.seq ?_ | with_reducible refine WP.block ?_ | with_reducible refine WP.region ?_)
  refine RL.box rfl rfl (fun b m1 hb hC => ⟨_, rfl, ?_⟩)
  have hB : Blk m1 b 62 (rC x) := hC.here
  have hE : Ext m [] m1 := hC.new (by omega)
  clear hC
  refine RL.auto T_ok rfl ?_
  refine RL.nil ?_; repeat (first | with_reducible refine QN.block_normal ?_ | with_reducible refine QN.next ?_); repeat (first | with_reducible refine WP.seq ?_ | with_reducible refine WP.block ?_ | with_reducible refine WP.region ?_)
  repeat (first | refine RL.pure T_ok 1 rfl ?_ | refine RL.load T_ok rfl rfl rfl (hB.cell _ rfl) rfl ?_)
  by_cases h1 : 1 ≤ x.c
  · refine RL.eqv (v' := .bool true) (congrArg _ (by rw [dge x.c 1 1 rfl]; exact decide_eq_true h1)) ?_
    repeat (first | refine RL.pure T_ok 1 rfl ?_ | refine RL.load T_ok rfl rfl rfl (hB.cell _ rfl) rfl ?_)
    by_cases h2 : x.c ≤ 9007199254740991
    · refine RL.eqv (v' := .bool true) (congrArg _ (by rw [dle x.c 9007199254740991 9007199254740991 rfl]; exact decide_eq_true h2)) ?_
      repeat (first | refine RL.pure T_ok 1 rfl ?_ | refine RL.load T_ok rfl rfl rfl (hB.cell _ rfl) rfl ?_)
      by_cases h3 : 1 ≤ x.f
      · refine RL.eqv (v' := .bool true) (congrArg _ (by rw [dge x.f 1 1 rfl]; exact decide_eq_true h3)) ?_
        repeat (first | refine RL.pure T_ok 1 rfl ?_ | refine RL.load T_ok rfl rfl rfl (hB.cell _ rfl) rfl ?_)
        by_cases h4 : x.f < x.t
        · refine RL.eqv (v' := .bool true) (congrArg _ (by rw [dlt]; exact decide_eq_true h4)) ?_
          repeat (first | refine RL.pure T_ok 1 rfl ?_ | refine RL.load T_ok rfl rfl rfl (hB.cell _ rfl) rfl ?_)
          refine RL.nil ?_; repeat (first | with_reducible refine QN.block_normal ?_ | with_reducible refine QN.next ?_); repeat (first | with_reducible refine WP.seq ?_ | with_reducible refine WP.block ?_ | with_reducible refine WP.region ?_)
          refine WP.ret ?_; repeat (first | with_reducible refine QN.then_ret ?_ | with_reducible refine QN.block_ret ?_)
          refine QN.ret1 rfl rfl ⟨_, rfl, congrArg _ ?_, hE⟩
          rw [dle x.t 9007199254740992 9007199254740992 rfl]; simp [Rng.right, num, h1, h2, h3, h4]
        · refine RL.eqv (v' := .bool false) (congrArg _ (by rw [dlt]; exact decide_eq_false h4)) ?_
          repeat (first | refine RL.pure T_ok 1 rfl ?_ | refine RL.load T_ok rfl rfl rfl (hB.cell _ rfl) rfl ?_)
          refine RL.nil ?_; repeat (first | with_reducible refine QN.block_normal ?_ | with_reducible refine QN.next ?_); repeat (first | with_reducible refine WP.seq ?_ | with_reducible refine WP.block ?_ | with_reducible refine WP.region ?_)
          refine WP.ret ?_; repeat (first | with_reducible refine QN.then_ret ?_ | with_reducible refine QN.block_ret ?_)
          refine QN.ret1 rfl rfl ⟨_, rfl, congrArg _ ?_, hE⟩
          simp [Rng.right, num, h1, h2, h3, h4]
      · refine RL.eqv (v' := .bool false) (congrArg _ (by rw [dge x.f 1 1 rfl]; exact decide_eq_false h3)) ?_
        repeat (first | refine RL.pure T_ok 1 rfl ?_ | refine RL.load T_ok rfl rfl rfl (hB.cell _ rfl) rfl ?_)
        refine RL.nil ?_; repeat (first | with_reducible refine QN.block_normal ?_ | with_reducible refine QN.next ?_); repeat (first | with_reducible refine WP.seq ?_ | with_reducible refine WP.block ?_ | with_reducible refine WP.region ?_)
        refine WP.ret ?_; repeat (first | with_reducible refine QN.then_ret ?_ | with_reducible refine QN.block_ret ?_)
        refine QN.ret1 rfl rfl ⟨_, rfl, congrArg _ ?_, hE⟩
        simp [Rng.right, num, h1, h2, h3]
    · refine RL.eqv (v' := .bool false) (congrArg _ (by rw [dle x.c 9007199254740991 9007199254740991 rfl]; exact decide_eq_false h2)) ?_
      repeat (first | refine RL.pure T_ok 1 rfl ?_ | refine RL.load T_ok rfl rfl rfl (hB.cell _ rfl) rfl ?_)
      refine RL.nil ?_; repeat (first | with_reducible refine QN.block_normal ?_ | with_reducible refine QN.next ?_); repeat (first | with_reducible refine WP.seq ?_ | with_reducible refine WP.block ?_ | with_reducible refine WP.region ?_)
      refine WP.ret ?_; repeat (first | with_reducible refine QN.then_ret ?_ | with_reducible refine QN.block_ret ?_)
      refine QN.ret1 rfl rfl ⟨_, rfl, congrArg _ ?_, hE⟩
      simp [Rng.right, num, h1, h2]
  · refine RL.eqv (v' := .bool false) (congrArg _ (by rw [dge x.c 1 1 rfl]; exact decide_eq_false h1)) ?_
    repeat (first | refine RL.pure T_ok 1 rfl ?_ | refine RL.load T_ok rfl rfl rfl (hB.cell _ rfl) rfl ?_)
    refine RL.nil ?_; repeat (first | with_reducible refine QN.block_normal ?_ | with_reducible refine QN.next ?_); repeat (first | with_reducible refine WP.seq ?_ | with_reducible refine WP.block ?_ | with_reducible refine WP.region ?_)
    refine WP.ret ?_; repeat (first | with_reducible refine QN.then_ret ?_ | with_reducible refine QN.block_ret ?_)
    refine QN.ret1 rfl rfl ⟨_, rfl, congrArg _ ?_, hE⟩
    simp [Rng.right, num, h1]
theorem rightI_c (m : World) (x : Idn) : FnR Try.prog 40 [iV x] m fun r m' => r = .bool x.right ∧ Ext m [] m' := by
  refine FnE.enter ⟨_, Try.func40, by kernel_rfl, by kernel_rfl⟩ Try.func40 rfl rfl ?_
  repeat (first | with_reducible refine WP.seq ?_ | with_reducible refine WP.block ?_ | with_reducible refine WP.region ?_)
  refine RL.box rfl rfl (fun b m1 hb hC => ⟨_, rfl, ?_⟩)
  have hB : Blk m1 b 25 (iC x) := hC.here
  have hE : Ext m [] m1 := hC.new (by omega)
  clear hC
  refine RL.auto T_ok rfl ?_
  refine RL.nil ?_; repeat (first | with_reducible refine QN.block_normal ?_ | with_reducible refine QN.next ?_); repeat (first | with_reducible refine WP.seq ?_ | with_reducible refine WP.block ?_ | with_reducible refine WP.region ?_)
  repeat (first | refine RL.pure T_ok 1 rfl ?_ | refine RL.load T_ok rfl rfl rfl (hB.cell _ rfl) rfl ?_)
  refine RL.call (fi := []) (ca := []) rfl rfl rfl rfl (number_c m1 x.c) ?_
  rintro _ m2 ⟨rfl, rfl⟩
  refine ⟨_, rfl, ?_⟩
  refine RL.pure T_ok 1 rfl ?_
  by_cases h1 : num x.c = true
  · refine RL.eqv (v' := .bool true) (congrArg _ h1) ?_
    repeat (first | refine RL.pure T_ok 1 rfl ?_ | refine RL.load T_ok rfl rfl rfl (hB.cell _ rfl) rfl ?_)
    refine RL.call (fi := []) (ca := []) rfl rfl rfl rfl (number_c m2 x.k) ?_
    rintro _ m3 ⟨rfl, rfl⟩
    refine ⟨_, rfl, ?_⟩
    repeat (first | refine RL.pure T_ok 1 rfl ?_ | refine RL.load T_ok rfl rfl rfl (hB.cell _ rfl) rfl ?_)
    refine RL.nil ?_; repeat (first | with_reducible refine QN.block_normal ?_ | with_reducible refine QN.next ?_); repeat (first | with_reducible refine WP.seq ?_ | with_reducible refine WP.block ?_ | with_reducible refine WP.region ?_)
    refine WP.ret ?_; repeat (first | with_reducible refine QN.then_ret ?_ | with_reducible refine QN.block_ret ?_)
    refine QN.ret1 rfl rfl ⟨_, rfl, congrArg _ ?_, hE⟩
    simp [Idn.right, h1]
  · refine RL.eqv (v' := .bool false) (congrArg _ (Bool.not_eq_true _ ▸ h1)) ?_
    repeat (first | refine RL.pure T_ok 1 rfl ?_ | refine RL.load T_ok rfl rfl rfl (hB.cell _ rfl) rfl ?_)
    refine RL.nil ?_; repeat (first | with_reducible refine QN.block_normal ?_ | with_reducible refine QN.next ?_); repeat (first | with_reducible refine WP.seq ?_ | with_reducible refine WP.block ?_ | with_reducible refine WP.region ?_)
    refine WP.ret ?_; repeat (first | with_reducible refine QN.then_ret ?_ | with_reducible refine QN.block_ret ?_)
    refine QN.ret1 rfl rfl ⟨_, rfl, congrArg _ ?_, hE⟩
    simp [Idn.right, h1]
theorem reflessR_c (m : World) (x y : Rng) : FnR Try.prog 73 [rV x, rV y] m fun r m' => r = .bool (x.lt y) ∧ Ext m [] m' := by
  refine FnE.enter ⟨_, Try.func73, by kernel_rfl, by kernel_rfl⟩ Try.func73 rfl rfl ?_
  repeat (first | with_reducible refine WP.seq ?_ | with_reducible refine WP.block ?_ | with_reducible refine WP.region ?_)
  refine RL.box rfl rfl (fun b m1 hb hC => ⟨_, rfl, ?_⟩)
  refine RL.box rfl rfl (fun b2 m2 hb2 hC2 => ⟨_, rfl, ?_⟩)
  have hE1 : Ext m [] m1 := hC.new (by omega)
  have hE2 : Ext m1 [] m2 := hC2.new (by omega)
  have s1 := hC.size
  have hB0 : Blk m1 b 62 (rC x) := hC.here
  have hB : Blk m2 b 62 (rC x) := hB0.ext hE2 (by simp)
  have hD : Blk m2 b2 62 (rC y) := hC2.here
  have hE : Ext m [] m2 := hE1.trans hE2 (by simp)
  clear hC hC2 hB0 hE1 hE2
  refine RL.auto T_ok rfl ?_
  refine RL.nil ?_; repeat (first | with_reducible refine QN.block_normal ?_ | with_reducible refine QN.next ?_); repeat (first | with_reducible refine WP.seq ?_ | with_reducible refine WP.block ?_ | with_reducible refine WP.region ?_)
  repeat (first | refine RL.pure T_ok 1 rfl ?_ | refine RL.load T_ok rfl rfl rfl (hB.cell _ rfl) rfl ?_ | refine RL.load T_ok rfl rfl rfl (hD.cell _ rfl) rfl ?_)
  by_cases h1 : x.c < y.c
  · refine RL.eqv (v' := .bool true) (congrArg _ (by rw [dlt]; exact decide_eq_true h1)) ?_
    repeat (first | refine RL.pure T_ok 1 rfl ?_ | refine RL.load T_ok rfl rfl rfl (hB.cell _ rfl) rfl ?_ | refine RL.load T_ok rfl rfl rfl (hD.cell _ rfl) rfl ?_)
    refine RL.nil ?_; repeat (first | with_reducible refine QN.block_normal ?_ | with_reducible refine QN.next ?_); repeat (first | with_reducible refine WP.seq ?_ | with_reducible refine WP.block ?_ | with_reducible refine WP.region ?_)
    refine WP.ret ?_; repeat (first | with_reducible refine QN.then_ret ?_ | with_reducible refine QN.block_ret ?_)
    refine QN.ret1 rfl rfl ⟨_, rfl, congrArg _ ?_, hE⟩
    simp [Rng.lt, h1]
  · refine RL.eqv (v' := .bool false) (congrArg _ (by rw [dlt]; exact decide_eq_false h1)) ?_
    repeat (first | refine RL.pure T_ok 1 rfl ?_ | refine RL.load T_ok rfl rfl rfl (hB.cell _ rfl) rfl ?_ | refine RL.load T_ok rfl rfl rfl (hD.cell _ rfl) rfl ?_)
    by_cases h2 : x.c = y.c
    · refine RL.eqv (v' := .bool true) (congrArg _ (by rw [deq]; exact decide_eq_true h2)) ?_
      repeat (first | refine RL.pure T_ok 1 rfl ?_ | refine RL.load T_ok rfl rfl rfl (hB.cell _ rfl) rfl ?_ | refine RL.load T_ok rfl rfl rfl (hD.cell _ rfl) rfl ?_)
      refine RL.nil ?_; repeat (first | with_reducible refine QN.block_normal ?_ | with_reducible refine QN.next ?_); repeat (first | with_reducible refine WP.seq ?_ | with_reducible refine WP.block ?_ | with_reducible refine WP.region ?_)
      refine WP.ret ?_; repeat (first | with_reducible refine QN.then_ret ?_ | with_reducible refine QN.block_ret ?_)
      refine QN.ret1 rfl rfl ⟨_, rfl, congrArg _ ?_, hE⟩
      rw [dlt]; simp [Rng.lt, h2]
    · refine RL.eqv (v' := .bool false) (congrArg _ (by rw [deq]; exact decide_eq_false h2)) ?_
      repeat (first | refine RL.pure T_ok 1 rfl ?_ | refine RL.load T_ok rfl rfl rfl (hB.cell _ rfl) rfl ?_ | refine RL.load T_ok rfl rfl rfl (hD.cell _ rfl) rfl ?_)
      refine RL.nil ?_; repeat (first | with_reducible refine QN.block_normal ?_ | with_reducible refine QN.next ?_); repeat (first | with_reducible refine WP.seq ?_ | with_reducible refine WP.block ?_ | with_reducible refine WP.region ?_)
      refine WP.ret ?_; repeat (first | with_reducible refine QN.then_ret ?_ | with_reducible refine QN.block_ret ?_)
      refine QN.ret1 rfl rfl ⟨_, rfl, congrArg _ ?_, hE⟩
      simp [Rng.lt, h1, h2]
end Go.Proofs.Ytmjpcaiehfimgaa
