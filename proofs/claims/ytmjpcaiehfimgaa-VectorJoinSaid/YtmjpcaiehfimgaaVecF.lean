/- VectorJoin: the row. -/
import Derived.Test.YtmjpcaiehfimgaaRows
import Derived.Test.YtmjpcaiehfimgaaVecO
import Derived.Carry
namespace Go.Proofs.Ytmjpcaiehfimgaa
open Go.ChangeShapes Go.WideShapes Go.ChangeAt Go.RowKit Go.Ev Go.Ids

theorem vectorjoin_c (m : World) (u0 v0 : Value) (a b : List Clk) (ha : Cs m [] u0 a) (hb : Cs m [] v0 b) : FnR Try.prog 4 [u0, v0] m fun r m' => r = .bool true ∧ Ext m [] m' := by
  refine FnE.enter ⟨_, Try.func4, by kernel_rfl, by kernel_rfl⟩ Try.func4 rfl rfl ?_
  repeat (first | with_reducible refine WP.seq ?_ | with_reducible refine WP.block ?_ | with_reducible refine WP.region ?_)
  refine RL.auto T_ok rfl ?_
  refine RL.nil ?_; repeat (first | with_reducible refine QN.block_normal ?_ | with_reducible refine QN.next ?_); repeat (first | with_reducible refine WP.seq ?_ | with_reducible refine WP.block ?_ | with_reducible refine WP.region ?_)
  refine RL.call (fi := []) (ca := []) rfl rfl rfl rfl (vknown_c m) ?_
  rintro _ m2 ⟨rfl, hEm⟩
  refine ⟨_, rfl, ?_⟩
  replace ha := ha.ext0 hEm
  replace hb := hb.ext0 hEm
  refine RL.auto T_ok rfl ?_
  refine RL.nil ?_; repeat (first | with_reducible refine QN.block_normal ?_ | with_reducible refine QN.next ?_); repeat (first | with_reducible refine WP.seq ?_ | with_reducible refine WP.block ?_ | with_reducible refine WP.region ?_)
  refine WP.condF rfl ?_
  refine WP.skip ?_; repeat (first | with_reducible refine QN.block_normal ?_ | with_reducible refine QN.next ?_); repeat (first | with_reducible refine WP.seq ?_ | with_reducible refine WP.block ?_ | with_reducible refine WP.region ?_)
  refine RL.auto T_ok rfl ?_
  refine RL.call (fi := []) (ca := []) rfl rfl rfl rfl (vlight_c m2 _ a ha) ?_
  rintro _ m3 ⟨rfl, hmm3⟩
  subst hmm3
  refine ⟨_, rfl, ?_⟩
  by_cases hla : a.length ≤ 60
  rotate_left
  · refine RL.eqv (v' := .bool false) (congrArg _ (decide_eq_false hla)) ?_
    refine RL.auto T_ok rfl ?_
    refine RL.nil ?_; repeat (first | with_reducible refine QN.block_normal ?_ | with_reducible refine QN.next ?_); repeat (first | with_reducible refine WP.seq ?_ | with_reducible refine WP.block ?_ | with_reducible refine WP.region ?_)
    refine WP.condT rfl ?_
    repeat (first | with_reducible refine WP.seq ?_ | with_reducible refine WP.block ?_ | with_reducible refine WP.region ?_)
    refine RL.auto T_ok rfl ?_
    refine RL.nil ?_; repeat (first | with_reducible refine QN.block_normal ?_ | with_reducible refine QN.next ?_); repeat (first | with_reducible refine WP.seq ?_ | with_reducible refine WP.block ?_ | with_reducible refine WP.region ?_)
    refine WP.ret ?_; repeat (first | with_reducible refine QN.then_ret ?_ | with_reducible refine QN.block_ret ?_)
    exact QN.ret1 rfl rfl ⟨_, rfl, rfl, hEm⟩
  refine RL.eqv (v' := .bool true) (congrArg _ (decide_eq_true hla)) ?_
  refine RL.auto T_ok rfl ?_
  refine RL.call (fi := []) (ca := []) rfl rfl rfl rfl (vlight_c m3 _ b hb) ?_
  rintro _ m4 ⟨rfl, hmm4⟩
  subst hmm4
  refine ⟨_, rfl, ?_⟩
  by_cases hlb : b.length ≤ 60
  rotate_left
  · refine RL.eqv (v' := .bool false) (congrArg _ (decide_eq_false hlb)) ?_
    refine RL.auto T_ok rfl ?_
    refine RL.nil ?_; repeat (first | with_reducible refine QN.block_normal ?_ | with_reducible refine QN.next ?_); repeat (first | with_reducible refine WP.seq ?_ | with_reducible refine WP.block ?_ | with_reducible refine WP.region ?_)
    refine WP.condT rfl ?_
    repeat (first | with_reducible refine WP.seq ?_ | with_reducible refine WP.block ?_ | with_reducible refine WP.region ?_)
    refine RL.auto T_ok rfl ?_
    refine RL.nil ?_; repeat (first | with_reducible refine QN.block_normal ?_ | with_reducible refine QN.next ?_); repeat (first | with_reducible refine WP.seq ?_ | with_reducible refine WP.block ?_ | with_reducible refine WP.region ?_)
    refine WP.ret ?_; repeat (first | with_reducible refine QN.then_ret ?_ | with_reducible refine QN.block_ret ?_)
    exact QN.ret1 rfl rfl ⟨_, rfl, rfl, hEm⟩
  refine RL.eqv (v' := .bool true) (congrArg _ (decide_eq_true hlb)) ?_
  refine RL.auto T_ok rfl ?_
  refine RL.nil ?_; repeat (first | with_reducible refine QN.block_normal ?_ | with_reducible refine QN.next ?_); repeat (first | with_reducible refine WP.seq ?_ | with_reducible refine WP.block ?_ | with_reducible refine WP.region ?_)
  refine WP.condF rfl ?_
  refine WP.skip ?_; repeat (first | with_reducible refine QN.block_normal ?_ | with_reducible refine QN.next ?_); repeat (first | with_reducible refine WP.seq ?_ | with_reducible refine WP.block ?_ | with_reducible refine WP.region ?_)
  have k2 : b.length * (a.length + 1) ≤ 60 * 61 := Nat.mul_le_mul hlb (Nat.succ_le_succ hla)
  have k3 : a.length * (b.length + 1) ≤ 60 * 61 := Nat.mul_le_mul hla (Nat.succ_le_succ hlb)
  have n1 := vjoin_len a b
  have n2 := vmeet_len a b
  have n3 : (vmissing a b).length ≤ 60 * 61 := Nat.le_trans (Nat.le_trans (minus_len _ _) (Nat.mul_le_mul (vranges_len b) (Nat.succ_le_succ (vranges_len a)))) k2
  refine RL.auto T_ok rfl ?_
  refine RL.call (fi := []) (ca := []) rfl rfl rfl rfl (vjoin_c m4 _ _ a b ha hb (by omega)) ?_
  rintro w1 q1 hM1
  refine ⟨_, rfl, ?_⟩
  have hF1 := hM1.ext
  replace ha := ha.ext0 hF1
  replace hb := hb.ext0 hF1
  replace hEm := hEm.trans hF1 (by simp)
  have hR1 := hM1.cs
  refine RL.auto T_ok rfl ?_
  refine RL.call (fi := []) (ca := []) rfl rfl rfl rfl (vmeet_c q1 _ _ a b ha hb (by omega) (by omega)) ?_
  rintro w2 q2 hM2
  refine ⟨_, rfl, ?_⟩
  have hF2 := hM2.ext
  replace ha := ha.ext0 hF2
  replace hb := hb.ext0 hF2
  replace hR1 := hR1.ext0 hF2
  replace hEm := hEm.trans hF2 (by simp)
  have hR2 := hM2.cs
  refine RL.auto T_ok rfl ?_
  refine RL.call (fi := []) (ca := []) rfl rfl rfl rfl (vmissing_c q2 _ _ a b ha hb (by omega) (by omega) (by omega)) ?_
  rintro w3 q3 hM3
  refine ⟨_, rfl, ?_⟩
  have hF3 := hM3.ext
  replace ha := ha.ext0 hF3
  replace hb := hb.ext0 hF3
  replace hR1 := hR1.ext0 hF3
  replace hR2 := hR2.ext0 hF3
  replace hEm := hEm.trans hF3 (by simp)
  have hR3 := hM3.rs
  refine RL.auto T_ok rfl ?_
  refine RL.nil ?_; repeat (first | with_reducible refine QN.block_normal ?_ | with_reducible refine QN.next ?_); repeat (first | with_reducible refine WP.seq ?_ | with_reducible refine WP.block ?_ | with_reducible refine WP.region ?_)
  refine RL.auto T_ok rfl ?_
  refine RL.call (fi := []) (ca := []) rfl rfl rfl rfl (refvjoin_c q3 _ _ a b ha hb (by omega)) ?_
  rintro w4 q4 hM4
  refine ⟨_, rfl, ?_⟩
  have hF4 := hM4.ext
  replace ha := ha.ext0 hF4
  replace hb := hb.ext0 hF4
  replace hR1 := hR1.ext0 hF4
  replace hR2 := hR2.ext0 hF4
  replace hR3 := hR3.ext0 hF4
  replace hEm := hEm.trans hF4 (by simp)
  have hR4 := hM4.cs
  refine RL.call (fi := []) (ca := []) rfl rfl rfl rfl (clocks_c q4 _ _ _ _ hR1 hR4 (by omega)) ?_
  rintro _ q5 ⟨rfl, hq5⟩
  subst hq5
  refine ⟨_, rfl, ?_⟩
  refine RL.eqv (v' := .bool true) (congrArg _ (decide_eq_true (rfl))) ?_
  refine RL.auto T_ok rfl ?_
  refine RL.call (fi := []) (ca := []) rfl rfl rfl rfl (refvmeet_c q5 _ _ a b ha hb (by omega) (by omega)) ?_
  rintro w6 q6 hM6
  refine ⟨_, rfl, ?_⟩
  have hF6 := hM6.ext
  replace ha := ha.ext0 hF6
  replace hb := hb.ext0 hF6
  replace hR1 := hR1.ext0 hF6
  replace hR2 := hR2.ext0 hF6
  replace hR3 := hR3.ext0 hF6
  replace hEm := hEm.trans hF6 (by simp)
  have hR6 := hM6.cs
  refine RL.call (fi := []) (ca := []) rfl rfl rfl rfl (clocks_c q6 _ _ _ _ hR2 hR6 (by omega)) ?_
  rintro _ q7 ⟨rfl, hq7⟩
  subst hq7
  refine ⟨_, rfl, ?_⟩
  refine RL.eqv (v' := .bool true) (congrArg _ (decide_eq_true (rfl))) ?_
  refine RL.auto T_ok rfl ?_
  refine RL.call (fi := []) (ca := []) rfl rfl rfl rfl (refvmissing_c q7 _ _ a b ha hb (by omega) (by omega) (by omega)) ?_
  rintro w8 q8 hM8
  refine ⟨_, rfl, ?_⟩
  have hF8 := hM8.ext
  replace ha := ha.ext0 hF8
  replace hb := hb.ext0 hF8
  replace hR1 := hR1.ext0 hF8
  replace hR2 := hR2.ext0 hF8
  replace hR3 := hR3.ext0 hF8
  replace hEm := hEm.trans hF8 (by simp)
  have hR8 := hM8.rs
  refine RL.call (fi := []) (ca := []) rfl rfl rfl rfl (ranges_c q8 _ _ _ _ hR3 hR8 (by omega)) ?_
  rintro _ q9 ⟨rfl, hq9⟩
  subst hq9
  refine ⟨_, rfl, ?_⟩
  refine RL.eqv (v' := .bool true) (congrArg _ (decide_eq_true (rfl))) ?_
  refine RL.auto T_ok rfl ?_
  refine RL.nil ?_; repeat (first | with_reducible refine QN.block_normal ?_ | with_reducible refine QN.next ?_); repeat (first | with_reducible refine WP.seq ?_ | with_reducible refine WP.block ?_ | with_reducible refine WP.region ?_)
  refine WP.condF rfl ?_
  refine WP.skip ?_; repeat (first | with_reducible refine QN.block_normal ?_ | with_reducible refine QN.next ?_); repeat (first | with_reducible refine WP.seq ?_ | with_reducible refine WP.block ?_ | with_reducible refine WP.region ?_)
  refine RL.auto T_ok rfl ?_
  refine RL.call (fi := []) (ca := []) rfl rfl rfl rfl (vwithin_c q9 _ _ a b ha hb (by omega) (by omega)) ?_
  rintro _ q10 ⟨rfl, hF10⟩
  refine ⟨_, rfl, ?_⟩
  replace ha := ha.ext0 hF10
  replace hb := hb.ext0 hF10
  replace hR1 := hR1.ext0 hF10
  replace hR2 := hR2.ext0 hF10
  replace hEm := hEm.trans hF10 (by simp)
  refine RL.auto T_ok rfl ?_
  refine RL.call (fi := []) (ca := []) rfl rfl rfl rfl (refvwithin_c q10 _ _ a b ha hb (by omega) (by omega)) ?_
  rintro _ q11 ⟨rfl, hF11⟩
  refine ⟨_, rfl, ?_⟩
  replace ha := ha.ext0 hF11
  replace hb := hb.ext0 hF11
  replace hR1 := hR1.ext0 hF11
  replace hR2 := hR2.ext0 hF11
  replace hEm := hEm.trans hF11 (by simp)
  refine RL.pure T_ok 1 rfl ?_
  refine RL.eqv (v' := .bool true) (congrArg _ (by simp)) ?_
  refine RL.auto T_ok rfl ?_
  refine RL.call (fi := []) (ca := []) rfl rfl rfl rfl (vwithin_c q11 _ _ a b ha hb (by omega) (by omega)) ?_
  rintro _ q12 ⟨rfl, hF12⟩
  refine ⟨_, rfl, ?_⟩
  replace ha := ha.ext0 hF12
  replace hb := hb.ext0 hF12
  replace hR1 := hR1.ext0 hF12
  replace hR2 := hR2.ext0 hF12
  replace hEm := hEm.trans hF12 (by simp)
  refine RL.auto T_ok rfl ?_
  refine RL.call (fi := []) (ca := []) rfl rfl rfl rfl (vmissing_c q12 _ _ b a hb ha (by omega) (by omega) (by omega)) ?_
  rintro w13 q13 hM13
  refine ⟨_, rfl, ?_⟩
  have hF13 := hM13.ext
  replace ha := ha.ext0 hF13
  replace hb := hb.ext0 hF13
  replace hR1 := hR1.ext0 hF13
  replace hR2 := hR2.ext0 hF13
  replace hEm := hEm.trans hF13 (by simp)
  have hR13 := hM13.rs
  obtain ⟨AX, cX, rfl, _, _⟩ := hR13.shape
  refine RL.pure T_ok 1 rfl ?_
  refine RL.pure T_ok 1 rfl ?_
  refine RL.eqv (v' := .bool (vwithin a b)) (congrArg _ ?_) ?_
  · rw [Bool.eq_iff_iff, ← vmissing_nil a b, beq_iff_eq, Int.natCast_eq_zero, List.length_eq_zero_iff]
  refine RL.pure T_ok 1 rfl ?_
  refine RL.eqv (v' := .bool true) (congrArg _ (by simp)) ?_
  refine RL.auto T_ok rfl ?_
  refine RL.call (fi := []) (ca := []) rfl rfl rfl rfl (vwithin_c q13 _ _ _ a hR2 ha (by omega) (by omega)) ?_
  rintro _ q14 ⟨rfl, hF14⟩
  refine ⟨_, rfl, ?_⟩
  replace ha := ha.ext0 hF14
  replace hb := hb.ext0 hF14
  replace hR1 := hR1.ext0 hF14
  replace hR2 := hR2.ext0 hF14
  replace hEm := hEm.trans hF14 (by simp)
  refine RL.eqv (v' := .bool true) (congrArg _ ((vwithin_iff _ _).2 fun d => by rw [vmeet_at]; omega)) ?_
  refine RL.auto T_ok rfl ?_
  refine RL.call (fi := []) (ca := []) rfl rfl rfl rfl (vwithin_c q14 _ _ _ b hR2 hb (by omega) (by omega)) ?_
  rintro _ q15 ⟨rfl, hF15⟩
  refine ⟨_, rfl, ?_⟩
  replace ha := ha.ext0 hF15
  replace hb := hb.ext0 hF15
  replace hR1 := hR1.ext0 hF15
  replace hR2 := hR2.ext0 hF15
  replace hEm := hEm.trans hF15 (by simp)
  refine RL.eqv (v' := .bool true) (congrArg _ ((vwithin_iff _ _).2 fun d => by rw [vmeet_at]; omega)) ?_
  refine RL.auto T_ok rfl ?_
  refine RL.call (fi := []) (ca := []) rfl rfl rfl rfl (vwithin_c q15 _ _ a _ ha hR1 (by omega) (by omega)) ?_
  rintro _ q16 ⟨rfl, hF16⟩
  refine ⟨_, rfl, ?_⟩
  replace ha := ha.ext0 hF16
  replace hb := hb.ext0 hF16
  replace hR1 := hR1.ext0 hF16
  replace hR2 := hR2.ext0 hF16
  replace hEm := hEm.trans hF16 (by simp)
  refine RL.eqv (v' := .bool true) (congrArg _ ((vwithin_iff _ _).2 fun d => by rw [vjoin_at]; omega)) ?_
  refine RL.auto T_ok rfl ?_
  refine RL.call (fi := []) (ca := []) rfl rfl rfl rfl (vwithin_c q16 _ _ b _ hb hR1 (by omega) (by omega)) ?_
  rintro _ q17 ⟨rfl, hF17⟩
  refine ⟨_, rfl, ?_⟩
  replace ha := ha.ext0 hF17
  replace hb := hb.ext0 hF17
  replace hR1 := hR1.ext0 hF17
  replace hR2 := hR2.ext0 hF17
  replace hEm := hEm.trans hF17 (by simp)
  refine RL.eqv (v' := .bool true) (congrArg _ ((vwithin_iff _ _).2 fun d => by rw [vjoin_at]; omega)) ?_
  refine RL.auto T_ok rfl ?_
  refine RL.nil ?_; repeat (first | with_reducible refine QN.block_normal ?_ | with_reducible refine QN.next ?_); repeat (first | with_reducible refine WP.seq ?_ | with_reducible refine WP.block ?_ | with_reducible refine WP.region ?_)
  refine WP.ret ?_; repeat (first | with_reducible refine QN.then_ret ?_ | with_reducible refine QN.block_ret ?_)
  exact QN.ret1 rfl rfl ⟨_, rfl, rfl, hEm⟩
set_option maxRecDepth 100000 in
theorem vectorjoin_lifted (os : Os) (started : os.Started) (H : Type) (enc : TypeId × Value → H) :
    ReturnsInHanded {} Try.checked os 4 .any (Rows.vectorJoinSpec.pre6 enc Try.prog Try.f4 Rows.vectorJoinRow.domain false) (Rows.vectorJoinSpec.post enc Try.prog Try.f4 false true false false) := by
  refine law_lift (tb := 4) own started (by kernel_rfl) Try.func4
    (ChangeSpec.witness6 (enc := enc) (C := Try.checked) false ⟨#[], #[.slice none 0 0, .slice none 0 0], []⟩ 8 (by kernel_rfl) (by kernel_rfl) (by kernel_rfl) (by kernel_rfl))
    laidOut (by kernel_rfl) rfl (und 4 rfl rfl) rfl (fun ds h => by
      match ds, h with
      | [_, _], _ => exact ⟨rfl, rfl, rfl⟩) ?_
  intro W base args ds p hval hA hw
  rw [Try.params4] at hA hval hw
  obtain ⟨v0, v1, d0, d1, p0, p1, rfl, rfl, rfl, h0, h1⟩ := trodAll_two hA
  obtain ⟨a, ha⟩ := open_cs (hval 0 22 v0 rfl rfl) (Fit.arg hw 0 rfl rfl) h0
  obtain ⟨b, hb⟩ := open_cs (hval 1 22 v1 rfl rfl) (Fit.arg hw 1 rfl rfl) h1
  exact vectorjoin_c W v0 v1 a b ha hb
theorem vectorJoin_holds : Rows.VectorJoinSaid :=
  OpenClaim.holds_of_wide 4 Try.f4 rfl rfl rfl rfl rfl rfl rfl ⟨rfl, rfl, rfl, rfl, rfl⟩ rfl rfl rfl rfl rfl (by kernel_rfl) Try.func4 (by kernel_rfl)
    (of_decide_eq_true (by kernel_rfl)) (by unfold Func.isWrapper; first | (rw [if_pos (by decide +kernel)]; kernel_rfl) | (rw [if_neg (by decide +kernel)]; exact ⟨rfl, rfl⟩))
    (fun os started H enc _ => vectorjoin_lifted os started H enc)
end Go.Proofs.Ytmjpcaiehfimgaa
