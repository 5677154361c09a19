/- VectorLaws: the row. -/
import Derived.Test.YtmjpcaiehfimgaaRows
import Derived.Test.YtmjpcaiehfimgaaVecO
import Derived.Carry
namespace Go.Proofs.Ytmjpcaiehfimgaa
open Go.ChangeShapes Go.WideShapes Go.ChangeAt Go.RowKit Go.Ev Go.Ids

theorem vectorlaws_c (m : World) (u0 v0 w0 : Value) (a b c : List Clk) (ha : Cs m [] u0 a) (hb : Cs m [] v0 b) (hc : Cs m [] w0 c) : FnR Try.prog 5 [u0, v0, w0] m fun r m' => r = .bool true ∧ Ext m [] m' := by
  refine FnE.enter ⟨_, Try.func5, by kernel_rfl, by kernel_rfl⟩ Try.func5 rfl rfl ?_
  repeat (first | with_reducible refine WP.seq ?_ | with_reducible refine WP.block ?_ | with_reducible refine WP.region ?_)
  refine RL.auto T_ok rfl ?_
  refine RL.nil ?_; repeat (first | with_reducible refine QN.block_normal ?_ | with_reducible refine QN.next ?_); repeat (first | with_reducible refine WP.seq ?_ | with_reducible refine WP.block ?_ | with_reducible refine WP.region ?_)
  refine RL.call (fi := []) (ca := []) rfl rfl rfl rfl (vknown_c m) ?_
  rintro _ m2 ⟨rfl, hEm⟩
  refine ⟨_, rfl, ?_⟩
  replace ha := ha.ext0 hEm
  replace hb := hb.ext0 hEm
  replace hc := hc.ext0 hEm
  refine RL.auto T_ok rfl ?_
  refine RL.nil ?_; repeat (first | with_reducible refine QN.block_normal ?_ | with_reducible refine QN.next ?_); repeat (first | with_reducible refine WP.seq ?_ | with_reducible refine WP.block ?_ | with_reducible refine WP.region ?_)
  refine WP.condF rfl ?_
  refine WP.skip ?_; repeat (first | with_reducible refine QN.block_normal ?_ | with_reducible refine QN.next ?_); repeat (first | with_reducible refine WP.seq ?_ | with_reducible refine WP.block ?_ | with_reducible refine WP.region ?_)
  refine RL.auto T_ok rfl ?_
  refine RL.call (fi := []) (ca := []) rfl rfl rfl rfl (vlight_c m2 _ a ha) ?_
  rintro _ m3 ⟨rfl, hmm3⟩
  subst hmm3
  refine ⟨_, rfl, ?_⟩
  by_cases hla : a.length ≤ 60
  rotate_left
  · refine RL.eqv (v' := .bool false) (congrArg _ (decide_eq_false hla)) ?_
    refine RL.auto T_ok rfl ?_
    refine RL.nil ?_; repeat (first | with_reducible refine QN.block_normal ?_ | with_reducible refine QN.next ?_); repeat (first | with_reducible refine WP.seq ?_ | with_reducible refine WP.block ?_ | with_reducible refine WP.region ?_)
    refine WP.condT rfl ?_
    repeat (first | with_reducible refine WP.seq ?_ | with_reducible refine WP.block ?_ | with_reducible refine WP.region ?_)
    refine RL.auto T_ok rfl ?_
    refine RL.nil ?_; repeat (first | with_reducible refine QN.block_normal ?_ | with_reducible refine QN.next ?_); repeat (first | with_reducible refine WP.seq ?_ | with_reducible refine WP.block ?_ | with_reducible refine WP.region ?_)
    refine WP.ret ?_; repeat (first | with_reducible refine QN.then_ret ?_ | with_reducible refine QN.block_ret ?_)
    exact QN.ret1 rfl rfl ⟨_, rfl, rfl, hEm⟩
  refine RL.eqv (v' := .bool true) (congrArg _ (decide_eq_true hla)) ?_
  refine RL.auto T_ok rfl ?_
  refine RL.call (fi := []) (ca := []) rfl rfl rfl rfl (vlight_c m3 _ b hb) ?_
  rintro _ m4 ⟨rfl, hmm4⟩
  subst hmm4
  refine ⟨_, rfl, ?_⟩
  by_cases hlb : b.length ≤ 60
  rotate_left
  · refine RL.eqv (v' := .bool false) (congrArg _ (decide_eq_false hlb)) ?_
    refine RL.auto T_ok rfl ?_
    refine RL.nil ?_; repeat (first | with_reducible refine QN.block_normal ?_ | with_reducible refine QN.next ?_); repeat (first | with_reducible refine WP.seq ?_ | with_reducible refine WP.block ?_ | with_reducible refine WP.region ?_)
    refine WP.condT rfl ?_
    repeat (first | with_reducible refine WP.seq ?_ | with_reducible refine WP.block ?_ | with_reducible refine WP.region ?_)
    refine RL.auto T_ok rfl ?_
    refine RL.nil ?_; repeat (first | with_reducible refine QN.block_normal ?_ | with_reducible refine QN.next ?_); repeat (first | with_reducible refine WP.seq ?_ | with_reducible refine WP.block ?_ | with_reducible refine WP.region ?_)
    refine WP.ret ?_; repeat (first | with_reducible refine QN.then_ret ?_ | with_reducible refine QN.block_ret ?_)
    exact QN.ret1 rfl rfl ⟨_, rfl, rfl, hEm⟩
  refine RL.eqv (v' := .bool true) (congrArg _ (decide_eq_true hlb)) ?_
  refine RL.auto T_ok rfl ?_
  refine RL.call (fi := []) (ca := []) rfl rfl rfl rfl (vlight_c m4 _ c hc) ?_
  rintro _ m5 ⟨rfl, hmm5⟩
  subst hmm5
  refine ⟨_, rfl, ?_⟩
  by_cases hlc : c.length ≤ 60
  rotate_left
  · refine RL.eqv (v' := .bool false) (congrArg _ (decide_eq_false hlc)) ?_
    refine RL.auto T_ok rfl ?_
    refine RL.nil ?_; repeat (first | with_reducible refine QN.block_normal ?_ | with_reducible refine QN.next ?_); repeat (first | with_reducible refine WP.seq ?_ | with_reducible refine WP.block ?_ | with_reducible refine WP.region ?_)
    refine WP.condT rfl ?_
    repeat (first | with_reducible refine WP.seq ?_ | with_reducible refine WP.block ?_ | with_reducible refine WP.region ?_)
    refine RL.auto T_ok rfl ?_
    refine RL.nil ?_; repeat (first | with_reducible refine QN.block_normal ?_ | with_reducible refine QN.next ?_); repeat (first | with_reducible refine WP.seq ?_ | with_reducible refine WP.block ?_ | with_reducible refine WP.region ?_)
    refine WP.ret ?_; repeat (first | with_reducible refine QN.then_ret ?_ | with_reducible refine QN.block_ret ?_)
    exact QN.ret1 rfl rfl ⟨_, rfl, rfl, hEm⟩
  refine RL.eqv (v' := .bool true) (congrArg _ (decide_eq_true hlc)) ?_
  refine RL.auto T_ok rfl ?_
  refine RL.nil ?_; repeat (first | with_reducible refine QN.block_normal ?_ | with_reducible refine QN.next ?_); repeat (first | with_reducible refine WP.seq ?_ | with_reducible refine WP.block ?_ | with_reducible refine WP.region ?_)
  refine WP.condF rfl ?_
  refine WP.skip ?_; repeat (first | with_reducible refine QN.block_normal ?_ | with_reducible refine QN.next ?_); repeat (first | with_reducible refine WP.seq ?_ | with_reducible refine WP.block ?_ | with_reducible refine WP.region ?_)
  have n1 := vjoin_len a b
  have n2 := vmeet_len a b
  have n3 := vjoin_len b c
  have n4 := vmeet_len a c
  have n5 := vjoin_len (vjoin a b) c
  have n6 := vjoin_len a a
  have n7 := vmeet_len a a
  have n8 := vmeet_len a (vjoin b c)
  refine RL.auto T_ok rfl ?_
  refine RL.nil ?_; repeat (first | with_reducible refine QN.block_normal ?_ | with_reducible refine QN.next ?_); repeat (first | with_reducible refine WP.seq ?_ | with_reducible refine WP.block ?_ | with_reducible refine WP.region ?_)
  refine RL.auto T_ok rfl ?_
  refine RL.call (fi := []) (ca := []) rfl rfl rfl rfl (vjoin_c m5 _ _ a b ha hb (by omega)) ?_
  rintro w1 q1 hM1
  refine ⟨_, rfl, ?_⟩
  have hF1 := hM1.ext
  replace ha := ha.ext0 hF1
  replace hb := hb.ext0 hF1
  replace hc := hc.ext0 hF1
  replace hEm := hEm.trans hF1 (by simp)
  have hR1 := hM1.cs
  refine RL.auto T_ok rfl ?_
  refine RL.call (fi := []) (ca := []) rfl rfl rfl rfl (vjoin_c q1 _ _ b a hb ha (by omega)) ?_
  rintro w2 q2 hM2
  refine ⟨_, rfl, ?_⟩
  have hF2 := hM2.ext
  replace ha := ha.ext0 hF2
  replace hb := hb.ext0 hF2
  replace hc := hc.ext0 hF2
  replace hR1 := hR1.ext0 hF2
  replace hEm := hEm.trans hF2 (by simp)
  have hR2 := hM2.cs
  refine RL.call (fi := []) (ca := []) rfl rfl rfl rfl (clocks_c q2 _ _ _ _ hR1 hR2 (by omega)) ?_
  rintro _ q3 ⟨rfl, hq3⟩
  subst hq3
  refine ⟨_, rfl, ?_⟩
  refine RL.eqv (v' := .bool true) (congrArg _ (decide_eq_true (vjoin_comm a b))) ?_
  refine RL.auto T_ok rfl ?_
  refine RL.call (fi := []) (ca := []) rfl rfl rfl rfl (vmeet_c q3 _ _ a b ha hb (by omega) (by omega)) ?_
  rintro w4 q4 hM4
  refine ⟨_, rfl, ?_⟩
  have hF4 := hM4.ext
  replace ha := ha.ext0 hF4
  replace hb := hb.ext0 hF4
  replace hc := hc.ext0 hF4
  replace hEm := hEm.trans hF4 (by simp)
  have hR4 := hM4.cs
  refine RL.auto T_ok rfl ?_
  refine RL.call (fi := []) (ca := []) rfl rfl rfl rfl (vmeet_c q4 _ _ b a hb ha (by omega) (by omega)) ?_
  rintro w5 q5 hM5
  refine ⟨_, rfl, ?_⟩
  have hF5 := hM5.ext
  replace ha := ha.ext0 hF5
  replace hb := hb.ext0 hF5
  replace hc := hc.ext0 hF5
  replace hR4 := hR4.ext0 hF5
  replace hEm := hEm.trans hF5 (by simp)
  have hR5 := hM5.cs
  refine RL.call (fi := []) (ca := []) rfl rfl rfl rfl (clocks_c q5 _ _ _ _ hR4 hR5 (by omega)) ?_
  rintro _ q6 ⟨rfl, hq6⟩
  subst hq6
  refine ⟨_, rfl, ?_⟩
  refine RL.eqv (v' := .bool true) (congrArg _ (decide_eq_true (vmeet_comm a b))) ?_
  refine RL.auto T_ok rfl ?_
  refine RL.call (fi := []) (ca := []) rfl rfl rfl rfl (vjoin_c q6 _ _ a b ha hb (by omega)) ?_
  rintro w7 q7 hM7
  refine ⟨_, rfl, ?_⟩
  have hF7 := hM7.ext
  replace ha := ha.ext0 hF7
  replace hb := hb.ext0 hF7
  replace hc := hc.ext0 hF7
  replace hEm := hEm.trans hF7 (by simp)
  have hR7 := hM7.cs
  refine RL.auto T_ok rfl ?_
  refine RL.call (fi := []) (ca := []) rfl rfl rfl rfl (vjoin_c q7 _ _ _ c hR7 hc (by omega)) ?_
  rintro w8 q8 hM8
  refine ⟨_, rfl, ?_⟩
  have hF8 := hM8.ext
  replace ha := ha.ext0 hF8
  replace hb := hb.ext0 hF8
  replace hc := hc.ext0 hF8
  replace hR7 := hR7.ext0 hF8
  replace hEm := hEm.trans hF8 (by simp)
  have hR8 := hM8.cs
  refine RL.auto T_ok rfl ?_
  refine RL.call (fi := []) (ca := []) rfl rfl rfl rfl (vjoin_c q8 _ _ b c hb hc (by omega)) ?_
  rintro w9 q9 hM9
  refine ⟨_, rfl, ?_⟩
  have hF9 := hM9.ext
  replace ha := ha.ext0 hF9
  replace hb := hb.ext0 hF9
  replace hc := hc.ext0 hF9
  replace hR8 := hR8.ext0 hF9
  replace hEm := hEm.trans hF9 (by simp)
  have hR9 := hM9.cs
  refine RL.call (fi := []) (ca := []) rfl rfl rfl rfl (vjoin_c q9 _ _ a _ ha hR9 (by omega)) ?_
  rintro w10 q10 hM10
  refine ⟨_, rfl, ?_⟩
  have hF10 := hM10.ext
  replace ha := ha.ext0 hF10
  replace hb := hb.ext0 hF10
  replace hc := hc.ext0 hF10
  replace hR8 := hR8.ext0 hF10
  replace hR9 := hR9.ext0 hF10
  replace hEm := hEm.trans hF10 (by simp)
  have hR10 := hM10.cs
  refine RL.call (fi := []) (ca := []) rfl rfl rfl rfl (clocks_c q10 _ _ _ _ hR8 hR10 (by omega)) ?_
  rintro _ q11 ⟨rfl, hq11⟩
  subst hq11
  refine ⟨_, rfl, ?_⟩
  refine RL.eqv (v' := .bool true) (congrArg _ (decide_eq_true (vjoin_assoc a b c))) ?_
  refine RL.auto T_ok rfl ?_
  refine RL.call (fi := []) (ca := []) rfl rfl rfl rfl (vjoin_c q11 _ _ a a ha ha (by omega)) ?_
  rintro w12 q12 hM12
  refine ⟨_, rfl, ?_⟩
  have hF12 := hM12.ext
  replace ha := ha.ext0 hF12
  replace hb := hb.ext0 hF12
  replace hc := hc.ext0 hF12
  replace hEm := hEm.trans hF12 (by simp)
  have hR12 := hM12.cs
  refine RL.auto T_ok rfl ?_
  refine RL.call (fi := []) (ca := []) rfl rfl rfl rfl (vclean_c q12 _ a ha (by omega)) ?_
  rintro w13 q13 hM13
  refine ⟨_, rfl, ?_⟩
  have hF13 := hM13.ext
  replace ha := ha.ext0 hF13
  replace hb := hb.ext0 hF13
  replace hc := hc.ext0 hF13
  replace hR12 := hR12.ext0 hF13
  replace hEm := hEm.trans hF13 (by simp)
  have hR13 := hM13.cs
  refine RL.call (fi := []) (ca := []) rfl rfl rfl rfl (clocks_c q13 _ _ _ _ hR12 hR13 (by omega)) ?_
  rintro _ q14 ⟨rfl, hq14⟩
  subst hq14
  refine ⟨_, rfl, ?_⟩
  refine RL.eqv (v' := .bool true) (congrArg _ (decide_eq_true (vjoin_self a))) ?_
  refine RL.auto T_ok rfl ?_
  refine RL.call (fi := []) (ca := []) rfl rfl rfl rfl (vmeet_c q14 _ _ a a ha ha (by omega) (by omega)) ?_
  rintro w15 q15 hM15
  refine ⟨_, rfl, ?_⟩
  have hF15 := hM15.ext
  replace ha := ha.ext0 hF15
  replace hb := hb.ext0 hF15
  replace hc := hc.ext0 hF15
  replace hEm := hEm.trans hF15 (by simp)
  have hR15 := hM15.cs
  refine RL.auto T_ok rfl ?_
  refine RL.call (fi := []) (ca := []) rfl rfl rfl rfl (vclean_c q15 _ a ha (by omega)) ?_
  rintro w16 q16 hM16
  refine ⟨_, rfl, ?_⟩
  have hF16 := hM16.ext
  replace ha := ha.ext0 hF16
  replace hb := hb.ext0 hF16
  replace hc := hc.ext0 hF16
  replace hR15 := hR15.ext0 hF16
  replace hEm := hEm.trans hF16 (by simp)
  have hR16 := hM16.cs
  refine RL.call (fi := []) (ca := []) rfl rfl rfl rfl (clocks_c q16 _ _ _ _ hR15 hR16 (by omega)) ?_
  rintro _ q17 ⟨rfl, hq17⟩
  subst hq17
  refine ⟨_, rfl, ?_⟩
  refine RL.eqv (v' := .bool true) (congrArg _ (decide_eq_true (vmeet_self a))) ?_
  refine RL.auto T_ok rfl ?_
  refine RL.call (fi := []) (ca := []) rfl rfl rfl rfl (vjoin_c q17 _ _ b c hb hc (by omega)) ?_
  rintro w18 q18 hM18
  refine ⟨_, rfl, ?_⟩
  have hF18 := hM18.ext
  replace ha := ha.ext0 hF18
  replace hb := hb.ext0 hF18
  replace hc := hc.ext0 hF18
  replace hEm := hEm.trans hF18 (by simp)
  have hR18 := hM18.cs
  refine RL.call (fi := []) (ca := []) rfl rfl rfl rfl (vmeet_c q18 _ _ a _ ha hR18 (by omega) (by omega)) ?_
  rintro w19 q19 hM19
  refine ⟨_, rfl, ?_⟩
  have hF19 := hM19.ext
  replace ha := ha.ext0 hF19
  replace hb := hb.ext0 hF19
  replace hc := hc.ext0 hF19
  replace hR18 := hR18.ext0 hF19
  replace hEm := hEm.trans hF19 (by simp)
  have hR19 := hM19.cs
  refine RL.auto T_ok rfl ?_
  refine RL.call (fi := []) (ca := []) rfl rfl rfl rfl (vmeet_c q19 _ _ a b ha hb (by omega) (by omega)) ?_
  rintro w20 q20 hM20
  refine ⟨_, rfl, ?_⟩
  have hF20 := hM20.ext
  replace ha := ha.ext0 hF20
  replace hb := hb.ext0 hF20
  replace hc := hc.ext0 hF20
  replace hR19 := hR19.ext0 hF20
  replace hEm := hEm.trans hF20 (by simp)
  have hR20 := hM20.cs
  refine RL.auto T_ok rfl ?_
  refine RL.call (fi := []) (ca := []) rfl rfl rfl rfl (vmeet_c q20 _ _ a c ha hc (by omega) (by omega)) ?_
  rintro w21 q21 hM21
  refine ⟨_, rfl, ?_⟩
  have hF21 := hM21.ext
  replace ha := ha.ext0 hF21
  replace hb := hb.ext0 hF21
  replace hc := hc.ext0 hF21
  replace hR19 := hR19.ext0 hF21
  replace hR20 := hR20.ext0 hF21
  replace hEm := hEm.trans hF21 (by simp)
  have hR21 := hM21.cs
  refine RL.call (fi := []) (ca := []) rfl rfl rfl rfl (vjoin_c q21 _ _ _ _ hR20 hR21 (by omega)) ?_
  rintro w22 q22 hM22
  refine ⟨_, rfl, ?_⟩
  have hF22 := hM22.ext
  replace ha := ha.ext0 hF22
  replace hb := hb.ext0 hF22
  replace hc := hc.ext0 hF22
  replace hR19 := hR19.ext0 hF22
  replace hR20 := hR20.ext0 hF22
  replace hR21 := hR21.ext0 hF22
  replace hEm := hEm.trans hF22 (by simp)
  have hR22 := hM22.cs
  refine RL.call (fi := []) (ca := []) rfl rfl rfl rfl (clocks_c q22 _ _ _ _ hR19 hR22 (by omega)) ?_
  rintro _ q23 ⟨rfl, hq23⟩
  subst hq23
  refine ⟨_, rfl, ?_⟩
  refine RL.eqv (v' := .bool true) (congrArg _ (decide_eq_true (vmeet_join a b c))) ?_
  refine RL.auto T_ok rfl ?_
  refine RL.nil ?_; repeat (first | with_reducible refine QN.block_normal ?_ | with_reducible refine QN.next ?_); repeat (first | with_reducible refine WP.seq ?_ | with_reducible refine WP.block ?_ | with_reducible refine WP.region ?_)
  refine WP.ret ?_; repeat (first | with_reducible refine QN.then_ret ?_ | with_reducible refine QN.block_ret ?_)
  exact QN.ret1 rfl rfl ⟨_, rfl, rfl, hEm⟩
set_option maxRecDepth 100000 in
theorem vectorlaws_lifted (os : Os) (started : os.Started) (H : Type) (enc : TypeId × Value → H) :
    ReturnsInHanded {} Try.checked os 5 .any (Rows.vectorLawsSpec.pre6 enc Try.prog Try.f5 Rows.vectorLawsRow.domain false) (Rows.vectorLawsSpec.post enc Try.prog Try.f5 false true false false) := by
  refine law_lift (tb := 4) own started (by kernel_rfl) Try.func5
    (ChangeSpec.witness6 (enc := enc) (C := Try.checked) false ⟨#[], #[.slice none 0 0, .slice none 0 0, .slice none 0 0], []⟩ 8 (by kernel_rfl) (by kernel_rfl) (by kernel_rfl) (by kernel_rfl))
    laidOut (by kernel_rfl) rfl (und 4 rfl rfl) rfl (fun ds h => by
      match ds, h with
      | [_, _, _], _ => exact ⟨rfl, rfl, rfl⟩) ?_
  intro W base args ds p hval hA hw
  rw [Try.params5] at hA hval hw
  obtain ⟨v0, v1, v2, d0, d1, d2, p0, p1, p2, rfl, rfl, rfl, h0, h1, h2⟩ := trodAll_three hA
  obtain ⟨a, ha⟩ := open_cs (hval 0 22 v0 rfl rfl) (Fit.arg hw 0 rfl rfl) h0
  obtain ⟨b, hb⟩ := open_cs (hval 1 22 v1 rfl rfl) (Fit.arg hw 1 rfl rfl) h1
  obtain ⟨c, hc⟩ := open_cs (hval 2 22 v2 rfl rfl) (Fit.arg hw 2 rfl rfl) h2
  exact vectorlaws_c W v0 v1 v2 a b c ha hb hc
theorem vectorLaws_holds : Rows.VectorLawsSaid :=
  OpenClaim.holds_of_wide 5 Try.f5 rfl rfl rfl rfl rfl rfl rfl ⟨rfl, rfl, rfl, rfl, rfl⟩ rfl rfl rfl rfl rfl (by kernel_rfl) Try.func5 (by kernel_rfl)
    (of_decide_eq_true (by kernel_rfl)) (by unfold Func.isWrapper; first | (rw [if_pos (by decide +kernel)]; kernel_rfl) | (rw [if_neg (by decide +kernel)]; exact ⟨rfl, rfl⟩))
    (fun os started H enc _ => vectorlaws_lifted os started H enc)
end Go.Proofs.Ytmjpcaiehfimgaa
