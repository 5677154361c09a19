/- What every row asks first: a few known answers. -/
import Derived.Test.YtkfakfbndnbpiaaIds9
namespace Go.Proofs.Ytkfakfbndnbpiaa
open Go.RowKit Go.Ev Go.Ids

theorem rs_of_chg {m m' : World} {b : Nat} (l : List Rng) (hC : Chg m b (.cells (l.flatMap rC).toArray 84 (0, 0)) m') (hn : l.length ≤ maxLen) : Rs m' [] (.slice (some ⟨b, 0, none⟩) l.length l.length) l := by
  have h := Sl.of_blk (M := []) (n := l.length) (c := l.length) (sz := 3) hC.blk (by simp) (by rw [rsC_len]; exact Nat.le_refl _) (Nat.le_refl _) hn
  rw [← rsC_len, List.take_length] at h
  exact h
theorem known_c (m : World) : FnR Try.prog 23 [] m fun r m' => r = .bool true ∧ Ext m [] m' := by
  refine FnE.enter ⟨_, Try.func23, by kernel_rfl, by kernel_rfl⟩ Try.func23 rfl rfl ?_
  repeat (first | with_reducible refine WP.seq ?_ | with_reducible refine WP.block ?_ | with_reducible refine WP.region ?_)
  refine RL.auto T_ok rfl ?_
  refine RL.nil ?_; repeat (first | with_reducible refine QN.block_normal ?_ | with_reducible refine QN.next ?_); repeat (first | with_reducible refine WP.seq ?_ | with_reducible refine WP.block ?_ | with_reducible refine WP.region ?_)
  refine RL.auto T_ok rfl ?_
  have hE0 : Ext m [] m := Ext.refl _ _
  refine RL.buildSlice T_ok [.tmp 3, .tmp 4] (us := [rV ⟨1, 5, 7⟩, rV ⟨1, 3, 5⟩]) (([⟨1, 5, 7⟩, ⟨1, 3, 5⟩] : List Rng).flatMap rC) rfl rfl rfl rfl rfl rfl (by simp [rV, rC, Value.cells]) rfl rfl (fun b1 m1 hb1 hC1 => ⟨_, rfl, ?_⟩)
  have hE1 : Ext m [] m1 := hE0.trans (hC1.new (by omega)) (by simp)
  have hR1 := rs_of_chg ([⟨1, 5, 7⟩, ⟨1, 3, 5⟩] : List Rng) hC1 (by unfold maxLen; simp)
  clear hC1
  refine RL.call (fi := []) (ca := []) rfl rfl rfl rfl (clean_c m1 _ _ hR1 (by simp)) ?_
  rintro v2 m2 ⟨S2, hO2, hN2⟩
  refine ⟨_, rfl, ?_⟩
  rw [show clean [⟨1, 5, 7⟩, ⟨1, 3, 5⟩] = [⟨1, 3, 7⟩] from by decide] at hO2
  have hE2 := hE1.trans hN2.1 (by simp)
  have hR2 : Rs m2 [] v2 [⟨1, 3, 7⟩] := hO2.sl (by simp)
  clear hO2 hN2
  refine RL.auto T_ok rfl ?_
  refine RL.nil ?_; repeat (first | with_reducible refine QN.block_normal ?_ | with_reducible refine QN.next ?_); repeat (first | with_reducible refine WP.seq ?_ | with_reducible refine WP.block ?_ | with_reducible refine WP.region ?_)
  refine RL.auto T_ok rfl ?_
  refine RL.buildSlice T_ok [.tmp 7] (us := [rV ⟨1, 1, 9⟩]) (([⟨1, 1, 9⟩] : List Rng).flatMap rC) rfl rfl rfl rfl rfl rfl (by simp [rV, rC, Value.cells]) rfl rfl (fun b3 m3 hb3 hC3 => ⟨_, rfl, ?_⟩)
  have hE3 : Ext m [] m3 := hE2.trans (hC3.new (by omega)) (by simp)
  have hR3 := rs_of_chg ([⟨1, 1, 9⟩] : List Rng) hC3 (by unfold maxLen; simp)
  have hC3n : Ext m2 [] m3 := hC3.new (by omega)
  clear hC3
  refine RL.auto T_ok rfl ?_
  refine RL.buildSlice T_ok [.tmp 9] (us := [rV ⟨1, 3, 4⟩]) (([⟨1, 3, 4⟩] : List Rng).flatMap rC) rfl rfl rfl rfl rfl rfl (by simp [rV, rC, Value.cells]) rfl rfl (fun b4 m4 hb4 hC4 => ⟨_, rfl, ?_⟩)
  have hE4 : Ext m [] m4 := hE3.trans (hC4.new (by omega)) (by simp)
  have hR4 := rs_of_chg ([⟨1, 3, 4⟩] : List Rng) hC4 (by unfold maxLen; simp)
  have hR3b := hR3.ext0 (hC4.new (by omega))
  have hR2b := (hR2.ext0 (hC3n)).ext0 (hC4.new (by omega))
  clear hC4
  refine RL.call (fi := []) (ca := []) rfl rfl rfl rfl (minus_c m4 _ _ _ _ hR3b hR4 (by simp) (by simp) (by simp)) ?_
  rintro v5 m5 ⟨S5, hO5, hN5⟩
  refine ⟨_, rfl, ?_⟩
  rw [show minus [⟨1, 1, 9⟩] [⟨1, 3, 4⟩] = [⟨1, 1, 3⟩, ⟨1, 4, 9⟩] from by decide] at hO5
  have hE5 := hE4.trans hN5.1 (by simp)
  have hR5 : Rs m5 [] v5 [⟨1, 1, 3⟩, ⟨1, 4, 9⟩] := hO5.sl (by simp)
  have hR2c := hR2b.ext0 hN5.1
  clear hO5 hN5
  refine RL.auto T_ok rfl ?_
  refine RL.nil ?_; repeat (first | with_reducible refine QN.block_normal ?_ | with_reducible refine QN.next ?_); repeat (first | with_reducible refine WP.seq ?_ | with_reducible refine WP.block ?_ | with_reducible refine WP.region ?_)
  refine RL.auto T_ok rfl ?_
  refine RL.buildSlice T_ok [.tmp 13] (us := [rV ⟨1, 3, 7⟩]) (([⟨1, 3, 7⟩] : List Rng).flatMap rC) rfl rfl rfl rfl rfl rfl (by simp [rV, rC, Value.cells]) rfl rfl (fun b6 m6 hb6 hC6 => ⟨_, rfl, ?_⟩)
  have hE6 : Ext m [] m6 := hE5.trans (hC6.new (by omega)) (by simp)
  have hR6 := rs_of_chg ([⟨1, 3, 7⟩] : List Rng) hC6 (by unfold maxLen; simp)
  have hR2d := hR2c.ext0 (hC6.new (by omega))
  have hR5b := hR5.ext0 (hC6.new (by omega))
  clear hC6
  refine RL.call (fi := []) (ca := []) rfl rfl rfl rfl (ranges_c m6 _ _ _ _ hR2d hR6 (by simp)) ?_
  rintro _ m7 ⟨rfl, rfl⟩
  refine ⟨_, rfl, ?_⟩
  refine RL.eqv (v' := .bool true) (congrArg _ (by decide)) ?_
  refine RL.auto T_ok rfl ?_
  refine RL.buildSlice T_ok [.tmp 18, .tmp 19] (us := [rV ⟨1, 1, 3⟩, rV ⟨1, 4, 9⟩]) (([⟨1, 1, 3⟩, ⟨1, 4, 9⟩] : List Rng).flatMap rC) rfl rfl rfl rfl rfl rfl (by simp [rV, rC, Value.cells]) rfl rfl (fun b8 m8 hb8 hC8 => ⟨_, rfl, ?_⟩)
  have hE8 : Ext m [] m8 := hE6.trans (hC8.new (by omega)) (by simp)
  have hR8 := rs_of_chg ([⟨1, 1, 3⟩, ⟨1, 4, 9⟩] : List Rng) hC8 (by unfold maxLen; simp)
  have hR5c := hR5b.ext0 (hC8.new (by omega))
  clear hC8
  refine RL.call (fi := []) (ca := []) rfl rfl rfl rfl (ranges_c m8 _ _ _ _ hR5c hR8 (by simp)) ?_
  rintro _ m9 ⟨rfl, rfl⟩
  refine ⟨_, rfl, ?_⟩
  refine RL.eqv (v' := .bool true) (congrArg _ (by decide)) ?_
  refine RL.auto T_ok rfl ?_
  have ecl : clean [⟨1, 1, 3⟩, ⟨1, 4, 9⟩] = [⟨1, 1, 3⟩, ⟨1, 4, 9⟩] := by decide
  refine RL.call (fi := []) (ca := []) rfl rfl rfl rfl (count_c m9 _ _ hR5c (by simp) (by rw [ecl]; decide)) ?_
  rintro _ m10 ⟨rfl, hE10⟩
  refine ⟨_, rfl, ?_⟩
  rw [ecl]
  have hR5d := hR5c.ext0 hE10
  have hEm10 := hE8.trans hE10 (by simp)
  refine RL.eqv (v' := .int .u64 7) (congrArg _ (by decide)) ?_
  refine RL.pure T_ok 1 rfl ?_
  refine RL.eqv (v' := .bool true) (congrArg _ (by decide)) ?_
  refine RL.auto T_ok rfl ?_
  refine RL.call (fi := []) (ca := []) rfl rfl rfl rfl (has_c m10 _ _ hR5d (by simp) ⟨1, 8⟩) ?_
  rintro _ m11 ⟨rfl, hE11⟩
  refine ⟨_, rfl, ?_⟩
  refine RL.eqv (v' := .bool true) (congrArg _ (by decide)) ?_
  have hR5e := hR5d.ext0 hE11
  have hEm11 := hEm10.trans hE11 (by simp)
  refine RL.auto T_ok rfl ?_
  refine RL.call (fi := []) (ca := []) rfl rfl rfl rfl (has_c m11 _ _ hR5e (by simp) ⟨1, 3⟩) ?_
  rintro _ m12 ⟨rfl, hE12⟩
  refine ⟨_, rfl, ?_⟩
  refine RL.eqv (v' := .bool false) (congrArg _ (by decide)) ?_
  have hEm12 := hEm11.trans hE12 (by simp)
  refine RL.auto T_ok rfl ?_
  refine RL.call (fi := []) (ca := []) rfl rfl rfl rfl (rightI_c m12 ⟨1, 9007199254740991⟩) ?_
  rintro _ m13 ⟨rfl, hE13⟩
  refine ⟨_, rfl, ?_⟩
  refine RL.eqv (v' := .bool true) (congrArg _ (by decide)) ?_
  have hEm13 := hEm12.trans hE13 (by simp)
  refine RL.auto T_ok rfl ?_
  refine RL.call (fi := []) (ca := []) rfl rfl rfl rfl (rightI_c m13 ⟨1, 9007199254740992⟩) ?_
  rintro _ m14 ⟨rfl, hE14⟩
  refine ⟨_, rfl, ?_⟩
  refine RL.eqv (v' := .bool false) (congrArg _ (by decide)) ?_
  have hEm14 := hEm13.trans hE14 (by simp)
  refine RL.auto T_ok rfl ?_
  refine RL.nil ?_; repeat (first | with_reducible refine QN.block_normal ?_ | with_reducible refine QN.next ?_); repeat (first | with_reducible refine WP.seq ?_ | with_reducible refine WP.block ?_ | with_reducible refine WP.region ?_)
  refine WP.ret ?_; repeat (first | with_reducible refine QN.then_ret ?_ | with_reducible refine QN.block_ret ?_)
  exact QN.ret1 rfl rfl ⟨_, rfl, rfl, hEm14⟩
end Go.Proofs.Ytkfakfbndnbpiaa
