/- IdsJoin: the row. -/
import Derived.Test.YtkfakfbndnbpiaaRows
import Derived.Test.YtkfakfbndnbpiaaIdsO
import Derived.Test.YtkfakfbndnbpiaaIdsE
import Derived.Carry
namespace Go.Proofs.Ytkfakfbndnbpiaa
open Go.ChangeShapes Go.WideShapes Go.ChangeAt Go.RowKit Go.Ev Go.Ids

theorem idsjoin_c (m : World) (v u : Value) (a b : List Rng) (ha : Rs m [] v a) (hb : Rs m [] u b) (id : Idn) : FnR Try.prog 9 [v, u, iV id] m fun r m' => r = .bool true ∧ Ext m [] m' := by
  refine FnE.enter ⟨_, Try.func9, by kernel_rfl, by kernel_rfl⟩ Try.func9 rfl rfl ?_
  repeat (first | with_reducible refine WP.seq ?_ | with_reducible refine WP.block ?_ | with_reducible refine WP.region ?_)
  refine RL.box rfl rfl (fun b5 m1 hb5 hC => ⟨_, rfl, ?_⟩)
  have hB : Blk m1 b5 48 (iC id) := hC.here
  have hE1 : Ext m [] m1 := hC.new (by omega)
  clear hC
  refine RL.auto T_ok rfl ?_
  refine RL.nil ?_; repeat (first | with_reducible refine QN.block_normal ?_ | with_reducible refine QN.next ?_); repeat (first | with_reducible refine WP.seq ?_ | with_reducible refine WP.block ?_ | with_reducible refine WP.region ?_)
  refine RL.call (fi := []) (ca := []) rfl rfl rfl rfl (known_c m1) ?_
  rintro _ m2 ⟨rfl, hE2⟩
  refine ⟨_, rfl, ?_⟩
  have hEm := hE1.trans hE2 (by simp)
  replace hB := hB.ext hE2 (by simp)
  replace ha := ha.ext0 hEm
  replace hb := hb.ext0 hEm
  refine RL.auto T_ok rfl ?_
  refine RL.nil ?_; repeat (first | with_reducible refine QN.block_normal ?_ | with_reducible refine QN.next ?_); repeat (first | with_reducible refine WP.seq ?_ | with_reducible refine WP.block ?_ | with_reducible refine WP.region ?_)
  refine WP.condF rfl ?_
  refine WP.skip ?_; repeat (first | with_reducible refine QN.block_normal ?_ | with_reducible refine QN.next ?_); repeat (first | with_reducible refine WP.seq ?_ | with_reducible refine WP.block ?_ | with_reducible refine WP.region ?_)
  refine RL.auto T_ok rfl ?_
  refine RL.call (fi := []) (ca := []) rfl rfl rfl rfl (ilight_c m2 _ a ha) ?_
  rintro _ m3 ⟨rfl, hm3⟩
  subst hm3
  refine ⟨_, rfl, ?_⟩
  by_cases hla : a.length ≤ 60
  rotate_left
  · refine RL.eqv (v' := .bool false) (congrArg _ (decide_eq_false hla)) ?_
    refine RL.auto T_ok rfl ?_
    refine RL.nil ?_; repeat (first | with_reducible refine QN.block_normal ?_ | with_reducible refine QN.next ?_); repeat (first | with_reducible refine WP.seq ?_ | with_reducible refine WP.block ?_ | with_reducible refine WP.region ?_)
    refine WP.condT rfl ?_
    repeat (first | with_reducible refine WP.seq ?_ | with_reducible refine WP.block ?_ | with_reducible refine WP.region ?_)
    refine RL.auto T_ok rfl ?_
    refine RL.nil ?_; repeat (first | with_reducible refine QN.block_normal ?_ | with_reducible refine QN.next ?_); repeat (first | with_reducible refine WP.seq ?_ | with_reducible refine WP.block ?_ | with_reducible refine WP.region ?_)
    refine WP.ret ?_; repeat (first | with_reducible refine QN.then_ret ?_ | with_reducible refine QN.block_ret ?_)
    exact QN.ret1 rfl rfl ⟨_, rfl, rfl, hEm⟩
  refine RL.eqv (v' := .bool true) (congrArg _ (decide_eq_true hla)) ?_
  refine RL.auto T_ok rfl ?_
  refine RL.call (fi := []) (ca := []) rfl rfl rfl rfl (ilight_c m3 _ b hb) ?_
  rintro _ m4 ⟨rfl, hm4⟩
  subst hm4
  refine ⟨_, rfl, ?_⟩
  by_cases hlb : b.length ≤ 60
  rotate_left
  · refine RL.eqv (v' := .bool false) (congrArg _ (decide_eq_false hlb)) ?_
    refine RL.auto T_ok rfl ?_
    refine RL.nil ?_; repeat (first | with_reducible refine QN.block_normal ?_ | with_reducible refine QN.next ?_); repeat (first | with_reducible refine WP.seq ?_ | with_reducible refine WP.block ?_ | with_reducible refine WP.region ?_)
    refine WP.condT rfl ?_
    repeat (first | with_reducible refine WP.seq ?_ | with_reducible refine WP.block ?_ | with_reducible refine WP.region ?_)
    refine RL.auto T_ok rfl ?_
    refine RL.nil ?_; repeat (first | with_reducible refine QN.block_normal ?_ | with_reducible refine QN.next ?_); repeat (first | with_reducible refine WP.seq ?_ | with_reducible refine WP.block ?_ | with_reducible refine WP.region ?_)
    refine WP.ret ?_; repeat (first | with_reducible refine QN.then_ret ?_ | with_reducible refine QN.block_ret ?_)
    exact QN.ret1 rfl rfl ⟨_, rfl, rfl, hEm⟩
  refine RL.eqv (v' := .bool true) (congrArg _ (decide_eq_true hlb)) ?_
  refine RL.auto T_ok rfl ?_
  refine RL.nil ?_; repeat (first | with_reducible refine QN.block_normal ?_ | with_reducible refine QN.next ?_); repeat (first | with_reducible refine WP.seq ?_ | with_reducible refine WP.block ?_ | with_reducible refine WP.region ?_)
  refine WP.condF rfl ?_
  refine WP.skip ?_; repeat (first | with_reducible refine QN.block_normal ?_ | with_reducible refine QN.next ?_); repeat (first | with_reducible refine WP.seq ?_ | with_reducible refine WP.block ?_ | with_reducible refine WP.region ?_)
  have k1 : a.length * b.length ≤ 60 * 60 := Nat.mul_le_mul hla hlb
  have k2 : a.length * (b.length + 1) ≤ 60 * 61 := Nat.mul_le_mul hla (Nat.succ_le_succ hlb)
  have n1 := join_len a b
  have n2 := meet_len a b
  have n3 := minus_len a b
  refine RL.auto T_ok rfl ?_
  refine RL.call (fi := []) (ca := []) rfl rfl rfl rfl (join_c m4 _ _ a b ha hb (by omega)) ?_
  rintro w1 q1 hM1
  refine ⟨_, rfl, ?_⟩
  have hF1 := hM1.ext
  replace ha := ha.ext0 hF1
  replace hb := hb.ext0 hF1
  replace hB := hB.ext hF1 (by simp)
  replace hEm := hEm.trans hF1 (by simp)
  have hR1 := hM1.rs
  refine RL.auto T_ok rfl ?_
  refine RL.call (fi := []) (ca := []) rfl rfl rfl rfl (meet_c q1 _ _ a b ha hb (by omega) (by omega) (by omega)) ?_
  rintro w2 q2 hM2
  refine ⟨_, rfl, ?_⟩
  have hF2 := hM2.ext
  replace ha := ha.ext0 hF2
  replace hb := hb.ext0 hF2
  replace hR1 := hR1.ext0 hF2
  replace hB := hB.ext hF2 (by simp)
  replace hEm := hEm.trans hF2 (by simp)
  have hR2 := hM2.rs
  refine RL.auto T_ok rfl ?_
  refine RL.call (fi := []) (ca := []) rfl rfl rfl rfl (minus_c q2 _ _ a b ha hb (by omega) (by omega) (by omega)) ?_
  rintro w3 q3 hM3
  refine ⟨_, rfl, ?_⟩
  have hF3 := hM3.ext
  replace ha := ha.ext0 hF3
  replace hb := hb.ext0 hF3
  replace hR1 := hR1.ext0 hF3
  replace hR2 := hR2.ext0 hF3
  replace hB := hB.ext hF3 (by simp)
  replace hEm := hEm.trans hF3 (by simp)
  have hR3 := hM3.rs
  refine RL.auto T_ok rfl ?_
  refine RL.nil ?_; repeat (first | with_reducible refine QN.block_normal ?_ | with_reducible refine QN.next ?_); repeat (first | with_reducible refine WP.seq ?_ | with_reducible refine WP.block ?_ | with_reducible refine WP.region ?_)
  refine RL.auto T_ok rfl ?_
  refine RL.call (fi := []) (ca := []) rfl rfl rfl rfl (refjoin_c q3 _ _ a b ha hb (by omega)) ?_
  rintro w4 q4 hM4
  refine ⟨_, rfl, ?_⟩
  have hF4 := hM4.ext
  replace ha := ha.ext0 hF4
  replace hb := hb.ext0 hF4
  replace hR1 := hR1.ext0 hF4
  replace hR2 := hR2.ext0 hF4
  replace hR3 := hR3.ext0 hF4
  replace hB := hB.ext hF4 (by simp)
  replace hEm := hEm.trans hF4 (by simp)
  have hR4 := hM4.rs
  refine RL.call (fi := []) (ca := []) rfl rfl rfl rfl (ranges_c q4 _ _ _ _ hR1 hR4 (by omega)) ?_
  rintro _ q5 ⟨rfl, hq5⟩
  subst hq5
  refine ⟨_, rfl, ?_⟩
  refine RL.eqv (v' := .bool true) (congrArg _ (decide_eq_true (rfl))) ?_
  refine RL.auto T_ok rfl ?_
  refine RL.call (fi := []) (ca := []) rfl rfl rfl rfl (refmeet_c q5 _ _ a b ha hb (by omega) (by omega) (by omega)) ?_
  rintro w6 q6 hM6
  refine ⟨_, rfl, ?_⟩
  have hF6 := hM6.ext
  replace ha := ha.ext0 hF6
  replace hb := hb.ext0 hF6
  replace hR1 := hR1.ext0 hF6
  replace hR2 := hR2.ext0 hF6
  replace hR3 := hR3.ext0 hF6
  replace hB := hB.ext hF6 (by simp)
  replace hEm := hEm.trans hF6 (by simp)
  have hR6 := hM6.rs
  refine RL.call (fi := []) (ca := []) rfl rfl rfl rfl (ranges_c q6 _ _ _ _ hR2 hR6 (by omega)) ?_
  rintro _ q7 ⟨rfl, hq7⟩
  subst hq7
  refine ⟨_, rfl, ?_⟩
  refine RL.eqv (v' := .bool true) (congrArg _ (decide_eq_true (rfl))) ?_
  refine RL.auto T_ok rfl ?_
  refine RL.call (fi := []) (ca := []) rfl rfl rfl rfl (refminus_c q7 _ _ a b ha hb (by omega) (by omega) (by omega)) ?_
  rintro w8 q8 hM8
  refine ⟨_, rfl, ?_⟩
  have hF8 := hM8.ext
  replace ha := ha.ext0 hF8
  replace hb := hb.ext0 hF8
  replace hR1 := hR1.ext0 hF8
  replace hR2 := hR2.ext0 hF8
  replace hR3 := hR3.ext0 hF8
  replace hB := hB.ext hF8 (by simp)
  replace hEm := hEm.trans hF8 (by simp)
  have hR8 := hM8.rs
  refine RL.call (fi := []) (ca := []) rfl rfl rfl rfl (ranges_c q8 _ _ _ _ hR3 hR8 (by omega)) ?_
  rintro _ q9 ⟨rfl, hq9⟩
  subst hq9
  refine ⟨_, rfl, ?_⟩
  refine RL.eqv (v' := .bool true) (congrArg _ (decide_eq_true (rfl))) ?_
  refine RL.auto T_ok rfl ?_
  refine RL.nil ?_; repeat (first | with_reducible refine QN.block_normal ?_ | with_reducible refine QN.next ?_); repeat (first | with_reducible refine WP.seq ?_ | with_reducible refine WP.block ?_ | with_reducible refine WP.region ?_)
  refine WP.condF rfl ?_
  refine WP.skip ?_; repeat (first | with_reducible refine QN.block_normal ?_ | with_reducible refine QN.next ?_)
  refine WP.seq ?_
  have ad0 : ∀ (b : Nat) (j : Nat), (⟨b, 0, none⟩ : Addr).add j = ⟨b, j, none⟩ := fun b j => by rw [add_block, Nat.zero_add]
  have hI : ∀ m', Ext q9 [] m' → ∀ j u, (iC id)[j]? = some u → m'.cell? ((⟨b5, 0, none⟩ : Addr).add j) = some u := fun m' hE j u hu => by rw [ad0]; exact (hB.ext hE (by simp)).cell _ hu
  refine WP.drawQ (fun m' => Ext q9 [] m') [] (by kernel_rfl) (Ext.refl _ _) (by repeat (first | with_reducible exact PanicOk.body | with_reducible refine PanicOk.then_ ?_ | with_reducible refine PanicOk.block_ ?_)) (fun hQ => ?_)
  refine RH.pure T_ok hQ [0] (by kernel_rfl) rfl ?_
  refine RH.loadAgg T_ok hQ 1 (iC id) hI rfl (by kernel_rfl) rfl rfl rfl rfl ?_
  refine RH.pure T_ok hQ [3] (by kernel_rfl) rfl ?_
  refine RH.loadAgg T_ok hQ 4 (iC id) hI rfl (by kernel_rfl) rfl rfl rfl rfl ?_
  refine RH.only 2 rfl (by kernel_rfl) (fun _ => ?_)
  refine RL.call (fi := []) (ca := []) rfl rfl rfl rfl (has_c q9 _ a ha (by omega) id) ?_
  rintro _ mC ⟨rfl, hEC⟩
  refine ⟨_, rfl, RL.nil (RH.cont hEC ?_)⟩
  refine RH.only 5 rfl (by kernel_rfl) (fun _ => ?_)
  refine RL.call (fi := []) (ca := []) rfl rfl rfl rfl (has_c mC _ b (hb.ext0 hEC) (by omega) id) ?_
  rintro _ mD ⟨rfl, hED⟩
  replace hED := hEC.trans hED (by simp)
  refine ⟨_, rfl, RL.nil (RH.cont hED ?_)⟩
  refine RH.pure T_ok hQ [6, 7] (by kernel_rfl) rfl ?_
  refine RH.done (by kernel_rfl) (fun _ => ?_)
  repeat (first | with_reducible refine QN.block_normal ?_ | with_reducible refine QN.next ?_)
  repeat (first | with_reducible refine WP.seq ?_ | with_reducible refine WP.block ?_ | with_reducible refine WP.region ?_)
  have e1 : hasB (join a b) id = (hasB a id || hasB b id) := by rw [Bool.eq_iff_iff, Bool.or_eq_true, hasB_mem, hasB_mem, hasB_mem, join_mem]
  have e2 : hasB (meet a b) id = (hasB a id && hasB b id) := by rw [Bool.eq_iff_iff, Bool.and_eq_true, hasB_mem, hasB_mem, hasB_mem, meet_mem]
  have e3 : hasB (minus a b) id = (hasB a id && !hasB b id) := by rw [Bool.eq_iff_iff, Bool.and_eq_true, Bool.not_eq_true', ← Bool.not_eq_true, hasB_mem, hasB_mem, hasB_mem, minus_mem]
  replace hR1 := hR1.ext0 hED
  replace hR2 := hR2.ext0 hED
  replace hR3 := hR3.ext0 hED
  replace hB := hB.ext hED (by simp)
  replace hEm := hEm.trans hED (by simp)
  have hJ : ∀ m', Ext mD [] m' → ∀ j u, (iC id)[j]? = some u → m'.cell? ((⟨b5, 0, none⟩ : Addr).add j) = some u := fun m' hE j u hu => by rw [ad0]; exact (hB.ext hE (by simp)).cell _ hu
  cases hp : hasB a id <;> cases hq : hasB b id
  all_goals
    refine RL.auto T_ok rfl ?_
    refine RL.loadAgg T_ok (iC id) rfl rfl rfl (hJ mD (Ext.refl _ _)) rfl ?_
    refine RL.call (fi := []) (ca := []) rfl rfl rfl rfl (has_c mD _ _ hR1 (by omega) id) ?_
    rintro _ mE ⟨rfl, hEE⟩
    refine ⟨_, rfl, ?_⟩
    rw [e1, hp, hq]
    refine RL.auto T_ok rfl ?_
    refine RL.loadAgg T_ok (iC id) rfl rfl rfl (hJ mE hEE) rfl ?_
    refine RL.call (fi := []) (ca := []) rfl rfl rfl rfl (has_c mE _ _ (hR2.ext0 hEE) (by omega) id) ?_
    rintro _ mF ⟨rfl, hEF⟩
    refine ⟨_, rfl, ?_⟩
    replace hEF := hEE.trans hEF (by simp)
    rw [e2, hp, hq]
    refine RL.auto T_ok rfl ?_
    refine RL.loadAgg T_ok (iC id) rfl rfl rfl (hJ mF hEF) rfl ?_
    refine RL.call (fi := []) (ca := []) rfl rfl rfl rfl (has_c mF _ _ (hR3.ext0 hEF) (by omega) id) ?_
    rintro _ mG ⟨rfl, hEG⟩
    refine ⟨_, rfl, ?_⟩
    replace hEG := hEF.trans hEG (by simp)
    rw [e3, hp, hq]
    refine RL.auto T_ok rfl ?_
    refine RL.nil ?_; repeat (first | with_reducible refine QN.block_normal ?_ | with_reducible refine QN.next ?_); repeat (first | with_reducible refine WP.seq ?_ | with_reducible refine WP.block ?_ | with_reducible refine WP.region ?_)
    refine WP.ret ?_; repeat (first | with_reducible refine QN.then_ret ?_ | with_reducible refine QN.block_ret ?_)
    exact QN.ret1 rfl rfl ⟨_, rfl, rfl, hEm.trans hEG (by simp)⟩
set_option maxRecDepth 100000 in
theorem idsjoin_lifted (os : Os) (started : os.Started) (H : Type) (enc : TypeId × Value → H) :
    ReturnsInHanded {} Try.checked os 9 .any (Rows.idsJoinSpec.pre6 enc Try.prog Try.f9 Rows.idsJoinRow.domain false) (Rows.idsJoinSpec.post enc Try.prog Try.f9 false true false false) := by
  refine law_lift (tb := 4) own started (by kernel_rfl) Try.func9
    (ChangeSpec.witness6 (enc := enc) (C := Try.checked) false ⟨#[], #[.slice none 0 0, .slice none 0 0, .agg #[.int .u64 0, .int .u64 0]], []⟩ 8 (by kernel_rfl) (by kernel_rfl) (by kernel_rfl) (by kernel_rfl))
    laidOut (by kernel_rfl) rfl (und 4 rfl rfl) rfl (fun ds h => by
      match ds, h with
      | [_, _, _], _ => exact ⟨rfl, rfl, rfl⟩) ?_
  intro W base args ds p hval hA hw
  rw [Try.params9] at hA hval hw
  obtain ⟨v0, v1, v2, d0, d1, d2, p0, p1, p2, rfl, rfl, rfl, h0, h1, h2⟩ := trodAll_three hA
  obtain ⟨a, ha⟩ := open_rs (hval 0 46 v0 rfl rfl) (Fit.arg hw 0 rfl rfl) h0
  obtain ⟨b, hb⟩ := open_rs (hval 1 46 v1 rfl rfl) (Fit.arg hw 1 rfl rfl) h1
  obtain ⟨id, rfl⟩ := open_id h2
  exact idsjoin_c W v0 v1 a b ha hb id
theorem idsJoin_holds : Rows.IdsJoinSaid :=
  OpenClaim.holds_of_wide 9 Try.f9 rfl rfl rfl rfl rfl rfl rfl ⟨rfl, rfl, rfl, rfl, rfl⟩ rfl rfl rfl rfl rfl (by kernel_rfl) Try.func9 (by kernel_rfl)
    (of_decide_eq_true (by kernel_rfl)) (by unfold Func.isWrapper; first | (rw [if_pos (by decide +kernel)]; kernel_rfl) | (rw [if_neg (by decide +kernel)]; exact ⟨rfl, rfl⟩))
    (fun os started H enc _ => idsjoin_lifted os started H enc)
end Go.Proofs.Ytkfakfbndnbpiaa
