/- IdsJoinTurns: the row. -/
import Derived.Test.YtkfakfbndnbpiaaRows
import Derived.Test.YtkfakfbndnbpiaaIdsY
import Derived.Test.YtkfakfbndnbpiaaIdsZ
import Derived.Carry
namespace Go.Proofs.Ytkfakfbndnbpiaa
open Go.ChangeShapes Go.WideShapes Go.ChangeAt Go.RowKit Go.Ev Go.Ids

theorem tform_of {l l' L : List Trn} (h : TForm l L) (h' : ∀ c k, turnOf l c k = turnOf l' c k) {L' : List Trn} (h2 : TForm l' L') : L' = L := tcanon_unique h2.1 h.1 fun c k => by rw [h2.2.1, h.2.1, h']
theorem aboveOf_join (a b : List Trn) (c k : Nat) : max (turnOf b c k) (aboveOf a b c k) = max (turnOf a c k) (turnOf b c k) := by
  unfold aboveOf
  split <;> omega
theorem idsjoinT_c (m : World) (v u w : Value) (a b c : List Trn) (ha : Ts m [] v a) (hb : Ts m [] u b) (hc : Ts m [] w c) (id : Idn) : FnR Try.prog 12 [v, u, w, iV id] m fun r m' => r = .bool true ∧ Ext m [] m' := by
  refine FnE.enter ⟨_, Try.func12, by kernel_rfl, by kernel_rfl⟩ Try.func12 rfl rfl ?_
  repeat (first | with_reducible refine WP.seq ?_ | with_reducible refine WP.block ?_ | with_reducible refine WP.region ?_)
  refine RL.box rfl rfl (fun b5 m1 hb5 hC => ⟨_, rfl, ?_⟩)
  have hB : Blk m1 b5 48 (iC id) := hC.here
  have hE1 : Ext m [] m1 := hC.new (by omega)
  clear hC
  refine RL.auto T_ok rfl ?_
  refine RL.nil ?_; repeat (first | with_reducible refine QN.block_normal ?_ | with_reducible refine QN.next ?_); repeat (first | with_reducible refine WP.seq ?_ | with_reducible refine WP.block ?_ | with_reducible refine WP.region ?_)
  refine RL.call (fi := []) (ca := []) rfl rfl rfl rfl (turned_c m1) ?_
  rintro _ m2 ⟨rfl, hE2⟩
  refine ⟨_, rfl, ?_⟩
  have hEm := hE1.trans hE2 (by simp)
  replace hB := hB.ext hE2 (by simp)
  replace ha := ha.ext0 hEm
  replace hb := hb.ext0 hEm
  replace hc := hc.ext0 hEm
  refine RL.auto T_ok rfl ?_
  refine RL.nil ?_; repeat (first | with_reducible refine QN.block_normal ?_ | with_reducible refine QN.next ?_); repeat (first | with_reducible refine WP.seq ?_ | with_reducible refine WP.block ?_ | with_reducible refine WP.region ?_)
  refine WP.condF rfl ?_
  refine WP.skip ?_; repeat (first | with_reducible refine QN.block_normal ?_ | with_reducible refine QN.next ?_); repeat (first | with_reducible refine WP.seq ?_ | with_reducible refine WP.block ?_ | with_reducible refine WP.region ?_)
  refine RL.auto T_ok rfl ?_
  refine RL.call (fi := []) (ca := []) rfl rfl rfl rfl (few_c m2 _ a ha) ?_
  rintro _ m3 ⟨rfl, hmm3⟩
  subst hmm3
  refine ⟨_, rfl, ?_⟩
  by_cases hla : a.length ≤ 60
  rotate_left
  · refine RL.eqv (v' := .bool false) (congrArg _ (decide_eq_false hla)) ?_
    refine RL.auto T_ok rfl ?_
    refine RL.nil ?_; repeat (first | with_reducible refine QN.block_normal ?_ | with_reducible refine QN.next ?_); repeat (first | with_reducible refine WP.seq ?_ | with_reducible refine WP.block ?_ | with_reducible refine WP.region ?_)
    refine WP.condT rfl ?_
    repeat (first | with_reducible refine WP.seq ?_ | with_reducible refine WP.block ?_ | with_reducible refine WP.region ?_)
    refine RL.auto T_ok rfl ?_
    refine RL.nil ?_; repeat (first | with_reducible refine QN.block_normal ?_ | with_reducible refine QN.next ?_); repeat (first | with_reducible refine WP.seq ?_ | with_reducible refine WP.block ?_ | with_reducible refine WP.region ?_)
    refine WP.ret ?_; repeat (first | with_reducible refine QN.then_ret ?_ | with_reducible refine QN.block_ret ?_)
    exact QN.ret1 rfl rfl ⟨_, rfl, rfl, hEm⟩
  refine RL.eqv (v' := .bool true) (congrArg _ (decide_eq_true hla)) ?_
  refine RL.auto T_ok rfl ?_
  refine RL.call (fi := []) (ca := []) rfl rfl rfl rfl (few_c m3 _ b hb) ?_
  rintro _ m4 ⟨rfl, hmm4⟩
  subst hmm4
  refine ⟨_, rfl, ?_⟩
  by_cases hlb : b.length ≤ 60
  rotate_left
  · refine RL.eqv (v' := .bool false) (congrArg _ (decide_eq_false hlb)) ?_
    refine RL.auto T_ok rfl ?_
    refine RL.nil ?_; repeat (first | with_reducible refine QN.block_normal ?_ | with_reducible refine QN.next ?_); repeat (first | with_reducible refine WP.seq ?_ | with_reducible refine WP.block ?_ | with_reducible refine WP.region ?_)
    refine WP.condT rfl ?_
    repeat (first | with_reducible refine WP.seq ?_ | with_reducible refine WP.block ?_ | with_reducible refine WP.region ?_)
    refine RL.auto T_ok rfl ?_
    refine RL.nil ?_; repeat (first | with_reducible refine QN.block_normal ?_ | with_reducible refine QN.next ?_); repeat (first | with_reducible refine WP.seq ?_ | with_reducible refine WP.block ?_ | with_reducible refine WP.region ?_)
    refine WP.ret ?_; repeat (first | with_reducible refine QN.then_ret ?_ | with_reducible refine QN.block_ret ?_)
    exact QN.ret1 rfl rfl ⟨_, rfl, rfl, hEm⟩
  refine RL.eqv (v' := .bool true) (congrArg _ (decide_eq_true hlb)) ?_
  refine RL.auto T_ok rfl ?_
  refine RL.call (fi := []) (ca := []) rfl rfl rfl rfl (few_c m4 _ c hc) ?_
  rintro _ m5 ⟨rfl, hmm5⟩
  subst hmm5
  refine ⟨_, rfl, ?_⟩
  by_cases hlc : c.length ≤ 60
  rotate_left
  · refine RL.eqv (v' := .bool false) (congrArg _ (decide_eq_false hlc)) ?_
    refine RL.auto T_ok rfl ?_
    refine RL.nil ?_; repeat (first | with_reducible refine QN.block_normal ?_ | with_reducible refine QN.next ?_); repeat (first | with_reducible refine WP.seq ?_ | with_reducible refine WP.block ?_ | with_reducible refine WP.region ?_)
    refine WP.condT rfl ?_
    repeat (first | with_reducible refine WP.seq ?_ | with_reducible refine WP.block ?_ | with_reducible refine WP.region ?_)
    refine RL.auto T_ok rfl ?_
    refine RL.nil ?_; repeat (first | with_reducible refine QN.block_normal ?_ | with_reducible refine QN.next ?_); repeat (first | with_reducible refine WP.seq ?_ | with_reducible refine WP.block ?_ | with_reducible refine WP.region ?_)
    refine WP.ret ?_; repeat (first | with_reducible refine QN.then_ret ?_ | with_reducible refine QN.block_ret ?_)
    exact QN.ret1 rfl rfl ⟨_, rfl, rfl, hEm⟩
  refine RL.eqv (v' := .bool true) (congrArg _ (decide_eq_true hlc)) ?_
  refine RL.auto T_ok rfl ?_
  refine RL.nil ?_; repeat (first | with_reducible refine QN.block_normal ?_ | with_reducible refine QN.next ?_); repeat (first | with_reducible refine WP.seq ?_ | with_reducible refine WP.block ?_ | with_reducible refine WP.region ?_)
  refine WP.condF rfl ?_
  refine WP.skip ?_; repeat (first | with_reducible refine QN.block_normal ?_ | with_reducible refine QN.next ?_); repeat (first | with_reducible refine WP.seq ?_ | with_reducible refine WP.block ?_ | with_reducible refine WP.region ?_)
  refine RL.auto T_ok rfl ?_
  refine RL.call (fi := []) (ca := []) rfl rfl rfl rfl (joinT_c m5 _ _ a b ha hb (by omega)) ?_
  rintro w1 q1 ⟨J, hJ, hM1⟩
  refine ⟨_, rfl, ?_⟩
  have hF1 := hM1.ext
  replace ha := ha.ext0 hF1
  replace hb := hb.ext0 hF1
  replace hc := hc.ext0 hF1
  replace hB := hB.ext hF1 (by simp)
  replace hEm := hEm.trans hF1 (by simp)
  have hR1 := hM1.ts
  have lJ := hJ.2.2
  rw [List.length_append] at lJ
  have kab : (2 * a.length + 2) * (2 * (2 * b.length + 2) + 1) ≤ 122 * 245 := Nat.mul_le_mul (by omega) (by omega)
  refine RL.auto T_ok rfl ?_
  refine RL.call (fi := []) (ca := []) rfl rfl rfl rfl (aboveT_c q1 _ _ a b ha hb (by omega) (by omega) (by omega)) ?_
  rintro w2 q2 ⟨O, hO, hM2⟩
  refine ⟨_, rfl, ?_⟩
  have hF2 := hM2.ext
  replace ha := ha.ext0 hF2
  replace hb := hb.ext0 hF2
  replace hc := hc.ext0 hF2
  replace hR1 := hR1.ext0 hF2
  replace hB := hB.ext hF2 (by simp)
  replace hEm := hEm.trans hF2 (by simp)
  have hR2 := hM2.ts
  have lO := hO.2.2
  refine RL.auto T_ok rfl ?_
  refine RL.nil ?_; repeat (first | with_reducible refine QN.block_normal ?_ | with_reducible refine QN.next ?_); repeat (first | with_reducible refine WP.seq ?_ | with_reducible refine WP.block ?_ | with_reducible refine WP.region ?_)
  refine RL.auto T_ok rfl ?_
  have kj : (a ++ b).length * (2 * (a ++ b).length) ≤ 120 * 240 := Nat.mul_le_mul (by rw [List.length_append]; omega) (by rw [List.length_append]; omega)
  refine RL.call (fi := []) (ca := []) rfl rfl rfl rfl (refjoinT_c q2 _ _ a b ha hb (by omega) (by omega)) ?_
  rintro w3 q3 ⟨J2, hJ2, hM3⟩
  refine ⟨_, rfl, ?_⟩
  have hF3 := hM3.ext
  replace ha := ha.ext0 hF3
  replace hb := hb.ext0 hF3
  replace hc := hc.ext0 hF3
  replace hR1 := hR1.ext0 hF3
  replace hR2 := hR2.ext0 hF3
  replace hB := hB.ext hF3 (by simp)
  replace hEm := hEm.trans hF3 (by simp)
  have hR3 := hM3.ts
  have e2 := AForm.turns hJ hJ2
  subst e2
  refine RL.call (fi := []) (ca := []) rfl rfl rfl rfl (turns_c q3 _ _ _ _ hR1 hR3 (by omega)) ?_
  rintro _ q4 ⟨rfl, hq4⟩
  subst hq4
  refine ⟨_, rfl, ?_⟩
  refine RL.eqv (v' := .bool true) (congrArg _ (decide_eq_true rfl)) ?_
  have kr : a.length * (2 * (a.length + b.length)) ≤ 60 * 240 := Nat.mul_le_mul hla (by omega)
  refine RL.auto T_ok rfl ?_
  refine RL.call (fi := []) (ca := []) rfl rfl rfl rfl (refabove_c q4 _ _ a b ha hb (by omega) (by omega)) ?_
  rintro w5 q5 ⟨O2, hO2, hM5⟩
  refine ⟨_, rfl, ?_⟩
  have hF5 := hM5.ext
  replace ha := ha.ext0 hF5
  replace hb := hb.ext0 hF5
  replace hc := hc.ext0 hF5
  replace hR1 := hR1.ext0 hF5
  replace hR2 := hR2.ext0 hF5
  replace hB := hB.ext hF5 (by simp)
  replace hEm := hEm.trans hF5 (by simp)
  have hR5 := hM5.ts
  have e3 : O2 = O := tcanon_unique hO2.1 hO.1 fun c k => by rw [hO2.2.1, hO.2.1]
  subst e3
  refine RL.call (fi := []) (ca := []) rfl rfl rfl rfl (turns_c q5 _ _ _ _ hR2 hR5 (by omega)) ?_
  rintro _ q6 ⟨rfl, hq6⟩
  subst hq6
  refine ⟨_, rfl, ?_⟩
  refine RL.eqv (v' := .bool true) (congrArg _ (decide_eq_true rfl)) ?_
  refine RL.auto T_ok rfl ?_
  refine RL.call (fi := []) (ca := []) rfl rfl rfl rfl (joinT_c q6 _ _ b a hb ha (by omega)) ?_
  rintro w7 q7 ⟨J3, hJ3, hM7⟩
  refine ⟨_, rfl, ?_⟩
  have hF7 := hM7.ext
  replace ha := ha.ext0 hF7
  replace hb := hb.ext0 hF7
  replace hc := hc.ext0 hF7
  replace hR1 := hR1.ext0 hF7
  replace hR2 := hR2.ext0 hF7
  replace hB := hB.ext hF7 (by simp)
  replace hEm := hEm.trans hF7 (by simp)
  have hR7 := hM7.ts
  have e4 := tform_of hJ (fun c k => by rw [turnOf_append, turnOf_append]; omega) hJ3
  subst e4
  refine RL.call (fi := []) (ca := []) rfl rfl rfl rfl (turns_c q7 _ _ _ _ hR1 hR7 (by omega)) ?_
  rintro _ q8 ⟨rfl, hq8⟩
  subst hq8
  refine ⟨_, rfl, ?_⟩
  refine RL.eqv (v' := .bool true) (congrArg _ (decide_eq_true rfl)) ?_
  refine RL.auto T_ok rfl ?_
  refine RL.call (fi := []) (ca := []) rfl rfl rfl rfl (joinT_c q8 _ _ _ c hR1 hc (by omega)) ?_
  rintro w9 q9 ⟨K1, hK1, hM9⟩
  refine ⟨_, rfl, ?_⟩
  have hF9 := hM9.ext
  replace ha := ha.ext0 hF9
  replace hb := hb.ext0 hF9
  replace hc := hc.ext0 hF9
  replace hR1 := hR1.ext0 hF9
  replace hR2 := hR2.ext0 hF9
  replace hB := hB.ext hF9 (by simp)
  replace hEm := hEm.trans hF9 (by simp)
  have hR9 := hM9.ts
  have lK1 := hK1.2.2
  rw [List.length_append] at lK1
  refine RL.auto T_ok rfl ?_
  refine RL.call (fi := []) (ca := []) rfl rfl rfl rfl (joinT_c q9 _ _ b c hb hc (by omega)) ?_
  rintro w10 q10 ⟨K2, hK2, hM10⟩
  refine ⟨_, rfl, ?_⟩
  have hF10 := hM10.ext
  replace ha := ha.ext0 hF10
  replace hb := hb.ext0 hF10
  replace hc := hc.ext0 hF10
  replace hR1 := hR1.ext0 hF10
  replace hR2 := hR2.ext0 hF10
  replace hR9 := hR9.ext0 hF10
  replace hB := hB.ext hF10 (by simp)
  replace hEm := hEm.trans hF10 (by simp)
  have hR10 := hM10.ts
  have lK2 := hK2.2.2
  rw [List.length_append] at lK2
  refine RL.call (fi := []) (ca := []) rfl rfl rfl rfl (joinT_c q10 _ _ a _ ha hR10 (by omega)) ?_
  rintro w11 q11 ⟨K3, hK3, hM11⟩
  refine ⟨_, rfl, ?_⟩
  have hF11 := hM11.ext
  replace ha := ha.ext0 hF11
  replace hb := hb.ext0 hF11
  replace hc := hc.ext0 hF11
  replace hR1 := hR1.ext0 hF11
  replace hR2 := hR2.ext0 hF11
  replace hR9 := hR9.ext0 hF11
  replace hR10 := hR10.ext0 hF11
  replace hB := hB.ext hF11 (by simp)
  replace hEm := hEm.trans hF11 (by simp)
  have hR11 := hM11.ts
  have e5 := tform_of hK1 (fun c k => by rw [turnOf_append, turnOf_append, hJ.2.1, hK2.2.1, turnOf_append, turnOf_append]; omega) hK3
  subst e5
  refine RL.call (fi := []) (ca := []) rfl rfl rfl rfl (turns_c q11 _ _ _ _ hR9 hR11 (by omega)) ?_
  rintro _ q12 ⟨rfl, hq12⟩
  subst hq12
  refine ⟨_, rfl, ?_⟩
  refine RL.eqv (v' := .bool true) (congrArg _ (decide_eq_true rfl)) ?_
  refine RL.auto T_ok rfl ?_
  refine RL.call (fi := []) (ca := []) rfl rfl rfl rfl (joinT_c q12 _ _ _ a hR1 ha (by omega)) ?_
  rintro w13 q13 ⟨K4, hK4, hM13⟩
  refine ⟨_, rfl, ?_⟩
  have hF13 := hM13.ext
  replace ha := ha.ext0 hF13
  replace hb := hb.ext0 hF13
  replace hc := hc.ext0 hF13
  replace hR1 := hR1.ext0 hF13
  replace hR2 := hR2.ext0 hF13
  replace hB := hB.ext hF13 (by simp)
  replace hEm := hEm.trans hF13 (by simp)
  have hR13 := hM13.ts
  have e6 := tform_of hJ (fun c k => by rw [turnOf_append, turnOf_append, hJ.2.1, turnOf_append]; omega) hK4
  subst e6
  refine RL.auto T_ok rfl ?_
  refine RL.call (fi := []) (ca := []) rfl rfl rfl rfl (turns_c q13 _ _ _ _ hR13 hR1 (by omega)) ?_
  rintro _ q14 ⟨rfl, hq14⟩
  subst hq14
  refine ⟨_, rfl, ?_⟩
  refine RL.eqv (v' := .bool true) (congrArg _ (decide_eq_true rfl)) ?_
  refine RL.auto T_ok rfl ?_
  refine RL.nil ?_; repeat (first | with_reducible refine QN.block_normal ?_ | with_reducible refine QN.next ?_); repeat (first | with_reducible refine WP.seq ?_ | with_reducible refine WP.block ?_ | with_reducible refine WP.region ?_)
  refine WP.condF rfl ?_
  refine WP.skip ?_; repeat (first | with_reducible refine QN.block_normal ?_ | with_reducible refine QN.next ?_)
  refine WP.seq ?_
  have ad0 : ∀ (b : Nat) (j : Nat), (⟨b, 0, none⟩ : Addr).add j = ⟨b, j, none⟩ := fun b j => by rw [add_block, Nat.zero_add]
  have hI : ∀ m', Ext q14 [] m' → ∀ j u, (iC id)[j]? = some u → m'.cell? ((⟨b5, 0, none⟩ : Addr).add j) = some u := fun m' hE j u hu => by rw [ad0]; exact (hB.ext hE (by simp)).cell _ hu
  refine WP.drawQ (fun m' => Ext q14 [] m') [] (by kernel_rfl) (Ext.refl _ _) (by repeat (first | with_reducible exact PanicOk.body | with_reducible refine PanicOk.then_ ?_ | with_reducible refine PanicOk.block_ ?_)) (fun hQ => ?_)
  refine RH.pure T_ok hQ [0] (by kernel_rfl) rfl ?_
  refine RH.loadAgg T_ok hQ 1 (iC id) hI rfl (by kernel_rfl) rfl rfl rfl rfl ?_
  refine RH.pure T_ok hQ [3] (by kernel_rfl) rfl ?_
  refine RH.loadAgg T_ok hQ 4 (iC id) hI rfl (by kernel_rfl) rfl rfl rfl rfl ?_
  refine RH.only 2 rfl (by kernel_rfl) (fun _ => ?_)
  refine RL.call (fi := []) (ca := []) rfl rfl rfl rfl (turnOf_c q14 _ a ha (by omega) id) ?_
  rintro _ mC ⟨rfl, hEC⟩
  refine ⟨_, rfl, RL.nil (RH.cont hEC ?_)⟩
  refine RH.only 5 rfl (by kernel_rfl) (fun _ => ?_)
  refine RL.call (fi := []) (ca := []) rfl rfl rfl rfl (turnOf_c mC _ b (hb.ext0 hEC) (by omega) id) ?_
  rintro _ mD ⟨rfl, hED⟩
  replace hED := hEC.trans hED (by simp)
  refine ⟨_, rfl, RL.nil (RH.cont hED ?_)⟩
  refine RH.pure T_ok hQ [6, 7] (by kernel_rfl) rfl ?_
  refine RH.done (by kernel_rfl) (fun _ => ?_)
  repeat (first | with_reducible refine QN.block_normal ?_ | with_reducible refine QN.next ?_)
  repeat (first | with_reducible refine WP.seq ?_ | with_reducible refine WP.block ?_ | with_reducible refine WP.region ?_)
  refine RL.auto T_ok rfl ?_
  refine RL.nil ?_; repeat (first | with_reducible refine QN.block_normal ?_ | with_reducible refine QN.next ?_)
  have eJ : turnOf K4 id.c id.k = max (turnOf a id.c id.k) (turnOf b id.c id.k) := by rw [hJ.2.1, turnOf_append]
  have eO : turnOf O2 id.c id.k = aboveOf a b id.c id.k := hO.2.1 _ _
  have eA : aboveOf a b id.c id.k = if turnOf b id.c id.k < turnOf a id.c id.k then turnOf a id.c id.k else 0 := rfl
  replace hR1 := hR1.ext0 hED
  replace hR2 := hR2.ext0 hED
  replace ha := ha.ext0 hED
  replace hb := hb.ext0 hED
  replace hB := hB.ext hED (by simp)
  replace hEm := hEm.trans hED (by simp)
  refine WP.cut (X := Unit) (fun _ => [(0, v), (1, u), (7, .pointer (some ⟨b5, 0, none⟩)), (9, w1), (10, w2), (11, .int .u64 (turnOf a id.c id.k : Nat)), (12, .int .u64 (turnOf b id.c id.k : Nat)), (13, .int .u64 (aboveOf a b id.c id.k : Nat))]) (fun _ m' => m' = mD) ?_ ?_
  · repeat (first | with_reducible refine WP.seq ?_ | with_reducible refine WP.block ?_ | with_reducible refine WP.region ?_)
    refine RL.pure T_ok 3 rfl ?_
    refine RL.eqv (v' := .bool (decide (turnOf b id.c id.k < turnOf a id.c id.k))) (congrArg _ (dgt' _ _)) ?_
    refine RL.nil ?_; repeat (first | with_reducible refine QN.block_normal ?_ | with_reducible refine QN.next ?_)
    refine WP.cond rfl (fun h1 => ?_) (fun h1 => ?_)
    · rw [if_pos (of_decide_eq_true h1)] at eA
      rw [eA]
      repeat (first | with_reducible refine WP.seq ?_ | with_reducible refine WP.block ?_ | with_reducible refine WP.region ?_)
      refine RL.auto T_ok rfl ?_
      exact RL.nil (QN.cutEnd () (Sub.cons rfl (Sub.cons rfl (Sub.cons rfl (Sub.cons rfl (Sub.cons rfl (Sub.cons rfl (Sub.cons rfl (Sub.cons rfl Sub.nil)))))))) rfl)
    · rw [if_neg (of_decide_eq_false h1)] at eA
      rw [eA]
      refine WP.skip ?_
      exact QN.cutEnd () (Sub.cons rfl (Sub.cons rfl (Sub.cons rfl (Sub.cons rfl (Sub.cons rfl (Sub.cons rfl (Sub.cons rfl (Sub.cons rfl Sub.nil)))))))) rfl
  rintro _ mE rfl
  have hJ' : ∀ m', Ext mE [] m' → ∀ j u, (iC id)[j]? = some u → m'.cell? ((⟨b5, 0, none⟩ : Addr).add j) = some u := fun m' hE j u hu => by rw [ad0]; exact (hB.ext hE (by simp)).cell _ hu
  repeat (first | with_reducible refine WP.seq ?_ | with_reducible refine WP.block ?_ | with_reducible refine WP.region ?_)
  refine RL.auto T_ok rfl ?_
  refine RL.loadAgg T_ok (iC id) rfl rfl rfl (hJ' mE (Ext.refl _ _)) rfl ?_
  refine RL.call (fi := []) (ca := []) rfl rfl rfl rfl (turnOf_c mE _ _ hR1 (by omega) id) ?_
  rintro _ mF ⟨rfl, hEF⟩
  refine ⟨_, rfl, ?_⟩
  rw [eJ]
  refine RL.pure T_ok 3 rfl ?_
  refine RL.eqv (v' := .int .u64 (max (turnOf a id.c id.k) (turnOf b id.c id.k) : Nat)) (maxZ _ _) ?_
  refine RL.pure T_ok 1 rfl ?_
  refine RL.eqv (v' := .bool true) (congrArg _ (by rw [deq]; exact decide_eq_true rfl)) ?_
  refine RL.auto T_ok rfl ?_
  refine RL.loadAgg T_ok (iC id) rfl rfl rfl (hJ' mF hEF) rfl ?_
  refine RL.call (fi := []) (ca := []) rfl rfl rfl rfl (turnOf_c mF _ _ (hR2.ext0 hEF) (by omega) id) ?_
  rintro _ mG ⟨rfl, hEG⟩
  refine ⟨_, rfl, ?_⟩
  rw [eO]
  replace hEG := hEF.trans hEG (by simp)
  refine RL.pure T_ok 2 rfl ?_
  refine RL.eqv (v' := .bool true) (congrArg _ (by rw [deq]; exact decide_eq_true rfl)) ?_
  refine RL.auto T_ok rfl ?_
  refine RL.call (fi := []) (ca := []) rfl rfl rfl rfl (joinT_c mG _ _ b _ (hb.ext0 hEG) (hR2.ext0 hEG) (by omega)) ?_
  rintro wH mH ⟨H, hH, hMH⟩
  refine ⟨_, rfl, ?_⟩
  have e7 := tform_of hJ (fun c k => by rw [turnOf_append, turnOf_append, hO.2.1, aboveOf_join]) hH
  subst e7
  have hEH := hEG.trans hMH.ext (by simp)
  refine RL.auto T_ok rfl ?_
  refine RL.call (fi := []) (ca := []) rfl rfl rfl rfl (turns_c mH _ _ _ _ hMH.ts (hR1.ext0 hEH) (by omega)) ?_
  rintro _ mI ⟨rfl, hmI⟩
  subst hmI
  refine ⟨_, rfl, ?_⟩
  refine RL.eqv (v' := .bool true) (congrArg _ (decide_eq_true rfl)) ?_
  refine RL.auto T_ok rfl ?_
  have kaj : (2 * a.length + 2) * (2 * (2 * H.length + 2) + 1) ≤ 122 * 1000 := Nat.mul_le_mul (by omega) (by omega)
  refine RL.call (fi := []) (ca := []) rfl rfl rfl rfl (aboveT_c mI _ _ a _ (ha.ext0 hEH) (hR1.ext0 hEH) (by omega) (by omega) (by omega)) ?_
  rintro wK mK ⟨K, hK, hMK⟩
  refine ⟨_, rfl, ?_⟩
  have e8 : K = [] := tcanon_unique hK.1 TCanon.nil fun c k => by
    rw [hK.2.1]
    unfold aboveOf
    rw [hH.2.1, turnOf_append, hO.2.1, aboveOf_join, if_neg (by omega)]; rfl
  subst e8
  obtain ⟨AK, cK, rfl, _, _⟩ := hMK.ts.shape
  refine RL.auto T_ok rfl ?_
  refine RL.nil ?_; repeat (first | with_reducible refine QN.block_normal ?_ | with_reducible refine QN.next ?_); repeat (first | with_reducible refine WP.seq ?_ | with_reducible refine WP.block ?_ | with_reducible refine WP.region ?_)
  refine WP.ret ?_; repeat (first | with_reducible refine QN.then_ret ?_ | with_reducible refine QN.block_ret ?_)
  exact QN.ret1 rfl rfl ⟨_, rfl, rfl, (hEm.trans hEH (by simp)).trans hMK.ext (by simp)⟩
set_option maxRecDepth 100000 in
theorem idsjoinT_lifted (os : Os) (started : os.Started) (H : Type) (enc : TypeId × Value → H) :
    ReturnsInHanded {} Try.checked os 12 .any (Rows.idsJoinTurnsSpec.pre6 enc Try.prog Try.f12 Rows.idsJoinTurnsRow.domain false) (Rows.idsJoinTurnsSpec.post enc Try.prog Try.f12 false true false false) := by
  refine law_lift (tb := 4) own started (by kernel_rfl) Try.func12
    (ChangeSpec.witness6 (enc := enc) (C := Try.checked) false ⟨#[], #[.slice none 0 0, .slice none 0 0, .slice none 0 0, .agg #[.int .u64 0, .int .u64 0]], []⟩ 8 (by kernel_rfl) (by kernel_rfl) (by kernel_rfl) (by kernel_rfl))
    laidOut (by kernel_rfl) rfl (und 4 rfl rfl) rfl (fun ds h => by
      match ds, h with
      | [_, _, _, _], _ => exact ⟨rfl, rfl, rfl⟩) ?_
  intro W base args ds p hval hA hw
  rw [Try.params12] at hA hval hw
  obtain ⟨v0, v1, v2, v3, d0, d1, d2, d3, p0, p1, p2, p3, rfl, rfl, rfl, h0, h1, h2, h3⟩ := trodAll_four hA
  obtain ⟨a, ha⟩ := open_ts (hval 0 61 v0 rfl rfl) (Fit.arg hw 0 rfl rfl) h0
  obtain ⟨b, hb⟩ := open_ts (hval 1 61 v1 rfl rfl) (Fit.arg hw 1 rfl rfl) h1
  obtain ⟨c, hc⟩ := open_ts (hval 2 61 v2 rfl rfl) (Fit.arg hw 2 rfl rfl) h2
  obtain ⟨id, rfl⟩ := open_id h3
  exact idsjoinT_c W v0 v1 v2 a b c ha hb hc id
theorem idsJoinTurns_holds : Rows.IdsJoinTurnsSaid :=
  OpenClaim.holds_of_wide 12 Try.f12 rfl rfl rfl rfl rfl rfl rfl ⟨rfl, rfl, rfl, rfl, rfl⟩ rfl rfl rfl rfl rfl (by kernel_rfl) Try.func12 (by kernel_rfl)
    (of_decide_eq_true (by kernel_rfl)) (by unfold Func.isWrapper; first | (rw [if_pos (by decide +kernel)]; kernel_rfl) | (rw [if_neg (by decide +kernel)]; exact ⟨rfl, rfl⟩))
    (fun os started H enc _ => idsjoinT_lifted os started H enc)
end Go.Proofs.Ytkfakfbndnbpiaa
