/- VectorClean: the row. -/
import Derived.Test.YtmjpcaiehfimgaaRows
import Derived.Test.YtmjpcaiehfimgaaVecO
import Derived.Carry
namespace Go.Proofs.Ytmjpcaiehfimgaa
open Go.ChangeShapes Go.WideShapes Go.ChangeAt Go.RowKit Go.Ev Go.Ids

theorem vectorclean_c (m : World) (v : Value) (l : List Clk) (h : Cs m [] v l) (id : Idn) : FnR Try.prog 3 [v, iV id] m fun r m' => r = .bool true ∧ Ext m [] m' := by
  obtain ⟨A, c, rfl, _, _⟩ := h.shape
  refine FnE.enter ⟨_, Try.func3, by kernel_rfl, by kernel_rfl⟩ Try.func3 rfl rfl ?_
  repeat (first | with_reducible refine WP.seq ?_ | with_reducible refine WP.block ?_ | with_reducible refine WP.region ?_)
  refine RL.box rfl rfl (fun b m1 hb hC => ⟨_, rfl, ?_⟩)
  have hB1 : Blk m1 b 25 (iC id) := hC.here
  have hE1 : Ext m [] m1 := hC.new (by omega)
  clear hC
  refine RL.auto T_ok rfl ?_
  refine RL.nil ?_; repeat (first | with_reducible refine QN.block_normal ?_ | with_reducible refine QN.next ?_); repeat (first | with_reducible refine WP.seq ?_ | with_reducible refine WP.block ?_ | with_reducible refine WP.region ?_)
  refine RL.call (fi := []) (ca := []) rfl rfl rfl rfl (vknown_c m1) ?_
  rintro _ m2 ⟨rfl, hE2⟩
  refine ⟨_, rfl, ?_⟩
  have hEm2 := hE1.trans hE2 (by simp)
  refine RL.auto T_ok rfl ?_
  refine RL.nil ?_; repeat (first | with_reducible refine QN.block_normal ?_ | with_reducible refine QN.next ?_); repeat (first | with_reducible refine WP.seq ?_ | with_reducible refine WP.block ?_ | with_reducible refine WP.region ?_)
  refine WP.condF rfl ?_
  refine WP.skip ?_; repeat (first | with_reducible refine QN.block_normal ?_ | with_reducible refine QN.next ?_); repeat (first | with_reducible refine WP.seq ?_ | with_reducible refine WP.block ?_ | with_reducible refine WP.region ?_)
  refine RL.auto T_ok rfl ?_
  refine RL.call (fi := []) (ca := []) rfl rfl rfl rfl (vlight_c m2 _ l (h.ext0 hEm2)) ?_
  rintro _ m3 ⟨rfl, hm3⟩
  subst hm3
  refine ⟨_, rfl, ?_⟩
  refine RL.auto T_ok rfl ?_
  refine RL.nil ?_; repeat (first | with_reducible refine QN.block_normal ?_ | with_reducible refine QN.next ?_); repeat (first | with_reducible refine WP.seq ?_ | with_reducible refine WP.block ?_ | with_reducible refine WP.region ?_)
  refine WP.cond rfl (fun hc => ?_) (fun hc => ?_)
  · repeat (first | with_reducible refine WP.seq ?_ | with_reducible refine WP.block ?_ | with_reducible refine WP.region ?_)
    refine RL.auto T_ok rfl ?_
    refine RL.nil ?_; repeat (first | with_reducible refine QN.block_normal ?_ | with_reducible refine QN.next ?_); repeat (first | with_reducible refine WP.seq ?_ | with_reducible refine WP.block ?_ | with_reducible refine WP.region ?_)
    refine WP.ret ?_; repeat (first | with_reducible refine QN.then_ret ?_ | with_reducible refine QN.block_ret ?_)
    exact QN.ret1 rfl rfl ⟨_, rfl, rfl, hEm2⟩
  have hl : l.length ≤ 60 := by simpa using hc
  have hcl := vclean_len l
  refine WP.skip ?_; repeat (first | with_reducible refine QN.block_normal ?_ | with_reducible refine QN.next ?_); repeat (first | with_reducible refine WP.seq ?_ | with_reducible refine WP.block ?_ | with_reducible refine WP.region ?_)
  refine RL.auto T_ok rfl ?_
  refine RL.call (fi := []) (ca := []) rfl rfl rfl rfl (vclean_c m3 _ l (h.ext0 hEm2) (by omega)) ?_
  rintro v5 m5 hM5
  refine ⟨_, rfl, ?_⟩
  have hEm5 := hEm2.trans hM5.ext (by simp)
  have hR5 := hM5.cs
  have hRm5 : Cs m5 [] (.slice A l.length c) l := h.ext0 hEm5
  have hB5 : Blk m5 b 25 (iC id) := hB1.ext (hE2.trans hM5.ext (by simp)) (by simp)
  clear hM5
  refine RL.auto T_ok rfl ?_
  refine RL.nil ?_; repeat (first | with_reducible refine QN.block_normal ?_ | with_reducible refine QN.next ?_)
  repeat (first | with_reducible refine WP.seq ?_ | with_reducible refine WP.block ?_ | with_reducible refine WP.region ?_)
  refine WP.drawQ (fun m' => Ext m5 [] m') [] (by kernel_rfl) (Ext.refl _ _) (by repeat (first | with_reducible exact PanicOk.body | with_reducible refine PanicOk.then_ ?_ | with_reducible refine PanicOk.block_ ?_)) (fun hQ => ?_)
  have hI : ∀ m', Ext m5 [] m' → ∀ j u, (iC id)[j]? = some u → m'.cell? ((⟨b, 0, none⟩ : Addr).add j) = some u := fun m' hE j u hu => by rw [add_block]; exact (hB5.ext hE (by simp)).cell _ (by simpa using hu)
  have hI0 : ∀ m', Ext m5 [] m' → m'.cell? ⟨b, 0, none⟩ = some (.int .u64 id.c) := fun m' hE => (hB5.ext hE (by simp)).cell 0 rfl
  have hI1 : ∀ m', Ext m5 [] m' → m'.cell? ⟨b, 1, none⟩ = some (.int .u64 id.k) := fun m' hE => (hB5.ext hE (by simp)).cell 1 rfl
  refine RH.pure T_ok hQ [0, 1] (by kernel_rfl) rfl ?_
  refine RH.only 2 rfl (by kernel_rfl) (fun _ => ?_)
  refine RL.call (fi := []) (ca := []) rfl rfl rfl rfl (refvclean_c m5 _ l hRm5 (by omega)) ?_
  rintro v6 m6 hM6
  have hE6 := hM6.ext
  refine ⟨_, rfl, RL.nil (RH.cont hE6 ?_)⟩
  refine RH.only 3 rfl (by kernel_rfl) (fun _ => ?_)
  refine RL.call (fi := []) (ca := []) rfl rfl rfl rfl (clocks_c m6 _ _ _ _ (hR5.ext0 hE6) hM6.cs (by omega)) ?_
  rintro _ m7 ⟨rfl, hm7⟩
  subst hm7
  refine ⟨_, rfl, RL.nil (RH.cont hE6 ?_)⟩
  refine RH.eqv (v' := .bool true) (congrArg _ (decide_eq_true rfl)) ?_
  refine RH.pure T_ok hQ [4, 5, 7] (by kernel_rfl) rfl ?_
  refine RH.only 6 rfl (by kernel_rfl) (fun _ => ?_)
  refine RL.call (fi := []) (ca := []) rfl rfl rfl rfl (vclean_c m7 _ _ (hR5.ext0 hE6) (by omega)) ?_
  rintro v8 m8 hM8
  rw [vclean_clean] at hM8
  have hE8 := hE6.trans hM8.ext (by simp)
  refine ⟨_, rfl, RL.nil (RH.cont hE8 ?_)⟩
  refine RH.only 8 rfl (by kernel_rfl) (fun _ => ?_)
  refine RL.call (fi := []) (ca := []) rfl rfl rfl rfl (clocks_c m8 _ _ _ _ hM8.cs (hR5.ext0 hE8) (by omega)) ?_
  rintro _ m9 ⟨rfl, hm9⟩
  subst hm9
  refine ⟨_, rfl, RL.nil (RH.cont hE8 ?_)⟩
  refine RH.eqv (v' := .bool true) (congrArg _ (decide_eq_true rfl)) ?_
  refine RH.pure T_ok hQ [9, 10, 11, 12] (by kernel_rfl) rfl ?_
  refine RH.load T_ok hQ 13 (fun m' hm' => hI0 m' hm') rfl (by kernel_rfl) rfl rfl rfl rfl ?_
  refine RH.pure T_ok hQ [15, 16] (by kernel_rfl) rfl ?_
  refine RH.load T_ok hQ 17 (fun m' hm' => hI0 m' hm') rfl (by kernel_rfl) rfl rfl rfl rfl ?_
  refine RH.only 14 rfl (by kernel_rfl) (fun _ => ?_)
  refine RL.call (fi := []) (ca := []) rfl rfl rfl rfl (vat_c m9 _ l (hRm5.ext0 hE8) (by omega) id.c) ?_
  rintro _ m10 ⟨rfl, hE10⟩
  replace hE10 := hE8.trans hE10 (by simp)
  refine ⟨_, rfl, RL.nil (RH.cont hE10 ?_)⟩
  refine RH.only 18 rfl (by kernel_rfl) (fun _ => ?_)
  refine RL.call (fi := []) (ca := []) rfl rfl rfl rfl (refvat_c m10 _ l (hRm5.ext0 hE10) (by omega) id.c) ?_
  rintro _ m11 ⟨rfl, hm11⟩
  subst hm11
  refine ⟨_, rfl, RL.nil (RH.cont hE10 ?_)⟩
  refine RH.pure T_ok hQ [19] (by kernel_rfl) rfl ?_
  refine RH.eqv (v' := .bool true) (congrArg _ (by simp)) ?_
  refine RH.pure T_ok hQ [20, 21, 22] (by kernel_rfl) rfl ?_
  refine RH.loadAgg T_ok hQ 23 (iC id) hI rfl (by kernel_rfl) rfl rfl rfl rfl ?_
  refine RH.loadAgg T_ok hQ 25 (iC id) hI rfl (by kernel_rfl) rfl rfl rfl rfl ?_
  refine RH.only 24 rfl (by kernel_rfl) (fun _ => ?_)
  refine RL.call (fi := []) (ca := []) rfl rfl rfl rfl (vhas_c m11 _ l (hRm5.ext0 hE10) (by omega) id) ?_
  rintro _ m12 ⟨rfl, hE12⟩
  replace hE12 := hE10.trans hE12 (by simp)
  refine ⟨_, rfl, RL.nil (RH.cont hE12 ?_)⟩
  refine RH.only 26 rfl (by kernel_rfl) (fun _ => ?_)
  refine RL.call (fi := []) (ca := []) rfl rfl rfl rfl (refrightI_c m12 id) ?_
  rintro _ m13 ⟨rfl, hE13⟩
  replace hE13 := hE12.trans hE13 (by simp)
  refine ⟨_, rfl, RL.nil (RH.cont hE13 ?_)⟩
  by_cases hr : id.right = true
  rotate_left
  · have hr' : id.right = false := by simpa using hr
    refine RH.eqv (v' := .bool false) (congrArg _ hr') ?_
    refine RH.pure T_ok hQ [27, 28, 29, 30, 31, 32, 33, 34, 35] (by kernel_rfl) rfl ?_
    refine RH.pure T_ok hQ [36] (by kernel_rfl) rfl ?_
    refine RH.eqv (v' := .bool true) (congrArg _ (by rw [hr']; rfl)) ?_
    obtain ⟨m14, hm14⟩ : ∃ m14, m14 = m13 := ⟨_, rfl⟩
    subst hm14
    have hE14 := hE13
    refine RH.pure T_ok hQ [37, 38, 39, 41] (by kernel_rfl) rfl ?_
    refine RH.only 40 rfl (by kernel_rfl) (fun _ => ?_)
    refine RL.call (fi := []) (ca := []) rfl rfl rfl rfl (vranges_c m14 _ l (hRm5.ext0 hE14) (by omega)) ?_
    rintro v15 m15 hM15
    have hE15 := hE14.trans hM15.ext (by simp)
    refine ⟨_, rfl, RL.nil (RH.cont hE15 ?_)⟩
    refine RH.only 42 rfl (by kernel_rfl) (fun _ => ?_)
    refine RL.call (fi := []) (ca := []) rfl rfl rfl rfl (refvranges_c m15 _ l (hRm5.ext0 hE15) (by omega)) ?_
    rintro v16 m16 hM16
    have hE16 := hE15.trans hM16.ext (by simp)
    refine ⟨_, rfl, RL.nil (RH.cont hE16 ?_)⟩
    have hrl := vranges_len l
    refine RH.only 43 rfl (by kernel_rfl) (fun _ => ?_)
    refine RL.call (fi := []) (ca := []) rfl rfl rfl rfl (ranges_c m16 _ _ _ _ (hM15.rs.ext0 hM16.ext) hM16.rs (by omega)) ?_
    rintro _ m17 ⟨rfl, hm17⟩
    subst hm17
    refine ⟨_, rfl, RL.nil (RH.cont hE16 ?_)⟩
    refine RH.eqv (v' := .bool true) (congrArg _ (decide_eq_true rfl)) ?_
    refine RH.pure T_ok hQ [44, 45] (by kernel_rfl) rfl ?_
    refine RH.done (by kernel_rfl) (fun _ => ?_)
    repeat (first | with_reducible refine QN.block_normal ?_ | with_reducible refine QN.next ?_)
    refine WP.ret ?_; repeat (first | with_reducible refine QN.then_ret ?_ | with_reducible refine QN.block_ret ?_)
    exact QN.ret1 rfl rfl ⟨_, rfl, rfl, hEm5.trans hE16 (by simp)⟩
  refine RH.eqv (v' := .bool true) (congrArg _ hr) ?_
  refine RH.pure T_ok hQ [27, 28] (by kernel_rfl) rfl ?_
  refine RH.load T_ok hQ 29 (fun m' hm' => hI1 m' hm') rfl (by kernel_rfl) rfl rfl rfl rfl ?_
  refine RH.pure T_ok hQ [30, 31] (by kernel_rfl) rfl ?_
  refine RH.load T_ok hQ 32 (fun m' hm' => hI0 m' hm') rfl (by kernel_rfl) rfl rfl rfl rfl ?_
  refine RH.only 33 rfl (by kernel_rfl) (fun _ => ?_)
  refine RL.call (fi := []) (ca := []) rfl rfl rfl rfl (refvat_c m13 _ l (hRm5.ext0 hE13) (by omega) id.c) ?_
  rintro _ m14 ⟨rfl, hm14⟩
  subst hm14
  have hE14 := hE13
  refine ⟨_, rfl, RL.nil (RH.cont hE14 ?_)⟩
  refine RH.pure T_ok hQ [34] (by kernel_rfl) rfl ?_
  refine RH.eqv (v' := .bool (decide (id.k ≤ vat l id.c))) (congrArg _ (dle' _ _)) ?_
  refine RH.pure T_ok hQ [35, 36] (by kernel_rfl) rfl ?_
  refine RH.eqv (v' := .bool true) (congrArg _ (by rw [hr]; simp)) ?_
  refine RH.pure T_ok hQ [37, 38, 39, 41] (by kernel_rfl) rfl ?_
  refine RH.only 40 rfl (by kernel_rfl) (fun _ => ?_)
  refine RL.call (fi := []) (ca := []) rfl rfl rfl rfl (vranges_c m14 _ l (hRm5.ext0 hE14) (by omega)) ?_
  rintro v15 m15 hM15
  have hE15 := hE14.trans hM15.ext (by simp)
  refine ⟨_, rfl, RL.nil (RH.cont hE15 ?_)⟩
  refine RH.only 42 rfl (by kernel_rfl) (fun _ => ?_)
  refine RL.call (fi := []) (ca := []) rfl rfl rfl rfl (refvranges_c m15 _ l (hRm5.ext0 hE15) (by omega)) ?_
  rintro v16 m16 hM16
  have hE16 := hE15.trans hM16.ext (by simp)
  refine ⟨_, rfl, RL.nil (RH.cont hE16 ?_)⟩
  have hrl := vranges_len l
  refine RH.only 43 rfl (by kernel_rfl) (fun _ => ?_)
  refine RL.call (fi := []) (ca := []) rfl rfl rfl rfl (ranges_c m16 _ _ _ _ (hM15.rs.ext0 hM16.ext) hM16.rs (by omega)) ?_
  rintro _ m17 ⟨rfl, hm17⟩
  subst hm17
  refine ⟨_, rfl, RL.nil (RH.cont hE16 ?_)⟩
  refine RH.eqv (v' := .bool true) (congrArg _ (decide_eq_true rfl)) ?_
  refine RH.pure T_ok hQ [44, 45] (by kernel_rfl) rfl ?_
  refine RH.done (by kernel_rfl) (fun _ => ?_)
  repeat (first | with_reducible refine QN.block_normal ?_ | with_reducible refine QN.next ?_)
  refine WP.ret ?_; repeat (first | with_reducible refine QN.then_ret ?_ | with_reducible refine QN.block_ret ?_)
  exact QN.ret1 rfl rfl ⟨_, rfl, rfl, hEm5.trans hE16 (by simp)⟩
set_option maxRecDepth 100000 in
theorem vectorclean_lifted (os : Os) (started : os.Started) (H : Type) (enc : TypeId × Value → H) :
    ReturnsInHanded {} Try.checked os 3 .any (Rows.vectorCleanSpec.pre6 enc Try.prog Try.f3 Rows.vectorCleanRow.domain false) (Rows.vectorCleanSpec.post enc Try.prog Try.f3 false true false false) := by
  refine law_lift (tb := 4) own started (by kernel_rfl) Try.func3
    (ChangeSpec.witness6 (enc := enc) (C := Try.checked) false ⟨#[], #[.slice none 0 0, .agg #[.int .u64 0, .int .u64 0]], []⟩ 8 (by kernel_rfl) (by kernel_rfl) (by kernel_rfl) (by kernel_rfl))
    laidOut (by kernel_rfl) rfl (und 4 rfl rfl) rfl (fun ds h => by
      match ds, h with
      | [_, _], _ => exact ⟨rfl, rfl, rfl⟩) ?_
  intro W base args ds p hval hA hw
  rw [Try.params3] at hA hval hw
  obtain ⟨v0, v1, d0, d1, p0, p1, rfl, rfl, rfl, h0, h1⟩ := trodAll_two hA
  obtain ⟨l, hl⟩ := open_cs (hval 0 22 v0 rfl rfl) (Fit.arg hw 0 rfl rfl) h0
  obtain ⟨id, rfl⟩ := vopen_id h1
  exact vectorclean_c W v0 l hl id
theorem vectorClean_holds : Rows.VectorCleanSaid :=
  OpenClaim.holds_of_wide 3 Try.f3 rfl rfl rfl rfl rfl rfl rfl ⟨rfl, rfl, rfl, rfl, rfl⟩ rfl rfl rfl rfl rfl (by kernel_rfl) Try.func3 (by kernel_rfl)
    (of_decide_eq_true (by kernel_rfl)) (by unfold Func.isWrapper; first | (rw [if_pos (by decide +kernel)]; kernel_rfl) | (rw [if_neg (by decide +kernel)]; exact ⟨rfl, rfl⟩))
    (fun os started H enc _ => vectorclean_lifted os started H enc)
end Go.Proofs.Ytmjpcaiehfimgaa
