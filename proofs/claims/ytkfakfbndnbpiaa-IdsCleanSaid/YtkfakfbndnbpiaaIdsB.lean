/- IdsClean: the row. -/
import Derived.Test.YtkfakfbndnbpiaaRows
import Derived.Test.YtkfakfbndnbpiaaIdsO
import Derived.Carry
namespace Go.Proofs.Ytkfakfbndnbpiaa
open Go.ChangeShapes Go.WideShapes Go.ChangeAt Go.RowKit Go.Ev Go.Ids

theorem beq_true_self (b : Bool) : (b == b) = true := by cases b <;> rfl
theorem idsclean_c (m : World) (v : Value) (l : List Rng) (h : Rs m [] v l) (id : Idn) : FnR Try.prog 6 [v, iV id] m fun r m' => r = .bool true ∧ Ext m [] m' := by
  obtain ⟨A, c, rfl, _, _⟩ := h.shape
  refine FnE.enter ⟨_, Try.func6, by kernel_rfl, by kernel_rfl⟩ Try.func6 rfl rfl ?_
  repeat (first | with_reducible refine WP.seq ?_ | with_reducible refine WP.block ?_ | with_reducible refine WP.region ?_)
  refine RL.box rfl rfl (fun b m1 hb hC => ⟨_, rfl, ?_⟩)
  have hB1 : Blk m1 b 48 (iC id) := hC.here
  have hE1 : Ext m [] m1 := hC.new (by omega)
  clear hC
  refine RL.auto T_ok rfl ?_
  refine RL.nil ?_; repeat (first | with_reducible refine QN.block_normal ?_ | with_reducible refine QN.next ?_); repeat (first | with_reducible refine WP.seq ?_ | with_reducible refine WP.block ?_ | with_reducible refine WP.region ?_)
  refine RL.call (fi := []) (ca := []) rfl rfl rfl rfl (known_c m1) ?_
  rintro _ m2 ⟨rfl, hE2⟩
  refine ⟨_, rfl, ?_⟩
  have hEm2 := hE1.trans hE2 (by simp)
  refine RL.auto T_ok rfl ?_
  refine RL.nil ?_; repeat (first | with_reducible refine QN.block_normal ?_ | with_reducible refine QN.next ?_); repeat (first | with_reducible refine WP.seq ?_ | with_reducible refine WP.block ?_ | with_reducible refine WP.region ?_)
  refine WP.condF rfl ?_
  refine WP.skip ?_; repeat (first | with_reducible refine QN.block_normal ?_ | with_reducible refine QN.next ?_); repeat (first | with_reducible refine WP.seq ?_ | with_reducible refine WP.block ?_ | with_reducible refine WP.region ?_)
  refine RL.auto T_ok rfl ?_
  refine RL.call (fi := []) (ca := []) rfl rfl rfl rfl (ilight_c m2 _ l (h.ext0 hEm2)) ?_
  rintro _ m3 ⟨rfl, rfl⟩
  refine ⟨_, rfl, ?_⟩
  refine RL.auto T_ok rfl ?_
  refine RL.nil ?_; repeat (first | with_reducible refine QN.block_normal ?_ | with_reducible refine QN.next ?_); repeat (first | with_reducible refine WP.seq ?_ | with_reducible refine WP.block ?_ | with_reducible refine WP.region ?_)
  refine WP.cond rfl (fun hc => ?_) (fun hc => ?_)
  · repeat (first | with_reducible refine WP.seq ?_ | with_reducible refine WP.block ?_ | with_reducible refine WP.region ?_)
    refine RL.auto T_ok rfl ?_
    refine RL.nil ?_; repeat (first | with_reducible refine QN.block_normal ?_ | with_reducible refine QN.next ?_); repeat (first | with_reducible refine WP.seq ?_ | with_reducible refine WP.block ?_ | with_reducible refine WP.region ?_)
    refine WP.ret ?_; repeat (first | with_reducible refine QN.then_ret ?_ | with_reducible refine QN.block_ret ?_)
    exact QN.ret1 rfl rfl ⟨_, rfl, rfl, hEm2⟩
  have hl : l.length ≤ 60 := by simpa using hc
  refine WP.skip ?_; repeat (first | with_reducible refine QN.block_normal ?_ | with_reducible refine QN.next ?_); repeat (first | with_reducible refine WP.seq ?_ | with_reducible refine WP.block ?_ | with_reducible refine WP.region ?_)
  refine RL.auto T_ok rfl ?_
  have hSl : Sl m3 [] 3 (.slice A l.length c) (l.flatMap rC) := h.ext0 hEm2
  refine RL.append T_ok (Own.empty _ _ _ _) (l.flatMap rC) (Src.of_sl hSl) rfl rfl rfl rfl rfl (rsC_len l) (rsC_one l) (by unfold maxLen; omega) (by show (0 + _) * 24 ≤ _; omega) ?_
  intro v5 m5 S5 hO5 hE5 hF5
  refine ⟨_, rfl, ?_⟩
  rw [Nat.zero_add, List.nil_append] at hO5
  have hR5 : Rs m5 [] v5 l := hO5.sl (by simp)
  have hEm5 := hEm2.trans hE5 (by simp)
  refine RL.auto T_ok rfl ?_
  refine RL.nil ?_; repeat (first | with_reducible refine QN.block_normal ?_ | with_reducible refine QN.next ?_); repeat (first | with_reducible refine WP.seq ?_ | with_reducible refine WP.block ?_ | with_reducible refine WP.region ?_)
  refine RL.auto T_ok rfl ?_
  refine RL.call (fi := []) (ca := []) rfl rfl rfl rfl (clean_c m5 _ l hR5 (by omega)) ?_
  rintro v6 m6 ⟨S6, hO6, hN6⟩
  refine ⟨_, rfl, ?_⟩
  have hEm6 := hEm5.trans hN6.1 (by simp)
  have hR6 : Rs m6 [] v6 (clean l) := hO6.sl (by simp)
  have hR56 : Rs m6 [] v5 l := hR5.ext0 hN6.1
  have hRm6 : Rs m6 [] (.slice A l.length c) l := h.ext0 hEm6
  have hB6 : Blk m6 b 48 (iC id) := hB1.ext (hE2.trans (hE5.trans hN6.1 (by simp)) (by simp)) (by simp)
  have hcl := clean_len l
  clear hO5 hO6 hF5 hR5
  refine RL.auto T_ok rfl ?_
  refine RL.nil ?_; repeat (first | with_reducible refine QN.block_normal ?_ | with_reducible refine QN.next ?_)
  repeat (first | with_reducible refine WP.seq ?_ | with_reducible refine WP.block ?_ | with_reducible refine WP.region ?_)
  refine WP.drawQ (fun m' => Ext m6 [] m') [] (by kernel_rfl) (Ext.refl _ _) (by repeat (first | with_reducible exact PanicOk.body | with_reducible refine PanicOk.then_ ?_ | with_reducible refine PanicOk.block_ ?_)) (fun hQ => ?_)
  have hI : ∀ m', Ext m6 [] m' → ∀ j u, (iC id)[j]? = some u → m'.cell? ((⟨b, 0, none⟩ : Addr).add j) = some u := fun m' hE j u hu => by rw [add_block]; exact (hB6.ext hE (by simp)).cell _ (by simpa using hu)
  refine RH.pure T_ok hQ [0, 1] (by kernel_rfl) rfl ?_
  refine RH.only 2 rfl (by kernel_rfl) (fun _ => ?_)
  refine RL.call (fi := []) (ca := []) rfl rfl rfl rfl (refclean_c m6 _ l hRm6 (by omega)) ?_
  rintro v7 m7 ⟨S7, hO7, hN7⟩
  refine ⟨_, rfl, RL.nil (RH.cont hN7.1 ?_)⟩
  have hE7 := hN7.1
  have hR7 : Rs m7 [] v7 (clean l) := hO7.sl (by simp)
  refine RH.only 3 rfl (by kernel_rfl) (fun _ => ?_)
  refine RL.call (fi := []) (ca := []) rfl rfl rfl rfl (ranges_c m7 _ _ _ _ (hR6.ext0 hE7) hR7 (by omega)) ?_
  rintro _ m8 ⟨rfl, rfl⟩
  refine ⟨_, rfl, RL.nil (RH.cont hE7 ?_)⟩
  refine RH.eqv (v' := .bool true) (congrArg _ (decide_eq_true rfl)) ?_
  refine RH.pure T_ok hQ [4, 5, 7] (by kernel_rfl) rfl ?_
  refine RH.only 6 rfl (by kernel_rfl) (fun _ => ?_)
  refine RL.call (fi := []) (ca := []) rfl rfl rfl rfl (clean_c m8 _ _ (hR6.ext0 hE7) (by omega)) ?_
  rintro v9 m9 ⟨S9, hO9, hN9⟩
  have hE9 := hE7.trans hN9.1 (by simp)
  refine ⟨_, rfl, RL.nil (RH.cont hE9 ?_)⟩
  rw [clean_clean] at hO9
  have hR9 : Rs m9 [] v9 (clean l) := hO9.sl (by simp)
  refine RH.only 8 rfl (by kernel_rfl) (fun _ => ?_)
  refine RL.call (fi := []) (ca := []) rfl rfl rfl rfl (ranges_c m9 _ _ _ _ hR9 (hR6.ext0 hE9) (by omega)) ?_
  rintro _ m10 ⟨rfl, rfl⟩
  refine ⟨_, rfl, RL.nil (RH.cont hE9 ?_)⟩
  refine RH.eqv (v' := .bool true) (congrArg _ (decide_eq_true rfl)) ?_
  refine RH.pure T_ok hQ [9, 10, 11, 12] (by kernel_rfl) rfl ?_
  refine RH.only 13 rfl (by kernel_rfl) (fun _ => ?_)
  refine RL.call (fi := []) (ca := []) rfl rfl rfl rfl (ranges_c m10 _ _ _ _ (hR56.ext0 hE9) (hRm6.ext0 hE9) (by omega)) ?_
  rintro _ m11 ⟨rfl, rfl⟩
  refine ⟨_, rfl, RL.nil (RH.cont hE9 ?_)⟩
  refine RH.eqv (v' := .bool true) (congrArg _ (decide_eq_true rfl)) ?_
  refine RH.pure T_ok hQ [14, 15, 16] (by kernel_rfl) rfl ?_
  refine RH.loadAgg T_ok hQ 17 (iC id) hI rfl (by kernel_rfl) rfl rfl rfl rfl ?_
  refine RH.pure T_ok hQ [19] (by kernel_rfl) rfl ?_
  refine RH.loadAgg T_ok hQ 20 (iC id) hI rfl (by kernel_rfl) rfl rfl rfl rfl ?_
  refine RH.only 18 rfl (by kernel_rfl) (fun _ => ?_)
  refine RL.call (fi := []) (ca := []) rfl rfl rfl rfl (has_c m11 _ l (hRm6.ext0 hE9) (by omega) id) ?_
  rintro _ m12 ⟨rfl, hE12⟩
  have hE12 := hE9.trans hE12 (by simp)
  refine ⟨_, rfl, RL.nil (RH.cont hE12 ?_)⟩
  refine RH.only 21 rfl (by kernel_rfl) (fun _ => ?_)
  refine RL.call (fi := []) (ca := []) rfl rfl rfl rfl (refhas_c m12 _ l (hRm6.ext0 hE12) (by omega) id) ?_
  rintro _ m13 ⟨rfl, hE13⟩
  have hE13 := hE12.trans hE13 (by simp)
  refine ⟨_, rfl, RL.nil (RH.cont hE13 ?_)⟩
  refine RH.pure T_ok hQ [22] (by kernel_rfl) rfl ?_
  refine RH.eqv (v' := .bool true) (congrArg _ (beq_true_self _)) ?_
  refine RH.pure T_ok hQ [23, 24, 25] (by kernel_rfl) rfl ?_
  refine RH.loadAgg T_ok hQ 26 (iC id) hI rfl (by kernel_rfl) rfl rfl rfl rfl ?_
  refine RH.pure T_ok hQ [28] (by kernel_rfl) rfl ?_
  refine RH.loadAgg T_ok hQ 29 (iC id) hI rfl (by kernel_rfl) rfl rfl rfl rfl ?_
  refine RH.only 27 rfl (by kernel_rfl) (fun _ => ?_)
  refine RL.call (fi := []) (ca := []) rfl rfl rfl rfl (has_c m13 _ (clean l) (hR6.ext0 hE13) (by omega) id) ?_
  rintro _ m14 ⟨rfl, hE14⟩
  have hE14 := hE13.trans hE14 (by simp)
  have hhas : hasB (clean l) id = hasB l id := by
    rw [Bool.eq_iff_iff, hasB_mem, hasB_mem, clean_mem]
  rw [hhas]
  refine ⟨_, rfl, RL.nil (RH.cont hE14 ?_)⟩
  refine RH.only 30 rfl (by kernel_rfl) (fun _ => ?_)
  refine RL.call (fi := []) (ca := []) rfl rfl rfl rfl (has_c m14 _ l (hRm6.ext0 hE14) (by omega) id) ?_
  rintro _ m15 ⟨rfl, hE15⟩
  have hE15 := hE14.trans hE15 (by simp)
  refine ⟨_, rfl, RL.nil (RH.cont hE15 ?_)⟩
  refine RH.pure T_ok hQ [31] (by kernel_rfl) rfl ?_
  refine RH.eqv (v' := .bool true) (congrArg _ (beq_true_self _)) ?_
  refine RH.pure T_ok hQ [32, 33] (by kernel_rfl) rfl ?_
  refine RH.loadAgg T_ok hQ 34 (iC id) hI rfl (by kernel_rfl) rfl rfl rfl rfl ?_
  refine RH.loadAgg T_ok hQ 36 (iC id) hI rfl (by kernel_rfl) rfl rfl rfl rfl ?_
  refine RH.only 35 rfl (by kernel_rfl) (fun _ => ?_)
  refine RL.call (fi := []) (ca := []) rfl rfl rfl rfl (rightI_c m15 id) ?_
  rintro _ m16 ⟨rfl, hE16⟩
  have hE16 := hE15.trans hE16 (by simp)
  refine ⟨_, rfl, RL.nil (RH.cont hE16 ?_)⟩
  refine RH.only 37 rfl (by kernel_rfl) (fun _ => ?_)
  refine RL.call (fi := []) (ca := []) rfl rfl rfl rfl (refrightI_c m16 id) ?_
  rintro _ m17 ⟨rfl, hE17⟩
  have hE17 := hE16.trans hE17 (by simp)
  refine ⟨_, rfl, RL.nil (RH.cont hE17 ?_)⟩
  refine RH.pure T_ok hQ [38] (by kernel_rfl) rfl ?_
  refine RH.eqv (v' := .bool true) (congrArg _ (beq_true_self _)) ?_
  refine RH.pure T_ok hQ [39, 40, 41, 43] (by kernel_rfl) rfl ?_
  have hcnt : cnt (clean l) < 9223372036854775808 := by
    have h1 := cnt_le (clean l) (clean_canon l).1
    have h2 : (clean l).length * 9007199254740992 ≤ 60 * 9007199254740992 := Nat.mul_le_mul_right _ (by omega)
    omega
  refine RH.only 42 rfl (by kernel_rfl) (fun _ => ?_)
  refine RL.call (fi := []) (ca := []) rfl rfl rfl rfl (count_c m17 _ l (hRm6.ext0 hE17) (by omega) hcnt) ?_
  rintro _ m18 ⟨rfl, hE18⟩
  have hE18 := hE17.trans hE18 (by simp)
  refine ⟨_, rfl, RL.nil (RH.cont hE18 ?_)⟩
  refine RH.only 44 rfl (by kernel_rfl) (fun _ => ?_)
  refine RL.call (fi := []) (ca := []) rfl rfl rfl rfl (refcount_c m18 _ l (hRm6.ext0 hE18) (by omega) hcnt) ?_
  rintro _ m19 ⟨rfl, hE19⟩
  have hE19 := hE18.trans hE19 (by simp)
  refine ⟨_, rfl, RL.nil (RH.cont hE19 ?_)⟩
  refine RH.pure T_ok hQ [45] (by kernel_rfl) rfl ?_
  refine RH.eqv (v' := .bool true) (congrArg _ (by simp)) ?_
  refine RH.pure T_ok hQ [46, 47] (by kernel_rfl) rfl ?_
  refine RH.done (by kernel_rfl) (fun _ => ?_)
  repeat (first | with_reducible refine QN.block_normal ?_ | with_reducible refine QN.next ?_)
  refine WP.ret ?_; repeat (first | with_reducible refine QN.then_ret ?_ | with_reducible refine QN.block_ret ?_)
  exact QN.ret1 rfl rfl ⟨_, rfl, rfl, hEm6.trans hE19 (by simp)⟩
set_option maxRecDepth 100000 in
theorem idsclean_lifted (os : Os) (started : os.Started) (H : Type) (enc : TypeId × Value → H) :
    ReturnsInHanded {} Try.checked os 6 .any (Rows.idsCleanSpec.pre6 enc Try.prog Try.f6 Rows.idsCleanRow.domain false) (Rows.idsCleanSpec.post enc Try.prog Try.f6 false true false false) := by
  refine law_lift (tb := 4) own started (by kernel_rfl) Try.func6
    (ChangeSpec.witness6 (enc := enc) (C := Try.checked) false ⟨#[], #[.slice none 0 0, .agg #[.int .u64 0, .int .u64 0]], []⟩ 8 (by kernel_rfl) (by kernel_rfl) (by kernel_rfl) (by kernel_rfl))
    laidOut (by kernel_rfl) rfl (und 4 rfl rfl) rfl (fun ds h => by
      match ds, h with
      | [_, _], _ => exact ⟨rfl, rfl, rfl⟩) ?_
  intro W base args ds p hval hA hw
  rw [Try.params6] at hA hval hw
  obtain ⟨v0, v1, d0, d1, p0, p1, rfl, rfl, rfl, h0, h1⟩ := trodAll_two hA
  obtain ⟨l, hl⟩ := open_rs (hval 0 46 v0 rfl rfl) (Fit.arg hw 0 rfl rfl) h0
  obtain ⟨id, rfl⟩ := open_id h1
  exact idsclean_c W v0 l hl id
theorem idsClean_holds : Rows.IdsCleanSaid :=
  OpenClaim.holds_of_wide 6 Try.f6 rfl rfl rfl rfl rfl rfl rfl ⟨rfl, rfl, rfl, rfl, rfl⟩ rfl rfl rfl rfl rfl (by kernel_rfl) Try.func6 (by kernel_rfl)
    (of_decide_eq_true (by kernel_rfl)) (by unfold Func.isWrapper; first | (rw [if_pos (by decide +kernel)]; kernel_rfl) | (rw [if_neg (by decide +kernel)]; exact ⟨rfl, rfl⟩))
    (fun os started H enc _ => idsclean_lifted os started H enc)
end Go.Proofs.Ytkfakfbndnbpiaa
