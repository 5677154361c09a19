/- vector.Clean; clocks held against one another. -/
import Derived.Test.YtmjpcaiehfimgaaVecT
import Derived.Test.YtmjpcaiehfimgaaIds2
namespace Go.Proofs.Ytmjpcaiehfimgaa
open Go.RowKit Go.Ev Go.Ids Go.Mrg Go.Sort

theorem eqK_run (x y : Clk) (w : World) : (binOp .neq 60 (cV x) (cV y)).run Try.prog w = .ok (.bool (decide (x ≠ y))) w := by
  have hS : Try.prog.underlying 60 = some (.struct (Try.prog.fieldsOf 60)) := by kernel_rfl
  have hp : Try.prog.stoodInHeld 60 = false := by kernel_rfl
  have u37 := Try.underlying23
  have a37 := Try.isAgg23
  have z37 := Try.sizeOf23
  simp only [cV, cC]
  rw [run_neq_struct, show (10000 : Nat) = 9999 + 1 from rfl, run_equalIn_agg w 9999 60 _ _ hS hp]
  simp only [Program.fieldsOf, Try.underlying60]
  go_simp
  obtain ⟨a, b⟩ := x
  obtain ⟨a', b'⟩ := y
  by_cases h1 : a = a' <;> by_cases h2 : b = b' <;> simp [h1, h2, Int.natCast_inj]
theorem eqK_guard (x y : Clk) (ox oy : Operand) (w : World) : (eqGuard .neq 60 ox oy (cV x) (cV y)).run Try.prog w = .ok () w := run_eqGuard_agg w .neq 60 ox oy _ _ (by kernel_rfl)
theorem vlight_c (m : World) (v : Value) (l : List Clk) (h : Cs m [] v l) : FnR Try.prog 9 [v] m fun r m' => r = .bool (decide (l.length ≤ 60)) ∧ m' = m := by
  obtain ⟨A, c, rfl, _, _⟩ := h.shape
  refine FnE.enter ⟨_, Try.func9, by kernel_rfl, by kernel_rfl⟩ Try.func9 rfl rfl ?_
  repeat (first | with_reducible refine WP.seq ?_ | with_reducible refine WP.block ?_ | with_reducible refine WP.region ?_)
  refine RL.auto T_ok rfl ?_
  refine RL.nil ?_; repeat (first | with_reducible refine QN.block_normal ?_ | with_reducible refine QN.next ?_); repeat (first | with_reducible refine WP.seq ?_ | with_reducible refine WP.block ?_ | with_reducible refine WP.region ?_)
  refine RL.auto T_ok rfl ?_
  refine RL.nil ?_; repeat (first | with_reducible refine QN.block_normal ?_ | with_reducible refine QN.next ?_); repeat (first | with_reducible refine WP.seq ?_ | with_reducible refine WP.block ?_ | with_reducible refine WP.region ?_)
  refine WP.ret ?_; repeat (first | with_reducible refine QN.then_ret ?_ | with_reducible refine QN.block_ret ?_)
  exact QN.ret1 rfl rfl ⟨_, rfl, congrArg _ (by rw [decide_eq_decide]; omega), rfl⟩
theorem clocks_c (m : World) (v u : Value) (xs ys : List Clk) (h : Cs m [] v xs) (h' : Cs m [] u ys) (hl : xs.length < 1000000000) :
    FnR Try.prog 11 [v, u] m fun r m' => r = .bool (decide (xs = ys)) ∧ m' = m := by
  obtain ⟨A, c, rfl, _, _⟩ := h.shape
  obtain ⟨B, c', rfl, _, _⟩ := h'.shape
  refine FnE.enter ⟨_, Try.func11, by kernel_rfl, by kernel_rfl⟩ Try.func11 rfl rfl ?_
  repeat (first | with_reducible refine WP.seq ?_ | with_reducible refine WP.block ?_ | with_reducible refine WP.region ?_)
  refine RL.auto T_ok rfl ?_
  refine RL.nil ?_; repeat (first | with_reducible refine QN.block_normal ?_ | with_reducible refine QN.next ?_); repeat (first | with_reducible refine WP.seq ?_ | with_reducible refine WP.block ?_ | with_reducible refine WP.region ?_)
  refine RL.pure T_ok 4 rfl ?_
  refine RL.pure T_ok 1 rfl ?_
  refine RL.eqv (v' := .bool (decide (xs.length ≠ ys.length))) (congrArg _ (bne_nat' _ _)) ?_
  refine RL.nil ?_; repeat (first | with_reducible refine QN.block_normal ?_ | with_reducible refine QN.next ?_); repeat (first | with_reducible refine WP.seq ?_ | with_reducible refine WP.block ?_ | with_reducible refine WP.region ?_)
  refine WP.cond rfl (fun hc => ?_) (fun hc => ?_)
  · have hc : xs.length ≠ ys.length := of_decide_eq_true hc
    repeat (first | with_reducible refine WP.seq ?_ | with_reducible refine WP.block ?_ | with_reducible refine WP.region ?_)
    refine RL.auto T_ok rfl ?_
    refine RL.nil ?_; repeat (first | with_reducible refine QN.block_normal ?_ | with_reducible refine QN.next ?_); repeat (first | with_reducible refine WP.seq ?_ | with_reducible refine WP.block ?_ | with_reducible refine WP.region ?_)
    refine WP.ret ?_; repeat (first | with_reducible refine QN.then_ret ?_ | with_reducible refine QN.block_ret ?_)
    exact QN.ret1 rfl rfl ⟨_, rfl, by rw [decide_eq_false (fun h => hc (by rw [h]))], rfl⟩
  have hlen : xs.length = ys.length := Classical.not_not.1 (of_decide_eq_false hc)
  refine WP.skip ?_; repeat (first | with_reducible refine QN.block_normal ?_ | with_reducible refine QN.next ?_); repeat (first | with_reducible refine WP.seq ?_ | with_reducible refine WP.block ?_ | with_reducible refine WP.region ?_)
  refine RL.auto T_ok rfl ?_
  refine RL.nil ?_; repeat (first | with_reducible refine QN.block_normal ?_ | with_reducible refine QN.next ?_); repeat (first | with_reducible refine WP.seq ?_ | with_reducible refine WP.block ?_ | with_reducible refine WP.region ?_)
  refine WP.loop (X := Nat) (fun i => [(0, .slice A xs.length c), (1, .slice B ys.length c'), (5, .int .i64 i)]) (fun i m' => i ≤ xs.length ∧ xs.take i = ys.take i ∧ m' = m) (fun i => xs.length - i) 0
    (Sub.cons rfl (Sub.cons rfl (Sub.cons rfl Sub.nil))) ⟨by simp, by simp, rfl⟩ ?_
  rintro i m1 ⟨hi, ht, rfl⟩
  repeat (first | with_reducible refine WP.seq ?_ | with_reducible refine WP.block ?_ | with_reducible refine WP.region ?_)
  refine RL.auto T_ok rfl ?_
  refine RL.nil ?_; repeat (first | with_reducible refine QN.block_normal ?_ | with_reducible refine QN.next ?_); repeat (first | with_reducible refine WP.seq ?_ | with_reducible refine WP.block ?_ | with_reducible refine WP.region ?_)
  refine WP.cond rfl (fun hc => ?_) (fun hc => ?_)
  · have hc : i < xs.length := by have := of_decide_eq_true hc; omega
    have hcb : i < ys.length := by omega
    refine WP.skip ?_; repeat (first | with_reducible refine QN.block_normal ?_ | with_reducible refine QN.next ?_); repeat (first | with_reducible refine WP.seq ?_ | with_reducible refine WP.block ?_ | with_reducible refine WP.region ?_)
    refine WP.drawQ (fun m' => m' = m1) [] (by kernel_rfl) rfl (by repeat (first | with_reducible exact PanicOk.body | with_reducible refine PanicOk.then_ ?_ | with_reducible refine PanicOk.block_ ?_)) (fun hQ => ?_)
    refine RH.pure T_ok hQ [0, 1] (by kernel_rfl) rfl ?_
    obtain ⟨ad, rfl, hx⟩ := h.cell i hc
    obtain ⟨bd, rfl, hy⟩ := h'.cell i hcb
    refine RH.indexAddr T_ok hQ 2 (k := i) rfl (by kernel_rfl) rfl rfl rfl rfl rfl rfl rfl hc rfl ?_
    refine RH.loadAgg T_ok hQ 3 (cC xs[i]) (fun m' hm' => by rw [hm']; exact hx) rfl (by kernel_rfl) rfl rfl rfl rfl ?_
    refine RH.pure T_ok hQ [4, 5] (by kernel_rfl) rfl ?_
    refine RH.indexAddr T_ok hQ 6 (k := i) rfl (by kernel_rfl) rfl rfl rfl rfl rfl rfl rfl hcb rfl ?_
    refine RH.loadAgg T_ok hQ 7 (cC ys[i]) (fun m' hm' => by rw [hm']; exact hy) rfl (by kernel_rfl) rfl rfl rfl rfl ?_
    refine RH.binOp (eqK_run xs[i] ys[i]) (eqK_guard xs[i] ys[i] _ _) hQ 8 rfl (by kernel_rfl) rfl rfl rfl rfl ?_
    refine RH.done (by kernel_rfl) (fun _ => ?_)
    repeat (first | with_reducible refine QN.block_normal ?_ | with_reducible refine QN.next ?_)
    by_cases hab : xs[i] = ys[i]
    · refine WP.condF (congrArg (fun q => some (Value.bool q)) (decide_eq_false (not_not_intro hab))) ?_
      refine WP.skip ?_; repeat (first | with_reducible refine QN.block_normal ?_ | with_reducible refine QN.next ?_); repeat (first | with_reducible refine WP.seq ?_ | with_reducible refine WP.block ?_ | with_reducible refine WP.region ?_)
      refine RL.auto T_ok rfl ?_
      refine RL.nil (QN.round (i + 1) (Sub.cons rfl (Sub.cons rfl (Sub.cons ?_ Sub.nil))) ⟨by omega, ?_, rfl⟩ (by omega))
      · show some (Value.int .i64 (IntKind.i64.wrap ((i : Int) + 1))) = some (Value.int .i64 ((i + 1 : Nat) : Int))
        rw [wrap_i64_in _ (by omega) (by omega)]; rfl
      · rw [List.take_succ_eq_append_getElem hc, List.take_succ_eq_append_getElem hcb, ht, hab]
    · refine WP.condT (congrArg (fun q => some (Value.bool q)) (decide_eq_true hab)) ?_
      repeat (first | with_reducible refine WP.seq ?_ | with_reducible refine WP.block ?_ | with_reducible refine WP.region ?_)
      refine RL.auto T_ok rfl ?_
      refine RL.nil ?_; repeat (first | with_reducible refine QN.block_normal ?_ | with_reducible refine QN.next ?_); repeat (first | with_reducible refine WP.seq ?_ | with_reducible refine WP.block ?_ | with_reducible refine WP.region ?_)
      refine WP.ret ?_; repeat (first | with_reducible refine QN.then_ret ?_ | with_reducible refine QN.block_ret ?_)
      refine QN.ret1 rfl rfl ⟨_, rfl, ?_, rfl⟩
      rw [decide_eq_false]
      intro h; subst h; exact hab rfl
  · have hc : i = xs.length := by have := of_decide_eq_false hc; omega
    subst hc
    rw [List.take_length, hlen, List.take_length] at ht
    refine WP.exit ?_; repeat (first | with_reducible refine QN.then_exit ?_ | with_reducible refine QN.block_exit ?_ | with_reducible refine QN.block_far rfl ?_ | with_reducible refine QN.block_normal ?_ | with_reducible refine QN.next ?_); repeat (first | with_reducible refine WP.seq ?_ | with_reducible refine WP.block ?_ | with_reducible refine WP.region ?_)
    refine RL.auto T_ok rfl ?_
    refine RL.nil ?_; repeat (first | with_reducible refine QN.block_normal ?_ | with_reducible refine QN.next ?_); repeat (first | with_reducible refine WP.seq ?_ | with_reducible refine WP.block ?_ | with_reducible refine WP.region ?_)
    refine WP.ret ?_; repeat (first | with_reducible refine QN.then_ret ?_ | with_reducible refine QN.block_ret ?_)
    exact QN.ret1 rfl rfl ⟨_, rfl, by rw [decide_eq_true ht], rfl⟩
/-- Clocks that a call made. -/
def VMade (m : World) (r : Value) (l : List Clk) (m' : World) : Prop := ∃ S', Ev.Own m' S' 60 2 r l.length (l.flatMap cC) ∧ New m S' m'
theorem VMade.ext {m m' : World} {r : Value} {l : List Clk} (h : VMade m r l m') : Ext m [] m' := by obtain ⟨_, _, h⟩ := h; exact h.1
theorem VMade.cs {m m' : World} {r : Value} {l : List Clk} (h : VMade m r l m') : Cs m' [] r l := by obtain ⟨_, h, _⟩ := h; exact h.sl (by simp)
theorem VMade.from_ {m0 m m' : World} {r : Value} {l : List Clk} (h : VMade m r l m') (hE : Ext m0 [] m) : VMade m0 r l m' := by
  obtain ⟨S, h1, h2, h3⟩ := h
  exact ⟨S, h1, hE.trans h2 (by simp), h3.trans' hE⟩
theorem cloneK_c (m : World) (v : Value) (l : List Clk) (h : Cs m [] v l) (hl : l.length < 1000000000) : FnR Try.prog 53 [v] m fun r m' => VMade m r l m' := by
  obtain ⟨A, c, rfl, _, _⟩ := h.shape
  refine FnE.enter ⟨_, Try.func53, by kernel_rfl, by kernel_rfl⟩ Try.func53 rfl rfl ?_
  repeat (first | with_reducible refine WP.seq ?_ | with_reducible refine WP.block ?_ | with_reducible refine WP.region ?_)
  refine RL.auto T_ok rfl ?_
  refine RL.nil ?_; repeat (first | with_reducible refine QN.block_normal ?_ | with_reducible refine QN.next ?_); repeat (first | with_reducible refine WP.seq ?_ | with_reducible refine WP.block ?_ | with_reducible refine WP.region ?_)
  refine RL.auto T_ok rfl ?_
  refine RL.nil ?_; repeat (first | with_reducible refine QN.block_normal ?_ | with_reducible refine QN.next ?_); repeat (first | with_reducible refine WP.seq ?_ | with_reducible refine WP.block ?_ | with_reducible refine WP.region ?_)
  refine WP.cond rfl (fun hc => ?_) (fun hc => ?_)
  · have hA : A = none := by simpa using hc
    subst hA
    have hl0 : l = [] := by
      rcases l with _ | ⟨x, l⟩
      · rfl
      · obtain ⟨ad, hh, _⟩ := h.cell 0 (by simp)
        cases hh
    subst hl0
    repeat (first | with_reducible refine WP.seq ?_ | with_reducible refine WP.block ?_ | with_reducible refine WP.region ?_)
    refine RL.auto T_ok rfl ?_
    refine RL.nil ?_; repeat (first | with_reducible refine QN.block_normal ?_ | with_reducible refine QN.next ?_); repeat (first | with_reducible refine WP.seq ?_ | with_reducible refine WP.block ?_ | with_reducible refine WP.region ?_)
    refine WP.ret ?_; repeat (first | with_reducible refine QN.then_ret ?_ | with_reducible refine QN.block_ret ?_)
    exact QN.ret1 rfl rfl ⟨_, rfl, [], Own.empty _ _ _ _, Ext.refl _ _, FpNew.nil _ _⟩
  · refine WP.skip ?_; repeat (first | with_reducible refine QN.block_normal ?_ | with_reducible refine QN.next ?_); repeat (first | with_reducible refine WP.seq ?_ | with_reducible refine WP.block ?_ | with_reducible refine WP.region ?_)
    refine RL.buildSlice0 T_ok rfl rfl (fun b1 m1 hb1 hC1 => ⟨_, rfl, ?_⟩)
    have hE1 : Ext m [] m1 := hC1
    have hSl : Sl m1 [] 2 (.slice A l.length c) (l.flatMap cC) := h.ext0 hE1
    refine RL.auto T_ok rfl ?_
    refine RL.append T_ok (Own.empty _ _ _ _) (l.flatMap cC) (Src.of_sl hSl) rfl rfl rfl rfl rfl (csC_len l) (csC_one l) (by unfold maxLen; omega) (by show (0 + _) * 16 ≤ _; omega) ?_
    intro v2 m2 S2 hO2 hE2 hF2
    refine ⟨_, rfl, ?_⟩
    rw [Nat.zero_add, List.nil_append] at hO2
    refine RL.auto T_ok rfl ?_
    refine RL.nil ?_; repeat (first | with_reducible refine QN.block_normal ?_ | with_reducible refine QN.next ?_); repeat (first | with_reducible refine WP.seq ?_ | with_reducible refine WP.block ?_ | with_reducible refine WP.region ?_)
    refine WP.ret ?_; repeat (first | with_reducible refine QN.then_ret ?_ | with_reducible refine QN.block_ret ?_)
    exact QN.ret1 rfl rfl ⟨_, rfl, S2, hO2, hE1.trans hE2 (by simp), hF2.trans' hE1⟩
theorem keyK_c (m : World) (x : Clk) : FnR Try.prog 39 [cV x] m fun r m' => r = .int .u64 x.c ∧ Ext m [] m' := by
  refine FnE.enter ⟨_, Try.func39, by kernel_rfl, by kernel_rfl⟩ Try.func39 rfl rfl ?_
  repeat (first | with_reducible refine WP.seq ?_ | with_reducible refine WP.block ?_ | with_reducible refine WP.region ?_)
  refine RL.box rfl rfl (fun b m1 hb hC => ⟨_, rfl, ?_⟩)
  have hB : Blk m1 b 60 (cC x) := hC.here
  have hE1 : Ext m [] m1 := hC.new (by omega)
  clear hC
  refine RL.auto T_ok rfl ?_
  refine RL.nil ?_; repeat (first | with_reducible refine QN.block_normal ?_ | with_reducible refine QN.next ?_); repeat (first | with_reducible refine WP.seq ?_ | with_reducible refine WP.block ?_ | with_reducible refine WP.region ?_)
  refine RL.pure T_ok 1 rfl ?_
  refine RL.load T_ok rfl rfl rfl (hB.cell 0 rfl) rfl ?_
  refine RL.auto T_ok rfl ?_
  refine RL.nil ?_; repeat (first | with_reducible refine QN.block_normal ?_ | with_reducible refine QN.next ?_); repeat (first | with_reducible refine WP.seq ?_ | with_reducible refine WP.block ?_ | with_reducible refine WP.region ?_)
  refine WP.ret ?_; repeat (first | with_reducible refine QN.then_ret ?_ | with_reducible refine QN.block_ret ?_)
  exact QN.ret1 rfl rfl ⟨_, rfl, rfl, hE1⟩
def cfK (x y : Clk) : Int := cmpN x.c y.c
theorem ltOf_cfK (x y : Clk) : Go.Proofs.ltOf cfK x y = true ↔ x.c < y.c := by
  unfold Go.Proofs.ltOf cfK cmpN
  rw [decide_eq_true_eq]
  split
  · omega
  · split <;> omega
theorem swoK : SWO (Go.Proofs.ltOf cfK) where
  irrefl x := by
    rw [← Bool.not_eq_true, ltOf_cfK]; omega
  trans x y z := by
    rw [ltOf_cfK, ltOf_cfK, ltOf_cfK]; omega
  ntrans x y z := by
    rw [← Bool.not_eq_true, ← Bool.not_eq_true, ← Bool.not_eq_true, ltOf_cfK, ltOf_cfK, ltOf_cfK]; omega
theorem cmpK_c (m : World) (x y : Clk) (bk : Nat) (hK : Blk m bk 64 [.func (.func 39) #[] #[]]) : FnR Try.prog 55 [cV x, cV y, .pointer (some ⟨bk, 0, none⟩)] m fun r m' => r = .int .i64 (cfK x y) ∧ Ext m [] m' := by
  refine FnE.enter ⟨_, Try.func55, by kernel_rfl, by kernel_rfl⟩ Try.func55 rfl rfl ?_
  repeat (first | with_reducible refine WP.seq ?_ | with_reducible refine WP.block ?_ | with_reducible refine WP.region ?_)
  refine RL.box rfl rfl (fun b1 m1 hb1 hC1 => ⟨_, rfl, ?_⟩)
  have hB1 : Blk m1 b1 60 (cC x) := hC1.here
  have hE1 : Ext m [] m1 := hC1.new (by omega)
  clear hC1
  refine RL.box rfl rfl (fun b2 m2 hb2 hC2 => ⟨_, rfl, ?_⟩)
  have hB2 : Blk m2 b2 60 (cC y) := hC2.here
  have hE2 : Ext m1 [] m2 := hC2.new (by omega)
  clear hC2
  replace hB1 := hB1.ext hE2 (by simp)
  replace hE2 := hE1.trans hE2 (by simp)
  replace hK := hK.ext hE2 (by simp)
  refine RL.auto T_ok rfl ?_
  refine RL.nil ?_; repeat (first | with_reducible refine QN.block_normal ?_ | with_reducible refine QN.next ?_)
  refine WP.seq ?_
  have ad0 : ∀ (b : Nat) (j : Nat), (⟨b, 0, none⟩ : Addr).add j = ⟨b, j, none⟩ := fun b j => by rw [add_block, Nat.zero_add]
  refine WP.drawQ (fun m' => Ext m2 [] m') [] (by kernel_rfl) (Ext.refl _ _) (by repeat (first | with_reducible exact PanicOk.body | with_reducible refine PanicOk.then_ ?_ | with_reducible refine PanicOk.block_ ?_)) (fun hQ => ?_)
  refine RH.load T_ok hQ 0 (fun m' hm' => (hK.ext hm' (by simp)).cell 0 rfl) rfl (by kernel_rfl) rfl rfl rfl rfl ?_
  refine RH.loadAgg T_ok hQ 1 (cC x) (fun m' hm' j u hu => by rw [ad0]; exact (hB1.ext hm' (by simp)).cell _ hu) rfl (by kernel_rfl) rfl rfl rfl rfl ?_
  refine RH.load T_ok hQ 3 (fun m' hm' => (hK.ext hm' (by simp)).cell 0 rfl) rfl (by kernel_rfl) rfl rfl rfl rfl ?_
  refine RH.loadAgg T_ok hQ 4 (cC y) (fun m' hm' j u hu => by rw [ad0]; exact (hB2.ext hm' (by simp)).cell _ hu) rfl (by kernel_rfl) rfl rfl rfl rfl ?_
  refine RH.only 2 rfl (by kernel_rfl) (fun _ => ?_)
  refine RL.call (fi := []) (ca := []) rfl rfl rfl rfl (keyK_c m2 x) ?_
  rintro _ m3 ⟨rfl, hE3⟩
  refine ⟨_, rfl, RL.nil (RH.cont hE3 ?_)⟩
  refine RH.only 5 rfl (by kernel_rfl) (fun _ => ?_)
  refine RL.call (fi := []) (ca := []) rfl rfl rfl rfl (keyK_c m3 y) ?_
  rintro _ m4 ⟨rfl, hE4⟩
  replace hE4 := hE3.trans hE4 (by simp)
  refine ⟨_, rfl, RL.nil (RH.cont hE4 ?_)⟩
  refine RH.only 6 rfl (by kernel_rfl) (fun _ => ?_)
  refine RL.call (fi := []) (ca := []) rfl rfl rfl rfl (compare_c m4 x.c y.c) ?_
  rintro _ m5 ⟨rfl, hm5⟩
  subst hm5
  refine ⟨_, rfl, RL.nil (RH.cont hE4 ?_)⟩
  refine RH.pure T_ok hQ [7] (by kernel_rfl) rfl ?_
  refine RH.done (by kernel_rfl) (fun _ => ?_)
  repeat (first | with_reducible refine QN.block_normal ?_ | with_reducible refine QN.next ?_)
  refine WP.ret ?_; repeat (first | with_reducible refine QN.then_ret ?_ | with_reducible refine QN.block_ret ?_)
  exact QN.ret1 rfl rfl ⟨_, rfl, rfl, hE2.trans hE4 (by simp)⟩
theorem by_c (m : World) (v : Value) (l : List Clk) (h : Cs m [] v l) (hl : l.length < 1000000000) :
    FnR Try.prog 38 [v, .func (.func 39) #[] #[]] m fun r m' => ∃ l', l'.Perm l ∧ l'.Pairwise (fun x y => x.c ≤ y.c) ∧ VMade m r l' m' := by
  refine FnE.enter ⟨_, Try.func38, by kernel_rfl, by kernel_rfl⟩ Try.func38 rfl rfl ?_
  repeat (first | with_reducible refine WP.seq ?_ | with_reducible refine WP.block ?_ | with_reducible refine WP.region ?_)
  refine RL.box rfl rfl (fun b m1 hb hC => ⟨_, rfl, ?_⟩)
  have hB : Blk m1 b 64 [.func (.func 39) #[] #[]] := hC.here
  have hE1 : Ext m [] m1 := hC.new (by omega)
  clear hC
  refine RL.auto T_ok rfl ?_
  refine RL.nil ?_; repeat (first | with_reducible refine QN.block_normal ?_ | with_reducible refine QN.next ?_); repeat (first | with_reducible refine WP.seq ?_ | with_reducible refine WP.block ?_ | with_reducible refine WP.region ?_)
  refine RL.auto T_ok rfl ?_
  refine RL.call (fi := []) (ca := []) rfl rfl rfl rfl (cloneK_c m1 v l (h.ext0 hE1) hl) ?_
  rintro v2 m2 ⟨S2, hO2, hN2⟩
  refine ⟨_, rfl, ?_⟩
  have hbS : b ∉ S2 := fun hh => by have := hN2.ge b hh; have := hB.lt; omega
  replace hB := hB.ext hN2.1 (by simp)
  refine RL.auto T_ok rfl ?_
  refine RL.nil ?_; repeat (first | with_reducible refine QN.block_normal ?_ | with_reducible refine QN.next ?_); repeat (first | with_reducible refine WP.seq ?_ | with_reducible refine WP.block ?_ | with_reducible refine WP.region ?_)
  refine RL.auto T_ok rfl ?_
  refine RL.call (fi := []) (ca := []) rfl rfl rfl rfl (sortStable_c S2 v2 55 [.pointer (some ⟨b, 0, none⟩)] cfK (fun W => Blk W b 64 [.func (.func 39) #[] #[]]) ⟨fun W x y hW => cmpK_c W x y b hW, fun W W' hW hE => hW.ext hE hbS⟩ swoK m2 l hB hO2 hl) ?_
  rintro _ m3 ⟨rfl, hE3, l3, hO3, hP3, hS3⟩
  refine ⟨_, rfl, ?_⟩
  refine RL.nil ?_; repeat (first | with_reducible refine QN.block_normal ?_ | with_reducible refine QN.next ?_); repeat (first | with_reducible refine WP.seq ?_ | with_reducible refine WP.block ?_ | with_reducible refine WP.region ?_)
  refine RL.auto T_ok rfl ?_
  refine RL.nil ?_; repeat (first | with_reducible refine QN.block_normal ?_ | with_reducible refine QN.next ?_); repeat (first | with_reducible refine WP.seq ?_ | with_reducible refine WP.block ?_ | with_reducible refine WP.region ?_)
  refine WP.ret ?_; repeat (first | with_reducible refine QN.then_ret ?_ | with_reducible refine QN.block_ret ?_)
  refine QN.ret1 rfl rfl ⟨_, rfl, l3, hP3, hS3.imp (fun {x y} hxy => ?_), S2, hO3, ?_, hN2.2.trans' hE1⟩
  · rw [← Bool.not_eq_true, ltOf_cfK] at hxy; omega
  · exact (hE1.trans hN2.1 (by simp)).trans hE3 (fun k hk => .inr (by have := hN2.ge k hk; have := hE1.size; omega))
theorem csC_setK (a : List Clk) (y : Clk) (z : Nat) : ((a ++ [y]).flatMap cC).set (a.length * 2 + 1) (.int .u64 z) = (a ++ [{ y with k := z }]).flatMap cC := by
  rw [List.flatMap_append, List.set_append_right _ _ (by rw [csC_len]; omega), csC_len, List.flatMap_append]
  congr 1
  rw [show a.length * 2 + 1 - a.length * 2 = 1 by omega]
  simp [cC]
theorem minK (a b : Nat) : Value.int .u64 (if (b : Int) < (a : Int) then (b : Int) else (a : Int)) = .int .u64 (min a b : Nat) := congrArg _ (by split <;> omega)
theorem maxK (a b : Nat) : Value.int .u64 (if (b : Int) > (a : Int) then (b : Int) else (a : Int)) = .int .u64 (max a b : Nat) := congrArg _ (by split <;> omega)
theorem vclean_c (m : World) (v : Value) (l : List Clk) (h : Cs m [] v l) (hl : l.length < 100000000) : FnR Try.prog 10 [v] m fun r m' => VMade m r (vclean l) m' := by
  refine FnE.enter ⟨_, Try.func10, by kernel_rfl, by kernel_rfl⟩ Try.func10 rfl rfl ?_
  repeat (first | with_reducible refine WP.seq ?_ | with_reducible refine WP.block ?_ | with_reducible refine WP.region ?_)
  refine RL.auto T_ok rfl ?_
  refine RL.nil ?_; repeat (first | with_reducible refine QN.block_normal ?_ | with_reducible refine QN.next ?_); repeat (first | with_reducible refine WP.seq ?_ | with_reducible refine WP.block ?_ | with_reducible refine WP.region ?_)
  refine RL.auto T_ok rfl ?_
  refine RL.nil ?_; repeat (first | with_reducible refine QN.block_normal ?_ | with_reducible refine QN.next ?_); repeat (first | with_reducible refine WP.seq ?_ | with_reducible refine WP.block ?_ | with_reducible refine WP.region ?_)
  refine RL.auto T_ok rfl ?_
  refine RL.call (fi := []) (ca := []) rfl rfl rfl rfl (by_c m v l h (by omega)) ?_
  rintro v1 m1 ⟨l', hP, hSo, hM⟩
  refine ⟨_, rfl, ?_⟩
  have hE1 := hM.ext
  have hR := hM.cs
  have hl' : l'.length = l.length := hP.length_eq
  obtain ⟨A, c, rfl, _, _⟩ := hR.shape
  clear hM
  refine RL.auto T_ok rfl ?_
  refine RL.nil ?_; repeat (first | with_reducible refine QN.block_normal ?_ | with_reducible refine QN.next ?_); repeat (first | with_reducible refine WP.seq ?_ | with_reducible refine WP.block ?_ | with_reducible refine WP.region ?_)
  refine (WP.loop (X := Nat × Value × List Nat × List Clk) (fun q => [(8, .slice A l'.length c), (9, .int .i64 l'.length), (3, q.2.1), (10, .int .i64 q.1)])
    (fun q m' => q.1 ≤ l'.length ∧ Ev.Own m' q.2.2.1 60 2 q.2.1 q.2.2.2.length (q.2.2.2.reverse.flatMap cC) ∧ New m1 q.2.2.1 m' ∧ VSw (l'.take q.1) q.2.2.2 ∧ ∀ y ∈ q.2.2.2, ∀ x ∈ l'.drop q.1, y.c ≤ x.c) (fun q => l'.length - q.1) (0, .slice none 0 0, [], [])
    (Sub.cons rfl (Sub.cons rfl (Sub.cons rfl (Sub.cons rfl Sub.nil)))) ⟨by simp, Own.empty _ _ _ _, ⟨Ext.refl _ _, FpNew.nil _ _⟩, VSw.nil, (fun _ hh => by cases hh)⟩ ?_)
  rintro ⟨i, ov, S, R⟩ m2 ⟨hi, hO, hN, hV, hle⟩
  simp only at hi hO hN hV hle
  repeat (first | with_reducible refine WP.seq ?_ | with_reducible refine WP.block ?_ | with_reducible refine WP.region ?_)
  refine RL.auto T_ok rfl ?_
  refine RL.nil ?_; repeat (first | with_reducible refine QN.block_normal ?_ | with_reducible refine QN.next ?_); repeat (first | with_reducible refine WP.seq ?_ | with_reducible refine WP.block ?_ | with_reducible refine WP.region ?_)
  refine WP.cond rfl (fun hc => ?_) (fun hc => ?_)
  · replace hc : i < l'.length := by have := of_decide_eq_true hc; simp only at this; omega
    obtain ⟨ad, rfl, hx⟩ := (hR.ext0 hN.1).cell i hc
    have htake : l'.take (i + 1) = l'.take i ++ [l'[i]] := List.take_succ_eq_append_getElem hc
    have hdrop := List.drop_eq_getElem_cons hc
    have hnext := hV.next (x := l'[i]) (fun y hy => hle y hy _ (by rw [hdrop]; exact List.mem_cons_self ..))
    rw [← htake] at hnext
    have hle2 : ∀ y ∈ vsw R l'[i], ∀ x ∈ l'.drop (i + 1), y.c ≤ x.c := fun y hy x hx => by
      have h1 := hnext.2 y hy
      obtain ⟨j, hj, rfl⟩ := List.mem_iff_getElem.1 hx
      rw [List.length_drop] at hj
      rw [List.getElem_drop]
      have := List.pairwise_iff_getElem.1 hSo i (i + 1 + j) hc (by omega) (by omega)
      omega
    have hlR := hV.len
    rw [List.length_take, Nat.min_eq_left hi] at hlR
    generalize l'[i] = x at hx htake hnext hle2
    clear hle
    refine WP.skip ?_; repeat (first | with_reducible refine QN.block_normal ?_ | with_reducible refine QN.next ?_); repeat (first | with_reducible refine WP.seq ?_ | with_reducible refine WP.block ?_ | with_reducible refine WP.region ?_)
    refine RL.indexAddr (k := i) T_ok rfl rfl rfl rfl rfl rfl rfl hc rfl ?_
    refine RL.loadAgg T_ok (cC x) rfl rfl rfl hx rfl ?_
    refine RL.alloc T_ok rfl rfl (fun b m3 hb3 hC3 => ⟨_, rfl, ?_⟩)
    refine RL.storeAgg T_ok (b := b) (i := 0) (vs := cC x) (cs := [.int .u64 0, .int .u64 0]) hC3.blk rfl rfl rfl rfl rfl (by simp) (by simp [cC, Value.oneCell']) rfl ?_
    intro m4 hC4
    have hE4 : Ext m2 [] m4 := (hC3.new (by omega)).trans hC4.ext (fun q hq => .inr (by have h9 : q = b := (by simpa using hq); omega))
    have hB4 : Blk m4 b 60 (cC x) := hC4.blk
    have hbS : b ∉ S := fun hh => by have := hO.lt _ hh; omega
    have hbm : m1.heap.size ≤ b := by have := hN.1.size; omega
    have hO4 := hO.ext hE4 (by simp)
    have hN4 : New m1 S m4 := ⟨hN.1.trans hE4 (by simp), hN.2⟩
    clear hC3 hC4 hO hN hE4 hx
    refine RL.nil ?_; repeat (first | with_reducible refine QN.block_normal ?_ | with_reducible refine QN.next ?_)
    refine WP.seq ?_
    refine WP.cut (X := Bool) (fun q => [(8, .slice (some ad) l'.length c), (9, .int .i64 l'.length), (3, ov), (10, .int .i64 i), (5, .pointer (some ⟨b, 0, none⟩)), (26, .bool q)]) (fun q m' => m' = m4 ∧ q = !x.right) ?_ ?_
    · refine WP.region ?_
      repeat (first | refine RL.pure T_ok 1 rfl ?_ | refine RL.load T_ok rfl rfl rfl (hB4.cell _ rfl) rfl ?_)
      by_cases h1 : x.c < 1
      · refine RL.eqv (v' := .bool true) (congrArg _ (decide_eq_true (by omega))) ?_
        repeat (first | refine RL.pure T_ok 1 rfl ?_ | refine RL.load T_ok rfl rfl rfl (hB4.cell _ rfl) rfl ?_)
        exact RL.nil (QN.cutEnd true (Sub.cons rfl (Sub.cons rfl (Sub.cons rfl (Sub.cons rfl (Sub.cons rfl (Sub.cons rfl Sub.nil)))))) ⟨rfl, by rw [eq_comm, Bool.not_eq_true', ← Bool.not_eq_true, cright_iff]; omega⟩)
      · refine RL.eqv (v' := .bool false) (congrArg _ (decide_eq_false (by omega))) ?_
        repeat (first | refine RL.pure T_ok 1 rfl ?_ | refine RL.load T_ok rfl rfl rfl (hB4.cell _ rfl) rfl ?_)
        by_cases h2 : 9007199254740991 < x.c
        · refine RL.eqv (v' := .bool true) (congrArg _ (decide_eq_true (by omega))) ?_
          repeat (first | refine RL.pure T_ok 1 rfl ?_ | refine RL.load T_ok rfl rfl rfl (hB4.cell _ rfl) rfl ?_)
          exact RL.nil (QN.cutEnd true (Sub.cons rfl (Sub.cons rfl (Sub.cons rfl (Sub.cons rfl (Sub.cons rfl (Sub.cons rfl Sub.nil)))))) ⟨rfl, by rw [eq_comm, Bool.not_eq_true', ← Bool.not_eq_true, cright_iff]; omega⟩)
        · refine RL.eqv (v' := .bool false) (congrArg _ (decide_eq_false (by omega))) ?_
          repeat (first | refine RL.pure T_ok 1 rfl ?_ | refine RL.load T_ok rfl rfl rfl (hB4.cell _ rfl) rfl ?_)
          refine RL.nil (QN.cutEnd (decide (x.k < 1)) (Sub.cons rfl (Sub.cons rfl (Sub.cons rfl (Sub.cons rfl (Sub.cons rfl (Sub.cons ?_ Sub.nil)))))) ⟨rfl, ?_⟩)
          · show some (Value.bool (decide ((x.k : Int) < 1))) = _
            rw [show (decide ((x.k : Int) < 1)) = decide (x.k < 1) by rw [decide_eq_decide]; omega]
          · rw [Bool.eq_iff_iff, decide_eq_true_eq, Bool.not_eq_true', ← Bool.not_eq_true, cright_iff]; omega
    rintro q mc ⟨rfl, hq⟩
    refine WP.cond rfl (fun hqt => ?_) (fun hqf => ?_)
    · rw [hqt] at hq
      have hnr : ¬ x.right = true := by rw [eq_comm, Bool.not_eq_true'] at hq; rw [hq]; simp
      have hv : vsw R x = R := if_neg hnr
      rw [hv] at hnext hle2
      refine WP.exit ?_; repeat (first | with_reducible refine QN.then_exit ?_ | with_reducible refine QN.block_exit ?_ | with_reducible refine QN.block_far rfl ?_ | with_reducible refine QN.block_normal ?_ | with_reducible refine QN.next ?_); repeat (first | with_reducible refine WP.seq ?_ | with_reducible refine WP.block ?_ | with_reducible refine WP.region ?_)
      refine RL.pure T_ok 1 rfl ?_
      refine RL.eqv (v' := .int .i64 ((i + 1 : Nat) : Int)) (congrArg _ (by rw [wrap_i64_in _ (by omega) (by omega)]; rfl)) ?_
      refine RL.auto T_ok rfl ?_
      exact RL.nil (QN.round (i + 1, ov, S, R) (Sub.cons rfl (Sub.cons rfl (Sub.cons rfl (Sub.cons rfl Sub.nil)))) ⟨by show i + 1 ≤ _; omega, hO4, hN4, hnext.1, hle2⟩ (by show _ - (i + 1) < _ - i; omega))
    rw [hqf] at hq
    have hr : x.right = true := by rw [eq_comm, Bool.not_eq_false'] at hq; exact hq
    have hv : vsw R x = vj R x.cut := if_pos hr
    rw [hv] at hnext hle2
    refine WP.skip ?_; repeat (first | with_reducible refine QN.block_normal ?_ | with_reducible refine QN.next ?_); repeat (first | with_reducible refine WP.seq ?_ | with_reducible refine WP.block ?_ | with_reducible refine WP.region ?_)
    refine RL.pure T_ok 1 rfl ?_
    refine RL.load T_ok rfl rfl rfl (hB4.cell 1 rfl) rfl ?_
    refine RL.pure T_ok 1 rfl ?_
    refine RL.eqv (v' := .int .u64 (min x.k 9007199254740991 : Nat)) (minK x.k 9007199254740991) ?_
    refine RL.pure T_ok 1 rfl ?_
    refine RL.store T_ok hB4 (i := 1) (v := .int .u64 (min x.k 9007199254740991 : Nat)) (by simp [cC]) rfl rfl rfl rfl rfl rfl ?_
    intro m5 hC5
    have hB5 : Blk m5 b 60 (cC x.cut) := hC5.blk
    have hE5 : Ext m1 [] m5 := hN4.1.trans hC5.ext (fun k hk => .inr (by have h9 : k = b := (by simpa using hk); omega))
    have hO5 := hO4.ext hC5.ext (fun k hk hh => hbS (by have h9 : k = b := (by simpa using hh); exact h9 ▸ hk))
    have hN5 : New m1 S m5 := ⟨hE5, hN4.2⟩
    clear hC5 hE5 hB4 hO4 hN4
    generalize x.cut = x at hnext hle2 hB5
    obtain ⟨AO, cO, rfl, _⟩ := hO5.shape
    refine RL.nil ?_; repeat (first | with_reducible refine QN.block_normal ?_ | with_reducible refine QN.next ?_); repeat (first | with_reducible refine WP.seq ?_ | with_reducible refine WP.block ?_ | with_reducible refine WP.region ?_)
    cases R with
    | nil =>
      refine RL.pure T_ok 2 rfl ?_
      refine RL.pure T_ok 1 rfl ?_
      refine RL.eqv (v' := .int .i64 (-1)) (congrArg _ (by simp [wrap_i64])) ?_
      refine RL.auto T_ok rfl ?_
      refine RL.nil ?_; repeat (first | with_reducible refine QN.block_normal ?_ | with_reducible refine QN.next ?_)
      refine WP.seq ?_
      refine WP.drawQ (fun m' => m' = m5) [] (by kernel_rfl) rfl (by repeat (first | with_reducible exact PanicOk.body | with_reducible refine PanicOk.then_ ?_ | with_reducible refine PanicOk.block_ ?_)) (fun hQ => ?_)
      refine RH.pure T_ok hQ [0, 1] (by kernel_rfl) rfl ?_
      refine RH.eqv (v' := .bool false) (congrArg _ (by decide)) ?_
      refine RH.pure T_ok hQ [2, 3, 4, 5, 6, 7, 8, 9, 10, 11] (by kernel_rfl) rfl ?_
      refine RH.done (by kernel_rfl) (fun _ => ?_)
      repeat (first | with_reducible refine QN.block_normal ?_ | with_reducible refine QN.next ?_)
      refine WP.condF rfl ?_
      refine WP.skip ?_
      repeat (first | with_reducible refine QN.block_normal ?_ | with_reducible refine QN.next ?_)
      repeat (first | with_reducible refine WP.seq ?_ | with_reducible refine WP.block ?_ | with_reducible refine WP.region ?_)
      refine RL.auto T_ok rfl ?_
      refine RL.loadAgg T_ok (cC x) rfl rfl rfl (fun j u hu => by rw [add_block]; exact hB5.cell _ (by simpa using hu)) rfl ?_
      refine RL.append1 T_ok [.tmp 59] hO5 (us := [cV x]) (cC x) rfl rfl rfl rfl rfl rfl rfl rfl rfl (by simp [cV, cC, Value.cells]) (by simp [cV, Value.cells]) (cC_one x) (by unfold maxLen; simp) (by show (_ + 1) * 16 ≤ _; simp) ?_
      intro v6 m6 S6 hO6 hE6 hF6
      refine ⟨_, rfl, ?_⟩
      have hN6 : New m1 S6 m6 := ⟨hN5.1.trans hE6 (fun k hk => .inr (hN5.ge k hk)), hN5.2.trans hF6 hN5.1.size⟩
      refine RL.auto T_ok rfl ?_
      refine RL.nil ?_; repeat (first | with_reducible refine QN.block_normal ?_ | with_reducible refine QN.next ?_); repeat (first | with_reducible refine WP.seq ?_ | with_reducible refine WP.block ?_ | with_reducible refine WP.region ?_)
      refine RL.pure T_ok 1 rfl ?_
      refine RL.eqv (v' := .int .i64 ((i + 1 : Nat) : Int)) (congrArg _ (by rw [wrap_i64_in _ (by omega) (by omega)]; rfl)) ?_
      refine RL.auto T_ok rfl ?_
      refine RL.nil (QN.round (i + 1, v6, S6, [x]) (Sub.cons rfl (Sub.cons rfl (Sub.cons rfl (Sub.cons rfl Sub.nil)))) ⟨by show i + 1 ≤ _; omega, ?_, hN6, hnext.1, hle2⟩ (by show _ - (i + 1) < _ - i; omega))
      simpa using hO6
    | cons y r =>
      have hrl : (y :: r).length = r.length + 1 := rfl
      have hR5 : Cs m5 [] (.slice AO (y :: r).length cO) (r.reverse ++ [y]) := by
        have := hO5.sl (M := []) (by simp)
        rw [List.reverse_cons] at this; exact this
      obtain ⟨ad5, rfl, hy⟩ := hR5.cell r.length (by simp)
      have hyy : (r.reverse ++ [y])[r.length]'(by simp) = y := by simp
      rw [hyy] at hy
      refine RL.pure T_ok 2 rfl ?_
      refine RL.pure T_ok 1 rfl ?_
      refine RL.eqv (v' := .int .i64 r.length) (congrArg _ (by show IntKind.i64.wrap (((r.length + 1 : Nat) : Int) - 1) = r.length; rw [wrap_i64_in _ (by omega) (by omega)]; omega)) ?_
      refine RL.auto T_ok rfl ?_
      refine RL.nil ?_; repeat (first | with_reducible refine QN.block_normal ?_ | with_reducible refine QN.next ?_)
      refine WP.seq ?_
      refine WP.drawQ (fun m' => m' = m5) [] (by kernel_rfl) rfl (by repeat (first | with_reducible exact PanicOk.body | with_reducible refine PanicOk.then_ ?_ | with_reducible refine PanicOk.block_ ?_)) (fun hQ => ?_)
      refine RH.pure T_ok hQ [0, 1] (by kernel_rfl) rfl ?_
      refine RH.eqv (v' := .bool true) (congrArg _ (decide_eq_true (by omega))) ?_
      refine RH.pure T_ok hQ [2, 3, 4] (by kernel_rfl) rfl ?_
      refine RH.indexAddr T_ok hQ 5 (k := r.length) rfl (by kernel_rfl) rfl rfl rfl rfl rfl rfl rfl (by omega) rfl ?_
      refine RH.pure T_ok hQ [6] (by kernel_rfl) rfl ?_
      refine RH.load T_ok hQ 7 (fun m' hm' => by rw [hm']; exact hy 0 _ rfl) rfl (by kernel_rfl) rfl rfl rfl rfl ?_
      refine RH.pure T_ok hQ [8] (by kernel_rfl) rfl ?_
      refine RH.load T_ok hQ 9 (fun m' hm' => by rw [hm']; exact hB5.cell 0 rfl) rfl (by kernel_rfl) rfl rfl rfl rfl ?_
      refine RH.pure T_ok hQ [10] (by kernel_rfl) rfl ?_
      by_cases h1 : y.c = x.c
      · have hvj : vj (y :: r) x = { y with k := max y.k x.k } :: r := by rw [vj_cons, if_pos h1]
        rw [hvj] at hnext hle2
        refine RH.eqv (v' := .bool true) (congrArg _ (by rw [deq]; exact decide_eq_true h1)) ?_
        refine RH.pure T_ok hQ [11] (by kernel_rfl) rfl ?_
        refine RH.done (by kernel_rfl) (fun _ => ?_)
        repeat (first | with_reducible refine QN.block_normal ?_ | with_reducible refine QN.next ?_)
        refine WP.condT rfl ?_
        have hO8 : Ev.Own m5 S 60 2 (.slice (some ad5) (y :: r).length cO) (y :: r).length ((r.reverse ++ [y]).flatMap cC) := by
          have := hO5; rw [List.reverse_cons] at this; exact this
        obtain ⟨g, cap, cur, hv8, hB8, rfl, hj8, hset⟩ := hO8.putN (j := r.length * 2 + 1) (by rw [hrl]; omega)
        injection hv8 with hv8 hv8'
        injection hv8 with hv8
        subst hv8
        refine WP.seq ?_
        refine WP.drawQ (fun m' => m' = m5) [12] (by kernel_rfl) rfl (by repeat (first | with_reducible exact PanicOk.body | with_reducible refine PanicOk.then_ ?_ | with_reducible refine PanicOk.block_ ?_)) (fun hQ => ?_)
        refine RH.pure T_ok hQ [0, 1, 2, 3] (by kernel_rfl) rfl ?_
        refine RH.indexAddr T_ok hQ 4 (k := r.length) rfl (by kernel_rfl) rfl rfl rfl rfl rfl rfl rfl (by omega) rfl ?_
        refine RH.pure T_ok hQ [5] (by kernel_rfl) rfl ?_
        refine RH.load T_ok hQ 6 (fun m' hm' => by rw [hm']; exact hy 1 _ rfl) rfl (by kernel_rfl) rfl rfl rfl rfl ?_
        refine RH.pure T_ok hQ [7] (by kernel_rfl) rfl ?_
        refine RH.load T_ok hQ 8 (fun m' hm' => by rw [hm']; exact hB5.cell 1 rfl) rfl (by kernel_rfl) rfl rfl rfl rfl ?_
        refine RH.pure T_ok hQ [9] (by kernel_rfl) rfl ?_
        refine RH.eqv (v' := .int .u64 (max y.k x.k : Nat)) (maxK y.k x.k) ?_
        refine RH.indexAddr T_ok hQ 10 (k := r.length) rfl (by kernel_rfl) rfl rfl rfl rfl rfl rfl rfl (by omega) rfl ?_
        refine RH.eqv (v' := .pointer (some ⟨g, r.length * 2, none⟩)) (congrArg (fun q => Value.pointer (some q)) (by rw [add_block, Nat.zero_add])) ?_
        refine RH.pure T_ok hQ [11] (by kernel_rfl) rfl ?_
        refine RH.only 12 rfl (by kernel_rfl) (fun _ => ?_)
        refine RL.store T_ok hB8 (i := r.length * 2 + 1) (v := .int .u64 (max y.k x.k : Nat)) hj8 rfl rfl rfl rfl rfl rfl ?_
        intro m9 hC9
        have hO9 := hset m9 _ hC9
        rw [show r.length * 2 + 1 = r.reverse.length * 2 + 1 by rw [List.length_reverse], csC_setK, ← List.reverse_cons] at hO9
        have hN9 : New m1 [g] m9 := ⟨hN5.1.trans hC9.ext (fun k hk => .inr (hN5.ge k hk)), hN5.2⟩
        refine RL.nil (RF.cont (by kernel_rfl) ?_)
        refine RF.done (by kernel_rfl) ?_
        repeat (first | with_reducible refine QN.block_normal ?_ | with_reducible refine QN.next ?_)
        refine WP.exit ?_; repeat (first | with_reducible refine QN.then_exit ?_ | with_reducible refine QN.block_exit ?_ | with_reducible refine QN.block_far rfl ?_ | with_reducible refine QN.block_normal ?_ | with_reducible refine QN.next ?_); repeat (first | with_reducible refine WP.seq ?_ | with_reducible refine WP.block ?_ | with_reducible refine WP.region ?_)
        refine RL.pure T_ok 1 rfl ?_
        refine RL.eqv (v' := .int .i64 ((i + 1 : Nat) : Int)) (congrArg _ (by rw [wrap_i64_in _ (by omega) (by omega)]; rfl)) ?_
        refine RL.auto T_ok rfl ?_
        exact RL.nil (QN.round (i + 1, _, [g], { y with k := max y.k x.k } :: r) (Sub.cons rfl (Sub.cons rfl (Sub.cons rfl (Sub.cons rfl Sub.nil)))) ⟨by show i + 1 ≤ _; omega, hO9, hN9, hnext.1, hle2⟩ (by show _ - (i + 1) < _ - i; omega))
      · have hvj : vj (y :: r) x = x :: y :: r := by rw [vj_cons, if_neg h1]
        rw [hvj] at hnext hle2
        refine RH.eqv (v' := .bool false) (congrArg _ (by rw [deq]; exact decide_eq_false h1)) ?_
        refine RH.pure T_ok hQ [11] (by kernel_rfl) rfl ?_
        refine RH.done (by kernel_rfl) (fun _ => ?_)
        repeat (first | with_reducible refine QN.block_normal ?_ | with_reducible refine QN.next ?_)
        refine WP.condF rfl ?_
        refine WP.skip ?_
        repeat (first | with_reducible refine QN.block_normal ?_ | with_reducible refine QN.next ?_)
        repeat (first | with_reducible refine WP.seq ?_ | with_reducible refine WP.block ?_ | with_reducible refine WP.region ?_)
        refine RL.auto T_ok rfl ?_
        refine RL.loadAgg T_ok (cC x) rfl rfl rfl (fun j u hu => by rw [add_block]; exact hB5.cell _ (by simpa using hu)) rfl ?_
        refine RL.append1 T_ok [.tmp 59] hO5 (us := [cV x]) (cC x) rfl rfl rfl rfl rfl rfl rfl rfl rfl (by simp [cV, cC, Value.cells]) (by simp [cV, Value.cells]) (cC_one x) (by unfold maxLen; have := hrl; omega) (by show (_ + 1) * 16 ≤ _; have := hrl; omega) ?_
        intro v6 m6 S6 hO6 hE6 hF6
        refine ⟨_, rfl, ?_⟩
        have hN6 : New m1 S6 m6 := ⟨hN5.1.trans hE6 (fun k hk => .inr (hN5.ge k hk)), hN5.2.trans hF6 hN5.1.size⟩
        refine RL.auto T_ok rfl ?_
        refine RL.nil ?_; repeat (first | with_reducible refine QN.block_normal ?_ | with_reducible refine QN.next ?_); repeat (first | with_reducible refine WP.seq ?_ | with_reducible refine WP.block ?_ | with_reducible refine WP.region ?_)
        refine RL.pure T_ok 1 rfl ?_
        refine RL.eqv (v' := .int .i64 ((i + 1 : Nat) : Int)) (congrArg _ (by rw [wrap_i64_in _ (by omega) (by omega)]; rfl)) ?_
        refine RL.auto T_ok rfl ?_
        refine RL.nil (QN.round (i + 1, v6, S6, x :: y :: r) (Sub.cons rfl (Sub.cons rfl (Sub.cons rfl (Sub.cons rfl Sub.nil)))) ⟨by show i + 1 ≤ _; omega, ?_, hN6, hnext.1, hle2⟩ (by show _ - (i + 1) < _ - i; omega))
        show Ev.Own m6 S6 60 2 v6 ((y :: r).length + 1) ((x :: y :: r).reverse.flatMap cC)
        rw [List.reverse_cons, ← csC_app]
        simpa using hO6
  · replace hc : i = l'.length := by have := of_decide_eq_false hc; simp only at this; omega
    subst hc
    rw [List.take_length] at hV
    have he := hV.done hP
    refine WP.exit ?_; repeat (first | with_reducible refine QN.then_exit ?_ | with_reducible refine QN.block_exit ?_ | with_reducible refine QN.block_far rfl ?_ | with_reducible refine QN.block_normal ?_ | with_reducible refine QN.next ?_); repeat (first | with_reducible refine WP.seq ?_ | with_reducible refine WP.block ?_ | with_reducible refine WP.region ?_)
    refine RL.auto T_ok rfl ?_
    refine RL.nil ?_; repeat (first | with_reducible refine QN.block_normal ?_ | with_reducible refine QN.next ?_); repeat (first | with_reducible refine WP.seq ?_ | with_reducible refine WP.block ?_ | with_reducible refine WP.region ?_)
    refine WP.ret ?_; repeat (first | with_reducible refine QN.then_ret ?_ | with_reducible refine QN.block_ret ?_)
    exact QN.ret1 rfl rfl ⟨_, rfl, S, by rw [← he, List.length_reverse]; exact hO, hE1.trans hN.1 (by simp), hN.2.trans' hE1⟩
end Go.Proofs.Ytmjpcaiehfimgaa
