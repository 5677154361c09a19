/- How ranges are compared: by client, then From. -/
import Derived.Test.YtmjpcaiehfimgaaIds1
namespace Go.Proofs.Ytmjpcaiehfimgaa
open Go.RowKit Go.Ev Go.Ids

def cmpN (a b : Nat) : Int := if a < b then -1 else if b < a then 1 else 0
theorem cmpN_range (a b : Nat) : cmpN a b = -1 ∨ cmpN a b = 0 ∨ cmpN a b = 1 := by unfold cmpN; split; exact .inl rfl; split; exact .inr (.inr rfl); exact .inr (.inl rfl)
theorem isNaN_c (m : World) (a : Nat) : FnR Try.prog 66 [.int .u64 a] m fun r m' => r = .bool false ∧ m' = m := by
  refine FnE.enter ⟨_, Try.func66, by kernel_rfl, by kernel_rfl⟩ Try.func66 rfl rfl ?_
  repeat (first | with_reducible refine WP.seq ?_ | with_reducible refine WP.block ?_ | with_reducible refine WP.region ?_)
  refine RL.auto T_ok rfl ?_
  refine RL.nil ?_; repeat (first | with_reducible refine QN.block_normal ?_ | with_reducible refine QN.next ?_); repeat (first | with_reducible refine WP.seq ?_ | with_reducible refine WP.block ?_ | with_reducible refine WP.region ?_)
  refine RL.pure T_ok 3 rfl ?_
  refine RL.eqv (v' := .bool false) (congrArg _ (by simp)) ?_
  refine RL.auto T_ok rfl ?_
  refine RL.nil ?_; repeat (first | with_reducible refine QN.block_normal ?_ | with_reducible refine QN.next ?_); repeat (first | with_reducible refine WP.seq ?_ | with_reducible refine WP.block ?_ | with_reducible refine WP.region ?_)
  refine WP.ret ?_; repeat (first | with_reducible refine QN.then_ret ?_ | with_reducible refine QN.block_ret ?_)
  exact QN.ret1 rfl rfl ⟨_, rfl, rfl, rfl⟩
theorem compare_c (m : World) (a b : Nat) : FnR Try.prog 56 [.int .u64 a, .int .u64 b] m fun r m' => r = .int .i64 (cmpN a b) ∧ m' = m := by
  refine FnE.enter ⟨_, Try.func56, by kernel_rfl, by kernel_rfl⟩ Try.func56 rfl rfl ?_
  repeat (first | with_reducible refine WP.seq ?_ | with_reducible refine WP.block ?_ | with_reducible refine WP.region ?_)
  refine RL.auto T_ok rfl ?_
  refine RL.nil ?_; repeat (first | with_reducible refine QN.block_normal ?_ | with_reducible refine QN.next ?_); repeat (first | with_reducible refine WP.seq ?_ | with_reducible refine WP.block ?_ | with_reducible refine WP.region ?_)
  refine RL.auto T_ok rfl ?_
  refine RL.call (fi := []) (ca := []) rfl rfl rfl rfl (isNaN_c m a) ?_
  rintro _ m1 ⟨rfl, rfl⟩
  refine ⟨_, rfl, ?_⟩
  refine RL.auto T_ok rfl ?_
  refine RL.nil ?_; repeat (first | with_reducible refine QN.block_normal ?_ | with_reducible refine QN.next ?_); repeat (first | with_reducible refine WP.seq ?_ | with_reducible refine WP.block ?_ | with_reducible refine WP.region ?_)
  refine RL.auto T_ok rfl ?_
  refine RL.call (fi := []) (ca := []) rfl rfl rfl rfl (isNaN_c m1 b) ?_
  rintro _ m2 ⟨rfl, rfl⟩
  refine ⟨_, rfl, ?_⟩
  refine RL.auto T_ok rfl ?_
  refine RL.nil ?_; repeat (first | with_reducible refine QN.block_normal ?_ | with_reducible refine QN.next ?_); repeat (first | with_reducible refine WP.seq ?_ | with_reducible refine WP.block ?_ | with_reducible refine WP.region ?_)
  refine RL.auto T_ok rfl ?_
  refine RL.nil ?_; repeat (first | with_reducible refine QN.block_normal ?_ | with_reducible refine QN.next ?_); repeat (first | with_reducible refine WP.seq ?_ | with_reducible refine WP.block ?_ | with_reducible refine WP.region ?_)
  refine WP.condF rfl ?_
  refine WP.skip ?_; repeat (first | with_reducible refine QN.block_normal ?_ | with_reducible refine QN.next ?_); repeat (first | with_reducible refine WP.seq ?_ | with_reducible refine WP.block ?_ | with_reducible refine WP.region ?_)
  refine RL.auto T_ok rfl ?_
  refine RL.nil ?_; repeat (first | with_reducible refine QN.block_normal ?_ | with_reducible refine QN.next ?_); repeat (first | with_reducible refine WP.seq ?_ | with_reducible refine WP.block ?_ | with_reducible refine WP.region ?_)
  refine WP.condF rfl ?_
  refine WP.skip ?_; repeat (first | with_reducible refine QN.block_normal ?_ | with_reducible refine QN.next ?_); repeat (first | with_reducible refine WP.seq ?_ | with_reducible refine WP.block ?_ | with_reducible refine WP.region ?_)
  refine RL.auto T_ok rfl ?_
  refine RL.nil ?_; repeat (first | with_reducible refine QN.block_normal ?_ | with_reducible refine QN.next ?_); repeat (first | with_reducible refine WP.seq ?_ | with_reducible refine WP.block ?_ | with_reducible refine WP.region ?_)
  refine WP.cond rfl (fun hc => ?_) (fun hc => ?_)
  · have hc : a < b := by have := of_decide_eq_true hc; omega
    repeat (first | with_reducible refine WP.seq ?_ | with_reducible refine WP.block ?_ | with_reducible refine WP.region ?_)
    refine RL.auto T_ok rfl ?_
    refine RL.nil ?_; repeat (first | with_reducible refine QN.block_normal ?_ | with_reducible refine QN.next ?_); repeat (first | with_reducible refine WP.seq ?_ | with_reducible refine WP.block ?_ | with_reducible refine WP.region ?_)
    refine WP.ret ?_; repeat (first | with_reducible refine QN.then_ret ?_ | with_reducible refine QN.block_ret ?_)
    exact QN.ret1 rfl rfl ⟨_, rfl, by rw [cmpN, if_pos hc], rfl⟩
  have hc : ¬ a < b := by have := of_decide_eq_false hc; omega
  refine WP.skip ?_; repeat (first | with_reducible refine QN.block_normal ?_ | with_reducible refine QN.next ?_); repeat (first | with_reducible refine WP.seq ?_ | with_reducible refine WP.block ?_ | with_reducible refine WP.region ?_)
  refine RL.auto T_ok rfl ?_
  refine RL.nil ?_; repeat (first | with_reducible refine QN.block_normal ?_ | with_reducible refine QN.next ?_); repeat (first | with_reducible refine WP.seq ?_ | with_reducible refine WP.block ?_ | with_reducible refine WP.region ?_)
  refine WP.cond rfl (fun hc2 => ?_) (fun hc2 => ?_)
  · have hc2 : b < a := by have := of_decide_eq_true hc2; omega
    repeat (first | with_reducible refine WP.seq ?_ | with_reducible refine WP.block ?_ | with_reducible refine WP.region ?_)
    refine RL.auto T_ok rfl ?_
    refine RL.nil ?_; repeat (first | with_reducible refine QN.block_normal ?_ | with_reducible refine QN.next ?_); repeat (first | with_reducible refine WP.seq ?_ | with_reducible refine WP.block ?_ | with_reducible refine WP.region ?_)
    refine WP.ret ?_; repeat (first | with_reducible refine QN.then_ret ?_ | with_reducible refine QN.block_ret ?_)
    exact QN.ret1 rfl rfl ⟨_, rfl, by rw [cmpN, if_neg hc, if_pos hc2], rfl⟩
  · have hc2 : ¬ b < a := by have := of_decide_eq_false hc2; omega
    refine WP.skip ?_; repeat (first | with_reducible refine QN.block_normal ?_ | with_reducible refine QN.next ?_); repeat (first | with_reducible refine WP.seq ?_ | with_reducible refine WP.block ?_ | with_reducible refine WP.region ?_)
    refine RL.auto T_ok rfl ?_
    refine RL.nil ?_; repeat (first | with_reducible refine QN.block_normal ?_ | with_reducible refine QN.next ?_); repeat (first | with_reducible refine WP.seq ?_ | with_reducible refine WP.block ?_ | with_reducible refine WP.region ?_)
    refine WP.ret ?_; repeat (first | with_reducible refine QN.then_ret ?_ | with_reducible refine QN.block_ret ?_)
    exact QN.ret1 rfl rfl ⟨_, rfl, by rw [cmpN, if_neg hc, if_neg hc2], rfl⟩
theorem or_c (m : World) (v : Value) (a b : Int) (h : Sl m [] 1 v [.int .i64 a, .int .i64 b]) : FnR Try.prog 71 [v] m fun r m' => r = .int .i64 (if a = 0 then b else a) ∧ m' = m := by
  obtain ⟨A, c, rfl, hlc, _⟩ := h.shape (n := 2) rfl (by omega)
  refine FnE.enter ⟨_, Try.func71, by kernel_rfl, by kernel_rfl⟩ Try.func71 rfl rfl ?_
  repeat (first | with_reducible refine WP.seq ?_ | with_reducible refine WP.block ?_ | with_reducible refine WP.region ?_)
  refine RL.auto T_ok rfl ?_
  refine RL.nil ?_; repeat (first | with_reducible refine QN.block_normal ?_ | with_reducible refine QN.next ?_); repeat (first | with_reducible refine WP.seq ?_ | with_reducible refine WP.block ?_ | with_reducible refine WP.region ?_)
  refine RL.auto T_ok rfl ?_
  refine RL.nil ?_; repeat (first | with_reducible refine QN.block_normal ?_ | with_reducible refine QN.next ?_); repeat (first | with_reducible refine WP.seq ?_ | with_reducible refine WP.block ?_ | with_reducible refine WP.region ?_)
  refine RL.auto T_ok rfl ?_
  refine RL.nil ?_; repeat (first | with_reducible refine QN.block_normal ?_ | with_reducible refine QN.next ?_); repeat (first | with_reducible refine WP.seq ?_ | with_reducible refine WP.block ?_ | with_reducible refine WP.region ?_)
  refine WP.loop (X := Nat) (fun i => [(6, .slice A 2 c), (7, .int .i64 2), (3, .int .i64 0), (8, .int .i64 i)]) (fun i m' => i ≤ 2 ∧ m' = m ∧ (1 ≤ i → a = 0) ∧ (2 ≤ i → b = 0)) (fun i => 2 - i) 0
    (Sub.cons rfl (Sub.cons rfl (Sub.cons rfl (Sub.cons rfl Sub.nil)))) ⟨by omega, rfl, fun h => absurd h (by omega), fun h => absurd h (by omega)⟩ ?_
  rintro i m1 ⟨hi, rfl, h1, h2⟩
  have step : ∀ (x : Int) (hx : [Value.int .i64 a, Value.int .i64 b][i]? = some (.int .i64 x)) (hlt : i < 2), (x ≠ 0 → (if a = 0 then b else a) = x) → (x = 0 → (1 ≤ i + 1 → a = 0) ∧ (2 ≤ i + 1 → b = 0)) → True := fun _ _ _ _ _ => trivial
  repeat (first | with_reducible refine WP.seq ?_ | with_reducible refine WP.block ?_ | with_reducible refine WP.region ?_)
  refine RL.auto T_ok rfl ?_
  refine RL.nil ?_; repeat (first | with_reducible refine QN.block_normal ?_ | with_reducible refine QN.next ?_); repeat (first | with_reducible refine WP.seq ?_ | with_reducible refine WP.block ?_ | with_reducible refine WP.region ?_)
  refine WP.cond rfl (fun hc => ?_) (fun hc => ?_)
  · have hc : i < 2 := by have := of_decide_eq_true hc; omega
    obtain ⟨x, hx, hne, hze⟩ : ∃ x : Int, [Value.int .i64 a, Value.int .i64 b][i]? = some (.int .i64 x) ∧ (x ≠ 0 → (if a = 0 then b else a) = x) ∧ (x = 0 → (1 ≤ i + 1 → a = 0) ∧ (2 ≤ i + 1 → b = 0)) := by
      match i, hc with
      | 0, _ => exact ⟨a, rfl, fun h => by rw [if_neg h], fun h => ⟨fun _ => h, fun h => absurd h (by omega)⟩⟩
      | 1, _ => exact ⟨b, rfl, fun h => by rw [if_pos (h1 (by omega))], fun h => ⟨fun _ => h1 (by omega), fun _ => h⟩⟩
    refine WP.skip ?_; repeat (first | with_reducible refine QN.block_normal ?_ | with_reducible refine QN.next ?_); repeat (first | with_reducible refine WP.seq ?_ | with_reducible refine WP.block ?_ | with_reducible refine WP.region ?_)
    refine RL.index T_ok h (k := i) rfl hc rfl rfl rfl rfl (fun ad _ _ hcell => ⟨_, rfl, ?_⟩)
    have hx := hcell 0 _ (by rw [Nat.mul_one]; exact hx)
    refine RL.load T_ok rfl rfl rfl (by rw [add_add] at hx; exact hx) rfl ?_
    refine RL.auto T_ok rfl ?_
    refine RL.nil ?_; repeat (first | with_reducible refine QN.block_normal ?_ | with_reducible refine QN.next ?_); repeat (first | with_reducible refine WP.seq ?_ | with_reducible refine WP.block ?_ | with_reducible refine WP.region ?_)
    refine RL.pure T_ok 2 rfl ?_
    refine RL.pure T_ok 1 rfl ?_
    by_cases h0 : x = 0
    · refine RL.eqv (v' := .bool false) (congrArg _ (by simp [h0])) ?_
      refine RL.nil ?_; repeat (first | with_reducible refine QN.block_normal ?_ | with_reducible refine QN.next ?_); repeat (first | with_reducible refine WP.seq ?_ | with_reducible refine WP.block ?_ | with_reducible refine WP.region ?_)
      refine WP.condF rfl ?_
      refine WP.skip ?_; repeat (first | with_reducible refine QN.block_normal ?_ | with_reducible refine QN.next ?_); repeat (first | with_reducible refine WP.seq ?_ | with_reducible refine WP.block ?_ | with_reducible refine WP.region ?_)
      refine RL.pure T_ok 1 rfl ?_
      refine RL.eqv (v' := .int .i64 ((i + 1 : Nat) : Int)) (congrArg _ (by rw [wrap_i64_in _ (by omega) (by omega)]; rfl)) ?_
      refine RL.auto T_ok rfl ?_
      exact RL.nil (QN.round (i + 1) (Sub.cons rfl (Sub.cons rfl (Sub.cons rfl (Sub.cons rfl Sub.nil)))) ⟨by omega, rfl, (hze h0).1, (hze h0).2⟩ (by omega))
    · refine RL.eqv (v' := .bool true) (congrArg _ (by simp [h0])) ?_
      refine RL.nil ?_; repeat (first | with_reducible refine QN.block_normal ?_ | with_reducible refine QN.next ?_); repeat (first | with_reducible refine WP.seq ?_ | with_reducible refine WP.block ?_ | with_reducible refine WP.region ?_)
      refine WP.condT rfl ?_
      repeat (first | with_reducible refine WP.seq ?_ | with_reducible refine WP.block ?_ | with_reducible refine WP.region ?_)
      refine RL.auto T_ok rfl ?_
      refine RL.nil ?_; repeat (first | with_reducible refine QN.block_normal ?_ | with_reducible refine QN.next ?_); repeat (first | with_reducible refine WP.seq ?_ | with_reducible refine WP.block ?_ | with_reducible refine WP.region ?_)
      refine WP.ret ?_; repeat (first | with_reducible refine QN.then_ret ?_ | with_reducible refine QN.block_ret ?_)
      exact QN.ret1 rfl rfl ⟨_, rfl, by rw [hne h0], rfl⟩
  · have hc : i = 2 := by have := of_decide_eq_false hc; omega
    refine WP.exit ?_; repeat (first | with_reducible refine QN.then_exit ?_ | with_reducible refine QN.block_exit ?_ | with_reducible refine QN.block_far rfl ?_ | with_reducible refine QN.block_normal ?_ | with_reducible refine QN.next ?_); repeat (first | with_reducible refine WP.seq ?_ | with_reducible refine WP.block ?_ | with_reducible refine WP.region ?_)
    refine RL.auto T_ok rfl ?_
    refine RL.nil ?_; repeat (first | with_reducible refine QN.block_normal ?_ | with_reducible refine QN.next ?_); repeat (first | with_reducible refine WP.seq ?_ | with_reducible refine WP.block ?_ | with_reducible refine WP.region ?_)
    refine WP.ret ?_; repeat (first | with_reducible refine QN.then_ret ?_ | with_reducible refine QN.block_ret ?_)
    exact QN.ret1 rfl rfl ⟨_, rfl, by rw [if_pos (h1 (by omega)), h2 (by omega)], rfl⟩
/-- By client, then From. -/
def cfR (x y : Rng) : Int := if cmpN x.c y.c = 0 then cmpN x.f y.f else cmpN x.c y.c
theorem cmpR_c (m : World) (x y : Rng) : FnR Try.prog 70 [rV x, rV y] m fun r m' => r = .int .i64 (cfR x y) ∧ Ext m [] m' := by
  refine FnE.enter ⟨_, Try.func70, by kernel_rfl, by kernel_rfl⟩ Try.func70 rfl rfl ?_
  repeat (first | with_reducible refine WP.seq ?_ | with_reducible refine WP.block ?_ | with_reducible refine WP.region ?_)
  refine RL.box rfl rfl (fun b m1 hb hC => ⟨_, rfl, ?_⟩)
  refine RL.box rfl rfl (fun b2 m2 hb2 hC2 => ⟨_, rfl, ?_⟩)
  have hE1 : Ext m [] m1 := hC.new (by omega)
  have hE2 : Ext m1 [] m2 := hC2.new (by omega)
  have s1 := hC.size
  have hB0 : Blk m1 b 62 (rC x) := hC.here
  have hB : Blk m2 b 62 (rC x) := hB0.ext hE2 (by simp)
  have hD : Blk m2 b2 62 (rC y) := hC2.here
  have hE : Ext m [] m2 := hE1.trans hE2 (by simp)
  clear hC hC2 hB0 hE1 hE2
  refine RL.auto T_ok rfl ?_
  refine RL.nil (QN.next ?_)
  refine WP.seq ?_
  refine WP.drawQ (fun m' => Blk m' b 62 (rC x) ∧ Blk m' b2 62 (rC y)) [] (by kernel_rfl) ⟨hB, hD⟩ (by repeat (first | with_reducible exact PanicOk.body | with_reducible refine PanicOk.then_ ?_ | with_reducible refine PanicOk.block_ ?_)) (fun hQ => ?_)
  refine RH.pure T_ok hQ [0] (by kernel_rfl) rfl ?_
  refine RH.load T_ok hQ 1 (fun m' h => h.1.cell 0 rfl) rfl (by kernel_rfl) rfl rfl rfl rfl ?_
  refine RH.pure T_ok hQ [2] (by kernel_rfl) rfl ?_
  refine RH.load T_ok hQ 3 (fun m' h => h.2.cell 0 rfl) rfl (by kernel_rfl) rfl rfl rfl rfl ?_
  refine RH.pure T_ok hQ [5] (by kernel_rfl) rfl ?_
  refine RH.load T_ok hQ 6 (fun m' h => h.1.cell 1 rfl) rfl (by kernel_rfl) rfl rfl rfl rfl ?_
  refine RH.pure T_ok hQ [7] (by kernel_rfl) rfl ?_
  refine RH.load T_ok hQ 8 (fun m' h => h.2.cell 1 rfl) rfl (by kernel_rfl) rfl rfl rfl rfl ?_
  refine RH.only 4 rfl (by kernel_rfl) (fun _ => ?_)
  refine RL.call (fi := []) (ca := []) rfl rfl rfl rfl (compare_c m2 x.c y.c) ?_
  rintro _ m3 ⟨rfl, rfl⟩
  refine ⟨_, rfl, RL.nil (RH.cont ⟨hB, hD⟩ ?_)⟩
  refine RH.only 9 rfl (by kernel_rfl) (fun _ => ?_)
  refine RL.call (fi := []) (ca := []) rfl rfl rfl rfl (compare_c m3 x.f y.f) ?_
  rintro _ m4 ⟨rfl, rfl⟩
  refine ⟨_, rfl, RL.nil (RH.cont ⟨hB, hD⟩ ?_)⟩
  refine RH.only 10 rfl (by kernel_rfl) (fun _ => ?_)
  refine RL.buildSlice T_ok [.tmp 9, .tmp 14] [.int .i64 (cmpN x.c y.c), .int .i64 (cmpN x.f y.f)] rfl rfl rfl rfl rfl rfl (by simp [Value.cells]) rfl rfl (fun b5 m5 hb5 hC5 => ⟨_, rfl, ?_⟩)
  have hE5 : Ext m4 [] m5 := hC5.new (by omega)
  refine RL.nil (RH.cont ⟨hB.ext hE5 (by simp), hD.ext hE5 (by simp)⟩ ?_)
  have hS5 : Sl m5 [] 1 (.slice (some ⟨b5, 0, none⟩) 2 2) [.int .i64 (cmpN x.c y.c), .int .i64 (cmpN x.f y.f)] := Sl.of_blk (M := []) (n := 2) (c := 2) (sz := 1) hC5.blk (by simp) (by simp) (by omega) (by unfold maxLen; omega)
  refine RH.only 11 rfl (by kernel_rfl) (fun _ => ?_)
  refine RL.call (fi := []) (ca := []) rfl rfl rfl rfl (or_c m5 _ _ _ hS5) ?_
  rintro _ m6 ⟨rfl, rfl⟩
  refine ⟨_, rfl, RL.nil (RH.cont ⟨hB.ext hE5 (by simp), hD.ext hE5 (by simp)⟩ ?_)⟩
  refine RH.pure T_ok hQ [12] (by kernel_rfl) rfl ?_
  refine RH.done (by kernel_rfl) (fun _ => ?_)
  refine QN.next ?_
  refine WP.ret ?_; repeat (first | with_reducible refine QN.then_ret ?_ | with_reducible refine QN.block_ret ?_)
  exact QN.ret1 rfl rfl ⟨_, rfl, rfl, hE.trans hE5 (by simp)⟩
end Go.Proofs.Ytmjpcaiehfimgaa
