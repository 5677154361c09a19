/- slices.SortStableFunc at clocks, whole. -/
import Derived.Test.YtmjpcaiehfimgaaVecM
namespace Go.Proofs.Ytmjpcaiehfimgaa
open Go.RowKit Go.Ev Go.Ids Go.Mrg Go.Sort

theorem stable_c (S : List Nat) (A : Option Addr) (n c : Nat) (g : FuncId) (cb : List Value) (cf : Clk → Clk → Int) (K : World → Prop) (hC : Cmp Try.prog S g cb cf K) (hS : SWO (ltOf cf)) (hn : n < 1000000000)
    (m : World) (l : List Clk) (hK : K m) (h : CR m S A n c l) :
    FnR Try.prog 65 [.slice A n c, .int .i64 n, .func (.func g) #[] cb.toArray] m fun r m' => r = .tuple #[] ∧ Ext m S m' ∧ ∃ l', CR m' S A n c l' ∧ l'.Perm l ∧ Up (ltOf cf) l' 0 n := by
  refine FnE.enter ⟨_, Try.func65, by kernel_rfl, by kernel_rfl⟩ Try.func65 rfl rfl ?_
  repeat (first | with_reducible refine WP.seq ?_ | with_reducible refine WP.block ?_ | with_reducible refine WP.region ?_)
  refine RL.auto T_ok rfl ?_
  refine RL.nil ?_; repeat (first | with_reducible refine QN.block_normal ?_ | with_reducible refine QN.next ?_); repeat (first | with_reducible refine WP.seq ?_ | with_reducible refine WP.block ?_ | with_reducible refine WP.region ?_)
  refine RL.auto T_ok rfl ?_
  refine RL.nil ?_; repeat (first | with_reducible refine QN.block_normal ?_ | with_reducible refine QN.next ?_)
  refine WP.cut (X := Nat × List Clk) (fun q => [(0, .slice A n c), (1, .int .i64 n), (2, .func (.func g) #[] cb.toArray), (6, .int .i64 20), (7, .int .i64 ((q.1 * 20 : Nat) : Int))])
    (fun q m' => CR m' S A n c q.2 ∧ Ext m S m' ∧ Seg 0 n l q.2 ∧ Done (ltOf cf) 20 q.2 q.1 ∧ q.1 * 20 ≤ n ∧ n < q.1 * 20 + 20) ?_ ?_
  · refine WP.block ?_
    refine (WP.loop (X := Nat × List Clk) (fun q => [(0, .slice A n c), (1, .int .i64 n), (2, .func (.func g) #[] cb.toArray), (6, .int .i64 20), (7, .int .i64 ((q.1 * 20 : Nat) : Int)), (8, .int .i64 ((q.1 * 20 + 20 : Nat) : Int))])
      (fun q m' => CR m' S A n c q.2 ∧ Ext m S m' ∧ Seg 0 n l q.2 ∧ Done (ltOf cf) 20 q.2 q.1 ∧ q.1 * 20 ≤ n) (fun q => n - q.1) (0, l)
      (Sub.cons rfl (Sub.cons rfl (Sub.cons rfl (Sub.cons rfl (Sub.cons rfl (Sub.cons rfl Sub.nil)))))) ⟨h, Ext.refl _ _, Seg.refl _ _ _, Done.zero _ _ _, by show 0 * 20 ≤ n; omega⟩ ?_)
    rintro ⟨q, l1⟩ m1 ⟨hO, hE, hSg, hD, hq⟩
    simp only at hO hSg hD hq
    repeat (first | with_reducible refine WP.seq ?_ | with_reducible refine WP.block ?_ | with_reducible refine WP.region ?_)
    refine RL.pure T_ok 3 rfl ?_
    by_cases hc : q * 20 + 20 ≤ n
    · refine RL.eqv (v' := .bool true) (congrArg _ (decide_eq_true (by simp only; omega))) ?_
      refine RL.nil ?_; repeat (first | with_reducible refine QN.block_normal ?_ | with_reducible refine QN.next ?_); repeat (first | with_reducible refine WP.seq ?_ | with_reducible refine WP.block ?_ | with_reducible refine WP.region ?_)
      refine WP.condT rfl ?_
      refine WP.skip ?_; repeat (first | with_reducible refine QN.block_normal ?_ | with_reducible refine QN.next ?_); repeat (first | with_reducible refine WP.seq ?_ | with_reducible refine WP.block ?_ | with_reducible refine WP.region ?_)
      refine RL.auto T_ok rfl ?_
      refine RL.call (fi := []) (ca := []) rfl rfl rfl rfl (insert_c m1 S A n c l1 (q * 20) (q * 20 + 20) g cb cf K hC (hC.keep _ _ hK hE) hS hO (by omega) hc hn) ?_
      rintro _ m2 ⟨rfl, hE2, l2, hO2, hS2, hU2⟩
      refine ⟨_, rfl, ?_⟩
      refine RL.nil ?_; repeat (first | with_reducible refine QN.block_normal ?_ | with_reducible refine QN.next ?_); repeat (first | with_reducible refine WP.seq ?_ | with_reducible refine WP.block ?_ | with_reducible refine WP.region ?_)
      refine RL.auto T_ok rfl ?_
      refine RL.nil ?_; repeat (first | with_reducible refine QN.block_normal ?_ | with_reducible refine QN.next ?_); repeat (first | with_reducible refine WP.seq ?_ | with_reducible refine WP.block ?_ | with_reducible refine WP.region ?_)
      refine RL.pure T_ok 3 rfl ?_
      refine RL.eqv (v' := .int .i64 (((q + 1) * 20 + 20 : Nat) : Int)) (congrArg _ (by rw [wrap_i64_in _ (by simp only; omega) (by simp only; omega)]; simp only; omega)) ?_
      refine RL.sub (e' := [(0, .slice A n c), (1, .int .i64 n), (2, .func (.func g) #[] cb.toArray), (6, .int .i64 20), (7, .int .i64 ((q * 20 + 20 : Nat) : Int)), (22, .int .i64 (((q + 1) * 20 + 20 : Nat) : Int))]) (Sub.cons rfl (Sub.cons rfl (Sub.cons rfl (Sub.cons rfl (Sub.cons rfl (Sub.cons rfl Sub.nil)))))) ?_
      rw [show q * 20 + 20 = (q + 1) * 20 by omega] at hU2 hS2 ⊢
      refine RL.auto T_ok rfl ?_
      refine RL.nil ?_
      repeat (first | with_reducible refine QN.block_normal ?_ | with_reducible refine QN.next ?_)
      exact QN.round (q + 1, l2) (Sub.cons rfl (Sub.cons rfl (Sub.cons rfl (Sub.cons rfl (Sub.cons rfl (Sub.cons rfl Sub.nil)))))) ⟨hO2, hE.trans hE2 (fun k hk => .inl hk), hSg.trans (hS2.mono (by omega) (by omega)), hD.next hS2 (by rw [show q * 20 + 20 = (q + 1) * 20 by omega]; exact hU2), by show (q + 1) * 20 ≤ n; omega⟩ (by show n - (q + 1) < n - q; omega)
    · refine RL.eqv (v' := .bool false) (congrArg _ (decide_eq_false (by simp only; omega))) ?_
      refine RL.nil ?_; repeat (first | with_reducible refine QN.block_normal ?_ | with_reducible refine QN.next ?_); repeat (first | with_reducible refine WP.seq ?_ | with_reducible refine WP.block ?_ | with_reducible refine WP.region ?_)
      refine WP.condF rfl ?_
      refine WP.exit ?_
      repeat (first | with_reducible refine QN.then_exit ?_ | with_reducible refine QN.block_exit ?_ | with_reducible refine QN.block_normal ?_)
      exact QN.cutEnd (q, l1) (Sub.cons rfl (Sub.cons rfl (Sub.cons rfl (Sub.cons rfl (Sub.cons rfl Sub.nil))))) ⟨hO, hE, hSg, hD, hq, by show n < q * 20 + 20; omega⟩
  rintro ⟨q, l1⟩ m1 ⟨hO, hE, hSg, hD, hq, hq2⟩
  simp only at hO hSg hD hq hq2
  repeat (first | with_reducible refine WP.seq ?_ | with_reducible refine WP.block ?_ | with_reducible refine WP.region ?_)
  refine RL.auto T_ok rfl ?_
  refine RL.call (fi := []) (ca := []) rfl rfl rfl rfl (insert_c m1 S A n c l1 (q * 20) n g cb cf K hC (hC.keep _ _ hK hE) hS hO hq (Nat.le_refl _) hn) ?_
  rintro _ m2 ⟨rfl, hE2, l2, hO2, hS2, hU2⟩
  refine ⟨_, rfl, ?_⟩
  have hR2 := hD.last hS2 hU2 hq hq2
  replace hE2 := hE.trans hE2 (fun k hk => .inl hk)
  replace hSg := hSg.trans (hS2.mono (by omega) (Nat.le_refl _))
  clear hO hE hD hq hq2 hS2 hU2
  refine RL.nil ?_; repeat (first | with_reducible refine QN.block_normal ?_ | with_reducible refine QN.next ?_); repeat (first | with_reducible refine WP.seq ?_ | with_reducible refine WP.block ?_ | with_reducible refine WP.region ?_)
  refine (WP.loop (X := Nat × List Clk) (fun q => [(0, .slice A n c), (1, .int .i64 n), (2, .func (.func g) #[] cb.toArray), (6, .int .i64 q.1)])
    (fun q m' => 1 ≤ q.1 ∧ CR m' S A n c q.2 ∧ Ext m S m' ∧ Seg 0 n l q.2 ∧ Go.Mrg.Rest (ltOf cf) q.1 q.2 n 0) (fun q => n - q.1) (20, l2)
    (Sub.cons rfl (Sub.cons rfl (Sub.cons rfl (Sub.cons rfl Sub.nil)))) ⟨by show 1 ≤ 20; omega, hO2, hE2, hSg, hR2⟩ ?_)
  clear hO2 hE2 hSg hR2
  rintro ⟨B, l2⟩ m2 ⟨hB1, hO2, hE2, hSg, hR2⟩
  simp only at hB1 hO2 hSg hR2
  repeat (first | with_reducible refine WP.seq ?_ | with_reducible refine WP.block ?_ | with_reducible refine WP.region ?_)
  refine RL.pure T_ok 3 rfl ?_
  by_cases hcB : B < n
  rotate_left
  · refine RL.eqv (v' := .bool false) (congrArg _ (decide_eq_false (by simp only; omega))) ?_
    refine RL.nil ?_; repeat (first | with_reducible refine QN.block_normal ?_ | with_reducible refine QN.next ?_); repeat (first | with_reducible refine WP.seq ?_ | with_reducible refine WP.block ?_ | with_reducible refine WP.region ?_)
    refine WP.condF rfl ?_
    refine WP.exit ?_
    repeat (first | with_reducible refine QN.then_exit ?_ | with_reducible refine QN.block_exit ?_ | with_reducible refine QN.block_far rfl ?_ | with_reducible refine QN.block_normal ?_ | with_reducible refine QN.next ?_)
    exact QN.end0 rfl ⟨_, rfl, rfl, hE2, l2, hO2, hSg.perm, hR2.all (by omega)⟩
  refine RL.eqv (v' := .bool true) (congrArg _ (decide_eq_true (by simp only; omega))) ?_
  refine RL.nil ?_; repeat (first | with_reducible refine QN.block_normal ?_ | with_reducible refine QN.next ?_); repeat (first | with_reducible refine WP.seq ?_ | with_reducible refine WP.block ?_ | with_reducible refine WP.region ?_)
  refine WP.condT rfl ?_
  refine WP.skip ?_; repeat (first | with_reducible refine QN.block_normal ?_ | with_reducible refine QN.next ?_); repeat (first | with_reducible refine WP.seq ?_ | with_reducible refine WP.block ?_ | with_reducible refine WP.region ?_)
  refine RL.pure T_ok 2 rfl ?_
  refine RL.eqv (v' := .int .i64 ((2 * B : Nat) : Int)) (congrArg _ (by rw [wrap_i64_in _ (by simp only; omega) (by simp only; omega)]; simp only; omega)) ?_
  refine RL.auto T_ok rfl ?_
  refine RL.nil ?_; repeat (first | with_reducible refine QN.block_normal ?_ | with_reducible refine QN.next ?_)
  refine WP.cut (X := Nat × List Clk) (fun q => [(0, .slice A n c), (1, .int .i64 n), (2, .func (.func g) #[] cb.toArray), (6, .int .i64 B), (7, .int .i64 ((q.1 * (2 * B) : Nat) : Int))])
    (fun q m' => CR m' S A n c q.2 ∧ Ext m S m' ∧ Seg 0 n l q.2 ∧ Done (ltOf cf) (2 * B) q.2 q.1 ∧ Go.Mrg.Rest (ltOf cf) B q.2 n (2 * q.1) ∧ q.1 * (2 * B) ≤ n ∧ n < q.1 * (2 * B) + 2 * B) ?_ ?_
  · refine WP.block ?_
    have h07 : ((0 : Nat) * (2 * B) : Nat) = 0 := Nat.zero_mul _
    refine (WP.loop (X := Nat × List Clk) (fun q => [(0, .slice A n c), (1, .int .i64 n), (2, .func (.func g) #[] cb.toArray), (6, .int .i64 B), (7, .int .i64 ((q.1 * (2 * B) : Nat) : Int)), (8, .int .i64 ((q.1 * (2 * B) + 2 * B : Nat) : Int))])
      (fun q m' => CR m' S A n c q.2 ∧ Ext m S m' ∧ Seg 0 n l q.2 ∧ Done (ltOf cf) (2 * B) q.2 q.1 ∧ Go.Mrg.Rest (ltOf cf) B q.2 n (2 * q.1) ∧ q.1 * (2 * B) ≤ n) (fun q => n - q.1 * (2 * B)) (0, l2)
      (Sub.cons rfl (Sub.cons rfl (Sub.cons rfl (Sub.cons rfl (Sub.cons (by simp only [h07]; rfl) (Sub.cons (by simp only [h07, Nat.zero_add]; rfl) Sub.nil)))))) ⟨hO2, hE2, hSg, Done.zero _ _ _, hR2, by show 0 * (2 * B) ≤ n; omega⟩ ?_)
    clear hO2 hE2 hSg hR2
    rintro ⟨q, l3⟩ m3 ⟨hO, hE, hSg, hD, hR, hq⟩
    simp only at hO hSg hD hR hq
    obtain ⟨a, ha⟩ : ∃ a, q * (2 * B) = a := ⟨_, rfl⟩
    have ha1 : (q + 1) * (2 * B) = a + 2 * B := by rw [Nat.succ_mul, ha]
    obtain ⟨t1, t2⟩ := hR.two
    rw [ha] at t1 t2 hq
    refine WP.sub (e' := [(0, .slice A n c), (1, .int .i64 n), (2, .func (.func g) #[] cb.toArray), (6, .int .i64 B), (7, .int .i64 (a : Int)), (8, .int .i64 ((a + 2 * B : Nat) : Int))]) (Sub.cons rfl (Sub.cons rfl (Sub.cons rfl (Sub.cons rfl (Sub.cons (by rw [← ha]; rfl) (Sub.cons (by rw [← ha]; rfl) Sub.nil)))))) ?_
    repeat (first | with_reducible refine WP.seq ?_ | with_reducible refine WP.block ?_ | with_reducible refine WP.region ?_)
    refine RL.pure T_ok 3 rfl ?_
    by_cases hc : a + 2 * B ≤ n
    · refine RL.eqv (v' := .bool true) (congrArg _ (decide_eq_true (by omega))) ?_
      refine RL.nil ?_; repeat (first | with_reducible refine QN.block_normal ?_ | with_reducible refine QN.next ?_); repeat (first | with_reducible refine WP.seq ?_ | with_reducible refine WP.block ?_ | with_reducible refine WP.region ?_)
      refine WP.condT rfl ?_
      refine WP.skip ?_; repeat (first | with_reducible refine QN.block_normal ?_ | with_reducible refine QN.next ?_); repeat (first | with_reducible refine WP.seq ?_ | with_reducible refine WP.block ?_ | with_reducible refine WP.region ?_)
      refine RL.pure T_ok 5 rfl ?_
      refine RL.eqv (v' := .int .i64 ((a + B : Nat) : Int)) (congrArg _ (by rw [wrap_i64_in _ (by omega) (by omega)]; omega)) ?_
      refine RL.auto T_ok rfl ?_
      rw [Nat.min_eq_left (by omega)] at t1 t2
      refine RL.call (fi := []) (ca := []) rfl rfl rfl rfl (merge_c S A n c g cb cf K hC hS hn (a + 2 * B - a) m3 l3 a (a + B) (a + 2 * B) (Nat.le_refl _) (hC.keep _ _ hK hE) hO (by omega) (by omega) hc t1 (by rw [show a + 2 * B = a + B + B by omega]; exact t2)) ?_
      rintro _ m4 ⟨rfl, hE4, l4, hO4, hS4, hU4⟩
      refine ⟨_, rfl, ?_⟩
      refine RL.nil ?_; repeat (first | with_reducible refine QN.block_normal ?_ | with_reducible refine QN.next ?_); repeat (first | with_reducible refine WP.seq ?_ | with_reducible refine WP.block ?_ | with_reducible refine WP.region ?_)
      refine RL.auto T_ok rfl ?_
      refine RL.nil ?_; repeat (first | with_reducible refine QN.block_normal ?_ | with_reducible refine QN.next ?_); repeat (first | with_reducible refine WP.seq ?_ | with_reducible refine WP.block ?_ | with_reducible refine WP.region ?_)
      refine RL.pure T_ok 3 rfl ?_
      refine RL.eqv (v' := .int .i64 ((2 * B : Nat) : Int)) (congrArg _ (by rw [wrap_i64_in _ (by omega) (by omega)]; omega)) ?_
      refine RL.pure T_ok 1 rfl ?_
      refine RL.eqv (v' := .int .i64 ((a + 2 * B + 2 * B : Nat) : Int)) (congrArg _ (by rw [wrap_i64_in _ (by omega) (by omega)]; omega)) ?_
      refine RL.auto T_ok rfl ?_
      refine RL.nil ?_
      repeat (first | with_reducible refine QN.block_normal ?_ | with_reducible refine QN.next ?_)
      rw [← ha] at hS4 hU4
      exact QN.round (q + 1, l4) (Sub.cons rfl (Sub.cons rfl (Sub.cons rfl (Sub.cons rfl (Sub.cons (by rw [ha1]; rfl) (Sub.cons (by rw [ha1]; rfl) Sub.nil)))))) ⟨hO4, hE.trans hE4 (fun k hk => .inl hk), hSg.trans (hS4.mono (by omega) (by rw [ha]; omega)), hD.next hS4 hU4, hR.next hS4, by show (q + 1) * (2 * B) ≤ n; rw [ha1]; exact hc⟩ (by show n - (q + 1) * (2 * B) < n - q * (2 * B); rw [ha1, ha]; omega)
    · refine RL.eqv (v' := .bool false) (congrArg _ (decide_eq_false (by omega))) ?_
      refine RL.nil ?_; repeat (first | with_reducible refine QN.block_normal ?_ | with_reducible refine QN.next ?_); repeat (first | with_reducible refine WP.seq ?_ | with_reducible refine WP.block ?_ | with_reducible refine WP.region ?_)
      refine WP.condF rfl ?_
      refine WP.exit ?_
      repeat (first | with_reducible refine QN.then_exit ?_ | with_reducible refine QN.block_exit ?_ | with_reducible refine QN.block_normal ?_)
      exact QN.cutEnd (q, l3) (Sub.cons rfl (Sub.cons rfl (Sub.cons rfl (Sub.cons rfl (Sub.cons (by rw [ha]; rfl) Sub.nil))))) ⟨hO, hE, hSg, hD, hR, by show q * (2 * B) ≤ n; omega, by show n < q * (2 * B) + 2 * B; omega⟩
  clear hO2 hE2 hSg hR2
  rintro ⟨q, l3⟩ m3 ⟨hO, hE, hSg, hD, hR, hq, hq2⟩
  simp only at hO hSg hD hR hq hq2
  obtain ⟨a, ha⟩ : ∃ a, q * (2 * B) = a := ⟨_, rfl⟩
  obtain ⟨t1, t2⟩ := hR.two
  rw [ha] at t1 t2
  refine WP.sub (e' := [(0, .slice A n c), (1, .int .i64 n), (2, .func (.func g) #[] cb.toArray), (6, .int .i64 B), (7, .int .i64 (a : Int))]) (Sub.cons rfl (Sub.cons rfl (Sub.cons rfl (Sub.cons rfl (Sub.cons (by rw [← ha]; rfl) Sub.nil))))) ?_
  refine WP.cut (X := List Clk) (fun _ => [(0, .slice A n c), (1, .int .i64 n), (2, .func (.func g) #[] cb.toArray), (6, .int .i64 B)]) (fun l4 m' => CR m' S A n c l4 ∧ Ext m S m' ∧ Seg (q * (2 * B)) n l3 l4 ∧ Up (ltOf cf) l4 (q * (2 * B)) n) ?_ ?_
  · repeat (first | with_reducible refine WP.seq ?_ | with_reducible refine WP.block ?_ | with_reducible refine WP.region ?_)
    refine RL.pure T_ok 3 rfl ?_
    refine RL.eqv (v' := .int .i64 ((a + B : Nat) : Int)) (congrArg _ (by rw [wrap_i64_in _ (by omega) (by omega)]; omega)) ?_
    refine RL.auto T_ok rfl ?_
    refine RL.nil ?_; repeat (first | with_reducible refine QN.block_normal ?_ | with_reducible refine QN.next ?_); repeat (first | with_reducible refine WP.seq ?_ | with_reducible refine WP.block ?_ | with_reducible refine WP.region ?_)
    refine RL.pure T_ok 3 rfl ?_
    by_cases hc : a + B < n
    · refine RL.eqv (v' := .bool true) (congrArg _ (decide_eq_true (by omega))) ?_
      refine RL.nil ?_; repeat (first | with_reducible refine QN.block_normal ?_ | with_reducible refine QN.next ?_); repeat (first | with_reducible refine WP.seq ?_ | with_reducible refine WP.block ?_ | with_reducible refine WP.region ?_)
      refine WP.condT rfl ?_
      repeat (first | with_reducible refine WP.seq ?_ | with_reducible refine WP.block ?_ | with_reducible refine WP.region ?_)
      refine RL.auto T_ok rfl ?_
      rw [Nat.min_eq_left (by omega)] at t1
      rw [Nat.min_eq_right (by omega)] at t2
      refine RL.call (fi := []) (ca := []) rfl rfl rfl rfl (merge_c S A n c g cb cf K hC hS hn (n - a) m3 l3 a (a + B) n (Nat.le_refl _) (hC.keep _ _ hK hE) hO (by omega) hc (Nat.le_refl _) t1 t2) ?_
      rintro _ m4 ⟨rfl, hE4, l4, hO4, hS4, hU4⟩
      refine ⟨_, rfl, ?_⟩
      exact RL.nil (QN.cutEnd l4 (Sub.cons rfl (Sub.cons rfl (Sub.cons rfl (Sub.cons rfl Sub.nil)))) ⟨hO4, hE.trans hE4 (fun k hk => .inl hk), by rw [ha]; exact hS4, by rw [ha]; exact hU4⟩)
    · refine RL.eqv (v' := .bool false) (congrArg _ (decide_eq_false (by omega))) ?_
      refine RL.nil ?_; repeat (first | with_reducible refine QN.block_normal ?_ | with_reducible refine QN.next ?_); repeat (first | with_reducible refine WP.seq ?_ | with_reducible refine WP.block ?_ | with_reducible refine WP.region ?_)
      refine WP.condF rfl ?_
      refine WP.skip ?_
      rw [Nat.min_eq_right (by omega)] at t1
      exact QN.cutEnd l3 (Sub.cons rfl (Sub.cons rfl (Sub.cons rfl (Sub.cons rfl Sub.nil)))) ⟨hO, hE, Seg.refl _ _ _, by rw [ha]; exact t1⟩
  rintro l4 m4 ⟨hO4, hE4, hS4, hU4⟩
  repeat (first | with_reducible refine WP.seq ?_ | with_reducible refine WP.block ?_ | with_reducible refine WP.region ?_)
  refine RL.pure T_ok 2 rfl ?_
  refine RL.eqv (v' := .int .i64 ((B * 2 : Nat) : Int)) (congrArg _ (by rw [wrap_i64_in _ (by omega) (by omega)]; omega)) ?_
  refine RL.auto T_ok rfl ?_
  refine RL.nil ?_
  repeat (first | with_reducible refine QN.block_normal ?_ | with_reducible refine QN.next ?_)
  exact QN.round (B * 2, l4) (Sub.cons rfl (Sub.cons rfl (Sub.cons rfl (Sub.cons rfl Sub.nil)))) ⟨by show 1 ≤ B * 2; omega, hO4, hE4, hSg.trans (hS4.mono (by omega) (Nat.le_refl _)), by rw [show B * 2 = 2 * B by omega]; exact hD.last hS4 hU4 hq hq2⟩ (by show n - B * 2 < n - B; omega)
theorem sortStable_c (S : List Nat) (v : Value) (g : FuncId) (cb : List Value) (cf : Clk → Clk → Int) (K : World → Prop) (hC : Cmp Try.prog S g cb cf K) (hS : SWO (ltOf cf))
    (m : World) (l : List Clk) (hK : K m) (h : Ev.Own m S 60 2 v l.length (l.flatMap cC)) (hn : l.length < 1000000000) :
    FnR Try.prog 54 [v, .func (.func g) #[] cb.toArray] m fun r m' => r = .tuple #[] ∧ Ext m S m' ∧ ∃ l' : List Clk, Ev.Own m' S 60 2 v l'.length (l'.flatMap cC) ∧ l'.Perm l ∧ l'.Pairwise (fun x y => ltOf cf y x = false) := by
  obtain ⟨A, c, rfl, _⟩ := h.shape
  refine FnE.enter ⟨_, Try.func54, by kernel_rfl, by kernel_rfl⟩ Try.func54 rfl rfl ?_
  repeat (first | with_reducible refine WP.seq ?_ | with_reducible refine WP.block ?_ | with_reducible refine WP.region ?_)
  refine RL.auto T_ok rfl ?_
  refine RL.call (fi := []) (ca := []) rfl rfl rfl rfl (stable_c S A l.length c g cb cf K hC hS hn m l hK h) ?_
  rintro _ m2 ⟨rfl, hE2, l2, hO2, hP, hU⟩
  refine ⟨_, rfl, ?_⟩
  refine RL.nil (QN.end0 rfl ⟨_, rfl, rfl, hE2, l2, by rw [hP.length_eq]; exact hO2, hP, ?_⟩)
  rw [List.pairwise_iff_getElem]
  intro i j hi hj hij
  exact hU i j _ _ (Nat.zero_le _) hij (by rw [← hP.length_eq]; exact hj) (List.getElem?_eq_getElem hi) (List.getElem?_eq_getElem hj)
end Go.Proofs.Ytmjpcaiehfimgaa
