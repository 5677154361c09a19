/- slices.SortStableFunc at clocks: ranges exchanged, rotated; the insertion sort. -/
import Derived.Test.YtmjpcaiehfimgaaVecK
import Derived.Test.YtmjpcaiehfimgaaIds3
namespace Go.Proofs.Ytmjpcaiehfimgaa
open Go.RowKit Go.Ev Go.Ids Go.Mrg Go.Sort

/-- A row of clocks that is sorted in place. -/
def CR (m : World) (S : List Nat) (A : Option Addr) (n c : Nat) (l : List Clk) : Prop := Ev.Own m S 60 2 (.slice A n c) n (l.flatMap cC)
theorem CR.len {m : World} {S : List Nat} {A : Option Addr} {n c : Nat} {l : List Clk} (h : CR m S A n c l) : l.length = n := by
  have := h.1
  rw [csC_len] at this; omega
theorem swapR_c (m : World) (S : List Nat) (A : Option Addr) (n c : Nat) (l : List Clk) (a b k : Nat) (f : Value) (h : CR m S A n c l) (h1 : a + k ≤ b) (h2 : b + k ≤ n) (hn : n < 1000000000) :
    FnR Try.prog 94 [.slice A n c, .int .i64 a, .int .i64 b, .int .i64 k, f] m fun r m' => r = .tuple #[] ∧ Ext m S m' ∧ CR m' S A n c (swr l a b k) := by
  refine FnE.enter ⟨_, Try.func94, by kernel_rfl, by kernel_rfl⟩ Try.func94 rfl rfl ?_
  repeat (first | with_reducible refine WP.seq ?_ | with_reducible refine WP.block ?_ | with_reducible refine WP.region ?_)
  refine RL.auto T_ok rfl ?_
  refine RL.nil ?_; repeat (first | with_reducible refine QN.block_normal ?_ | with_reducible refine QN.next ?_); repeat (first | with_reducible refine WP.seq ?_ | with_reducible refine WP.block ?_ | with_reducible refine WP.region ?_)
  refine (WP.loop (X := Nat) (fun i => [(0, .slice A n c), (1, .int .i64 a), (2, .int .i64 b), (3, .int .i64 k), (10, .int .i64 i)])
    (fun i m' => i ≤ k ∧ CR m' S A n c (swr l a b i) ∧ Ext m S m') (fun i => k - i) 0
    (Sub.cons rfl (Sub.cons rfl (Sub.cons rfl (Sub.cons rfl (Sub.cons rfl Sub.nil))))) ⟨Nat.zero_le _, h, Ext.refl _ _⟩ ?_)
  rintro i m1 ⟨hi, hO, hE⟩
  have hlen := hO.len
  repeat (first | with_reducible refine WP.seq ?_ | with_reducible refine WP.block ?_ | with_reducible refine WP.region ?_)
  refine RL.auto T_ok rfl ?_
  refine RL.nil ?_; repeat (first | with_reducible refine QN.block_normal ?_ | with_reducible refine QN.next ?_); repeat (first | with_reducible refine WP.seq ?_ | with_reducible refine WP.block ?_ | with_reducible refine WP.region ?_)
  refine WP.cond rfl (fun hc => ?_) (fun hc => ?_)
  · replace hc : i < k := by have := of_decide_eq_true hc; omega
    have hnx : swr l a b (i + 1) = sw (swr l a b i) (a + i) (b + i) := rfl
    generalize swr l a b i = l1 at hO hlen hnx
    refine WP.skip ?_; repeat (first | with_reducible refine QN.block_normal ?_ | with_reducible refine QN.next ?_)
    refine WP.seq ?_
    refine WP.block ?_
    obtain ⟨g0, cap0, cur0, hv8, hB8, rfl, hj8, hset⟩ := hO.putK (j := (a + i) * 2) (k := 2) (by omega) (by omega)
    injection hv8 with hv8 hv8b hv8c
    subst hv8
    have hR : Cs m1 [] (.slice (some ⟨g0, 0, none⟩) n c) l1 := hO.sl (by simp)
    refine WP.drawQ (fun m' => m' = m1) [4, 5, 6, 7, 14, 15, 16, 17, 21, 22, 23] (by kernel_rfl) rfl (by repeat (first | with_reducible exact PanicOk.body | with_reducible refine PanicOk.then_ ?_ | with_reducible refine PanicOk.block_ ?_)) (fun hQ => ?_)
    refine RH.pureF T_ok hQ [4, 5, 6, 7] (by kernel_rfl) rfl ?_
    refine RH.eqv (v' := .int .i64 ((b + i : Nat) : Int)) (congrArg _ (by rw [wrap_i64_in _ (by omega) (by omega)]; omega)) ?_
    refine RH.pureF T_ok hQ [14, 15, 16, 17] (by kernel_rfl) rfl ?_
    refine RH.eqv (v' := .int .i64 ((a + i : Nat) : Int)) (congrArg _ (by rw [wrap_i64_in _ (by omega) (by omega)]; omega)) ?_
    refine RH.pure T_ok hQ [0, 1, 2, 3] (by kernel_rfl) rfl ?_
    refine RH.eqv (v' := .int .i64 ((a + i : Nat) : Int)) (congrArg _ (by rw [wrap_i64_in _ (by omega) (by omega)]; omega)) ?_
    refine RH.pure T_ok hQ [8, 9, 10, 11] (by kernel_rfl) rfl ?_
    refine RH.eqv (v' := .int .i64 ((b + i : Nat) : Int)) (congrArg _ (by rw [wrap_i64_in _ (by omega) (by omega)]; omega)) ?_
    refine RH.indexAddr T_ok hQ 12 (k := b + i) rfl (by kernel_rfl) rfl rfl rfl rfl rfl rfl rfl (by omega) rfl ?_
    refine RH.loadAgg T_ok hQ 13 (cC l1[b + i]) (fun m' hm' => by rw [hm']; exact cS_at hR (b + i) (by omega)) rfl (by kernel_rfl) rfl rfl rfl rfl ?_
    refine RH.indexAddr T_ok hQ 18 (k := a + i) rfl (by kernel_rfl) rfl rfl rfl rfl rfl rfl rfl (by omega) rfl ?_
    refine RH.loadAgg T_ok hQ 19 (cC l1[a + i]) (fun m' hm' => by rw [hm']; exact cS_at hR (a + i) (by omega)) rfl (by kernel_rfl) rfl rfl rfl rfl ?_
    refine RH.indexAddr T_ok hQ 20 (k := a + i) rfl (by kernel_rfl) rfl rfl rfl rfl rfl rfl rfl (by omega) rfl ?_
    refine RH.eqv (v' := .pointer (some ⟨g0, (a + i) * 2, none⟩)) (congrArg (fun q => Value.pointer (some q)) (by rw [add_block, Nat.zero_add])) ?_
    refine RH.only 21 rfl (by kernel_rfl) (fun _ => ?_)
    refine RL.storeAgg T_ok (b := g0) (i := (a + i) * 2) (vs := cC l1[b + i]) (cs := cur0) hB8 rfl rfl rfl rfl rfl hj8 (cC_one _) rfl ?_
    intro m8 hC8
    have hO8 := hset m8 _ rfl hC8
    rw [csC_set l1 (a + i) _ (by omega)] at hO8
    refine RL.nil (RF.cont (by kernel_rfl) ?_)
    refine RF.only 22 rfl (by kernel_rfl) ?_
    refine RL.indexAddr (k := b + i) T_ok rfl rfl rfl rfl rfl rfl rfl (by omega) rfl ?_
    refine RL.eqv (v' := .pointer (some ⟨g0, (b + i) * 2, none⟩)) (congrArg (fun q => Value.pointer (some q)) (by rw [add_block, Nat.zero_add])) ?_
    refine RL.nil (RF.cont (by kernel_rfl) ?_)
    obtain ⟨g1, cap1, cur1, hv9, hB9, hS9, hj9, hset9⟩ := hO8.putK (j := (b + i) * 2) (k := 2) (by omega) (by omega)
    cases hv9
    refine RF.only 23 rfl (by kernel_rfl) ?_
    refine RL.storeAgg T_ok (b := g0) (i := (b + i) * 2) (vs := cC l1[a + i]) (cs := cur1) hB9 rfl rfl rfl rfl rfl hj9 (cC_one _) rfl ?_
    intro m9 hC9
    have hO9 := hset9 m9 _ rfl hC9
    rw [csC_set _ (b + i) _ (by rw [List.length_set]; omega), ← sw_of (p := a + i) (q := b + i) (by omega) (by omega)] at hO9
    have hE9 : Ext m1 [g0] m9 := hC8.ext.trans hC9.ext (fun k hk => .inl hk)
    refine RL.nil (RF.cont (by kernel_rfl) ?_)
    refine RF.done (by kernel_rfl) ?_
    repeat (first | with_reducible refine QN.block_normal ?_ | with_reducible refine QN.next ?_)
    repeat (first | with_reducible refine WP.seq ?_ | with_reducible refine WP.block ?_ | with_reducible refine WP.region ?_)
    refine RL.pure T_ok 2 rfl ?_
    refine RL.eqv (v' := .int .i64 ((i + 1 : Nat) : Int)) (congrArg _ (by rw [wrap_i64_in _ (by omega) (by omega)]; rfl)) ?_
    refine RL.auto T_ok rfl ?_
    refine RL.nil (QN.round (i + 1) (Sub.cons rfl (Sub.cons rfl (Sub.cons rfl (Sub.cons rfl (Sub.cons rfl Sub.nil))))) ⟨hc, ?_, hE.trans hE9 (fun k hk => .inl hk)⟩ (by omega))
    rw [hnx]; exact hO9
  · replace hc : i = k := by have := of_decide_eq_false hc; omega
    subst hc
    refine WP.exit ?_
    repeat (first | with_reducible refine QN.then_exit ?_ | with_reducible refine QN.block_exit ?_ | with_reducible refine QN.block_far rfl ?_ | with_reducible refine QN.block_normal ?_ | with_reducible refine QN.next ?_)
    exact QN.end0 rfl ⟨_, rfl, rfl, hE, hO⟩
theorem rotate_c (m : World) (S : List Nat) (A : Option Addr) (n c : Nat) (l : List Clk) (a md b : Nat) (f : Value) (h : CR m S A n c l) (h1 : a < md) (h2 : md < b) (hb : b ≤ n) (hn : n < 1000000000) :
    FnR Try.prog 83 [.slice A n c, .int .i64 a, .int .i64 md, .int .i64 b, f] m fun r m' => r = .tuple #[] ∧ Ext m S m' ∧ ∃ l', CR m' S A n c l' ∧ Seg a b l l' ∧ Rot l l' md (md - a) (b - md) := by
  refine FnE.enter ⟨_, Try.func83, by kernel_rfl, by kernel_rfl⟩ Try.func83 rfl rfl ?_
  repeat (first | with_reducible refine WP.seq ?_ | with_reducible refine WP.block ?_ | with_reducible refine WP.region ?_)
  refine RL.pure T_ok 3 rfl ?_
  refine RL.eqv (v' := .int .i64 ((md - a : Nat) : Int)) (congrArg _ (by rw [wrap_i64_in _ (by first | omega | (simp only; omega)) (by first | omega | (simp only; omega))]; first | omega | (simp only; omega))) ?_
  refine RL.auto T_ok rfl ?_
  refine RL.nil ?_; repeat (first | with_reducible refine QN.block_normal ?_ | with_reducible refine QN.next ?_); repeat (first | with_reducible refine WP.seq ?_ | with_reducible refine WP.block ?_ | with_reducible refine WP.region ?_)
  refine RL.pure T_ok 3 rfl ?_
  refine RL.eqv (v' := .int .i64 ((b - md : Nat) : Int)) (congrArg _ (by rw [wrap_i64_in _ (by first | omega | (simp only; omega)) (by first | omega | (simp only; omega))]; first | omega | (simp only; omega))) ?_
  refine RL.auto T_ok rfl ?_
  refine RL.nil ?_; repeat (first | with_reducible refine QN.block_normal ?_ | with_reducible refine QN.next ?_); repeat (first | with_reducible refine WP.seq ?_ | with_reducible refine WP.block ?_ | with_reducible refine WP.region ?_)
  refine (WP.loop (X := Nat × Nat × List Clk) (fun q => [(0, .slice A n c), (2, .int .i64 md), (4, f), (10, .int .i64 q.1), (11, .int .i64 q.2.1)])
    (fun q m' => 1 ≤ q.1 ∧ 1 ≤ q.2.1 ∧ q.1 ≤ md - a ∧ q.2.1 ≤ b - md ∧ CR m' S A n c q.2.2 ∧ Ext m S m' ∧ Seg a b l q.2.2 ∧ (∀ l', Rot q.2.2 l' md q.1 q.2.1 → Rot l l' md (md - a) (b - md))) (fun q => q.1 + q.2.1) (md - a, b - md, l)
    (Sub.cons rfl (Sub.cons rfl (Sub.cons rfl (Sub.cons rfl (Sub.cons rfl Sub.nil))))) ⟨by show 1 ≤ md - a; omega, by show 1 ≤ b - md; omega, Nat.le_refl _, Nat.le_refl _, h, Ext.refl _ _, Seg.refl _ _ _, fun _ hh => hh⟩ ?_)
  rintro ⟨i, j, l1⟩ m1 ⟨hi, hj, hia, hjb, hO, hE, hS, hR⟩
  simp only at hi hj hia hjb hO hS hR
  have hlen := hO.len
  repeat (first | with_reducible refine WP.seq ?_ | with_reducible refine WP.block ?_ | with_reducible refine WP.region ?_)
  refine RL.pure T_ok 3 rfl ?_
  by_cases hij : i = j
  · refine RL.eqv (v' := .bool false) (congrArg _ (by rw [bne_nat']; exact decide_eq_false (fun hh => hh hij))) ?_
    subst hij
    refine RL.nil ?_; repeat (first | with_reducible refine QN.block_normal ?_ | with_reducible refine QN.next ?_); repeat (first | with_reducible refine WP.seq ?_ | with_reducible refine WP.block ?_ | with_reducible refine WP.region ?_)
    refine WP.condF rfl ?_
    refine WP.exit ?_; repeat (first | with_reducible refine QN.then_exit ?_ | with_reducible refine QN.block_exit ?_ | with_reducible refine QN.block_far rfl ?_ | with_reducible refine QN.block_normal ?_ | with_reducible refine QN.next ?_); repeat (first | with_reducible refine WP.seq ?_ | with_reducible refine WP.block ?_ | with_reducible refine WP.region ?_)
    refine RL.pure T_ok 4 rfl ?_
    refine RL.eqv (v' := .int .i64 ((md - i : Nat) : Int)) (congrArg _ (by rw [wrap_i64_in _ (by first | omega | (simp only; omega)) (by first | omega | (simp only; omega))]; first | omega | (simp only; omega))) ?_
    refine RL.auto T_ok rfl ?_
    refine RL.call (fi := []) (ca := []) rfl rfl rfl rfl (swapR_c m1 S A n c l1 (md - i) md i f hO (by omega) (by omega) hn) ?_
    rintro _ m2 ⟨rfl, hE2, hO2⟩
    refine ⟨_, rfl, ?_⟩
    refine RL.nil (QN.end0 rfl ⟨_, rfl, rfl, hE.trans hE2 (fun k hk => .inl hk), _, hO2, hS.trans (Seg.swr (by omega) (by omega) (by omega) (by omega)), hR _ (Rot.last (by omega) (by omega))⟩)
  · refine RL.eqv (v' := .bool true) (congrArg _ (by rw [bne_nat']; exact decide_eq_true hij)) ?_
    refine RL.nil ?_; repeat (first | with_reducible refine QN.block_normal ?_ | with_reducible refine QN.next ?_); repeat (first | with_reducible refine WP.seq ?_ | with_reducible refine WP.block ?_ | with_reducible refine WP.region ?_)
    refine WP.condT rfl ?_
    refine WP.skip ?_; repeat (first | with_reducible refine QN.block_normal ?_ | with_reducible refine QN.next ?_); repeat (first | with_reducible refine WP.seq ?_ | with_reducible refine WP.block ?_ | with_reducible refine WP.region ?_)
    refine RL.pure T_ok 3 rfl ?_
    by_cases hlt : j < i
    · refine RL.eqv (v' := .bool true) (congrArg _ (decide_eq_true (by first | omega | (simp only; omega)))) ?_
      refine RL.nil ?_; repeat (first | with_reducible refine QN.block_normal ?_ | with_reducible refine QN.next ?_); repeat (first | with_reducible refine WP.seq ?_ | with_reducible refine WP.block ?_ | with_reducible refine WP.region ?_)
      refine WP.condT rfl ?_
      repeat (first | with_reducible refine WP.seq ?_ | with_reducible refine WP.block ?_ | with_reducible refine WP.region ?_)
      refine RL.pure T_ok 4 rfl ?_
      refine RL.eqv (v' := .int .i64 ((md - i : Nat) : Int)) (congrArg _ (by rw [wrap_i64_in _ (by first | omega | (simp only; omega)) (by first | omega | (simp only; omega))]; first | omega | (simp only; omega))) ?_
      refine RL.auto T_ok rfl ?_
      refine RL.call (fi := []) (ca := []) rfl rfl rfl rfl (swapR_c m1 S A n c l1 (md - i) md j f hO (by omega) (by omega) hn) ?_
      rintro _ m2 ⟨rfl, hE2, hO2⟩
      refine ⟨_, rfl, ?_⟩
      refine RL.nil ?_; repeat (first | with_reducible refine QN.block_normal ?_ | with_reducible refine QN.next ?_); repeat (first | with_reducible refine WP.seq ?_ | with_reducible refine WP.block ?_ | with_reducible refine WP.region ?_)
      refine RL.pure T_ok 3 rfl ?_
      refine RL.eqv (v' := .int .i64 ((i - j : Nat) : Int)) (congrArg _ (by rw [wrap_i64_in _ (by first | omega | (simp only; omega)) (by first | omega | (simp only; omega))]; first | omega | (simp only; omega))) ?_
      refine RL.auto T_ok rfl ?_
      refine RL.nil ?_
      repeat (first | with_reducible refine QN.block_normal ?_ | with_reducible refine QN.next ?_)
      exact QN.round (i - j, j, swr l1 (md - i) md j) (Sub.cons rfl (Sub.cons rfl (Sub.cons rfl (Sub.cons rfl (Sub.cons rfl Sub.nil))))) ⟨by show 1 ≤ i - j; omega, hj, by show i - j ≤ _; omega, hjb, hO2, hE.trans hE2 (fun k hk => .inl hk), hS.trans (Seg.swr (by omega) (by omega) (by omega) (by omega)), fun l' hh => hR l' (Rot.left (by omega) hlt (by omega) hh)⟩ (by show i - j + j < i + j; omega)
    · refine RL.eqv (v' := .bool false) (congrArg _ (decide_eq_false (by first | omega | (simp only; omega)))) ?_
      refine RL.nil ?_; repeat (first | with_reducible refine QN.block_normal ?_ | with_reducible refine QN.next ?_); repeat (first | with_reducible refine WP.seq ?_ | with_reducible refine WP.block ?_ | with_reducible refine WP.region ?_)
      refine WP.condF rfl ?_
      repeat (first | with_reducible refine WP.seq ?_ | with_reducible refine WP.block ?_ | with_reducible refine WP.region ?_)
      refine RL.pure T_ok 4 rfl ?_
      refine RL.eqv (v' := .int .i64 ((md - i : Nat) : Int)) (congrArg _ (by rw [wrap_i64_in _ (by first | omega | (simp only; omega)) (by first | omega | (simp only; omega))]; first | omega | (simp only; omega))) ?_
      refine RL.pure T_ok 3 rfl ?_
      refine RL.eqv (v' := .int .i64 ((md + j : Nat) : Int)) (congrArg _ (by rw [wrap_i64_in _ (by first | omega | (simp only; omega)) (by first | omega | (simp only; omega))]; first | omega | (simp only; omega))) ?_
      refine RL.pure T_ok 2 rfl ?_
      refine RL.eqv (v' := .int .i64 ((md + j - i : Nat) : Int)) (congrArg _ (by rw [wrap_i64_in _ (by first | omega | (simp only; omega)) (by first | omega | (simp only; omega))]; first | omega | (simp only; omega))) ?_
      refine RL.auto T_ok rfl ?_
      refine RL.call (fi := []) (ca := []) rfl rfl rfl rfl (swapR_c m1 S A n c l1 (md - i) (md + j - i) i f hO (by omega) (by omega) hn) ?_
      rintro _ m2 ⟨rfl, hE2, hO2⟩
      refine ⟨_, rfl, ?_⟩
      refine RL.nil ?_; repeat (first | with_reducible refine QN.block_normal ?_ | with_reducible refine QN.next ?_); repeat (first | with_reducible refine WP.seq ?_ | with_reducible refine WP.block ?_ | with_reducible refine WP.region ?_)
      refine RL.pure T_ok 3 rfl ?_
      refine RL.eqv (v' := .int .i64 ((j - i : Nat) : Int)) (congrArg _ (by rw [wrap_i64_in _ (by first | omega | (simp only; omega)) (by first | omega | (simp only; omega))]; first | omega | (simp only; omega))) ?_
      refine RL.auto T_ok rfl ?_
      refine RL.nil ?_
      repeat (first | with_reducible refine QN.block_normal ?_ | with_reducible refine QN.next ?_)
      exact QN.round (i, j - i, swr l1 (md - i) (md + j - i) i) (Sub.cons rfl (Sub.cons rfl (Sub.cons rfl (Sub.cons rfl (Sub.cons rfl Sub.nil))))) ⟨hi, by show 1 ≤ j - i; omega, hia, by show j - i ≤ _; omega, hO2, hE.trans hE2 (fun k hk => .inl hk), hS.trans (Seg.swr (by omega) (by omega) (by omega) (by omega)), fun l' hh => hR l' (Rot.right (by omega) (by omega) (by omega) hh)⟩ (by show i + (j - i) < i + j; omega)
/-- What is asked of how two are compared, while the row S changes. -/
structure Cmp (P : Program) (S : List Nat) (g : FuncId) (cb : List Value) (cf : Clk → Clk → Int) (K : World → Prop) : Prop where
  run : ∀ W x y, K W → FnR P g (cV x :: cV y :: cb) W fun r m' => r = .int .i64 (cf x y) ∧ Ext W [] m'
  keep : ∀ W W', K W → Ext W S W' → K W'
theorem insert_c (m : World) (S : List Nat) (A : Option Addr) (n c : Nat) (l : List Clk) (a b : Nat) (g : FuncId) (cb : List Value) (cf : Clk → Clk → Int) (K : World → Prop) (hC : Cmp Try.prog S g cb cf K) (hK : K m) (hS : SWO (ltOf cf)) (h : CR m S A n c l) (h1 : a ≤ b) (h2 : b ≤ n) (hn : n < 1000000000) :
    FnR Try.prog 77 [.slice A n c, .int .i64 a, .int .i64 b, .func (.func g) #[] cb.toArray] m fun r m' => r = .tuple #[] ∧ Ext m S m' ∧ ∃ l', CR m' S A n c l' ∧ Seg a b l l' ∧ Up (ltOf cf) l' a b := by
  refine FnE.enter ⟨_, Try.func77, by kernel_rfl, by kernel_rfl⟩ Try.func77 rfl rfl ?_
  repeat (first | with_reducible refine WP.seq ?_ | with_reducible refine WP.block ?_ | with_reducible refine WP.region ?_)
  refine RL.pure T_ok 2 rfl ?_
  refine RL.eqv (v' := .int .i64 ((a + 1 : Nat) : Int)) (congrArg _ (by rw [wrap_i64_in _ (by omega) (by omega)]; rfl)) ?_
  refine RL.auto T_ok rfl ?_
  refine RL.nil ?_; repeat (first | with_reducible refine QN.block_normal ?_ | with_reducible refine QN.next ?_); repeat (first | with_reducible refine WP.seq ?_ | with_reducible refine WP.block ?_ | with_reducible refine WP.region ?_)
  refine (WP.loop (X := Nat × List Clk) (fun q => [(0, .slice A n c), (1, .int .i64 a), (2, .int .i64 b), (3, .func (.func g) #[] cb.toArray), (8, .int .i64 q.1)])
    (fun q m' => a + 1 ≤ q.1 ∧ CR m' S A n c q.2 ∧ Ext m S m' ∧ Seg a b l q.2 ∧ Up (ltOf cf) q.2 a (min q.1 b)) (fun q => b - q.1) (a + 1, l)
    (Sub.cons rfl (Sub.cons rfl (Sub.cons rfl (Sub.cons rfl (Sub.cons rfl Sub.nil))))) ⟨Nat.le_refl _, h, Ext.refl _ _, Seg.refl _ _ _, Up.one _ _ (by show min (a + 1) b ≤ a + 1; omega)⟩ ?_)
  rintro ⟨i, l1⟩ m1 ⟨hi, hO, hE, hSg, hU⟩
  simp only at hi hO hSg hU
  repeat (first | with_reducible refine WP.seq ?_ | with_reducible refine WP.block ?_ | with_reducible refine WP.region ?_)
  refine RL.auto T_ok rfl ?_
  refine RL.nil ?_; repeat (first | with_reducible refine QN.block_normal ?_ | with_reducible refine QN.next ?_); repeat (first | with_reducible refine WP.seq ?_ | with_reducible refine WP.block ?_ | with_reducible refine WP.region ?_)
  refine WP.cond rfl (fun hc => ?_) (fun hc => ?_)
  · replace hc : i < b := by have := of_decide_eq_true hc; simp only at this; omega
    rw [Nat.min_eq_left (by omega)] at hU
    refine WP.skip ?_; repeat (first | with_reducible refine QN.block_normal ?_ | with_reducible refine QN.next ?_); repeat (first | with_reducible refine WP.seq ?_ | with_reducible refine WP.block ?_ | with_reducible refine WP.region ?_)
    refine RL.auto T_ok rfl ?_
    refine RL.nil ?_; repeat (first | with_reducible refine QN.block_normal ?_ | with_reducible refine QN.next ?_); repeat (first | with_reducible refine WP.seq ?_ | with_reducible refine WP.block ?_ | with_reducible refine WP.region ?_)
    refine (WP.loop (X := Nat × List Clk) (fun q => [(0, .slice A n c), (1, .int .i64 a), (2, .int .i64 b), (3, .func (.func g) #[] cb.toArray), (8, .int .i64 i), (9, .int .i64 q.1)])
      (fun q m' => a ≤ q.1 ∧ q.1 ≤ i ∧ CR m' S A n c q.2 ∧ Ext m S m' ∧ Seg a b l q.2 ∧ Ins (ltOf cf) q.2 a q.1 (i + 1)) (fun q => q.1) (i, l1)
      (Sub.cons rfl (Sub.cons rfl (Sub.cons rfl (Sub.cons rfl (Sub.cons rfl (Sub.cons rfl Sub.nil)))))) ⟨by show a ≤ i; omega, Nat.le_refl _, hO, hE, hSg, Ins.start hU⟩ ?_)
    clear hO hE hSg hU
    clear m1
    rintro ⟨j, l2⟩ m1 ⟨hja, hji, hO, hE, hSg, hI⟩
    simp only at hja hji hO hSg hI
    have hlen := hO.len
    refine WP.seq ?_
    refine WP.cut (X := Bool) (fun q => [(0, .slice A n c), (1, .int .i64 a), (2, .int .i64 b), (3, .func (.func g) #[] cb.toArray), (8, .int .i64 i), (9, .int .i64 j), (34, .bool q)])
      (fun q m' => Ext m1 [] m' ∧ (q = true → ∃ k x y, j = k + 1 ∧ a ≤ k ∧ l2[k]? = some x ∧ l2[k + 1]? = some y ∧ ltOf cf y x = true) ∧ (q = false → j = a ∨ ∃ k x y, j = k + 1 ∧ a ≤ k ∧ l2[k]? = some x ∧ l2[k + 1]? = some y ∧ ltOf cf y x = false)) ?_ ?_
    · by_cases hj0 : a < j
      rotate_left
      · refine WP.drawQ (fun m' => m' = m1) [] (by kernel_rfl) rfl (by repeat (first | with_reducible exact PanicOk.body | with_reducible refine PanicOk.then_ ?_ | with_reducible refine PanicOk.block_ ?_)) (fun hQ => ?_)
        refine RH.pure T_ok hQ [0, 1, 2] (by kernel_rfl) rfl ?_
        refine RH.eqv (v' := .bool false) (congrArg _ (decide_eq_false (by omega))) ?_
        refine RH.pure T_ok hQ [3, 4, 5, 6, 7, 8, 9, 10, 11, 12, 13, 14, 15, 16] (by kernel_rfl) rfl ?_
        refine RH.done (by kernel_rfl) (fun _ => ?_)
        exact QN.cutEnd false (Sub.cons rfl (Sub.cons rfl (Sub.cons rfl (Sub.cons rfl (Sub.cons rfl (Sub.cons rfl (Sub.cons rfl Sub.nil))))))) ⟨Ext.refl _ _, (fun hh => by cases hh), fun _ => .inl (by omega)⟩
      obtain ⟨k, rfl⟩ : ∃ k, j = k + 1 := ⟨j - 1, by omega⟩
      have hR0 : Cs m1 [] (.slice A n c) l2 := hO.sl (by simp)
      obtain ⟨ad, rfl, _⟩ := hR0.cell k (by omega)
      refine WP.drawQ (fun m' => Ext m1 [] m') [] (by kernel_rfl) (Ext.refl _ _) (by repeat (first | with_reducible exact PanicOk.body | with_reducible refine PanicOk.then_ ?_ | with_reducible refine PanicOk.block_ ?_)) (fun hQ => ?_)
      refine RH.pure T_ok hQ [0, 1, 2] (by kernel_rfl) rfl ?_
      refine RH.eqv (v' := .bool true) (congrArg _ (decide_eq_true (by omega))) ?_
      refine RH.pure T_ok hQ [3, 4, 5, 6] (by kernel_rfl) rfl ?_
      refine RH.indexAddr T_ok hQ 7 (k := k + 1) rfl (by kernel_rfl) rfl rfl rfl rfl rfl rfl rfl (by omega) rfl ?_
      refine RH.loadAgg T_ok hQ 8 (cC l2[k + 1]) (fun m' hm' => cS_at (hR0.ext0 hm') (k + 1) (by omega)) rfl (by kernel_rfl) rfl rfl rfl rfl ?_
      refine RH.pure T_ok hQ [9, 10, 11] (by kernel_rfl) rfl ?_
      refine RH.eqv (v' := .int .i64 ((k : Nat) : Int)) (congrArg _ (by rw [wrap_i64_in _ (by omega) (by omega)]; omega)) ?_
      refine RH.indexAddr T_ok hQ 12 (k := k) rfl (by kernel_rfl) rfl rfl rfl rfl rfl rfl rfl (by omega) rfl ?_
      refine RH.loadAgg T_ok hQ 13 (cC l2[k]) (fun m' hm' => cS_at (hR0.ext0 hm') k (by omega)) rfl (by kernel_rfl) rfl rfl rfl rfl ?_
      refine RH.only 14 rfl (by kernel_rfl) (fun _ => ?_)
      refine RL.call (fi := []) (ca := cb) rfl rfl rfl rfl (hC.run m1 l2[k + 1] l2[k] (hC.keep _ _ hK hE)) ?_
      rintro _ m2 ⟨rfl, hE2⟩
      refine ⟨_, rfl, RL.nil (RH.cont hE2 ?_)⟩
      refine RH.pure T_ok hQ [15] (by kernel_rfl) rfl ?_
      refine RH.eqv (v' := .bool (ltOf cf l2[k + 1] l2[k])) rfl ?_
      refine RH.pure T_ok hQ [16] (by kernel_rfl) rfl ?_
      refine RH.done (by kernel_rfl) (fun _ => ?_)
      have e1 : l2[k]? = some l2[k] := List.getElem?_eq_getElem _
      have e2 : l2[k + 1]? = some l2[k + 1] := List.getElem?_eq_getElem _
      exact QN.cutEnd (ltOf cf l2[k + 1] l2[k]) (Sub.cons rfl (Sub.cons rfl (Sub.cons rfl (Sub.cons rfl (Sub.cons rfl (Sub.cons rfl (Sub.cons rfl Sub.nil))))))) ⟨hE2, (fun hh => ⟨k, _, _, rfl, by omega, e1, e2, hh⟩), fun hh => .inr ⟨k, _, _, rfl, by omega, e1, e2, hh⟩⟩
    rintro q m2 ⟨hE2, hqt, hqf⟩
    replace hO : CR m2 S A n c l2 := hO.ext hE2 (by simp)
    replace hE := hE.trans hE2 (by simp)
    clear hE2
    refine WP.cond rfl (fun hq => ?_) (fun hq => ?_)
    · obtain ⟨k, x, y, rfl, hak, hx, hy, hlt⟩ := hqt hq
      refine WP.skip ?_; repeat (first | with_reducible refine QN.block_normal ?_ | with_reducible refine QN.next ?_)
      refine WP.seq ?_
      refine WP.block ?_
      obtain ⟨g0, cap0, cur0, hv8, hB8, rfl, hj8, hset⟩ := hO.putK (j := (k + 1) * 2) (k := 2) (by omega) (by omega)
      injection hv8 with hv8 hv8b hv8c
      subst hv8
      have hR : Cs m2 [] (.slice (some ⟨g0, 0, none⟩) n c) l2 := hO.sl (by simp)
      refine WP.drawQ (fun m' => m' = m2) [2, 3, 4, 10, 11, 15, 16, 17] (by kernel_rfl) rfl (by repeat (first | with_reducible exact PanicOk.body | with_reducible refine PanicOk.then_ ?_ | with_reducible refine PanicOk.block_ ?_)) (fun hQ => ?_)
      refine RH.pureF T_ok hQ [2, 3, 4] (by kernel_rfl) rfl ?_
      refine RH.eqv (v' := .int .i64 ((k : Nat) : Int)) (congrArg _ (by rw [wrap_i64_in _ (by omega) (by omega)]; omega)) ?_
      refine RH.pureF T_ok hQ [10, 11] (by kernel_rfl) rfl ?_
      refine RH.pure T_ok hQ [0, 1, 5, 6, 7] (by kernel_rfl) rfl ?_
      refine RH.eqv (v' := .int .i64 ((k : Nat) : Int)) (congrArg _ (by rw [wrap_i64_in _ (by omega) (by omega)]; omega)) ?_
      refine RH.indexAddr T_ok hQ 8 (k := k) rfl (by kernel_rfl) rfl rfl rfl rfl rfl rfl rfl (by omega) rfl ?_
      refine RH.loadAgg T_ok hQ 9 (cC l2[k]) (fun m' hm' => by rw [hm']; exact cS_at hR (k) (by omega)) rfl (by kernel_rfl) rfl rfl rfl rfl ?_
      refine RH.indexAddr T_ok hQ 12 (k := k + 1) rfl (by kernel_rfl) rfl rfl rfl rfl rfl rfl rfl (by omega) rfl ?_
      refine RH.loadAgg T_ok hQ 13 (cC l2[k + 1]) (fun m' hm' => by rw [hm']; exact cS_at hR (k + 1) (by omega)) rfl (by kernel_rfl) rfl rfl rfl rfl ?_
      refine RH.indexAddr T_ok hQ 14 (k := k + 1) rfl (by kernel_rfl) rfl rfl rfl rfl rfl rfl rfl (by omega) rfl ?_
      refine RH.eqv (v' := .pointer (some ⟨g0, (k + 1) * 2, none⟩)) (congrArg (fun q => Value.pointer (some q)) (by rw [add_block, Nat.zero_add])) ?_
      refine RH.only 15 rfl (by kernel_rfl) (fun _ => ?_)
      refine RL.storeAgg T_ok (b := g0) (i := (k + 1) * 2) (vs := cC l2[k]) (cs := cur0) hB8 rfl rfl rfl rfl rfl hj8 (cC_one _) rfl ?_
      intro m8 hC8
      have hO8 := hset m8 _ rfl hC8
      rw [csC_set l2 (k + 1) _ (by omega)] at hO8
      refine RL.nil (RF.cont (by kernel_rfl) ?_)
      refine RF.only 16 rfl (by kernel_rfl) ?_
      refine RL.indexAddr (k := k) T_ok rfl rfl rfl rfl rfl rfl rfl (by omega) rfl ?_
      refine RL.eqv (v' := .pointer (some ⟨g0, (k) * 2, none⟩)) (congrArg (fun q => Value.pointer (some q)) (by rw [add_block, Nat.zero_add])) ?_
      refine RL.nil (RF.cont (by kernel_rfl) ?_)
      obtain ⟨g1, cap1, cur1, hv9, hB9, hS9, hj9, hset9⟩ := hO8.putK (j := (k) * 2) (k := 2) (by omega) (by omega)
      cases hv9
      refine RF.only 17 rfl (by kernel_rfl) ?_
      refine RL.storeAgg T_ok (b := g0) (i := (k) * 2) (vs := cC l2[k + 1]) (cs := cur1) hB9 rfl rfl rfl rfl rfl hj9 (cC_one _) rfl ?_
      intro m9 hC9
      have hO9 := hset9 m9 _ rfl hC9
      rw [csC_set _ (k) _ (by rw [List.length_set]; omega), ← sw_of (p := k + 1) (q := k) (by omega) (by omega)] at hO9
      have hE9 : Ext m2 [g0] m9 := hC8.ext.trans hC9.ext (fun k hk => .inl hk)
      refine RL.nil (RF.cont (by kernel_rfl) ?_)
      refine RF.done (by kernel_rfl) ?_
      repeat (first | with_reducible refine QN.block_normal ?_ | with_reducible refine QN.next ?_)
      repeat (first | with_reducible refine WP.seq ?_ | with_reducible refine WP.block ?_ | with_reducible refine WP.region ?_)
      refine RL.pure T_ok 2 rfl ?_
      refine RL.eqv (v' := .int .i64 ((k : Nat) : Int)) (congrArg _ (by rw [wrap_i64_in _ (by omega) (by omega)]; omega)) ?_
      refine RL.auto T_ok rfl ?_
      exact RL.nil (QN.round (k, sw l2 (k + 1) k) (Sub.cons rfl (Sub.cons rfl (Sub.cons rfl (Sub.cons rfl (Sub.cons rfl (Sub.cons rfl Sub.nil)))))) ⟨hak, by show k ≤ i; omega, hO9, hE.trans hE9 (fun k hk => .inl hk), hSg.trans (Seg.sw ⟨by omega, by omega⟩ ⟨by omega, by omega⟩ (by omega)), hI.step hS hak (by omega) (by omega) hx hy hlt⟩ (by show k < k + 1; omega))
    · have hU : Up (ltOf cf) l2 a (i + 1) := by
        rcases hqf hq with rfl | ⟨k, x, y, rfl, hak, hx, hy, hlt⟩
        · exact hI.done_low
        · exact hI.done hS hx hy hlt
      refine WP.exit ?_; repeat (first | with_reducible refine QN.then_exit ?_ | with_reducible refine QN.block_exit ?_ | with_reducible refine QN.block_far rfl ?_ | with_reducible refine QN.block_normal ?_ | with_reducible refine QN.next ?_); repeat (first | with_reducible refine WP.seq ?_ | with_reducible refine WP.block ?_ | with_reducible refine WP.region ?_)
      refine RL.pure T_ok 2 rfl ?_
      refine RL.eqv (v' := .int .i64 ((i + 1 : Nat) : Int)) (congrArg _ (by rw [wrap_i64_in _ (by omega) (by omega)]; rfl)) ?_
      refine RL.auto T_ok rfl ?_
      exact RL.nil (QN.round (i + 1, l2) (Sub.cons rfl (Sub.cons rfl (Sub.cons rfl (Sub.cons rfl (Sub.cons rfl Sub.nil))))) ⟨by show a + 1 ≤ i + 1; omega, hO, hE, hSg, by show Up (ltOf cf) l2 a (min (i + 1) b); rw [Nat.min_eq_left (by omega)]; exact hU⟩ (by show b - (i + 1) < b - i; omega))
  · replace hc : b ≤ i := by have := of_decide_eq_false hc; simp only at this; omega
    rw [Nat.min_eq_right hc] at hU
    refine WP.exit ?_
    repeat (first | with_reducible refine QN.then_exit ?_ | with_reducible refine QN.block_exit ?_ | with_reducible refine QN.block_far rfl ?_ | with_reducible refine QN.block_normal ?_ | with_reducible refine QN.next ?_)
    exact QN.end0 rfl ⟨_, rfl, rfl, hE, l1, hO, hSg, hU⟩
end Go.Proofs.Ytmjpcaiehfimgaa
