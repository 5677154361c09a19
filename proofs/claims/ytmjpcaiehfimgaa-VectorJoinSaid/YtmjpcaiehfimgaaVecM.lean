/- slices.SortStableFunc at clocks: two runs merged in place. -/
import Derived.Test.YtmjpcaiehfimgaaVecS
namespace Go.Proofs.Ytmjpcaiehfimgaa
open Go.RowKit Go.Ev Go.Ids Go.Mrg Go.Sort

theorem half_v (x : Nat) : ((x : Nat) : Int).fdiv (2 ^ shAmt .u64 1) = ((x / 2 : Nat) : Int) := by
  have h : shAmt .u64 1 = 1 := by decide
  rw [h, fdiv_pow x 1]
def ltAt (cf : Clk → Clk → Int) (l : List Clk) (p q : Nat) : Bool := match l[p]?, l[q]? with
  | some x, some y => ltOf cf x y
  | _, _ => false
theorem ltAt_eq {cf : Clk → Clk → Int} {l : List Clk} {p q : Nat} (hp : p < l.length) (hq : q < l.length) : ltAt cf l p q = ltOf cf l[p] l[q] := by
  unfold ltAt
  rw [List.getElem?_eq_getElem hp, List.getElem?_eq_getElem hq]
theorem ltAt_get {cf : Clk → Clk → Int} {l : List Clk} {p q : Nat} {r : Bool} (hp : p < l.length) (hq : q < l.length) (h : ltAt cf l p q = r) : ∃ x y, l[p]? = some x ∧ l[q]? = some y ∧ ltOf cf x y = r :=
  ⟨_, _, List.getElem?_eq_getElem hp, List.getElem?_eq_getElem hq, by rw [← ltAt_eq hp hq]; exact h⟩
/-- What the two halves hold behind the rotation, or where there was none to do. -/
theorem rot_at {l l' : List Clk} {s md mid : Nat} (h1 : s ≤ md) (h2 : s ≤ mid) (h : Rot l l' md (md - s) (mid - s)) (k : Nat) :
    l'[k]? = if s ≤ k ∧ k < mid then l[k + (md - s)]? else if mid ≤ k ∧ k < mid + md - s then l[k - (mid - s)]? else l[k]? := by
  rw [h k]
  by_cases c1 : s ≤ k ∧ k < mid
  · rw [if_pos c1, if_pos (by omega)]
  · rw [if_neg c1, if_neg (by omega)]
    by_cases c2 : mid ≤ k ∧ k < mid + md - s
    · rw [if_pos c2, if_pos (by omega)]
    · rw [if_neg c2, if_neg (by omega)]
theorem rot_none {l : List Clk} {s md mid : Nat} (h1 : s ≤ md) (h2 : s ≤ mid) (h : s = md ∨ s = mid) (k : Nat) :
    l[k]? = if s ≤ k ∧ k < mid then l[k + (md - s)]? else if mid ≤ k ∧ k < mid + md - s then l[k - (mid - s)]? else l[k]? := by
  by_cases c1 : s ≤ k ∧ k < mid
  · rw [if_pos c1]; congr 1; omega
  · rw [if_neg c1]
    by_cases c2 : mid ≤ k ∧ k < mid + md - s
    · rw [if_pos c2]; congr 1; omega
    · rw [if_neg c2]
set_option maxHeartbeats 2000000 in
theorem merge_c (S : List Nat) (A : Option Addr) (n c : Nat) (g : FuncId) (cb : List Value) (cf : Clk → Clk → Int) (K : World → Prop) (hC : Cmp Try.prog S g cb cf K) (hS : SWO (ltOf cf)) (hn : n < 1000000000) :
    ∀ (d : Nat) (m : World) (l : List Clk) (a md b : Nat), b - a ≤ d → K m → CR m S A n c l → a < md → md < b → b ≤ n → Up (ltOf cf) l a md → Up (ltOf cf) l md b →
    FnR Try.prog 78 [.slice A n c, .int .i64 a, .int .i64 md, .int .i64 b, .func (.func g) #[] cb.toArray] m fun r m' => r = .tuple #[] ∧ Ext m S m' ∧ ∃ l', CR m' S A n c l' ∧ Seg a b l l' ∧ Up (ltOf cf) l' a b := by
  intro d
  induction d with
  | zero => intro m l a md b hd; omega
  | succ d ih =>
  intro m l a md b hd hK h ham hmb hbn hU1 hU2
  have hlen := h.len
  refine FnE.enter ⟨_, Try.func78, by kernel_rfl, by kernel_rfl⟩ Try.func78 rfl rfl ?_
  repeat (first | with_reducible refine WP.seq ?_ | with_reducible refine WP.block ?_ | with_reducible refine WP.region ?_)
  refine RL.pure T_ok 3 rfl ?_
  refine RL.eqv (v' := .int .i64 ((md - a : Nat) : Int)) (congrArg _ (by rw [wrap_i64_in _ (by omega) (by omega)]; omega)) ?_
  refine RL.pure T_ok 1 rfl ?_
  by_cases c1 : md = a + 1
  · refine RL.eqv (v' := .bool true) (congrArg _ (by rw [beq_iff_eq]; omega)) ?_
    subst c1
    refine RL.nil ?_; repeat (first | with_reducible refine QN.block_normal ?_ | with_reducible refine QN.next ?_); repeat (first | with_reducible refine WP.seq ?_ | with_reducible refine WP.block ?_ | with_reducible refine WP.region ?_)
    refine WP.condT rfl ?_
    repeat (first | with_reducible refine WP.seq ?_ | with_reducible refine WP.block ?_ | with_reducible refine WP.region ?_)
    refine RL.auto T_ok rfl ?_
    refine RL.nil ?_; repeat (first | with_reducible refine QN.block_normal ?_ | with_reducible refine QN.next ?_); repeat (first | with_reducible refine WP.seq ?_ | with_reducible refine WP.block ?_ | with_reducible refine WP.region ?_)
    refine RL.auto T_ok rfl ?_
    refine RL.nil ?_; repeat (first | with_reducible refine QN.block_normal ?_ | with_reducible refine QN.next ?_)
    refine WP.cut (X := Nat) (fun i => [(0, .slice A n c), (1, .int .i64 a), (2, .int .i64 ((a + 1 : Nat) : Int)), (3, .int .i64 b), (4, .func (.func g) #[] cb.toArray), (10, .int .i64 i)]) (fun i m' => Srch (fun k => !ltAt cf l k a) (a + 1) b i i ∧ CR m' S A n c l ∧ Ext m S m') ?_ ?_
    · refine WP.block ?_
      refine (WP.loop (X := Nat × Nat) (fun q => [(0, .slice A n c), (1, .int .i64 a), (2, .int .i64 ((a + 1 : Nat) : Int)), (3, .int .i64 b), (4, .func (.func g) #[] cb.toArray), (10, .int .i64 q.1), (11, .int .i64 q.2)])
        (fun q m' => Srch (fun k => !ltAt cf l k a) (a + 1) b q.1 q.2 ∧ CR m' S A n c l ∧ Ext m S m') (fun q => q.2 - q.1) (a + 1, b)
        (Sub.cons rfl (Sub.cons rfl (Sub.cons rfl (Sub.cons rfl (Sub.cons rfl (Sub.cons rfl (Sub.cons rfl Sub.nil))))))) ⟨Srch.start _ (by omega), h, Ext.refl _ _⟩ ?_)
      rintro ⟨i, j⟩ m1 ⟨hs, hO, hE⟩
      simp only at hs
      obtain ⟨le1, le2, le3⟩ := hs.le
      repeat (first | with_reducible refine WP.seq ?_ | with_reducible refine WP.block ?_ | with_reducible refine WP.region ?_)
      refine RL.auto T_ok rfl ?_
      refine RL.nil ?_; repeat (first | with_reducible refine QN.block_normal ?_ | with_reducible refine QN.next ?_); repeat (first | with_reducible refine WP.seq ?_ | with_reducible refine WP.block ?_ | with_reducible refine WP.region ?_)
      refine WP.cond rfl (fun hc => ?_) (fun hc => ?_)
      · replace hc : i < j := by have := of_decide_eq_true hc; simp only at this; omega
        refine WP.skip ?_; repeat (first | with_reducible refine QN.block_normal ?_ | with_reducible refine QN.next ?_); repeat (first | with_reducible refine WP.seq ?_ | with_reducible refine WP.block ?_ | with_reducible refine WP.region ?_)
        refine RL.pure T_ok 3 rfl ?_
        refine RL.eqv (v' := .int .i64 ((i + j : Nat) : Int)) (congrArg _ (by rw [wrap_i64_in _ (by omega) (by omega)]; omega)) ?_
        refine RL.pure T_ok 1 rfl ?_
        refine RL.eqv (v' := .int .u64 ((i + j : Nat) : Int)) (congrArg _ (by rw [wrap_u64_in _ (by omega) (by omega)])) ?_
        refine RL.pure T_ok 1 rfl ?_
        refine RL.eqv (v' := .int .u64 (((i + j) / 2 : Nat) : Int)) (congrArg _ (half_v _)) ?_
        refine RL.pure T_ok 1 rfl ?_
        refine RL.eqv (v' := .int .i64 (((i + j) / 2 : Nat) : Int)) (congrArg _ (by rw [wrap_i64_in _ (by omega) (by omega)])) ?_
        refine RL.auto T_ok rfl ?_
        refine RL.nil ?_; repeat (first | with_reducible refine QN.block_normal ?_ | with_reducible refine QN.next ?_)
        have hh1 : i ≤ (i + j) / 2 := by omega
        have hh2 : (i + j) / 2 < j := by omega
        generalize (i + j) / 2 = hh at hh1 hh2
        repeat (first | with_reducible refine WP.seq ?_ | with_reducible refine WP.block ?_ | with_reducible refine WP.region ?_)
        have hR0 : Cs m1 [] (.slice A n c) l := hO.sl (by simp)
        obtain ⟨ad, rfl, _⟩ := hR0.cell (hh) (by omega)
        refine WP.drawQ (fun m' => Ext m1 [] m') [] (by kernel_rfl) (Ext.refl _ _) (by repeat (first | with_reducible exact PanicOk.body | with_reducible refine PanicOk.then_ ?_ | with_reducible refine PanicOk.block_ ?_)) (fun hQ => ?_)
        refine RH.pure T_ok hQ [0, 1, 2] (by kernel_rfl) rfl ?_
        refine RH.indexAddr T_ok hQ 3 (k := hh) rfl (by kernel_rfl) rfl rfl rfl rfl rfl rfl rfl (by omega) rfl ?_
        refine RH.loadAgg T_ok hQ 4 (cC l[hh]) (fun m' hm' => cS_at (hR0.ext0 hm') (hh) (by omega)) rfl (by kernel_rfl) rfl rfl rfl rfl ?_
        refine RH.pure T_ok hQ [5, 6] (by kernel_rfl) rfl ?_
        refine RH.indexAddr T_ok hQ 7 (k := a) rfl (by kernel_rfl) rfl rfl rfl rfl rfl rfl rfl (by omega) rfl ?_
        refine RH.loadAgg T_ok hQ 8 (cC l[a]) (fun m' hm' => cS_at (hR0.ext0 hm') (a) (by omega)) rfl (by kernel_rfl) rfl rfl rfl rfl ?_
        refine RH.only 9 rfl (by kernel_rfl) (fun _ => ?_)
        refine RL.call (fi := []) (ca := cb) rfl rfl rfl rfl (hC.run m1 l[hh] l[a] (hC.keep _ _ hK hE)) ?_
        rintro _ m2 ⟨rfl, hE2⟩
        refine ⟨_, rfl, RL.nil (RH.cont hE2 ?_)⟩
        refine RH.pure T_ok hQ [10] (by kernel_rfl) rfl ?_
        refine RH.eqv (v' := .bool (ltOf cf l[hh] l[a])) rfl ?_
        refine RH.done (by kernel_rfl) (fun _ => ?_)
        repeat (first | with_reducible refine QN.block_normal ?_ | with_reducible refine QN.next ?_)
        have hlt := ltAt_eq (cf := cf) (l := l) (p := hh) (q := a) (by omega) (by omega)
        replace hO : CR m2 S (some ad) n c l := hO.ext hE2 (by simp)
        replace hE := hE.trans hE2 (by simp)
        refine WP.cond rfl (fun hp => ?_) (fun hp => ?_)
        · repeat (first | with_reducible refine WP.seq ?_ | with_reducible refine WP.block ?_ | with_reducible refine WP.region ?_)
          refine RL.pure T_ok 2 rfl ?_
          refine RL.eqv (v' := .int .i64 ((hh + 1 : Nat) : Int)) (congrArg _ (by rw [wrap_i64_in _ (by omega) (by omega)]; rfl)) ?_
          refine RL.auto T_ok rfl ?_
          refine RL.nil ?_
          repeat (first | with_reducible refine QN.block_normal ?_ | with_reducible refine QN.next ?_)
          exact QN.round (hh + 1, j) (Sub.cons rfl (Sub.cons rfl (Sub.cons rfl (Sub.cons rfl (Sub.cons rfl (Sub.cons rfl (Sub.cons rfl Sub.nil))))))) ⟨hs.up hh1 hh2 (by rw [hlt, hp]; rfl), hO, hE⟩ (by show j - (hh + 1) < j - i; omega)
        · repeat (first | with_reducible refine WP.seq ?_ | with_reducible refine WP.block ?_ | with_reducible refine WP.region ?_)
          refine RL.auto T_ok rfl ?_
          refine RL.nil ?_
          repeat (first | with_reducible refine QN.block_normal ?_ | with_reducible refine QN.next ?_)
          exact QN.round (i, hh) (Sub.cons rfl (Sub.cons rfl (Sub.cons rfl (Sub.cons rfl (Sub.cons rfl (Sub.cons rfl (Sub.cons rfl Sub.nil))))))) ⟨hs.down hh1 hh2 (by rw [hlt, hp]; rfl), hO, hE⟩ (by show hh - i < j - i; omega)
      · replace hc : i = j := by have := of_decide_eq_false hc; simp only at this; omega
        subst hc
        refine WP.exit ?_
        repeat (first | with_reducible refine QN.then_exit ?_ | with_reducible refine QN.block_exit ?_ | with_reducible refine QN.block_normal ?_)
        exact QN.cutEnd i (Sub.cons rfl (Sub.cons rfl (Sub.cons rfl (Sub.cons rfl (Sub.cons rfl (Sub.cons rfl Sub.nil)))))) ⟨hs, hO, hE⟩
    rintro i mS ⟨hs, hOS, hES⟩
    obtain ⟨le1, _, le3⟩ := hs.le
    obtain ⟨x, hx⟩ := some_of (l := l) (i := a) (by omega)
    repeat (first | with_reducible refine WP.seq ?_ | with_reducible refine WP.block ?_ | with_reducible refine WP.region ?_)
    refine RL.auto T_ok rfl ?_
    refine RL.nil ?_; repeat (first | with_reducible refine QN.block_normal ?_ | with_reducible refine QN.next ?_); repeat (first | with_reducible refine WP.seq ?_ | with_reducible refine WP.block ?_ | with_reducible refine WP.region ?_)
    refine (WP.loop (X := Nat × List Clk) (fun q => [(0, .slice A n c), (1, .int .i64 a), (2, .int .i64 ((a + 1 : Nat) : Int)), (3, .int .i64 b), (4, .func (.func g) #[] cb.toArray), (10, .int .i64 i), (13, .int .i64 q.1)])
      (fun q m' => a ≤ q.1 ∧ q.1 ≤ i - 1 ∧ CR m' S A n c q.2 ∧ Ext m S m' ∧ Seg a b l q.2 ∧ MvU l a q.1 q.2) (fun q => i - q.1) (a, l)
      (Sub.cons rfl (Sub.cons rfl (Sub.cons rfl (Sub.cons rfl (Sub.cons rfl (Sub.cons rfl (Sub.cons rfl Sub.nil))))))) ⟨Nat.le_refl _, by show a ≤ i - 1; omega, hOS, hES, Seg.refl _ _ _, MvU.start _ _⟩ ?_)
    rintro ⟨k, l1⟩ m1 ⟨hk1, hk2, hO, hE, hSg, hMv⟩
    simp only at hk1 hk2 hO hSg hMv
    have hlen1 := hO.len
    repeat (first | with_reducible refine WP.seq ?_ | with_reducible refine WP.block ?_ | with_reducible refine WP.region ?_)
    refine RL.pure T_ok 3 rfl ?_
    refine RL.eqv (v' := .int .i64 ((i - 1 : Nat) : Int)) (congrArg _ (by rw [wrap_i64_in _ (by omega) (by omega)]; omega)) ?_
    refine RL.auto T_ok rfl ?_
    refine RL.nil ?_; repeat (first | with_reducible refine QN.block_normal ?_ | with_reducible refine QN.next ?_); repeat (first | with_reducible refine WP.seq ?_ | with_reducible refine WP.block ?_ | with_reducible refine WP.region ?_)
    refine WP.cond rfl (fun hc => ?_) (fun hc => ?_)
    · replace hc : k < i - 1 := by have := of_decide_eq_true hc; simp only at this; omega
      refine WP.skip ?_; repeat (first | with_reducible refine QN.block_normal ?_ | with_reducible refine QN.next ?_)
      refine WP.seq ?_
      refine WP.block ?_
      obtain ⟨g0, cap0, cur0, hv8, hB8, rfl, hj8, hset⟩ := hO.putK (j := (k) * 2) (k := 2) (by omega) (by omega)
      injection hv8 with hv8 hv8b hv8c
      subst hv8
      have hR : Cs m1 [] (.slice (some ⟨g0, 0, none⟩) n c) l1 := hO.sl (by simp)
      refine WP.drawQ (fun m' => m' = m1) [2, 3, 4, 10, 11, 15, 16, 17] (by kernel_rfl) rfl (by repeat (first | with_reducible exact PanicOk.body | with_reducible refine PanicOk.then_ ?_ | with_reducible refine PanicOk.block_ ?_)) (fun hQ => ?_)
      refine RH.pureF T_ok hQ [2, 3, 4] (by kernel_rfl) rfl ?_
      refine RH.eqv (v' := .int .i64 ((k + 1 : Nat) : Int)) (congrArg _ (by rw [wrap_i64_in _ (by omega) (by omega)]; omega)) ?_
      refine RH.pureF T_ok hQ [10, 11] (by kernel_rfl) rfl ?_
      refine RH.pure T_ok hQ [0, 1, 5, 6, 7] (by kernel_rfl) rfl ?_
      refine RH.eqv (v' := .int .i64 ((k + 1 : Nat) : Int)) (congrArg _ (by rw [wrap_i64_in _ (by omega) (by omega)]; omega)) ?_
      refine RH.indexAddr T_ok hQ 8 (k := k + 1) rfl (by kernel_rfl) rfl rfl rfl rfl rfl rfl rfl (by omega) rfl ?_
      refine RH.loadAgg T_ok hQ 9 (cC l1[k + 1]) (fun m' hm' => by rw [hm']; exact cS_at hR (k + 1) (by omega)) rfl (by kernel_rfl) rfl rfl rfl rfl ?_
      refine RH.indexAddr T_ok hQ 12 (k := k) rfl (by kernel_rfl) rfl rfl rfl rfl rfl rfl rfl (by omega) rfl ?_
      refine RH.loadAgg T_ok hQ 13 (cC l1[k]) (fun m' hm' => by rw [hm']; exact cS_at hR (k) (by omega)) rfl (by kernel_rfl) rfl rfl rfl rfl ?_
      refine RH.indexAddr T_ok hQ 14 (k := k) rfl (by kernel_rfl) rfl rfl rfl rfl rfl rfl rfl (by omega) rfl ?_
      refine RH.eqv (v' := .pointer (some ⟨g0, (k) * 2, none⟩)) (congrArg (fun q => Value.pointer (some q)) (by rw [add_block, Nat.zero_add])) ?_
      refine RH.only 15 rfl (by kernel_rfl) (fun _ => ?_)
      refine RL.storeAgg T_ok (b := g0) (i := (k) * 2) (vs := cC l1[k + 1]) (cs := cur0) hB8 rfl rfl rfl rfl rfl hj8 (cC_one _) rfl ?_
      intro m8 hC8
      have hO8 := hset m8 _ rfl hC8
      rw [csC_set l1 (k) _ (by omega)] at hO8
      refine RL.nil (RF.cont (by kernel_rfl) ?_)
      refine RF.only 16 rfl (by kernel_rfl) ?_
      refine RL.indexAddr (k := k + 1) T_ok rfl rfl rfl rfl rfl rfl rfl (by omega) rfl ?_
      refine RL.eqv (v' := .pointer (some ⟨g0, (k + 1) * 2, none⟩)) (congrArg (fun q => Value.pointer (some q)) (by rw [add_block, Nat.zero_add])) ?_
      refine RL.nil (RF.cont (by kernel_rfl) ?_)
      obtain ⟨g1, cap1, cur1, hv9, hB9, hS9, hj9, hset9⟩ := hO8.putK (j := (k + 1) * 2) (k := 2) (by omega) (by omega)
      cases hv9
      refine RF.only 17 rfl (by kernel_rfl) ?_
      refine RL.storeAgg T_ok (b := g0) (i := (k + 1) * 2) (vs := cC l1[k]) (cs := cur1) hB9 rfl rfl rfl rfl rfl hj9 (cC_one _) rfl ?_
      intro m9 hC9
      have hO9 := hset9 m9 _ rfl hC9
      rw [csC_set _ (k + 1) _ (by rw [List.length_set]; omega), ← sw_of (p := k) (q := k + 1) (by omega) (by omega)] at hO9
      have hE9 : Ext m1 [g0] m9 := hC8.ext.trans hC9.ext (fun k hk => .inl hk)
      refine RL.nil (RF.cont (by kernel_rfl) ?_)
      refine RF.done (by kernel_rfl) ?_
      repeat (first | with_reducible refine QN.block_normal ?_ | with_reducible refine QN.next ?_)
      repeat (first | with_reducible refine WP.seq ?_ | with_reducible refine WP.block ?_ | with_reducible refine WP.region ?_)
      refine RL.pure T_ok 2 rfl ?_
      refine RL.eqv (v' := .int .i64 ((k + 1 : Nat) : Int)) (congrArg _ (by rw [wrap_i64_in _ (by omega) (by omega)]; rfl)) ?_
      refine RL.auto T_ok rfl ?_
      exact RL.nil (QN.round (k + 1, sw l1 k (k + 1)) (Sub.cons rfl (Sub.cons rfl (Sub.cons rfl (Sub.cons rfl (Sub.cons rfl (Sub.cons rfl (Sub.cons rfl Sub.nil))))))) ⟨by show a ≤ k + 1; omega, by show k + 1 ≤ i - 1; omega, hO9, hE.trans hE9 (fun k hk => .inl hk), hSg.trans (Seg.sw ⟨by omega, by omega⟩ ⟨by omega, by omega⟩ (by omega)), hMv.step hk1 (by omega)⟩ (by show i - (k + 1) < i - k; omega))
    · replace hc : k = i - 1 := by have := of_decide_eq_false hc; simp only at this; omega
      subst hc
      refine WP.exit ?_; repeat (first | with_reducible refine QN.then_exit ?_ | with_reducible refine QN.block_exit ?_ | with_reducible refine QN.block_far rfl ?_ | with_reducible refine QN.block_normal ?_ | with_reducible refine QN.next ?_); repeat (first | with_reducible refine WP.seq ?_ | with_reducible refine WP.block ?_ | with_reducible refine WP.region ?_)
      refine WP.ret ?_; repeat (first | with_reducible refine QN.then_ret ?_ | with_reducible refine QN.block_ret ?_)
      refine QN.ret0 rfl ⟨_, rfl, rfl, hE, l1, hO, hSg, ins_up hS hx le1 le3 hU2 ?_ ?_ hMv⟩
      · rcases hs.low with h1 | h1
        · exact .inl h1
        · rw [Bool.not_eq_false'] at h1
          obtain ⟨y, x', hy, hx', hlt⟩ := ltAt_get (by omega) (by omega) h1
          rw [hx] at hx'; cases hx'
          exact .inr ⟨y, hy, hlt⟩
      · rcases hs.high with h1 | h1
        · exact .inl h1
        · by_cases hib : i = b
          · exact .inl hib
          · rw [Bool.not_eq_true'] at h1
            obtain ⟨y, x', hy, hx', hlt⟩ := ltAt_get (by omega) (by omega) h1
            rw [hx] at hx'; cases hx'
            exact .inr ⟨y, hy, hlt⟩
  refine RL.eqv (v' := .bool false) (congrArg _ (by rw [beq_eq_false_iff_ne]; omega)) ?_
  refine RL.nil ?_; repeat (first | with_reducible refine QN.block_normal ?_ | with_reducible refine QN.next ?_); repeat (first | with_reducible refine WP.seq ?_ | with_reducible refine WP.block ?_ | with_reducible refine WP.region ?_)
  refine WP.condF rfl ?_
  refine WP.skip ?_; repeat (first | with_reducible refine QN.block_normal ?_ | with_reducible refine QN.next ?_); repeat (first | with_reducible refine WP.seq ?_ | with_reducible refine WP.block ?_ | with_reducible refine WP.region ?_)
  refine RL.pure T_ok 3 rfl ?_
  refine RL.eqv (v' := .int .i64 ((b - md : Nat) : Int)) (congrArg _ (by rw [wrap_i64_in _ (by omega) (by omega)]; omega)) ?_
  refine RL.pure T_ok 1 rfl ?_
  by_cases c2 : b = md + 1
  · refine RL.eqv (v' := .bool true) (congrArg _ (by rw [beq_iff_eq]; omega)) ?_
    subst c2
    refine RL.nil ?_; repeat (first | with_reducible refine QN.block_normal ?_ | with_reducible refine QN.next ?_); repeat (first | with_reducible refine WP.seq ?_ | with_reducible refine WP.block ?_ | with_reducible refine WP.region ?_)
    refine WP.condT rfl ?_
    repeat (first | with_reducible refine WP.seq ?_ | with_reducible refine WP.block ?_ | with_reducible refine WP.region ?_)
    refine RL.auto T_ok rfl ?_
    refine RL.nil ?_; repeat (first | with_reducible refine QN.block_normal ?_ | with_reducible refine QN.next ?_); repeat (first | with_reducible refine WP.seq ?_ | with_reducible refine WP.block ?_ | with_reducible refine WP.region ?_)
    refine RL.auto T_ok rfl ?_
    refine RL.nil ?_; repeat (first | with_reducible refine QN.block_normal ?_ | with_reducible refine QN.next ?_)
    refine WP.cut (X := Nat) (fun i => [(0, .slice A n c), (1, .int .i64 a), (2, .int .i64 md), (3, .int .i64 ((md + 1 : Nat) : Int)), (4, .func (.func g) #[] cb.toArray), (14, .int .i64 i)]) (fun i m' => Srch (fun k => ltAt cf l md k) a md i i ∧ CR m' S A n c l ∧ Ext m S m') ?_ ?_
    · refine WP.block ?_
      refine (WP.loop (X := Nat × Nat) (fun q => [(0, .slice A n c), (1, .int .i64 a), (2, .int .i64 md), (3, .int .i64 ((md + 1 : Nat) : Int)), (4, .func (.func g) #[] cb.toArray), (14, .int .i64 q.1), (15, .int .i64 q.2)])
        (fun q m' => Srch (fun k => ltAt cf l md k) a md q.1 q.2 ∧ CR m' S A n c l ∧ Ext m S m') (fun q => q.2 - q.1) (a, md)
        (Sub.cons rfl (Sub.cons rfl (Sub.cons rfl (Sub.cons rfl (Sub.cons rfl (Sub.cons rfl (Sub.cons rfl Sub.nil))))))) ⟨Srch.start _ (by omega), h, Ext.refl _ _⟩ ?_)
      rintro ⟨i, j⟩ m1 ⟨hs, hO, hE⟩
      simp only at hs
      obtain ⟨le1, le2, le3⟩ := hs.le
      repeat (first | with_reducible refine WP.seq ?_ | with_reducible refine WP.block ?_ | with_reducible refine WP.region ?_)
      refine RL.auto T_ok rfl ?_
      refine RL.nil ?_; repeat (first | with_reducible refine QN.block_normal ?_ | with_reducible refine QN.next ?_); repeat (first | with_reducible refine WP.seq ?_ | with_reducible refine WP.block ?_ | with_reducible refine WP.region ?_)
      refine WP.cond rfl (fun hc => ?_) (fun hc => ?_)
      · replace hc : i < j := by have := of_decide_eq_true hc; simp only at this; omega
        refine WP.skip ?_; repeat (first | with_reducible refine QN.block_normal ?_ | with_reducible refine QN.next ?_); repeat (first | with_reducible refine WP.seq ?_ | with_reducible refine WP.block ?_ | with_reducible refine WP.region ?_)
        refine RL.pure T_ok 3 rfl ?_
        refine RL.eqv (v' := .int .i64 ((i + j : Nat) : Int)) (congrArg _ (by rw [wrap_i64_in _ (by omega) (by omega)]; omega)) ?_
        refine RL.pure T_ok 1 rfl ?_
        refine RL.eqv (v' := .int .u64 ((i + j : Nat) : Int)) (congrArg _ (by rw [wrap_u64_in _ (by omega) (by omega)])) ?_
        refine RL.pure T_ok 1 rfl ?_
        refine RL.eqv (v' := .int .u64 (((i + j) / 2 : Nat) : Int)) (congrArg _ (half_v _)) ?_
        refine RL.pure T_ok 1 rfl ?_
        refine RL.eqv (v' := .int .i64 (((i + j) / 2 : Nat) : Int)) (congrArg _ (by rw [wrap_i64_in _ (by omega) (by omega)])) ?_
        refine RL.auto T_ok rfl ?_
        refine RL.nil ?_; repeat (first | with_reducible refine QN.block_normal ?_ | with_reducible refine QN.next ?_)
        have hh1 : i ≤ (i + j) / 2 := by omega
        have hh2 : (i + j) / 2 < j := by omega
        generalize (i + j) / 2 = hh at hh1 hh2
        repeat (first | with_reducible refine WP.seq ?_ | with_reducible refine WP.block ?_ | with_reducible refine WP.region ?_)
        have hR0 : Cs m1 [] (.slice A n c) l := hO.sl (by simp)
        obtain ⟨ad, rfl, _⟩ := hR0.cell (md) (by omega)
        refine WP.drawQ (fun m' => Ext m1 [] m') [] (by kernel_rfl) (Ext.refl _ _) (by repeat (first | with_reducible exact PanicOk.body | with_reducible refine PanicOk.then_ ?_ | with_reducible refine PanicOk.block_ ?_)) (fun hQ => ?_)
        refine RH.pure T_ok hQ [0, 1, 2] (by kernel_rfl) rfl ?_
        refine RH.indexAddr T_ok hQ 3 (k := md) rfl (by kernel_rfl) rfl rfl rfl rfl rfl rfl rfl (by omega) rfl ?_
        refine RH.loadAgg T_ok hQ 4 (cC l[md]) (fun m' hm' => cS_at (hR0.ext0 hm') (md) (by omega)) rfl (by kernel_rfl) rfl rfl rfl rfl ?_
        refine RH.pure T_ok hQ [5, 6] (by kernel_rfl) rfl ?_
        refine RH.indexAddr T_ok hQ 7 (k := hh) rfl (by kernel_rfl) rfl rfl rfl rfl rfl rfl rfl (by omega) rfl ?_
        refine RH.loadAgg T_ok hQ 8 (cC l[hh]) (fun m' hm' => cS_at (hR0.ext0 hm') (hh) (by omega)) rfl (by kernel_rfl) rfl rfl rfl rfl ?_
        refine RH.only 9 rfl (by kernel_rfl) (fun _ => ?_)
        refine RL.call (fi := []) (ca := cb) rfl rfl rfl rfl (hC.run m1 l[md] l[hh] (hC.keep _ _ hK hE)) ?_
        rintro _ m2 ⟨rfl, hE2⟩
        refine ⟨_, rfl, RL.nil (RH.cont hE2 ?_)⟩
        refine RH.pure T_ok hQ [10] (by kernel_rfl) rfl ?_
        refine RH.eqv (v' := .bool (ltOf cf l[md] l[hh])) rfl ?_
        refine RH.pure T_ok hQ [11] (by kernel_rfl) rfl ?_
        refine RH.eqv (v' := .bool (!ltOf cf l[md] l[hh])) rfl ?_
        refine RH.done (by kernel_rfl) (fun _ => ?_)
        repeat (first | with_reducible refine QN.block_normal ?_ | with_reducible refine QN.next ?_)
        have hlt := ltAt_eq (cf := cf) (l := l) (p := md) (q := hh) (by omega) (by omega)
        replace hO : CR m2 S (some ad) n c l := hO.ext hE2 (by simp)
        replace hE := hE.trans hE2 (by simp)
        refine WP.cond rfl (fun hp => ?_) (fun hp => ?_)
        · rw [Bool.not_eq_true'] at hp
          repeat (first | with_reducible refine WP.seq ?_ | with_reducible refine WP.block ?_ | with_reducible refine WP.region ?_)
          refine RL.pure T_ok 2 rfl ?_
          refine RL.eqv (v' := .int .i64 ((hh + 1 : Nat) : Int)) (congrArg _ (by rw [wrap_i64_in _ (by omega) (by omega)]; rfl)) ?_
          refine RL.auto T_ok rfl ?_
          refine RL.nil ?_
          repeat (first | with_reducible refine QN.block_normal ?_ | with_reducible refine QN.next ?_)
          exact QN.round (hh + 1, j) (Sub.cons rfl (Sub.cons rfl (Sub.cons rfl (Sub.cons rfl (Sub.cons rfl (Sub.cons rfl (Sub.cons rfl Sub.nil))))))) ⟨hs.up hh1 hh2 (by rw [hlt, hp]), hO, hE⟩ (by show j - (hh + 1) < j - i; omega)
        · rw [Bool.not_eq_false'] at hp
          repeat (first | with_reducible refine WP.seq ?_ | with_reducible refine WP.block ?_ | with_reducible refine WP.region ?_)
          refine RL.auto T_ok rfl ?_
          refine RL.nil ?_
          repeat (first | with_reducible refine QN.block_normal ?_ | with_reducible refine QN.next ?_)
          exact QN.round (i, hh) (Sub.cons rfl (Sub.cons rfl (Sub.cons rfl (Sub.cons rfl (Sub.cons rfl (Sub.cons rfl (Sub.cons rfl Sub.nil))))))) ⟨hs.down hh1 hh2 (by rw [hlt, hp]), hO, hE⟩ (by show hh - i < j - i; omega)
      · replace hc : i = j := by have := of_decide_eq_false hc; simp only at this; omega
        subst hc
        refine WP.exit ?_
        repeat (first | with_reducible refine QN.then_exit ?_ | with_reducible refine QN.block_exit ?_ | with_reducible refine QN.block_normal ?_)
        exact QN.cutEnd i (Sub.cons rfl (Sub.cons rfl (Sub.cons rfl (Sub.cons rfl (Sub.cons rfl (Sub.cons rfl Sub.nil)))))) ⟨hs, hO, hE⟩
    rintro i mS ⟨hs, hOS, hES⟩
    obtain ⟨le1, _, le3⟩ := hs.le
    obtain ⟨x, hx⟩ := some_of (l := l) (i := md) (by omega)
    repeat (first | with_reducible refine WP.seq ?_ | with_reducible refine WP.block ?_ | with_reducible refine WP.region ?_)
    refine RL.auto T_ok rfl ?_
    refine RL.nil ?_; repeat (first | with_reducible refine QN.block_normal ?_ | with_reducible refine QN.next ?_); repeat (first | with_reducible refine WP.seq ?_ | with_reducible refine WP.block ?_ | with_reducible refine WP.region ?_)
    refine (WP.loop (X := Nat × List Clk) (fun q => [(0, .slice A n c), (1, .int .i64 a), (2, .int .i64 md), (3, .int .i64 ((md + 1 : Nat) : Int)), (4, .func (.func g) #[] cb.toArray), (14, .int .i64 i), (17, .int .i64 q.1)])
      (fun q m' => i ≤ q.1 ∧ q.1 ≤ md ∧ CR m' S A n c q.2 ∧ Ext m S m' ∧ Seg a (md + 1) l q.2 ∧ MvD l md q.1 q.2) (fun q => q.1) (md, l)
      (Sub.cons rfl (Sub.cons rfl (Sub.cons rfl (Sub.cons rfl (Sub.cons rfl (Sub.cons rfl (Sub.cons rfl Sub.nil))))))) ⟨le3, Nat.le_refl _, hOS, hES, Seg.refl _ _ _, MvD.start _ _⟩ ?_)
    rintro ⟨k0, l1⟩ m1 ⟨hk1, hk2, hO, hE, hSg, hMv⟩
    simp only at hk1 hk2 hO hSg hMv
    have hlen1 := hO.len
    repeat (first | with_reducible refine WP.seq ?_ | with_reducible refine WP.block ?_ | with_reducible refine WP.region ?_)
    refine RL.auto T_ok rfl ?_
    refine RL.nil ?_; repeat (first | with_reducible refine QN.block_normal ?_ | with_reducible refine QN.next ?_); repeat (first | with_reducible refine WP.seq ?_ | with_reducible refine WP.block ?_ | with_reducible refine WP.region ?_)
    refine WP.cond rfl (fun hc => ?_) (fun hc => ?_)
    · replace hc : i < k0 := by have := of_decide_eq_true hc; simp only at this; omega
      obtain ⟨k, rfl⟩ : ∃ k, k0 = k + 1 := ⟨k0 - 1, by omega⟩
      refine WP.skip ?_; repeat (first | with_reducible refine QN.block_normal ?_ | with_reducible refine QN.next ?_)
      refine WP.seq ?_
      refine WP.block ?_
      obtain ⟨g0, cap0, cur0, hv8, hB8, rfl, hj8, hset⟩ := hO.putK (j := (k + 1) * 2) (k := 2) (by omega) (by omega)
      injection hv8 with hv8 hv8b hv8c
      subst hv8
      have hR : Cs m1 [] (.slice (some ⟨g0, 0, none⟩) n c) l1 := hO.sl (by simp)
      refine WP.drawQ (fun m' => m' = m1) [2, 3, 4, 10, 11, 15, 16, 17] (by kernel_rfl) rfl (by repeat (first | with_reducible exact PanicOk.body | with_reducible refine PanicOk.then_ ?_ | with_reducible refine PanicOk.block_ ?_)) (fun hQ => ?_)
      refine RH.pureF T_ok hQ [2, 3, 4] (by kernel_rfl) rfl ?_
      refine RH.eqv (v' := .int .i64 ((k : Nat) : Int)) (congrArg _ (by rw [wrap_i64_in _ (by omega) (by omega)]; omega)) ?_
      refine RH.pureF T_ok hQ [10, 11] (by kernel_rfl) rfl ?_
      refine RH.pure T_ok hQ [0, 1, 5, 6, 7] (by kernel_rfl) rfl ?_
      refine RH.eqv (v' := .int .i64 ((k : Nat) : Int)) (congrArg _ (by rw [wrap_i64_in _ (by omega) (by omega)]; omega)) ?_
      refine RH.indexAddr T_ok hQ 8 (k := k) rfl (by kernel_rfl) rfl rfl rfl rfl rfl rfl rfl (by omega) rfl ?_
      refine RH.loadAgg T_ok hQ 9 (cC l1[k]) (fun m' hm' => by rw [hm']; exact cS_at hR (k) (by omega)) rfl (by kernel_rfl) rfl rfl rfl rfl ?_
      refine RH.indexAddr T_ok hQ 12 (k := k + 1) rfl (by kernel_rfl) rfl rfl rfl rfl rfl rfl rfl (by omega) rfl ?_
      refine RH.loadAgg T_ok hQ 13 (cC l1[k + 1]) (fun m' hm' => by rw [hm']; exact cS_at hR (k + 1) (by omega)) rfl (by kernel_rfl) rfl rfl rfl rfl ?_
      refine RH.indexAddr T_ok hQ 14 (k := k + 1) rfl (by kernel_rfl) rfl rfl rfl rfl rfl rfl rfl (by omega) rfl ?_
      refine RH.eqv (v' := .pointer (some ⟨g0, (k + 1) * 2, none⟩)) (congrArg (fun q => Value.pointer (some q)) (by rw [add_block, Nat.zero_add])) ?_
      refine RH.only 15 rfl (by kernel_rfl) (fun _ => ?_)
      refine RL.storeAgg T_ok (b := g0) (i := (k + 1) * 2) (vs := cC l1[k]) (cs := cur0) hB8 rfl rfl rfl rfl rfl hj8 (cC_one _) rfl ?_
      intro m8 hC8
      have hO8 := hset m8 _ rfl hC8
      rw [csC_set l1 (k + 1) _ (by omega)] at hO8
      refine RL.nil (RF.cont (by kernel_rfl) ?_)
      refine RF.only 16 rfl (by kernel_rfl) ?_
      refine RL.indexAddr (k := k) T_ok rfl rfl rfl rfl rfl rfl rfl (by omega) rfl ?_
      refine RL.eqv (v' := .pointer (some ⟨g0, (k) * 2, none⟩)) (congrArg (fun q => Value.pointer (some q)) (by rw [add_block, Nat.zero_add])) ?_
      refine RL.nil (RF.cont (by kernel_rfl) ?_)
      obtain ⟨g1, cap1, cur1, hv9, hB9, hS9, hj9, hset9⟩ := hO8.putK (j := (k) * 2) (k := 2) (by omega) (by omega)
      cases hv9
      refine RF.only 17 rfl (by kernel_rfl) ?_
      refine RL.storeAgg T_ok (b := g0) (i := (k) * 2) (vs := cC l1[k + 1]) (cs := cur1) hB9 rfl rfl rfl rfl rfl hj9 (cC_one _) rfl ?_
      intro m9 hC9
      have hO9 := hset9 m9 _ rfl hC9
      rw [csC_set _ (k) _ (by rw [List.length_set]; omega), ← sw_of (p := k + 1) (q := k) (by omega) (by omega)] at hO9
      have hE9 : Ext m1 [g0] m9 := hC8.ext.trans hC9.ext (fun k hk => .inl hk)
      refine RL.nil (RF.cont (by kernel_rfl) ?_)
      refine RF.done (by kernel_rfl) ?_
      repeat (first | with_reducible refine QN.block_normal ?_ | with_reducible refine QN.next ?_)
      repeat (first | with_reducible refine WP.seq ?_ | with_reducible refine WP.block ?_ | with_reducible refine WP.region ?_)
      refine RL.pure T_ok 2 rfl ?_
      refine RL.eqv (v' := .int .i64 ((k : Nat) : Int)) (congrArg _ (by rw [wrap_i64_in _ (by omega) (by omega)]; omega)) ?_
      refine RL.auto T_ok rfl ?_
      exact RL.nil (QN.round (k, sw l1 (k + 1) k) (Sub.cons rfl (Sub.cons rfl (Sub.cons rfl (Sub.cons rfl (Sub.cons rfl (Sub.cons rfl (Sub.cons rfl Sub.nil))))))) ⟨by show i ≤ k; omega, by show k ≤ md; omega, hO9, hE.trans hE9 (fun k hk => .inl hk), hSg.trans (Seg.sw ⟨by omega, by omega⟩ ⟨by omega, by omega⟩ (by omega)), hMv.step (by omega) (by omega)⟩ (by show k < k + 1; omega))
    · replace hc : k0 = i := by have := of_decide_eq_false hc; simp only at this; omega
      subst hc
      refine WP.exit ?_; repeat (first | with_reducible refine QN.then_exit ?_ | with_reducible refine QN.block_exit ?_ | with_reducible refine QN.block_far rfl ?_ | with_reducible refine QN.block_normal ?_ | with_reducible refine QN.next ?_); repeat (first | with_reducible refine WP.seq ?_ | with_reducible refine WP.block ?_ | with_reducible refine WP.region ?_)
      refine WP.ret ?_; repeat (first | with_reducible refine QN.then_ret ?_ | with_reducible refine QN.block_ret ?_)
      refine QN.ret0 rfl ⟨_, rfl, rfl, hE, l1, hO, hSg, ins_down hS hx le1 le3 hU1 ?_ ?_ hMv⟩
      · rcases hs.low with h1 | h1
        · exact .inl h1
        · by_cases hia : k0 = a
          · exact .inl hia
          · obtain ⟨x', y, hx', hy, hlt⟩ := ltAt_get (by omega) (by omega) h1
            rw [hx] at hx'; cases hx'
            exact .inr ⟨y, hy, hlt⟩
      · rcases hs.high with h1 | h1
        · exact .inl h1
        · obtain ⟨x', y, hx', hy, hlt⟩ := ltAt_get (by omega) (by omega) h1
          rw [hx] at hx'; cases hx'
          exact .inr ⟨y, hy, hlt⟩
  refine RL.eqv (v' := .bool false) (congrArg _ (by rw [beq_eq_false_iff_ne]; omega)) ?_
  refine RL.nil ?_; repeat (first | with_reducible refine QN.block_normal ?_ | with_reducible refine QN.next ?_); repeat (first | with_reducible refine WP.seq ?_ | with_reducible refine WP.block ?_ | with_reducible refine WP.region ?_)
  refine WP.condF rfl ?_
  refine WP.skip ?_; repeat (first | with_reducible refine QN.block_normal ?_ | with_reducible refine QN.next ?_); repeat (first | with_reducible refine WP.seq ?_ | with_reducible refine WP.block ?_ | with_reducible refine WP.region ?_)
  refine RL.pure T_ok 3 rfl ?_
  refine RL.eqv (v' := .int .i64 ((a + b : Nat) : Int)) (congrArg _ (by rw [wrap_i64_in _ (by omega) (by omega)]; omega)) ?_
  refine RL.pure T_ok 1 rfl ?_
  refine RL.eqv (v' := .int .u64 ((a + b : Nat) : Int)) (congrArg _ (by rw [wrap_u64_in _ (by omega) (by omega)])) ?_
  refine RL.pure T_ok 1 rfl ?_
  refine RL.eqv (v' := .int .u64 (((a + b) / 2 : Nat) : Int)) (congrArg _ (half_v _)) ?_
  refine RL.pure T_ok 1 rfl ?_
  refine RL.eqv (v' := .int .i64 (((a + b) / 2 : Nat) : Int)) (congrArg _ (by rw [wrap_i64_in _ (by omega) (by omega)])) ?_
  refine RL.auto T_ok rfl ?_
  refine RL.nil ?_; repeat (first | with_reducible refine QN.block_normal ?_ | with_reducible refine QN.next ?_)
  obtain ⟨mid, hmid⟩ : ∃ mid, (a + b) / 2 = mid := ⟨_, rfl⟩
  rw [hmid]
  repeat (first | with_reducible refine WP.seq ?_ | with_reducible refine WP.block ?_ | with_reducible refine WP.region ?_)
  refine RL.pure T_ok 3 rfl ?_
  refine RL.eqv (v' := .int .i64 ((mid + md : Nat) : Int)) (congrArg _ (by rw [wrap_i64_in _ (by omega) (by omega)]; omega)) ?_
  refine RL.auto T_ok rfl ?_
  refine RL.nil ?_; repeat (first | with_reducible refine QN.block_normal ?_ | with_reducible refine QN.next ?_); repeat (first | with_reducible refine WP.seq ?_ | with_reducible refine WP.block ?_ | with_reducible refine WP.region ?_)
  refine RL.auto T_ok rfl ?_
  refine RL.nil ?_; repeat (first | with_reducible refine QN.block_normal ?_ | with_reducible refine QN.next ?_)
  obtain ⟨lo, hlo⟩ : ∃ lo, lo = if mid < md then mid + md - b else a := ⟨_, rfl⟩
  obtain ⟨hi, hhi⟩ : ∃ hi, hi = if mid < md then mid else md := ⟨_, rfl⟩
  have hlo1 : a ≤ lo ∧ mid + md ≤ lo + b := by subst hlo; split <;> omega
  have hhi1 : hi ≤ md ∧ hi ≤ mid ∧ lo ≤ hi := by subst hhi; subst hlo; split <;> omega
  refine WP.cut (X := Unit) (fun _ => [(0, .slice A n c), (1, .int .i64 a), (2, .int .i64 md), (3, .int .i64 b), (4, .func (.func g) #[] cb.toArray), (18, .int .i64 mid), (19, .int .i64 ((mid + md : Nat) : Int)), (20, .int .i64 lo), (21, .int .i64 hi)]) (fun _ m' => m' = m) ?_ ?_
  · repeat (first | with_reducible refine WP.seq ?_ | with_reducible refine WP.block ?_ | with_reducible refine WP.region ?_)
    refine RL.pure T_ok 3 rfl ?_
    by_cases hm : mid < md
    · rw [if_pos hm] at hlo hhi
      replace hlo := hlo.symm
      replace hhi := hhi.symm
      subst hlo; subst hhi
      refine RL.eqv (v' := .bool true) (congrArg _ (decide_eq_true (by omega))) ?_
      refine RL.nil ?_; repeat (first | with_reducible refine QN.block_normal ?_ | with_reducible refine QN.next ?_); repeat (first | with_reducible refine WP.seq ?_ | with_reducible refine WP.block ?_ | with_reducible refine WP.region ?_)
      refine WP.condT rfl ?_
      repeat (first | with_reducible refine WP.seq ?_ | with_reducible refine WP.block ?_ | with_reducible refine WP.region ?_)
      refine RL.pure T_ok 3 rfl ?_
      refine RL.eqv (v' := .int .i64 ((mid + md - b : Nat) : Int)) (congrArg _ (by rw [wrap_i64_in _ (by omega) (by omega)]; omega)) ?_
      refine RL.auto T_ok rfl ?_
      refine RL.nil ?_; repeat (first | with_reducible refine QN.block_normal ?_ | with_reducible refine QN.next ?_); repeat (first | with_reducible refine WP.seq ?_ | with_reducible refine WP.block ?_ | with_reducible refine WP.region ?_)
      refine RL.auto T_ok rfl ?_
      exact RL.nil (QN.cutEnd () (Sub.cons rfl (Sub.cons rfl (Sub.cons rfl (Sub.cons rfl (Sub.cons rfl (Sub.cons rfl (Sub.cons rfl (Sub.cons rfl (Sub.cons rfl Sub.nil))))))))) rfl)
    · rw [if_neg hm] at hlo hhi
      replace hlo := hlo.symm
      replace hhi := hhi.symm
      subst hlo; subst hhi
      refine RL.eqv (v' := .bool false) (congrArg _ (decide_eq_false (by omega))) ?_
      refine RL.nil ?_; repeat (first | with_reducible refine QN.block_normal ?_ | with_reducible refine QN.next ?_); repeat (first | with_reducible refine WP.seq ?_ | with_reducible refine WP.block ?_ | with_reducible refine WP.region ?_)
      refine WP.condF rfl ?_
      repeat (first | with_reducible refine WP.seq ?_ | with_reducible refine WP.block ?_ | with_reducible refine WP.region ?_)
      refine RL.auto T_ok rfl ?_
      refine RL.nil ?_; repeat (first | with_reducible refine QN.block_normal ?_ | with_reducible refine QN.next ?_); repeat (first | with_reducible refine WP.seq ?_ | with_reducible refine WP.block ?_ | with_reducible refine WP.region ?_)
      refine RL.auto T_ok rfl ?_
      exact RL.nil (QN.cutEnd () (Sub.cons rfl (Sub.cons rfl (Sub.cons rfl (Sub.cons rfl (Sub.cons rfl (Sub.cons rfl (Sub.cons rfl (Sub.cons rfl (Sub.cons rfl Sub.nil))))))))) rfl)
  rintro _ mc rfl
  repeat (first | with_reducible refine WP.seq ?_ | with_reducible refine WP.block ?_ | with_reducible refine WP.region ?_)
  refine RL.pure T_ok 2 rfl ?_
  refine RL.eqv (v' := .int .i64 ((mid + md - 1 : Nat) : Int)) (congrArg _ (by rw [wrap_i64_in _ (by omega) (by omega)]; omega)) ?_
  refine RL.auto T_ok rfl ?_
  refine RL.nil ?_; repeat (first | with_reducible refine QN.block_normal ?_ | with_reducible refine QN.next ?_)
  refine WP.cut (X := Nat) (fun s => [(0, .slice A n c), (1, .int .i64 a), (2, .int .i64 md), (3, .int .i64 b), (4, .func (.func g) #[] cb.toArray), (18, .int .i64 mid), (19, .int .i64 ((mid + md : Nat) : Int)), (20, .int .i64 s)]) (fun s m' => Srch (fun k => ltAt cf l (mid + md - 1 - k) k) lo hi s s ∧ CR m' S A n c l ∧ Ext mc S m') ?_ ?_
  · refine WP.block ?_
    refine (WP.loop (X := Nat × Nat) (fun q => [(0, .slice A n c), (1, .int .i64 a), (2, .int .i64 md), (3, .int .i64 b), (4, .func (.func g) #[] cb.toArray), (18, .int .i64 mid), (19, .int .i64 ((mid + md : Nat) : Int)), (20, .int .i64 q.1), (21, .int .i64 q.2), (22, .int .i64 ((mid + md - 1 : Nat) : Int))])
      (fun q m' => Srch (fun k => ltAt cf l (mid + md - 1 - k) k) lo hi q.1 q.2 ∧ CR m' S A n c l ∧ Ext mc S m') (fun q => q.2 - q.1) (lo, hi)
      (Sub.cons rfl (Sub.cons rfl (Sub.cons rfl (Sub.cons rfl (Sub.cons rfl (Sub.cons rfl (Sub.cons rfl (Sub.cons rfl (Sub.cons rfl (Sub.cons rfl Sub.nil)))))))))) ⟨Srch.start _ hhi1.2.2, h, Ext.refl _ _⟩ ?_)
    rintro ⟨i, j⟩ m1 ⟨hs, hO, hE⟩
    simp only at hs
    obtain ⟨le1, le2, le3⟩ := hs.le
    repeat (first | with_reducible refine WP.seq ?_ | with_reducible refine WP.block ?_ | with_reducible refine WP.region ?_)
    refine RL.auto T_ok rfl ?_
    refine RL.nil ?_; repeat (first | with_reducible refine QN.block_normal ?_ | with_reducible refine QN.next ?_); repeat (first | with_reducible refine WP.seq ?_ | with_reducible refine WP.block ?_ | with_reducible refine WP.region ?_)
    refine WP.cond rfl (fun hc => ?_) (fun hc => ?_)
    · replace hc : i < j := by have := of_decide_eq_true hc; simp only at this; omega
      refine WP.skip ?_; repeat (first | with_reducible refine QN.block_normal ?_ | with_reducible refine QN.next ?_); repeat (first | with_reducible refine WP.seq ?_ | with_reducible refine WP.block ?_ | with_reducible refine WP.region ?_)
      refine RL.pure T_ok 3 rfl ?_
      refine RL.eqv (v' := .int .i64 ((i + j : Nat) : Int)) (congrArg _ (by rw [wrap_i64_in _ (by omega) (by omega)]; omega)) ?_
      refine RL.pure T_ok 1 rfl ?_
      refine RL.eqv (v' := .int .u64 ((i + j : Nat) : Int)) (congrArg _ (by rw [wrap_u64_in _ (by omega) (by omega)])) ?_
      refine RL.pure T_ok 1 rfl ?_
      refine RL.eqv (v' := .int .u64 (((i + j) / 2 : Nat) : Int)) (congrArg _ (half_v _)) ?_
      refine RL.pure T_ok 1 rfl ?_
      refine RL.eqv (v' := .int .i64 (((i + j) / 2 : Nat) : Int)) (congrArg _ (by rw [wrap_i64_in _ (by omega) (by omega)])) ?_
      refine RL.auto T_ok rfl ?_
      refine RL.nil ?_; repeat (first | with_reducible refine QN.block_normal ?_ | with_reducible refine QN.next ?_)
      have hh1 : i ≤ (i + j) / 2 := by omega
      have hh2 : (i + j) / 2 < j := by omega
      generalize (i + j) / 2 = hh at hh1 hh2
      repeat (first | with_reducible refine WP.seq ?_ | with_reducible refine WP.block ?_ | with_reducible refine WP.region ?_)
      have hR0 : Cs m1 [] (.slice A n c) l := hO.sl (by simp)
      obtain ⟨ad, rfl, _⟩ := hR0.cell (mid + md - 1 - hh) (by omega)
      refine WP.drawQ (fun m' => Ext m1 [] m') [] (by kernel_rfl) (Ext.refl _ _) (by repeat (first | with_reducible exact PanicOk.body | with_reducible refine PanicOk.then_ ?_ | with_reducible refine PanicOk.block_ ?_)) (fun hQ => ?_)
      refine RH.pure T_ok hQ [0, 1, 2, 3, 4] (by kernel_rfl) rfl ?_
      refine RH.eqv (v' := .int .i64 ((mid + md - 1 - hh : Nat) : Int)) (congrArg _ (by rw [wrap_i64_in _ (by omega) (by omega)]; omega)) ?_
      refine RH.indexAddr T_ok hQ 5 (k := mid + md - 1 - hh) rfl (by kernel_rfl) rfl rfl rfl rfl rfl rfl rfl (by omega) rfl ?_
      refine RH.loadAgg T_ok hQ 6 (cC l[mid + md - 1 - hh]) (fun m' hm' => cS_at (hR0.ext0 hm') (mid + md - 1 - hh) (by omega)) rfl (by kernel_rfl) rfl rfl rfl rfl ?_
      refine RH.pure T_ok hQ [7, 8] (by kernel_rfl) rfl ?_
      refine RH.indexAddr T_ok hQ 9 (k := hh) rfl (by kernel_rfl) rfl rfl rfl rfl rfl rfl rfl (by omega) rfl ?_
      refine RH.loadAgg T_ok hQ 10 (cC l[hh]) (fun m' hm' => cS_at (hR0.ext0 hm') (hh) (by omega)) rfl (by kernel_rfl) rfl rfl rfl rfl ?_
      refine RH.only 11 rfl (by kernel_rfl) (fun _ => ?_)
      refine RL.call (fi := []) (ca := cb) rfl rfl rfl rfl (hC.run m1 l[mid + md - 1 - hh] l[hh] (hC.keep _ _ hK hE)) ?_
      rintro _ m2 ⟨rfl, hE2⟩
      refine ⟨_, rfl, RL.nil (RH.cont hE2 ?_)⟩
      refine RH.pure T_ok hQ [12] (by kernel_rfl) rfl ?_
      refine RH.eqv (v' := .bool (ltOf cf l[mid + md - 1 - hh] l[hh])) rfl ?_
      refine RH.pure T_ok hQ [13] (by kernel_rfl) rfl ?_
      refine RH.eqv (v' := .bool (!ltOf cf l[mid + md - 1 - hh] l[hh])) rfl ?_
      refine RH.done (by kernel_rfl) (fun _ => ?_)
      repeat (first | with_reducible refine QN.block_normal ?_ | with_reducible refine QN.next ?_)
      have hlt := ltAt_eq (cf := cf) (l := l) (p := mid + md - 1 - hh) (q := hh) (by omega) (by omega)
      replace hO : CR m2 S (some ad) n c l := hO.ext hE2 (by simp)
      replace hE := hE.trans hE2 (by simp)
      refine WP.cond rfl (fun hp => ?_) (fun hp => ?_)
      · rw [Bool.not_eq_true'] at hp
        repeat (first | with_reducible refine WP.seq ?_ | with_reducible refine WP.block ?_ | with_reducible refine WP.region ?_)
        refine RL.pure T_ok 2 rfl ?_
        refine RL.eqv (v' := .int .i64 ((hh + 1 : Nat) : Int)) (congrArg _ (by rw [wrap_i64_in _ (by omega) (by omega)]; rfl)) ?_
        refine RL.auto T_ok rfl ?_
        refine RL.nil ?_
        repeat (first | with_reducible refine QN.block_normal ?_ | with_reducible refine QN.next ?_)
        exact QN.round (hh + 1, j) (Sub.cons rfl (Sub.cons rfl (Sub.cons rfl (Sub.cons rfl (Sub.cons rfl (Sub.cons rfl (Sub.cons rfl (Sub.cons rfl (Sub.cons rfl (Sub.cons rfl Sub.nil)))))))))) ⟨hs.up hh1 hh2 (by rw [hlt, hp]), hO, hE⟩ (by show j - (hh + 1) < j - i; omega)
      · rw [Bool.not_eq_false'] at hp
        repeat (first | with_reducible refine WP.seq ?_ | with_reducible refine WP.block ?_ | with_reducible refine WP.region ?_)
        refine RL.auto T_ok rfl ?_
        refine RL.nil ?_
        repeat (first | with_reducible refine QN.block_normal ?_ | with_reducible refine QN.next ?_)
        exact QN.round (i, hh) (Sub.cons rfl (Sub.cons rfl (Sub.cons rfl (Sub.cons rfl (Sub.cons rfl (Sub.cons rfl (Sub.cons rfl (Sub.cons rfl (Sub.cons rfl (Sub.cons rfl Sub.nil)))))))))) ⟨hs.down hh1 hh2 (by rw [hlt, hp]), hO, hE⟩ (by show hh - i < j - i; omega)
    · replace hc : i = j := by have := of_decide_eq_false hc; simp only at this; omega
      subst hc
      refine WP.exit ?_
      repeat (first | with_reducible refine QN.then_exit ?_ | with_reducible refine QN.block_exit ?_ | with_reducible refine QN.block_normal ?_)
      exact QN.cutEnd i (Sub.cons rfl (Sub.cons rfl (Sub.cons rfl (Sub.cons rfl (Sub.cons rfl (Sub.cons rfl (Sub.cons rfl (Sub.cons rfl Sub.nil)))))))) ⟨hs, hO, hE⟩
  rintro s mS ⟨hs, hO, hE⟩
  obtain ⟨le1, _, le3⟩ := hs.le
  have hfound : Go.Mrg.Found (ltOf cf) l (mid + md) lo hi s := by
    refine ⟨⟨le1, le3⟩, ?_, ?_⟩
    · rcases hs.low with h1 | h1
      · exact .inl h1
      · by_cases hsl : s = lo
        · exact .inl hsl
        · obtain ⟨y, x, hy, hx, hlt⟩ := ltAt_get (by omega) (by omega) h1
          rw [show mid + md - 1 - (s - 1) = mid + md - s by omega] at hy
          exact .inr ⟨x, y, hx, hy, hlt⟩
    · rcases hs.high with h1 | h1
      · exact .inl h1
      · by_cases hsh : s = hi
        · exact .inl hsh
        · obtain ⟨y, x, hy, hx, hlt⟩ := ltAt_get (by omega) (by omega) h1
          exact .inr ⟨x, y, hx, hy, hlt⟩
  repeat (first | with_reducible refine WP.seq ?_ | with_reducible refine WP.block ?_ | with_reducible refine WP.region ?_)
  refine RL.pure T_ok 3 rfl ?_
  refine RL.eqv (v' := .int .i64 ((mid + md - s : Nat) : Int)) (congrArg _ (by rw [wrap_i64_in _ (by omega) (by omega)]; omega)) ?_
  refine RL.auto T_ok rfl ?_
  refine RL.nil ?_; repeat (first | with_reducible refine QN.block_normal ?_ | with_reducible refine QN.next ?_)
  refine WP.cut (X := List Clk) (fun _ => [(0, .slice A n c), (1, .int .i64 a), (2, .int .i64 md), (3, .int .i64 b), (4, .func (.func g) #[] cb.toArray), (18, .int .i64 mid), (20, .int .i64 s), (24, .int .i64 ((mid + md - s : Nat) : Int))])
    (fun l1 m' => CR m' S A n c l1 ∧ Ext mc S m' ∧ Seg a b l l1 ∧ ∀ k, l1[k]? = if s ≤ k ∧ k < mid then l[k + (md - s)]? else if mid ≤ k ∧ k < mid + md - s then l[k - (mid - s)]? else l[k]?) ?_ ?_
  · repeat (first | with_reducible refine WP.seq ?_ | with_reducible refine WP.block ?_ | with_reducible refine WP.region ?_)
    refine RL.pure T_ok 3 rfl ?_
    by_cases r1 : s < md
    · refine RL.eqv (v' := .bool true) (congrArg _ (decide_eq_true (by omega))) ?_
      refine RL.pure T_ok 4 rfl ?_
      by_cases r2 : md < mid + md - s
      · refine RL.eqv (v' := .bool true) (congrArg _ (decide_eq_true (by omega))) ?_
        refine RL.auto T_ok rfl ?_
        refine RL.nil ?_; repeat (first | with_reducible refine QN.block_normal ?_ | with_reducible refine QN.next ?_); repeat (first | with_reducible refine WP.seq ?_ | with_reducible refine WP.block ?_ | with_reducible refine WP.region ?_)
        refine WP.condT rfl ?_
        repeat (first | with_reducible refine WP.seq ?_ | with_reducible refine WP.block ?_ | with_reducible refine WP.region ?_)
        refine RL.auto T_ok rfl ?_
        refine RL.call (fi := []) (ca := []) rfl rfl rfl rfl (rotate_c mS S A n c l s md (mid + md - s) _ hO r1 r2 (by omega) hn) ?_
        rintro _ mR ⟨rfl, hER, l1, hOR, hSR, hRR⟩
        refine ⟨_, rfl, ?_⟩
        rw [show mid + md - s - md = mid - s by omega] at hRR
        exact RL.nil (QN.cutEnd l1 (Sub.cons rfl (Sub.cons rfl (Sub.cons rfl (Sub.cons rfl (Sub.cons rfl (Sub.cons rfl (Sub.cons rfl (Sub.cons rfl Sub.nil)))))))) ⟨hOR, hE.trans hER (fun k hk => .inl hk), hSR.mono (by omega) (by omega), rot_at (by omega) (by omega) hRR⟩)
      · refine RL.eqv (v' := .bool false) (congrArg _ (decide_eq_false (by omega))) ?_
        refine RL.auto T_ok rfl ?_
        refine RL.nil ?_; repeat (first | with_reducible refine QN.block_normal ?_ | with_reducible refine QN.next ?_); repeat (first | with_reducible refine WP.seq ?_ | with_reducible refine WP.block ?_ | with_reducible refine WP.region ?_)
        refine WP.condF rfl ?_
        refine WP.skip ?_
        exact QN.cutEnd l (Sub.cons rfl (Sub.cons rfl (Sub.cons rfl (Sub.cons rfl (Sub.cons rfl (Sub.cons rfl (Sub.cons rfl (Sub.cons rfl Sub.nil)))))))) ⟨hO, hE, Seg.refl _ _ _, rot_none (by omega) (by omega) (.inr (by omega))⟩
    · refine RL.eqv (v' := .bool false) (congrArg _ (decide_eq_false (by omega))) ?_
      refine RL.auto T_ok rfl ?_
      refine RL.nil ?_; repeat (first | with_reducible refine QN.block_normal ?_ | with_reducible refine QN.next ?_); repeat (first | with_reducible refine WP.seq ?_ | with_reducible refine WP.block ?_ | with_reducible refine WP.region ?_)
      refine WP.condF rfl ?_
      refine WP.skip ?_
      exact QN.cutEnd l (Sub.cons rfl (Sub.cons rfl (Sub.cons rfl (Sub.cons rfl (Sub.cons rfl (Sub.cons rfl (Sub.cons rfl (Sub.cons rfl Sub.nil)))))))) ⟨hO, hE, Seg.refl _ _ _, rot_none (by omega) (by omega) (.inl (by omega))⟩
  rintro l1 m1 ⟨hO1, hE1, hSg1, hr⟩
  obtain ⟨hcross, u1, u2, u3, u4⟩ := merge_cross hS ham hmid.symm hU1 hU2 hlo hhi hfound hr
  refine WP.cut (X := List Clk) (fun _ => [(0, .slice A n c), (1, .int .i64 a), (2, .int .i64 md), (3, .int .i64 b), (4, .func (.func g) #[] cb.toArray), (18, .int .i64 mid), (24, .int .i64 ((mid + md - s : Nat) : Int))])
    (fun l2 m' => CR m' S A n c l2 ∧ Ext mc S m' ∧ Seg a mid l1 l2 ∧ Up (ltOf cf) l2 a mid) ?_ ?_
  · repeat (first | with_reducible refine WP.seq ?_ | with_reducible refine WP.block ?_ | with_reducible refine WP.region ?_)
    refine RL.pure T_ok 3 rfl ?_
    by_cases r1 : a < s
    · refine RL.eqv (v' := .bool true) (congrArg _ (decide_eq_true (by omega))) ?_
      refine RL.pure T_ok 4 rfl ?_
      by_cases r2 : s < mid
      · refine RL.eqv (v' := .bool true) (congrArg _ (decide_eq_true (by omega))) ?_
        refine RL.auto T_ok rfl ?_
        refine RL.nil ?_; repeat (first | with_reducible refine QN.block_normal ?_ | with_reducible refine QN.next ?_); repeat (first | with_reducible refine WP.seq ?_ | with_reducible refine WP.block ?_ | with_reducible refine WP.region ?_)
        refine WP.condT rfl ?_
        repeat (first | with_reducible refine WP.seq ?_ | with_reducible refine WP.block ?_ | with_reducible refine WP.region ?_)
        refine RL.auto T_ok rfl ?_
        refine RL.call (fi := []) (ca := []) rfl rfl rfl rfl (ih m1 l1 a s mid (by omega) (hC.keep _ _ hK hE1) hO1 r1 r2 (by omega) u1 u2) ?_
        rintro _ mR ⟨rfl, hER, l2, hOR, hSR, hUR⟩
        refine ⟨_, rfl, ?_⟩
        exact RL.nil (QN.cutEnd l2 (Sub.cons rfl (Sub.cons rfl (Sub.cons rfl (Sub.cons rfl (Sub.cons rfl (Sub.cons rfl (Sub.cons rfl Sub.nil))))))) ⟨hOR, hE1.trans hER (fun k hk => .inl hk), hSR, hUR⟩)
      · refine RL.eqv (v' := .bool false) (congrArg _ (decide_eq_false (by omega))) ?_
        refine RL.auto T_ok rfl ?_
        refine RL.nil ?_; repeat (first | with_reducible refine QN.block_normal ?_ | with_reducible refine QN.next ?_); repeat (first | with_reducible refine WP.seq ?_ | with_reducible refine WP.block ?_ | with_reducible refine WP.region ?_)
        refine WP.condF rfl ?_
        refine WP.skip ?_
        exact QN.cutEnd l1 (Sub.cons rfl (Sub.cons rfl (Sub.cons rfl (Sub.cons rfl (Sub.cons rfl (Sub.cons rfl (Sub.cons rfl Sub.nil))))))) ⟨hO1, hE1, Seg.refl _ _ _, u1.sub (Nat.le_refl _) (by omega)⟩
    · refine RL.eqv (v' := .bool false) (congrArg _ (decide_eq_false (by omega))) ?_
      refine RL.auto T_ok rfl ?_
      refine RL.nil ?_; repeat (first | with_reducible refine QN.block_normal ?_ | with_reducible refine QN.next ?_); repeat (first | with_reducible refine WP.seq ?_ | with_reducible refine WP.block ?_ | with_reducible refine WP.region ?_)
      refine WP.condF rfl ?_
      refine WP.skip ?_
      exact QN.cutEnd l1 (Sub.cons rfl (Sub.cons rfl (Sub.cons rfl (Sub.cons rfl (Sub.cons rfl (Sub.cons rfl (Sub.cons rfl Sub.nil))))))) ⟨hO1, hE1, Seg.refl _ _ _, u2.sub (by omega) (Nat.le_refl _)⟩
  rintro l2 m2 ⟨hO2, hE2, hSg2, hUp2⟩
  have v3 := u3.of_out hSg2 (.inr (Nat.le_refl _))
  have v4 := u4.of_out hSg2 (.inr (by omega))
  repeat (first | with_reducible refine WP.seq ?_ | with_reducible refine WP.block ?_ | with_reducible refine WP.region ?_)
  refine RL.pure T_ok 3 rfl ?_
  by_cases r1 : mid < mid + md - s
  · refine RL.eqv (v' := .bool true) (congrArg _ (decide_eq_true (by omega))) ?_
    refine RL.pure T_ok 4 rfl ?_
    by_cases r2 : mid + md - s < b
    · refine RL.eqv (v' := .bool true) (congrArg _ (decide_eq_true (by omega))) ?_
      refine RL.auto T_ok rfl ?_
      refine RL.nil ?_; repeat (first | with_reducible refine QN.block_normal ?_ | with_reducible refine QN.next ?_); repeat (first | with_reducible refine WP.seq ?_ | with_reducible refine WP.block ?_ | with_reducible refine WP.region ?_)
      refine WP.condT rfl ?_
      repeat (first | with_reducible refine WP.seq ?_ | with_reducible refine WP.block ?_ | with_reducible refine WP.region ?_)
      refine RL.auto T_ok rfl ?_
      refine RL.call (fi := []) (ca := []) rfl rfl rfl rfl (ih m2 l2 mid (mid + md - s) b (by omega) (hC.keep _ _ hK hE2) hO2 r1 r2 hbn v3 v4) ?_
      rintro _ m3 ⟨rfl, hE3, l3, hO3, hS3, hU3⟩
      refine ⟨_, rfl, ?_⟩
      obtain ⟨w1, w2⟩ := halves hSg2 hS3 (by omega) (by omega) hUp2 hU3 hcross
      exact RL.nil (QN.end0 rfl ⟨_, rfl, rfl, hE2.trans hE3 (fun k hk => .inl hk), l3, hO3, hSg1.trans w1, w2⟩)
    · refine RL.eqv (v' := .bool false) (congrArg _ (decide_eq_false (by omega))) ?_
      refine RL.auto T_ok rfl ?_
      refine RL.nil ?_; repeat (first | with_reducible refine QN.block_normal ?_ | with_reducible refine QN.next ?_); repeat (first | with_reducible refine WP.seq ?_ | with_reducible refine WP.block ?_ | with_reducible refine WP.region ?_)
      refine WP.condF rfl ?_
      refine WP.skip ?_
      obtain ⟨w1, w2⟩ := halves hSg2 (Seg.refl mid b l2) (by omega) (by omega) hUp2 (v3.sub (Nat.le_refl _) (by omega)) hcross
      exact QN.end0 rfl ⟨_, rfl, rfl, hE2, l2, hO2, hSg1.trans w1, w2⟩
  · refine RL.eqv (v' := .bool false) (congrArg _ (decide_eq_false (by omega))) ?_
    refine RL.auto T_ok rfl ?_
    refine RL.nil ?_; repeat (first | with_reducible refine QN.block_normal ?_ | with_reducible refine QN.next ?_); repeat (first | with_reducible refine WP.seq ?_ | with_reducible refine WP.block ?_ | with_reducible refine WP.region ?_)
    refine WP.condF rfl ?_
    refine WP.skip ?_
    obtain ⟨w1, w2⟩ := halves hSg2 (Seg.refl mid b l2) (by omega) (by omega) hUp2 (v4.sub (by omega) (Nat.le_refl _)) hcross
    exact QN.end0 rfl ⟨_, rfl, rfl, hE2, l2, hO2, hSg1.trans w1, w2⟩
end Go.Proofs.Ytmjpcaiehfimgaa
