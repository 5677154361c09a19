/- quireref7: At, Clean, Ranges, Join, Meet, Missing, Within. -/
import Derived.Test.YtmjpcaiehfimgaaVecB
import Derived.Test.YtmjpcaiehfimgaaIdsE
namespace Go.Proofs.Ytmjpcaiehfimgaa
open Go.RowKit Go.Ev Go.Ids

theorem at_iff (x : Clk) (cl : Nat) : x.at cl = if (decide (x.c = cl) && (decide (1 ≤ cl) && decide (cl ≤ 9007199254740991))) = true then min x.k 9007199254740991 else 0 := by
  unfold Clk.at
  simp only [Bool.and_eq_true, decide_eq_true_eq]
theorem vat_take (l : List Clk) (i : Nat) (h : i < l.length) (cl : Nat) : vat (l.take (i + 1)) cl = max (vat (l.take i) cl) (l[i].at cl) := by
  rw [List.take_succ_eq_append_getElem h, vat_append]; simp [vat]
theorem refvat_c (m : World) (v : Value) (l : List Clk) (h : Cs m [] v l) (hl : l.length < 1000000000) (cl : Nat) : FnR Try.prog 14 [v, .int .u64 cl] m fun r m' => r = .int .u64 (vat l cl) ∧ m' = m := by
  obtain ⟨A, c, rfl, _, _⟩ := h.shape
  refine FnE.enter ⟨_, Try.func14, by kernel_rfl, by kernel_rfl⟩ Try.func14 rfl rfl ?_
  repeat (first | with_reducible refine WP.seq ?_ | with_reducible refine WP.block ?_ | with_reducible refine WP.region ?_)
  refine RL.auto T_ok rfl ?_
  refine RL.nil ?_; repeat (first | with_reducible refine QN.block_normal ?_ | with_reducible refine QN.next ?_); repeat (first | with_reducible refine WP.seq ?_ | with_reducible refine WP.block ?_ | with_reducible refine WP.region ?_)
  refine RL.auto T_ok rfl ?_
  refine RL.nil ?_; repeat (first | with_reducible refine QN.block_normal ?_ | with_reducible refine QN.next ?_); repeat (first | with_reducible refine WP.seq ?_ | with_reducible refine WP.block ?_ | with_reducible refine WP.region ?_)
  refine RL.auto T_ok rfl ?_
  refine RL.nil ?_; repeat (first | with_reducible refine QN.block_normal ?_ | with_reducible refine QN.next ?_); repeat (first | with_reducible refine WP.seq ?_ | with_reducible refine WP.block ?_ | with_reducible refine WP.region ?_)
  refine (WP.loop (X := Nat) (fun i => [(0, .slice A l.length c), (1, .int .u64 cl), (5, .int .u64 (vat (l.take i) cl)), (6, .int .i64 i)])
    (fun i m' => i ≤ l.length ∧ m' = m) (fun i => l.length - i) 0
    (Sub.cons rfl (Sub.cons rfl (Sub.cons rfl (Sub.cons rfl Sub.nil)))) ⟨by simp, rfl⟩ ?_)
  rintro i m1 ⟨hi, hm1⟩
  subst hm1
  repeat (first | with_reducible refine WP.seq ?_ | with_reducible refine WP.block ?_ | with_reducible refine WP.region ?_)
  refine RL.auto T_ok rfl ?_
  refine RL.nil ?_; repeat (first | with_reducible refine QN.block_normal ?_ | with_reducible refine QN.next ?_); repeat (first | with_reducible refine WP.seq ?_ | with_reducible refine WP.block ?_ | with_reducible refine WP.region ?_)
  refine WP.cond rfl (fun hc => ?_) (fun hc => ?_)
  · replace hc : i < l.length := by have := of_decide_eq_true hc; omega
    obtain ⟨ad, rfl, hx⟩ := h.cell i hc
    have hnx := vat_take l i hc cl
    generalize l[i] = x at hx hnx
    rw [at_iff] at hnx
    refine WP.skip ?_; repeat (first | with_reducible refine QN.block_normal ?_ | with_reducible refine QN.next ?_)
    refine WP.seq ?_
    refine WP.block ?_
    refine WP.cut (X := Bool) (fun q => [(0, .slice (some ad) l.length c), (1, .int .u64 cl), (5, .int .u64 (vat (l.take i) cl)), (6, .int .i64 i), (27, .bool q)]) (fun q m' => m' = m1 ∧ q = (decide (x.c = cl) && (decide (1 ≤ cl) && decide (cl ≤ 9007199254740991)))) ?_ ?_
    · refine WP.region ?_
      refine RL.pure T_ok 2 rfl ?_
      refine RL.indexAddr (k := i) T_ok rfl rfl rfl rfl rfl rfl rfl hc rfl ?_
      refine RL.pure T_ok 1 rfl ?_
      refine RL.load T_ok rfl rfl rfl (hx 0 _ rfl) rfl ?_
      refine RL.pure T_ok 2 rfl ?_
      refine RL.eqv (v' := .bool (decide (x.c = cl))) (congrArg _ (deq _ _)) ?_
      by_cases h1 : x.c = cl
      · refine RL.eqv (v' := .bool true) (congrArg _ (decide_eq_true h1)) ?_
        refine RL.pure T_ok 3 rfl ?_
        refine RL.eqv (v' := .bool (decide (1 ≤ cl))) (congrArg _ (by rw [decide_eq_decide]; omega)) ?_
        by_cases h2 : 1 ≤ cl
        · refine RL.eqv (v' := .bool true) (congrArg _ (decide_eq_true h2)) ?_
          refine RL.pure T_ok 4 rfl ?_
          refine RL.eqv (v' := .bool (decide (cl ≤ 9007199254740991))) (congrArg _ (by rw [decide_eq_decide]; omega)) ?_
          refine RL.auto T_ok rfl ?_
          exact RL.nil (QN.cutEnd (decide (cl ≤ 9007199254740991)) (Sub.cons rfl (Sub.cons rfl (Sub.cons rfl (Sub.cons rfl (Sub.cons rfl Sub.nil))))) ⟨rfl, by simp [h1, h2]⟩)
        · refine RL.eqv (v' := .bool false) (congrArg _ (decide_eq_false h2)) ?_
          refine RL.auto T_ok rfl ?_
          exact RL.nil (QN.cutEnd false (Sub.cons rfl (Sub.cons rfl (Sub.cons rfl (Sub.cons rfl (Sub.cons rfl Sub.nil))))) ⟨rfl, by simp [h1, h2]⟩)
      · refine RL.eqv (v' := .bool false) (congrArg _ (decide_eq_false h1)) ?_
        refine RL.auto T_ok rfl ?_
        exact RL.nil (QN.cutEnd false (Sub.cons rfl (Sub.cons rfl (Sub.cons rfl (Sub.cons rfl (Sub.cons rfl Sub.nil))))) ⟨rfl, by simp [h1]⟩)
    rintro q mc ⟨rfl, hq⟩
    rw [← hq] at hnx
    refine WP.cond rfl (fun hqt => ?_) (fun hqf => ?_)
    · rw [if_pos hqt] at hnx
      repeat (first | with_reducible refine WP.seq ?_ | with_reducible refine WP.block ?_ | with_reducible refine WP.region ?_)
      refine RL.pure T_ok 3 rfl ?_
      refine RL.indexAddr (k := i) T_ok rfl rfl rfl rfl rfl rfl rfl hc rfl ?_
      refine RL.pure T_ok 1 rfl ?_
      refine RL.load T_ok rfl rfl rfl (hx 1 _ rfl) rfl ?_
      refine RL.pure T_ok 1 rfl ?_
      refine RL.eqv (v' := .int .u64 (min x.k 9007199254740991 : Nat)) (minK x.k 9007199254740991) ?_
      refine RL.pure T_ok 1 rfl ?_
      refine RL.eqv (v' := .int .u64 (vat (l.take (i + 1)) cl : Nat)) (by rw [hnx]; exact maxK _ _) ?_
      refine RL.auto T_ok rfl ?_
      refine RL.nil ?_; repeat (first | with_reducible refine QN.block_normal ?_ | with_reducible refine QN.next ?_); repeat (first | with_reducible refine WP.seq ?_ | with_reducible refine WP.block ?_ | with_reducible refine WP.region ?_)
      refine RL.pure T_ok 2 rfl ?_
      refine RL.eqv (v' := .int .i64 ((i + 1 : Nat) : Int)) (congrArg _ (by rw [wrap_i64_in _ (by omega) (by omega)]; rfl)) ?_
      refine RL.auto T_ok rfl ?_
      exact RL.nil (QN.round (i + 1) (Sub.cons rfl (Sub.cons rfl (Sub.cons rfl (Sub.cons rfl Sub.nil)))) ⟨by omega, rfl⟩ (by omega))
    · rw [hqf, if_neg (by simp), Nat.max_zero] at hnx
      refine WP.skip ?_
      repeat (first | with_reducible refine QN.block_normal ?_ | with_reducible refine QN.next ?_)
      repeat (first | with_reducible refine WP.seq ?_ | with_reducible refine WP.block ?_ | with_reducible refine WP.region ?_)
      refine RL.pure T_ok 2 rfl ?_
      refine RL.eqv (v' := .int .i64 ((i + 1 : Nat) : Int)) (congrArg _ (by rw [wrap_i64_in _ (by omega) (by omega)]; rfl)) ?_
      refine RL.auto T_ok rfl ?_
      exact RL.nil (QN.round (i + 1) (Sub.cons rfl (Sub.cons rfl (Sub.cons (by rw [hnx]; rfl) (Sub.cons rfl Sub.nil)))) ⟨by omega, rfl⟩ (by omega))
  · replace hc : i = l.length := by have := of_decide_eq_false hc; omega
    subst hc
    rw [List.take_length]
    refine WP.exit ?_; repeat (first | with_reducible refine QN.then_exit ?_ | with_reducible refine QN.block_exit ?_ | with_reducible refine QN.block_far rfl ?_ | with_reducible refine QN.block_normal ?_ | with_reducible refine QN.next ?_); repeat (first | with_reducible refine WP.seq ?_ | with_reducible refine WP.block ?_ | with_reducible refine WP.region ?_)
    refine RL.auto T_ok rfl ?_
    refine RL.nil ?_; repeat (first | with_reducible refine QN.block_normal ?_ | with_reducible refine QN.next ?_); repeat (first | with_reducible refine WP.seq ?_ | with_reducible refine WP.block ?_ | with_reducible refine WP.region ?_)
    refine WP.ret ?_; repeat (first | with_reducible refine QN.then_ret ?_ | with_reducible refine QN.block_ret ?_)
    exact QN.ret1 rfl rfl ⟨_, rfl, rfl, rfl⟩
/-- What stands between two. -/
structure RV (l : List Clk) (i : Nat) (L : List Clk) : Prop where
  canon : VCanon L
  told : ∀ c, vat L c = if ∃ x ∈ l.take i, x.c = c then vat l c else 0
  len : L.length ≤ i
theorem RV.start (l : List Clk) : RV l 0 [] := ⟨VCanon.nil, fun c => by rw [if_neg (by simp)]; rfl, Nat.le_refl _⟩
theorem take_ex (l : List Clk) (i : Nat) (h : i < l.length) (c : Nat) : (∃ x ∈ l.take (i + 1), x.c = c) ↔ (∃ x ∈ l.take i, x.c = c) ∨ l[i].c = c := by
  rw [List.take_succ_eq_append_getElem h]
  constructor
  · rintro ⟨x, hx, h1⟩
    rcases List.mem_append.1 hx with hx | hx
    · exact .inl ⟨x, hx, h1⟩
    · have : x = l[i] := by simpa using hx
      subst this; exact .inr h1
  · rintro (⟨x, hx, h1⟩ | h1)
    · exact ⟨x, List.mem_append_left _ hx, h1⟩
    · exact ⟨l[i], List.mem_append_right _ (by simp), h1⟩
theorem RV.skip {l : List Clk} {i : Nat} {L : List Clk} (h : RV l i L) (hi : i < l.length) (hs : vat l l[i].c = 0 ∨ ∃ y ∈ L, y.c = l[i].c) : RV l (i + 1) L := by
  refine ⟨h.canon, fun c => ?_, by have := h.len; omega⟩
  rw [h.told]
  by_cases h1 : ∃ x ∈ l.take i, x.c = c
  · rw [if_pos h1, if_pos ((take_ex l i hi c).2 (.inl h1))]
  · rw [if_neg h1]
    by_cases h2 : l[i].c = c
    · rw [if_pos ((take_ex l i hi c).2 (.inr h2))]
      rcases hs with hs | ⟨y, hy, hs⟩
      · rw [← h2, hs]
      · have h3 := h.canon.at_mem hy
        rw [hs, h2, h.told, if_neg h1] at h3
        have := (h.canon.1 y hy).2.2.1; omega
    · rw [if_neg (fun hh => ((take_ex l i hi c).1 hh).elim h1 h2)]
theorem RV.put {l : List Clk} {i at_ : Nat} {L : List Clk} (h : RV l i L) (hi : i < l.length) (h0 : vat l l[i].c ≠ 0) (ha : at_ ≤ L.length) (h1 : ∀ j (hj : j < L.length), j < at_ → L[j].c < l[i].c) (h2 : ∀ j (hj : j < L.length), at_ ≤ j → l[i].c < L[j].c) :
    RV l (i + 1) (L.take at_ ++ ⟨l[i].c, vat l l[i].c⟩ :: L.drop at_) := by
  generalize hx : l[i].c = c0 at *
  have hok : Clk.ok ⟨c0, vat l c0⟩ := by
    obtain ⟨x, _, _, g1, g2, _⟩ := vat_mem h0
    exact ⟨g1, g2, by simp only; omega, vat_le l c0⟩
  have f1 : ∀ a ∈ L.take at_, a.c < c0 := fun a hm => by
    obtain ⟨j, hj, rfl⟩ := List.mem_iff_getElem.1 hm
    rw [List.getElem_take]
    rw [List.length_take] at hj
    exact h1 j (by omega) (by omega)
  have f2 : ∀ a ∈ L.drop at_, c0 < a.c := fun a hm => by
    obtain ⟨j, hj, rfl⟩ := List.mem_iff_getElem.1 hm
    rw [List.length_drop] at hj
    rw [List.getElem_drop]
    exact h2 _ (by omega) (by omega)
  have hsplit : (L.take at_ ++ L.drop at_).Pairwise fun x y => x.c < y.c := by rw [List.take_append_drop]; exact h.canon.2
  rw [List.pairwise_append] at hsplit
  have hmem : ∀ a ∈ L.take at_ ++ L.drop at_, a ∈ L := fun a hm => by rwa [List.take_append_drop] at hm
  refine ⟨⟨fun y hy => ?_, ?_⟩, fun c => ?_, ?_⟩
  · rcases List.mem_append.1 hy with hy | hy
    · exact h.canon.1 y (List.mem_of_mem_take hy)
    · rcases List.mem_cons.1 hy with rfl | hy
      · exact hok
      · exact h.canon.1 y (List.mem_of_mem_drop hy)
  · rw [List.pairwise_append]
    refine ⟨hsplit.1, List.pairwise_cons.2 ⟨f2, hsplit.2.1⟩, fun a hm b hb => ?_⟩
    rcases List.mem_cons.1 hb with rfl | hb
    · exact f1 a hm
    · exact hsplit.2.2 a hm b hb
  · have e : vat (L.take at_ ++ ⟨c0, vat l c0⟩ :: L.drop at_) c = max (vat L c) (Clk.at ⟨c0, vat l c0⟩ c) := by
      have := vat_append (L.take at_) (L.drop at_) c
      rw [List.take_append_drop] at this
      rw [vat_append, this]
      simp only [vat]; omega
    rw [e, hok.at, h.told]
    simp only
    by_cases g : c0 = c
    · subst g
      rw [if_pos rfl, if_pos ((take_ex l i hi c0).2 (.inr hx))]
      split <;> omega
    · rw [if_neg g]
      by_cases g1 : ∃ x ∈ l.take i, x.c = c
      · rw [if_pos g1, if_pos ((take_ex l i hi c).2 (.inl g1))]; omega
      · rw [if_neg g1, if_neg (fun hh => ((take_ex l i hi c).1 hh).elim g1 (fun g2 => g (by rw [← hx]; exact g2)))]; rfl
  · have := h.len
    simp; omega
theorem RV.done {l L : List Clk} (h : RV l l.length L) : L = vclean l := vclean_eq h.canon fun c => by
  rw [h.told, List.take_length]
  by_cases g : ∃ x ∈ l, x.c = c
  · rw [if_pos g]
  · rw [if_neg g]
    by_cases h0 : vat l c = 0
    · exact h0.symm
    · obtain ⟨x, hx, h1, _⟩ := vat_mem h0
      exact absurd ⟨x, hx, h1⟩ g
theorem zipK_take (d : List Clk) (w : Clk) (k : Nat) (h : k ≤ d.length) : (d.take k ++ [w] ++ d.drop k).take k = d.take k := by
  rw [List.append_assoc, List.take_append_of_le_length (by simp; omega), List.take_take, Nat.min_self]
theorem zipK_drop (d : List Clk) (w : Clk) (k : Nat) (h : k ≤ d.length) : (d.take k ++ [w] ++ d.drop k).drop (k + 1) = d.drop k := by
  rw [List.drop_append, List.drop_of_length_le (by simp; omega), List.nil_append]
  simp [Nat.min_eq_left h]
theorem zipK_set (d : List Clk) (w x : Clk) (k : Nat) (h : k ≤ d.length) : (d.take k ++ [w] ++ d.drop k).set k x = d.take k ++ [x] ++ d.drop k := by
  rw [List.append_assoc, List.set_append_right _ _ (by rw [List.length_take]; omega), List.length_take, Nat.min_eq_left h, Nat.sub_self]
  simp
theorem zipK_shift (d : List Clk) (q : Nat) (h : q < d.length) : d.take (q + 1) ++ [d[q]] ++ d.drop (q + 1) = d.take q ++ [d[q]] ++ d.drop q := by
  rw [List.take_succ_eq_append_getElem h, List.drop_eq_getElem_cons h]; simp
theorem zipK_get (d : List Clk) (w : Clk) (q : Nat) (h : q < d.length) (h' : q < (d.take (q + 1) ++ [w] ++ d.drop (q + 1)).length) : (d.take (q + 1) ++ [w] ++ d.drop (q + 1))[q] = d[q] := by
  rw [List.getElem_append_left (by simp; omega), List.getElem_append_left (by simp; omega), List.getElem_take]
set_option maxHeartbeats 1000000 in
theorem refvclean_c (m : World) (v : Value) (l : List Clk) (h : Cs m [] v l) (hl : l.length < 100000000) : FnR Try.prog 12 [v] m fun r m' => VMade m r (vclean l) m' := by
  obtain ⟨A, c, rfl, _, _⟩ := h.shape
  refine FnE.enter ⟨_, Try.func12, by kernel_rfl, by kernel_rfl⟩ Try.func12 rfl rfl ?_
  repeat (first | with_reducible refine WP.seq ?_ | with_reducible refine WP.block ?_ | with_reducible refine WP.region ?_)
  refine RL.auto T_ok rfl ?_
  refine RL.nil ?_; repeat (first | with_reducible refine QN.block_normal ?_ | with_reducible refine QN.next ?_); repeat (first | with_reducible refine WP.seq ?_ | with_reducible refine WP.block ?_ | with_reducible refine WP.region ?_)
  refine RL.auto T_ok rfl ?_
  refine RL.nil ?_; repeat (first | with_reducible refine QN.block_normal ?_ | with_reducible refine QN.next ?_); repeat (first | with_reducible refine WP.seq ?_ | with_reducible refine WP.block ?_ | with_reducible refine WP.region ?_)
  refine RL.auto T_ok rfl ?_
  refine RL.nil ?_; repeat (first | with_reducible refine QN.block_normal ?_ | with_reducible refine QN.next ?_); repeat (first | with_reducible refine WP.seq ?_ | with_reducible refine WP.block ?_ | with_reducible refine WP.region ?_)
  refine (WP.loop (X := Nat × Value × List Nat × List Clk) (fun x => [(0, .slice A l.length c), (3, x.2.1), (4, .int .i64 x.1)])
    (fun x m' => x.1 ≤ l.length ∧ RV l x.1 x.2.2.2 ∧ Ev.Own m' x.2.2.1 60 2 x.2.1 x.2.2.2.length (x.2.2.2.flatMap cC) ∧ New m x.2.2.1 m') (fun x => l.length - x.1) (0, .slice none 0 0, [], [])
    (Sub.cons rfl (Sub.cons rfl (Sub.cons rfl Sub.nil))) ⟨by simp, RV.start l, Own.empty _ _ _ _, Ext.refl _ _, FpNew.nil _ _⟩ ?_)
  rintro ⟨i, u, S, d⟩ m1 ⟨hi, hd, hO, hN⟩
  simp only at hi hd hO hN
  obtain ⟨Au, cu, rfl, _⟩ := hO.shape
  have hdl := hd.len
  repeat (first | with_reducible refine WP.seq ?_ | with_reducible refine WP.block ?_ | with_reducible refine WP.region ?_)
  refine RL.auto T_ok rfl ?_
  refine RL.nil ?_; repeat (first | with_reducible refine QN.block_normal ?_ | with_reducible refine QN.next ?_); repeat (first | with_reducible refine WP.seq ?_ | with_reducible refine WP.block ?_ | with_reducible refine WP.region ?_)
  refine WP.cond rfl (fun hc => ?_) (fun hc => ?_)
  · replace hc : i < l.length := by have := of_decide_eq_true hc; simp only at this; omega
    have hh1 := h.ext0 hN.1
    obtain ⟨ad, rfl, hx⟩ := hh1.cell i hc
    have hskip := hd.skip hc
    have hput := fun at_ h0 ha h1 h2 => hd.put (at_ := at_) hc h0 ha h1 h2
    have hxE : ∀ m', Ext m [] m' → ∀ j w, (cC l[i])[j]? = some w → m'.cell? ((ad.add (i * 2)).add j) = some w := fun m' hE => by
      obtain ⟨ad', h1, h2⟩ := (h.ext0 hE).cell i hc
      injection h1 with h1
      subst h1
      exact h2
    generalize l[i] = x at hx hskip hput hxE
    have hRd : Cs m1 [] (.slice Au d.length cu) d := hO.sl (by simp)
    refine WP.skip ?_; repeat (first | with_reducible refine QN.block_normal ?_ | with_reducible refine QN.next ?_); repeat (first | with_reducible refine WP.seq ?_ | with_reducible refine WP.block ?_ | with_reducible refine WP.region ?_)
    refine RL.auto T_ok rfl ?_
    refine RL.nil ?_; repeat (first | with_reducible refine QN.block_normal ?_ | with_reducible refine QN.next ?_)
    refine WP.cut (X := Nat) (fun a => [(0, .slice (some ad) l.length c), (3, .slice Au d.length cu), (4, .int .i64 i), (5, .int .i64 a)])
      (fun a m' => m' = m1 ∧ a ≤ d.length ∧ (∀ j (h : j < d.length), j < a → d[j].c < x.c) ∧ ∀ h : a < d.length, x.c ≤ d[a].c) ?_ ?_
    · refine WP.block ?_
      refine (WP.loop (X := Nat) (fun a => [(0, .slice (some ad) l.length c), (3, .slice Au d.length cu), (4, .int .i64 i), (5, .int .i64 a)])
        (fun a m' => m' = m1 ∧ a ≤ d.length ∧ (∀ j (h : j < d.length), j < a → d[j].c < x.c)) (fun a => d.length - a) 0
        (Sub.cons rfl (Sub.cons rfl (Sub.cons rfl (Sub.cons rfl Sub.nil)))) ⟨rfl, by simp, (fun j _ hj => absurd hj (by omega))⟩ ?_)
      rintro a mL ⟨rfl, ha, hlt⟩
      refine WP.seq ?_
      refine WP.seq ?_
      refine WP.drawQ (fun m' => m' = mL) [] (by kernel_rfl) rfl (by repeat (first | with_reducible exact PanicOk.body | with_reducible refine PanicOk.then_ ?_ | with_reducible refine PanicOk.block_ ?_)) (fun hQ => ?_)
      refine RH.pure T_ok hQ [0, 1, 2, 3] (by kernel_rfl) rfl ?_
      by_cases hc1 : a < d.length
      rotate_left
      · refine RH.eqv (v' := .bool false) (congrArg _ (decide_eq_false (by omega))) ?_
        refine RH.pure T_ok hQ [4, 5, 6, 7, 8, 9, 10, 11, 12, 13, 14, 15, 16] (by kernel_rfl) rfl ?_
        refine RH.done (by kernel_rfl) (fun _ => ?_)
        repeat (first | with_reducible refine QN.block_normal ?_ | with_reducible refine QN.next ?_)
        refine WP.condF rfl ?_
        refine WP.exit ?_
        repeat (first | with_reducible refine QN.then_exit ?_ | with_reducible refine QN.block_exit ?_ | with_reducible refine QN.block_normal ?_)
        exact QN.cutEnd a (Sub.cons rfl (Sub.cons rfl (Sub.cons rfl (Sub.cons rfl Sub.nil)))) ⟨rfl, ha, hlt, fun h => absurd h hc1⟩
      obtain ⟨adu, rfl, hy⟩ := hRd.cell a hc1
      refine RH.eqv (v' := .bool true) (congrArg _ (decide_eq_true (by omega))) ?_
      refine RH.pure T_ok hQ [4, 5, 6] (by kernel_rfl) rfl ?_
      refine RH.indexAddr T_ok hQ 7 (k := a) rfl (by kernel_rfl) rfl rfl rfl rfl rfl rfl rfl hc1 rfl ?_
      refine RH.pure T_ok hQ [8] (by kernel_rfl) rfl ?_
      refine RH.load T_ok hQ 9 (fun m' hm' => by rw [hm']; exact hy 0 _ rfl) rfl (by kernel_rfl) rfl rfl rfl rfl ?_
      refine RH.pure T_ok hQ [10, 11] (by kernel_rfl) rfl ?_
      refine RH.indexAddr T_ok hQ 12 (k := i) rfl (by kernel_rfl) rfl rfl rfl rfl rfl rfl rfl hc rfl ?_
      refine RH.pure T_ok hQ [13] (by kernel_rfl) rfl ?_
      refine RH.load T_ok hQ 14 (fun m' hm' => by rw [hm']; exact hx 0 _ rfl) rfl (by kernel_rfl) rfl rfl rfl rfl ?_
      refine RH.pure T_ok hQ [15] (by kernel_rfl) rfl ?_
      by_cases hc2 : d[a].c < x.c
      · refine RH.eqv (v' := .bool true) (congrArg _ (by rw [dlt]; exact decide_eq_true hc2)) ?_
        refine RH.pure T_ok hQ [16] (by kernel_rfl) rfl ?_
        refine RH.done (by kernel_rfl) (fun _ => ?_)
        repeat (first | with_reducible refine QN.block_normal ?_ | with_reducible refine QN.next ?_)
        refine WP.condT rfl ?_
        refine WP.skip ?_; repeat (first | with_reducible refine QN.block_normal ?_ | with_reducible refine QN.next ?_); repeat (first | with_reducible refine WP.seq ?_ | with_reducible refine WP.block ?_ | with_reducible refine WP.region ?_)
        refine RL.pure T_ok 2 rfl ?_
        refine RL.eqv (v' := .int .i64 ((a + 1 : Nat) : Int)) (congrArg _ (by rw [wrap_i64_in _ (by omega) (by omega)]; rfl)) ?_
        refine RL.auto T_ok rfl ?_
        refine RL.nil ?_
        repeat (first | with_reducible refine QN.block_normal ?_ | with_reducible refine QN.next ?_)
        refine QN.round (a + 1) (Sub.cons rfl (Sub.cons rfl (Sub.cons rfl (Sub.cons rfl Sub.nil)))) ⟨rfl, hc1, fun j hj hja => ?_⟩ (by omega)
        by_cases hj2 : j = a
        · subst hj2; exact hc2
        · exact hlt j hj (by omega)
      · refine RH.eqv (v' := .bool false) (congrArg _ (by rw [dlt]; exact decide_eq_false hc2)) ?_
        refine RH.pure T_ok hQ [16] (by kernel_rfl) rfl ?_
        refine RH.done (by kernel_rfl) (fun _ => ?_)
        repeat (first | with_reducible refine QN.block_normal ?_ | with_reducible refine QN.next ?_)
        refine WP.condF rfl ?_
        refine WP.exit ?_
        repeat (first | with_reducible refine QN.then_exit ?_ | with_reducible refine QN.block_exit ?_ | with_reducible refine QN.block_normal ?_)
        exact QN.cutEnd a (Sub.cons rfl (Sub.cons rfl (Sub.cons rfl (Sub.cons rfl Sub.nil)))) ⟨rfl, ha, hlt, fun _ => by omega⟩
    rintro a mL ⟨rfl, ha, hlt, hge⟩
    refine WP.seq ?_
    refine WP.cut (X := Bool) (fun q => [(0, .slice (some ad) l.length c), (3, .slice Au d.length cu), (4, .int .i64 i), (5, .int .i64 a), (58, .bool q)])
      (fun q m' => m' = mL ∧ (q = true → vat l x.c = 0 ∨ ∃ y ∈ d, y.c = x.c) ∧ (q = false → vat l x.c ≠ 0 ∧ ∀ j (h : j < d.length), a ≤ j → x.c < d[j].c)) ?_ ?_
    · refine WP.drawQ (fun m' => m' = mL) [] (by kernel_rfl) rfl (by repeat (first | with_reducible exact PanicOk.body | with_reducible refine PanicOk.then_ ?_ | with_reducible refine PanicOk.block_ ?_)) (fun hQ => ?_)
      refine RH.pure T_ok hQ [0, 1, 2] (by kernel_rfl) rfl ?_
      refine RH.indexAddr T_ok hQ 3 (k := i) rfl (by kernel_rfl) rfl rfl rfl rfl rfl rfl rfl hc rfl ?_
      refine RH.pure T_ok hQ [4] (by kernel_rfl) rfl ?_
      refine RH.load T_ok hQ 5 (fun m' hm' => by rw [hm']; exact hx 0 _ rfl) rfl (by kernel_rfl) rfl rfl rfl rfl ?_
      refine RH.only 6 rfl (by kernel_rfl) (fun _ => ?_)
      refine RL.call (fi := []) (ca := []) rfl rfl rfl rfl (refvat_c mL _ l hh1 (by omega) x.c) ?_
      rintro _ mM ⟨rfl, hmM⟩
      subst hmM
      refine ⟨_, rfl, RL.nil (RH.cont rfl ?_)⟩
      refine RH.pure T_ok hQ [7] (by kernel_rfl) rfl ?_
      by_cases h0 : vat l x.c = 0
      · refine RH.eqv (v' := .bool true) (congrArg _ (by rw [h0]; rfl)) ?_
        refine RH.pure T_ok hQ [8, 9, 10, 11, 12, 13, 14, 15, 16, 17, 18, 19, 20, 21, 22, 23, 24, 25, 26] (by kernel_rfl) rfl ?_
        refine RH.done (by kernel_rfl) (fun _ => ?_)
        exact QN.cutEnd true (Sub.cons rfl (Sub.cons rfl (Sub.cons rfl (Sub.cons rfl (Sub.cons rfl Sub.nil))))) ⟨rfl, (fun _ => .inl h0), (fun hh => by cases hh)⟩
      refine RH.eqv (v' := .bool false) (congrArg _ (by rw [beq_eq_false_iff_ne]; omega)) ?_
      refine RH.pure T_ok hQ [8, 9, 10, 11, 12] (by kernel_rfl) rfl ?_
      by_cases hc1 : a < d.length
      rotate_left
      · refine RH.eqv (v' := .bool false) (congrArg _ (decide_eq_false (by omega))) ?_
        refine RH.pure T_ok hQ [13, 14, 15, 16, 17, 18, 19, 20, 21, 22, 23, 24, 25, 26] (by kernel_rfl) rfl ?_
        refine RH.done (by kernel_rfl) (fun _ => ?_)
        exact QN.cutEnd false (Sub.cons rfl (Sub.cons rfl (Sub.cons rfl (Sub.cons rfl (Sub.cons rfl Sub.nil))))) ⟨rfl, (fun hh => by cases hh), fun _ => ⟨h0, fun j hj hja => absurd hj (by omega)⟩⟩
      obtain ⟨adu, rfl, hy⟩ := hRd.cell a hc1
      have hge1 := hge hc1
      refine RH.eqv (v' := .bool true) (congrArg _ (decide_eq_true (by omega))) ?_
      refine RH.pure T_ok hQ [13, 14, 15] (by kernel_rfl) rfl ?_
      refine RH.indexAddr T_ok hQ 16 (k := a) rfl (by kernel_rfl) rfl rfl rfl rfl rfl rfl rfl hc1 rfl ?_
      refine RH.pure T_ok hQ [17] (by kernel_rfl) rfl ?_
      refine RH.load T_ok hQ 18 (fun m' hm' => by rw [hm']; exact hy 0 _ rfl) rfl (by kernel_rfl) rfl rfl rfl rfl ?_
      refine RH.pure T_ok hQ [19, 20] (by kernel_rfl) rfl ?_
      refine RH.indexAddr T_ok hQ 21 (k := i) rfl (by kernel_rfl) rfl rfl rfl rfl rfl rfl rfl hc rfl ?_
      refine RH.pure T_ok hQ [22] (by kernel_rfl) rfl ?_
      refine RH.load T_ok hQ 23 (fun m' hm' => by rw [hm']; exact hx 0 _ rfl) rfl (by kernel_rfl) rfl rfl rfl rfl ?_
      refine RH.pure T_ok hQ [24] (by kernel_rfl) rfl ?_
      refine RH.eqv (v' := .bool (decide (d[a].c = x.c))) (congrArg _ (deq _ _)) ?_
      refine RH.pure T_ok hQ [25, 26] (by kernel_rfl) rfl ?_
      refine RH.done (by kernel_rfl) (fun _ => ?_)
      refine QN.cutEnd (decide (d[a].c = x.c)) (Sub.cons rfl (Sub.cons rfl (Sub.cons rfl (Sub.cons rfl (Sub.cons rfl Sub.nil))))) ⟨rfl, (fun hh => .inr ⟨d[a], List.getElem_mem _, of_decide_eq_true hh⟩), fun hh => ⟨h0, fun j hj hja => ?_⟩⟩
      have hne := of_decide_eq_false hh
      rcases Nat.lt_or_eq_of_le hja with h9 | h9
      · have := List.pairwise_iff_getElem.1 hd.canon.2 a j hc1 hj h9
        omega
      · subst h9; omega
    rintro q mM ⟨rfl, hqt, hqf⟩
    refine WP.cond rfl (fun hq => ?_) (fun hq => ?_)
    · have hnx := hskip (hqt hq)
      refine WP.exit ?_; repeat (first | with_reducible refine QN.then_exit ?_ | with_reducible refine QN.block_exit ?_ | with_reducible refine QN.block_far rfl ?_ | with_reducible refine QN.block_normal ?_ | with_reducible refine QN.next ?_); repeat (first | with_reducible refine WP.seq ?_ | with_reducible refine WP.block ?_ | with_reducible refine WP.region ?_)
      refine RL.pure T_ok 2 rfl ?_
      refine RL.eqv (v' := .int .i64 ((i + 1 : Nat) : Int)) (congrArg _ (by rw [wrap_i64_in _ (by omega) (by omega)]; rfl)) ?_
      refine RL.auto T_ok rfl ?_
      exact RL.nil (QN.round (i + 1, .slice Au d.length cu, S, d) (Sub.cons rfl (Sub.cons rfl (Sub.cons rfl Sub.nil))) ⟨by show i + 1 ≤ _; omega, hnx, hO, hN⟩ (by show _ - (i + 1) < _ - i; omega))
    obtain ⟨h0, hgt⟩ := hqf hq
    have hnx := hput a h0 ha hlt hgt
    refine WP.skip ?_; repeat (first | with_reducible refine QN.block_normal ?_ | with_reducible refine QN.next ?_); repeat (first | with_reducible refine WP.seq ?_ | with_reducible refine WP.block ?_ | with_reducible refine WP.region ?_)
    refine RL.pure T_ok 2 rfl ?_
    refine RL.append1 T_ok [.tmp 60] hO (us := [cV ⟨0, 0⟩]) (cC ⟨0, 0⟩) rfl rfl rfl rfl rfl rfl rfl rfl rfl (by simp [cV, cC, Value.cells]) (by simp [cV, Value.cells]) (cC_one _) (by unfold maxLen; omega) (by show (_ + 1) * 16 ≤ _; omega) ?_
    intro v4 m4 S4 hO4 hE4 hF4
    refine ⟨_, rfl, ?_⟩
    have hN4 : New m S4 m4 := ⟨hN.1.trans hE4 (fun k hk => .inr (hN.ge k hk)), hN.2.trans hF4 hN.1.size⟩
    obtain ⟨A4, c4, rfl, _⟩ := hO4.shape
    refine RL.auto T_ok rfl ?_
    refine RL.nil ?_; repeat (first | with_reducible refine QN.block_normal ?_ | with_reducible refine QN.next ?_); repeat (first | with_reducible refine WP.seq ?_ | with_reducible refine WP.block ?_ | with_reducible refine WP.region ?_)
    refine RL.pure T_ok 3 rfl ?_
    refine RL.eqv (v' := .int .i64 (d.length : Int)) (congrArg _ (by rw [wrap_i64_in _ (by omega) (by omega)]; omega)) ?_
    refine RL.auto T_ok rfl ?_
    refine RL.nil ?_; repeat (first | with_reducible refine QN.block_normal ?_ | with_reducible refine QN.next ?_); repeat (first | with_reducible refine WP.seq ?_ | with_reducible refine WP.block ?_ | with_reducible refine WP.region ?_)
    refine (WP.loop (X := Nat × Clk) (fun q => [(0, .slice (some ad) l.length c), (3, .slice A4 (d.length + 1) c4), (4, .int .i64 i), (5, .int .i64 a), (6, .int .i64 q.1)])
      (fun q m' => a ≤ q.1 ∧ q.1 ≤ d.length ∧ Ev.Own m' S4 60 2 (.slice A4 (d.length + 1) c4) (d.length + 1) ((d.take q.1 ++ [q.2] ++ d.drop q.1).flatMap cC) ∧ New m S4 m') (fun q => q.1) (d.length, ⟨0, 0⟩)
      (Sub.cons rfl (Sub.cons rfl (Sub.cons rfl (Sub.cons rfl (Sub.cons rfl Sub.nil))))) ⟨ha, Nat.le_refl _, by simpa using hO4, hN4⟩ ?_)
    rintro ⟨k, w⟩ m5 ⟨k1, k2, hO5, hN5⟩
    simp only at k1 k2 hO5
    have hzl : (d.take k ++ [w] ++ d.drop k).length = d.length + 1 := by simp; omega
    repeat (first | with_reducible refine WP.seq ?_ | with_reducible refine WP.block ?_ | with_reducible refine WP.region ?_)
    refine RL.auto T_ok rfl ?_
    refine RL.nil ?_; repeat (first | with_reducible refine QN.block_normal ?_ | with_reducible refine QN.next ?_); repeat (first | with_reducible refine WP.seq ?_ | with_reducible refine WP.block ?_ | with_reducible refine WP.region ?_)
    refine WP.cond rfl (fun hck => ?_) (fun hck => ?_)
    · replace hck : a < k := by have := of_decide_eq_true hck; simp only at this; omega
      obtain ⟨q, rfl⟩ : ∃ q, k = q + 1 := ⟨k - 1, by omega⟩
      have hRz : Cs m5 [] (.slice A4 (d.length + 1) c4) (d.take (q + 1) ++ [w] ++ d.drop (q + 1)) := hO5.sl (by simp)
      obtain ⟨ad5, rfl, hy⟩ := hRz.cell q (by simp; omega)
      rw [zipK_get d w q (by omega)] at hy
      obtain ⟨g, cap, cur, hv5, hB5, rfl, hj5, hset⟩ := hO5.putK (j := (q + 1) * 2) (k := 2) (by omega) (by omega)
      injection hv5 with hv5 hv5'
      injection hv5 with hv5
      subst hv5
      refine WP.skip ?_; repeat (first | with_reducible refine QN.block_normal ?_ | with_reducible refine QN.next ?_); repeat (first | with_reducible refine WP.seq ?_ | with_reducible refine WP.block ?_ | with_reducible refine WP.region ?_)
      refine RL.pure T_ok 5 rfl ?_
      refine RL.eqv (v' := .int .i64 (q : Int)) (congrArg _ (by rw [wrap_i64_in _ (by omega) (by omega)]; omega)) ?_
      refine RL.indexAddr (k := q) T_ok rfl rfl rfl rfl rfl rfl rfl (by omega) rfl ?_
      refine RL.loadAgg T_ok (cC d[q]) rfl rfl rfl hy rfl ?_
      refine RL.indexAddr (k := q + 1) T_ok rfl rfl rfl rfl rfl rfl rfl (by omega) rfl ?_
      refine RL.eqv (v' := .pointer (some ⟨g, (q + 1) * 2, none⟩)) (congrArg (fun q => Value.pointer (some q)) (by rw [add_block]; show (⟨g, 0 + (q + 1) * 2, none⟩ : Addr) = _; rw [Nat.zero_add])) ?_
      refine RL.storeAgg T_ok (b := g) (i := (q + 1) * 2) (vs := cC d[q]) hB5 rfl rfl rfl rfl rfl hj5 (cC_one _) rfl ?_
      intro m6 hC6
      have hO6 := hset m6 (cC d[q]) rfl hC6
      rw [csC_set _ (q + 1) _ (by rw [hzl]; omega), zipK_set d w _ (q + 1) k2, zipK_shift d q (by omega)] at hO6
      refine RL.nil ?_; repeat (first | with_reducible refine QN.block_normal ?_ | with_reducible refine QN.next ?_); repeat (first | with_reducible refine WP.seq ?_ | with_reducible refine WP.block ?_ | with_reducible refine WP.region ?_)
      refine RL.pure T_ok 2 rfl ?_
      refine RL.eqv (v' := .int .i64 (q : Int)) (congrArg _ (by rw [wrap_i64_in _ (by omega) (by omega)]; omega)) ?_
      refine RL.auto T_ok rfl ?_
      exact RL.nil (QN.round (q, d[q]) (Sub.cons rfl (Sub.cons rfl (Sub.cons rfl (Sub.cons rfl (Sub.cons rfl Sub.nil))))) ⟨by show a ≤ q; omega, by show q ≤ _; omega, hO6, ⟨hN5.1.trans hC6.ext (fun k hk => .inr (hN5.ge k hk)), hN5.2⟩⟩ (by show q < q + 1; omega))
    · replace hck : k = a := by have := of_decide_eq_false hck; simp only at this; omega
      subst hck
      obtain ⟨g, cap, cur, hv5, hB5, rfl, hj5, hset⟩ := hO5.putK (j := k * 2) (k := 2) (by omega) (by omega)
      injection hv5 with hv5 hv5'
      subst hv5
      have hx5 := hxE m5 hN5.1
      refine WP.exit ?_
      repeat (first | with_reducible refine QN.then_exit ?_ | with_reducible refine QN.block_exit ?_ | with_reducible refine QN.block_far rfl ?_ | with_reducible refine QN.block_normal ?_ | with_reducible refine QN.next ?_)
      refine WP.drawQ (fun m' => m' = m5) [16] (by kernel_rfl) rfl (by repeat (first | with_reducible exact PanicOk.body | with_reducible refine PanicOk.then_ ?_ | with_reducible refine PanicOk.block_ ?_)) (fun hQ => ?_)
      refine RH.pure T_ok hQ [0, 1, 2, 3] (by kernel_rfl) rfl ?_
      refine RH.indexAddr T_ok hQ 4 (k := i) rfl (by kernel_rfl) rfl rfl rfl rfl rfl rfl rfl hc rfl ?_
      refine RH.pure T_ok hQ [5] (by kernel_rfl) rfl ?_
      refine RH.load T_ok hQ 6 (fun m' hm' => by rw [hm']; exact hx5 0 _ rfl) rfl (by kernel_rfl) rfl rfl rfl rfl ?_
      refine RH.pure T_ok hQ [7, 8, 9] (by kernel_rfl) rfl ?_
      refine RH.indexAddr T_ok hQ 10 (k := i) rfl (by kernel_rfl) rfl rfl rfl rfl rfl rfl rfl hc rfl ?_
      refine RH.pure T_ok hQ [11] (by kernel_rfl) rfl ?_
      refine RH.load T_ok hQ 12 (fun m' hm' => by rw [hm']; exact hx5 0 _ rfl) rfl (by kernel_rfl) rfl rfl rfl rfl ?_
      refine RH.only 13 rfl (by kernel_rfl) (fun _ => ?_)
      refine RL.call (fi := []) (ca := []) rfl rfl rfl rfl (refvat_c m5 _ l (h.ext0 hN5.1) (by omega) x.c) ?_
      rintro _ mM ⟨rfl, hmM⟩
      subst hmM
      refine ⟨_, rfl, RL.nil (RH.cont rfl ?_)⟩
      refine RH.pure T_ok hQ [14] (by kernel_rfl) rfl ?_
      refine RH.eqv (v' := cV ⟨x.c, vat l x.c⟩) rfl ?_
      refine RH.indexAddr T_ok hQ 15 (k := k) rfl (by kernel_rfl) rfl rfl rfl rfl rfl rfl rfl (by omega) rfl ?_
      refine RH.eqv (v' := .pointer (some ⟨g, k * 2, none⟩)) (congrArg (fun q => Value.pointer (some q)) (by rw [add_block, Nat.zero_add])) ?_
      refine RH.only 16 rfl (by kernel_rfl) (fun _ => ?_)
      refine RL.storeAgg T_ok (b := g) (i := k * 2) (vs := cC ⟨x.c, vat l x.c⟩) hB5 rfl rfl rfl rfl rfl hj5 (cC_one _) rfl ?_
      intro m6 hC6
      have hO6 := hset m6 (cC ⟨x.c, vat l x.c⟩) rfl hC6
      rw [csC_set _ k _ (by rw [hzl]; omega), zipK_set d w _ k k2] at hO6
      have hlen6 : (d.take k ++ ⟨x.c, vat l x.c⟩ :: d.drop k).length = d.length + 1 := by simp; omega
      refine RL.nil (RF.cont (by kernel_rfl) ?_)
      refine RF.done (by kernel_rfl) ?_
      repeat (first | with_reducible refine QN.block_normal ?_ | with_reducible refine QN.next ?_)
      repeat (first | with_reducible refine WP.seq ?_ | with_reducible refine WP.block ?_ | with_reducible refine WP.region ?_)
      refine RL.pure T_ok 2 rfl ?_
      refine RL.eqv (v' := .int .i64 ((i + 1 : Nat) : Int)) (congrArg _ (by rw [wrap_i64_in _ (by omega) (by omega)]; rfl)) ?_
      refine RL.auto T_ok rfl ?_
      refine RL.nil (QN.round (i + 1, .slice (some ⟨g, 0, none⟩) (d.length + 1) c4, [g], d.take k ++ ⟨x.c, vat l x.c⟩ :: d.drop k) (Sub.cons rfl (Sub.cons rfl (Sub.cons rfl Sub.nil))) ⟨by show i + 1 ≤ _; omega, hnx, ?_, ⟨hN5.1.trans hC6.ext (fun k hk => .inr (hN5.ge k hk)), hN5.2⟩⟩ (by show _ - (i + 1) < _ - i; omega))
      show Ev.Own m6 [g] 60 2 _ (d.take k ++ ⟨x.c, vat l x.c⟩ :: d.drop k).length _
      rw [hlen6]
      simpa using hO6
  · replace hc : i = l.length := by have := of_decide_eq_false hc; simp only at this; omega
    subst hc
    have he := hd.done
    subst he
    refine WP.exit ?_; repeat (first | with_reducible refine QN.then_exit ?_ | with_reducible refine QN.block_exit ?_ | with_reducible refine QN.block_far rfl ?_ | with_reducible refine QN.block_normal ?_ | with_reducible refine QN.next ?_); repeat (first | with_reducible refine WP.seq ?_ | with_reducible refine WP.block ?_ | with_reducible refine WP.region ?_)
    refine RL.auto T_ok rfl ?_
    refine RL.nil ?_; repeat (first | with_reducible refine QN.block_normal ?_ | with_reducible refine QN.next ?_); repeat (first | with_reducible refine WP.seq ?_ | with_reducible refine WP.block ?_ | with_reducible refine WP.region ?_)
    refine WP.ret ?_; repeat (first | with_reducible refine QN.then_ret ?_ | with_reducible refine QN.block_ret ?_)
    exact QN.ret1 rfl rfl ⟨_, rfl, S, hO, hN⟩
end Go.Proofs.Ytmjpcaiehfimgaa
