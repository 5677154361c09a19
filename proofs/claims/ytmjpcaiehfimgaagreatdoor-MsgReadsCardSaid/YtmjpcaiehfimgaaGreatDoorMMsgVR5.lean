/- Texts that belong together. -/
import Derived.Test.YtmjpcaiehfimgaaGreatDoorMMsgVR4
section
namespace Go.Proofs.YtmjpcaiehfimgaaGreatDoor
open Go.RowKit Go.Ev Go.Ids
theorem at_iff (x : Clk) (cl : Nat) : x.at cl = if (decide (x.c = cl) && (decide (1 ≤ cl) && decide (cl ≤ 9007199254740991))) = true then min x.k 9007199254740991 else 0 := by
  unfold Clk.at
  simp only [Bool.and_eq_true, decide_eq_true_eq]
theorem vat_take (l : List Clk) (i : Nat) (h : i < l.length) (cl : Nat) : vat (l.take (i + 1)) cl = max (vat (l.take i) cl) (l[i].at cl) := by
  rw [List.take_succ_eq_append_getElem h, vat_append]; simp [vat]
theorem refvat_c (m : World) (v : Value) (l : List Clk) (h : Cs m [] v l) (hl : l.length < 1000000000) (cl : Nat) : FnR Tryz.prog 36 [v, .int .u64 cl] m fun r m' => r = .int .u64 (vat l cl) ∧ m' = m := by
  obtain ⟨A, c, rfl, _, _⟩ := h.shape
  refine FnE.enter ⟨_, Tryz.func36, by kernel_rfl, by kernel_rfl⟩ Tryz.func36 rfl rfl ?_
  (with_reducible repeat (first | refine WP.S1 ?_ | refine WP.B1 ?_ | refine WP.R1 ?_))
  refine RL.A1 T_ok rfl ?_
  refine RL.N1 ?_; (with_reducible repeat (first | refine QN.B1 ?_ | refine QN.N1 ?_ | refine WP.S1 ?_ | refine WP.B1 ?_ | refine WP.R1 ?_))
  refine RL.A1 T_ok rfl ?_
  refine RL.N1 ?_; (with_reducible repeat (first | refine QN.B1 ?_ | refine QN.N1 ?_ | refine WP.S1 ?_ | refine WP.B1 ?_ | refine WP.R1 ?_))
  refine RL.A1 T_ok rfl ?_
  refine RL.N1 ?_; (with_reducible repeat (first | refine QN.B1 ?_ | refine QN.N1 ?_ | refine WP.S1 ?_ | refine WP.B1 ?_ | refine WP.R1 ?_))
  refine (WP.loop (X := Nat) (fun i => [(0, .slice A l.length c), (1, .int .u64 cl), (5, .int .u64 (vat (l.take i) cl)), (6, .int .i64 i)])
    (fun i m' => i ≤ l.length ∧ m' = m) (fun i => l.length - i) 0
    (Sub.C1 rfl (Sub.C1 rfl (Sub.C1 rfl (Sub.C1 rfl Sub.nil)))) ⟨by simp, rfl⟩ ?_)
  rintro i m1 ⟨hi, hm1⟩
  subst hm1
  (with_reducible repeat (first | refine WP.S1 ?_ | refine WP.B1 ?_ | refine WP.R1 ?_))
  refine RL.A1 T_ok rfl ?_
  refine RL.N1 ?_; (with_reducible repeat (first | refine QN.B1 ?_ | refine QN.N1 ?_ | refine WP.S1 ?_ | refine WP.B1 ?_ | refine WP.R1 ?_))
  refine WP.cond rfl (fun hc => ?_) (fun hc => ?_)
  · replace hc : i < l.length := by have := of_decide_eq_true hc; omega
    obtain ⟨ad, rfl, hx⟩ := h.cell i hc
    have hnx := vat_take l i hc cl
    generalize l[i] = x at hx hnx
    rw [at_iff] at hnx
    refine WP.skip ?_; (with_reducible repeat (first | refine QN.B1 ?_ | refine QN.N1 ?_))
    refine WP.S1 ?_
    refine WP.B1 ?_
    refine WP.cut (X := Bool) (fun q => [(0, .slice (some ad) l.length c), (1, .int .u64 cl), (5, .int .u64 (vat (l.take i) cl)), (6, .int .i64 i), (27, .bool q)]) (fun q m' => m' = m1 ∧ q = (decide (x.c = cl) && (decide (1 ≤ cl) && decide (cl ≤ 9007199254740991)))) ?_ ?_
    · refine WP.R1 ?_
      refine RL.pure T_ok 2 rfl ?_
      refine RL.indexAddr (k := i) T_ok rfl rfl rfl rfl rfl rfl rfl hc rfl ?_
      refine RL.pure T_ok 1 rfl ?_
      refine RL.load T_ok rfl rfl rfl (hx 0 _ rfl) rfl ?_
      refine RL.pure T_ok 2 rfl ?_
      refine RL.eqv (v' := .bool (decide (x.c = cl))) (congrArg _ (deq _ _)) ?_
      by_cases h1 : x.c = cl
      · refine RL.eqv (v' := .bool true) (congrArg _ (decide_eq_true h1)) ?_
        refine RL.pure T_ok 3 rfl ?_
        refine RL.eqv (v' := .bool (decide (1 ≤ cl))) (congrArg _ (by rw [decide_eq_decide]; omega)) ?_
        by_cases h2 : 1 ≤ cl
        · refine RL.eqv (v' := .bool true) (congrArg _ (decide_eq_true h2)) ?_
          refine RL.pure T_ok 4 rfl ?_
          refine RL.eqv (v' := .bool (decide (cl ≤ 9007199254740991))) (congrArg _ (by rw [decide_eq_decide]; omega)) ?_
          refine RL.A1 T_ok rfl ?_
          exact RL.N1 (QN.cutEnd (decide (cl ≤ 9007199254740991)) (Sub.C1 rfl (Sub.C1 rfl (Sub.C1 rfl (Sub.C1 rfl (Sub.C1 rfl Sub.nil))))) ⟨rfl, by simp [h1, h2]⟩)
        · refine RL.eqv (v' := .bool false) (congrArg _ (decide_eq_false h2)) ?_
          refine RL.A1 T_ok rfl ?_
          exact RL.N1 (QN.cutEnd false (Sub.C1 rfl (Sub.C1 rfl (Sub.C1 rfl (Sub.C1 rfl (Sub.C1 rfl Sub.nil))))) ⟨rfl, by simp [h1, h2]⟩)
      · refine RL.eqv (v' := .bool false) (congrArg _ (decide_eq_false h1)) ?_
        refine RL.A1 T_ok rfl ?_
        exact RL.N1 (QN.cutEnd false (Sub.C1 rfl (Sub.C1 rfl (Sub.C1 rfl (Sub.C1 rfl (Sub.C1 rfl Sub.nil))))) ⟨rfl, by simp [h1]⟩)
    rintro q mc ⟨rfl, hq⟩
    rw [← hq] at hnx
    refine WP.cond rfl (fun hqt => ?_) (fun hqf => ?_)
    · rw [if_pos hqt] at hnx
      (with_reducible repeat (first | refine WP.S1 ?_ | refine WP.B1 ?_ | refine WP.R1 ?_))
      refine RL.pure T_ok 3 rfl ?_
      refine RL.indexAddr (k := i) T_ok rfl rfl rfl rfl rfl rfl rfl hc rfl ?_
      refine RL.pure T_ok 1 rfl ?_
      refine RL.load T_ok rfl rfl rfl (hx 1 _ rfl) rfl ?_
      refine RL.pure T_ok 1 rfl ?_
      refine RL.eqv (v' := .int .u64 (min x.k 9007199254740991 : Nat)) (minK x.k 9007199254740991) ?_
      refine RL.pure T_ok 1 rfl ?_
      refine RL.eqv (v' := .int .u64 (vat (l.take (i + 1)) cl : Nat)) (by rw [hnx]; exact maxK _ _) ?_
      refine RL.A1 T_ok rfl ?_
      refine RL.N1 ?_; (with_reducible repeat (first | refine QN.B1 ?_ | refine QN.N1 ?_ | refine WP.S1 ?_ | refine WP.B1 ?_ | refine WP.R1 ?_))
      refine RL.pure T_ok 2 rfl ?_
      refine RL.eqv (v' := .int .i64 ((i + 1 : Nat) : Int)) (congrArg _ (by rw [wrap_i64_in _ (by omega) (by omega)]; rfl)) ?_
      refine RL.A1 T_ok rfl ?_
      exact RL.N1 (QN.round (i + 1) (Sub.C1 rfl (Sub.C1 rfl (Sub.C1 rfl (Sub.C1 rfl Sub.nil)))) ⟨by omega, rfl⟩ (by omega))
    · rw [hqf, if_neg (by simp), Nat.max_zero] at hnx
      refine WP.skip ?_
      (with_reducible repeat (first | refine QN.B1 ?_ | refine QN.N1 ?_))
      (with_reducible repeat (first | refine WP.S1 ?_ | refine WP.B1 ?_ | refine WP.R1 ?_))
      refine RL.pure T_ok 2 rfl ?_
      refine RL.eqv (v' := .int .i64 ((i + 1 : Nat) : Int)) (congrArg _ (by rw [wrap_i64_in _ (by omega) (by omega)]; rfl)) ?_
      refine RL.A1 T_ok rfl ?_
      exact RL.N1 (QN.round (i + 1) (Sub.C1 rfl (Sub.C1 rfl (Sub.C1 (by rw [hnx]; rfl) (Sub.C1 rfl Sub.nil)))) ⟨by omega, rfl⟩ (by omega))
  · replace hc : i = l.length := by have := of_decide_eq_false hc; omega
    subst hc
    rw [List.take_length]
    refine WP.exit ?_; (with_reducible repeat (first | refine QN.tx ?_ | refine QN.bx ?_ | refine QN.block_far rfl ?_ | refine QN.B1 ?_ | refine QN.N1 ?_)); (with_reducible repeat (first | refine WP.S1 ?_ | refine WP.B1 ?_ | refine WP.R1 ?_))
    refine RL.A1 T_ok rfl ?_
    refine RL.N1 ?_; (with_reducible repeat (first | refine QN.B1 ?_ | refine QN.N1 ?_ | refine WP.S1 ?_ | refine WP.B1 ?_ | refine WP.R1 ?_))
    refine WP.ret ?_; (with_reducible repeat (first | refine QN.tr ?_ | refine QN.br ?_))
    exact QN.ret1 rfl rfl ⟨_, rfl, rfl, rfl⟩
structure RV (l : List Clk) (i : Nat) (L : List Clk) : Prop where
  canon : VCanon L
  told : ∀ c, vat L c = if ∃ x ∈ l.take i, x.c = c then vat l c else 0
  len : L.length ≤ i
theorem RV.start (l : List Clk) : RV l 0 [] := ⟨VCanon.nil, fun c => by rw [if_neg (by simp)]; rfl, Nat.le_refl _⟩
theorem take_ex (l : List Clk) (i : Nat) (h : i < l.length) (c : Nat) : (∃ x ∈ l.take (i + 1), x.c = c) ↔ (∃ x ∈ l.take i, x.c = c) ∨ l[i].c = c := by
  rw [List.take_succ_eq_append_getElem h]
  constructor
  · rintro ⟨x, hx, h1⟩
    rcases List.mem_append.1 hx with hx | hx
    · exact .inl ⟨x, hx, h1⟩
    · have : x = l[i] := by simpa using hx
      subst this; exact .inr h1
  · rintro (⟨x, hx, h1⟩ | h1)
    · exact ⟨x, List.mem_append_left _ hx, h1⟩
    · exact ⟨l[i], List.mem_append_right _ (by simp), h1⟩
theorem RV.skip {l : List Clk} {i : Nat} {L : List Clk} (h : RV l i L) (hi : i < l.length) (hs : vat l l[i].c = 0 ∨ ∃ y ∈ L, y.c = l[i].c) : RV l (i + 1) L := by
  refine ⟨h.canon, fun c => ?_, by have := h.len; omega⟩
  rw [h.told]
  by_cases h1 : ∃ x ∈ l.take i, x.c = c
  · rw [if_pos h1, if_pos ((take_ex l i hi c).2 (.inl h1))]
  · rw [if_neg h1]
    by_cases h2 : l[i].c = c
    · rw [if_pos ((take_ex l i hi c).2 (.inr h2))]
      rcases hs with hs | ⟨y, hy, hs⟩
      · rw [← h2, hs]
      · have h3 := h.canon.at_mem hy
        rw [hs, h2, h.told, if_neg h1] at h3
        have := (h.canon.1 y hy).2.2.1; omega
    · rw [if_neg (fun hh => ((take_ex l i hi c).1 hh).elim h1 h2)]
theorem RV.put {l : List Clk} {i at_ : Nat} {L : List Clk} (h : RV l i L) (hi : i < l.length) (h0 : vat l l[i].c ≠ 0) (ha : at_ ≤ L.length) (h1 : ∀ j (hj : j < L.length), j < at_ → L[j].c < l[i].c) (h2 : ∀ j (hj : j < L.length), at_ ≤ j → l[i].c < L[j].c) :
    RV l (i + 1) (L.take at_ ++ ⟨l[i].c, vat l l[i].c⟩ :: L.drop at_) := by
  generalize hx : l[i].c = c0 at *
  have hok : Clk.ok ⟨c0, vat l c0⟩ := by
    obtain ⟨x, _, _, g1, g2, _⟩ := vat_mem h0
    exact ⟨g1, g2, by simp only; omega, vat_le l c0⟩
  have f1 : ∀ a ∈ L.take at_, a.c < c0 := fun a hm => by
    obtain ⟨j, hj, rfl⟩ := List.mem_iff_getElem.1 hm
    rw [List.getElem_take]
    rw [List.length_take] at hj
    exact h1 j (by omega) (by omega)
  have f2 : ∀ a ∈ L.drop at_, c0 < a.c := fun a hm => by
    obtain ⟨j, hj, rfl⟩ := List.mem_iff_getElem.1 hm
    rw [List.length_drop] at hj
    rw [List.getElem_drop]
    exact h2 _ (by omega) (by omega)
  have hsplit : (L.take at_ ++ L.drop at_).Pairwise fun x y => x.c < y.c := by rw [List.take_append_drop]; exact h.canon.2
  rw [List.pairwise_append] at hsplit
  have hmem : ∀ a ∈ L.take at_ ++ L.drop at_, a ∈ L := fun a hm => by rwa [List.take_append_drop] at hm
  refine ⟨⟨fun y hy => ?_, ?_⟩, fun c => ?_, ?_⟩
  · rcases List.mem_append.1 hy with hy | hy
    · exact h.canon.1 y (List.mem_of_mem_take hy)
    · rcases List.mem_cons.1 hy with rfl | hy
      · exact hok
      · exact h.canon.1 y (List.mem_of_mem_drop hy)
  · rw [List.pairwise_append]
    refine ⟨hsplit.1, List.pairwise_cons.2 ⟨f2, hsplit.2.1⟩, fun a hm b hb => ?_⟩
    rcases List.mem_cons.1 hb with rfl | hb
    · exact f1 a hm
    · exact hsplit.2.2 a hm b hb
  · have e : vat (L.take at_ ++ ⟨c0, vat l c0⟩ :: L.drop at_) c = max (vat L c) (Clk.at ⟨c0, vat l c0⟩ c) := by
      have := vat_append (L.take at_) (L.drop at_) c
      rw [List.take_append_drop] at this
      rw [vat_append, this]
      simp only [vat]; omega
    rw [e, hok.at, h.told]
    simp only
    by_cases g : c0 = c
    · subst g
      rw [if_pos rfl, if_pos ((take_ex l i hi c0).2 (.inr hx))]
      split <;> omega
    · rw [if_neg g]
      by_cases g1 : ∃ x ∈ l.take i, x.c = c
      · rw [if_pos g1, if_pos ((take_ex l i hi c).2 (.inl g1))]; omega
      · rw [if_neg g1, if_neg (fun hh => ((take_ex l i hi c).1 hh).elim g1 (fun g2 => g (by rw [← hx]; exact g2)))]; rfl
  · have := h.len
    simp; omega
theorem RV.done {l L : List Clk} (h : RV l l.length L) : L = vclean l := vclean_eq h.canon fun c => by
  rw [h.told, List.take_length]
  by_cases g : ∃ x ∈ l, x.c = c
  · rw [if_pos g]
  · rw [if_neg g]
    by_cases h0 : vat l c = 0
    · exact h0.symm
    · obtain ⟨x, hx, h1, _⟩ := vat_mem h0
      exact absurd ⟨x, hx, h1⟩ g
theorem zipK_set (d : List Clk) (w x : Clk) (k : Nat) (h : k ≤ d.length) : (d.take k ++ [w] ++ d.drop k).set k x = d.take k ++ [x] ++ d.drop k := by
  rw [List.append_assoc, List.set_append_right _ _ (by rw [List.length_take]; omega), List.length_take, Nat.min_eq_left h, Nat.sub_self]
  simp
theorem zipK_shift (d : List Clk) (q : Nat) (h : q < d.length) : d.take (q + 1) ++ [d[q]] ++ d.drop (q + 1) = d.take q ++ [d[q]] ++ d.drop q := by
  rw [List.take_succ_eq_append_getElem h, List.drop_eq_getElem_cons h]; simp
theorem zipK_get (d : List Clk) (w : Clk) (q : Nat) (h : q < d.length) (h' : q < (d.take (q + 1) ++ [w] ++ d.drop (q + 1)).length) : (d.take (q + 1) ++ [w] ++ d.drop (q + 1))[q] = d[q] := by
  rw [List.getElem_append_left (by simp; omega), List.getElem_append_left (by simp; omega), List.getElem_take]
set_option maxHeartbeats 1000000 in
theorem refvclean_c (m : World) (v : Value) (l : List Clk) (h : Cs m [] v l) (hl : l.length < 100000000) : FnR Tryz.prog 12 [v] m fun r m' => VMade m r (vclean l) m' := by
  obtain ⟨A, c, rfl, _, _⟩ := h.shape
  refine FnE.enter ⟨_, Tryz.func12, by kernel_rfl, by kernel_rfl⟩ Tryz.func12 rfl rfl ?_
  (with_reducible repeat (first | refine WP.S1 ?_ | refine WP.B1 ?_ | refine WP.R1 ?_))
  refine RL.A1 T_ok rfl ?_
  refine RL.N1 ?_; (with_reducible repeat (first | refine QN.B1 ?_ | refine QN.N1 ?_ | refine WP.S1 ?_ | refine WP.B1 ?_ | refine WP.R1 ?_))
  refine RL.A1 T_ok rfl ?_
  refine RL.N1 ?_; (with_reducible repeat (first | refine QN.B1 ?_ | refine QN.N1 ?_ | refine WP.S1 ?_ | refine WP.B1 ?_ | refine WP.R1 ?_))
  refine RL.A1 T_ok rfl ?_
  refine RL.N1 ?_; (with_reducible repeat (first | refine QN.B1 ?_ | refine QN.N1 ?_ | refine WP.S1 ?_ | refine WP.B1 ?_ | refine WP.R1 ?_))
  refine (WP.loop (X := Nat × Value × List Nat × List Clk) (fun x => [(0, .slice A l.length c), (3, x.2.1), (4, .int .i64 x.1)])
    (fun x m' => x.1 ≤ l.length ∧ RV l x.1 x.2.2.2 ∧ Ev.Own m' x.2.2.1 46 2 x.2.1 x.2.2.2.length (x.2.2.2.flatMap cC) ∧ New m x.2.2.1 m') (fun x => l.length - x.1) (0, .slice none 0 0, [], [])
    (Sub.C1 rfl (Sub.C1 rfl (Sub.C1 rfl Sub.nil))) ⟨by simp, RV.start l, Own.empty _ _ _ _, Ext.refl _ _, FpNew.nil _ _⟩ ?_)
  rintro ⟨i, u, S, d⟩ m1 ⟨hi, hd, hO, hN⟩
  simp only at hi hd hO hN
  obtain ⟨Au, cu, rfl, _⟩ := hO.shape
  have hdl := hd.len
  (with_reducible repeat (first | refine WP.S1 ?_ | refine WP.B1 ?_ | refine WP.R1 ?_))
  refine RL.A1 T_ok rfl ?_
  refine RL.N1 ?_; (with_reducible repeat (first | refine QN.B1 ?_ | refine QN.N1 ?_ | refine WP.S1 ?_ | refine WP.B1 ?_ | refine WP.R1 ?_))
  refine WP.cond rfl (fun hc => ?_) (fun hc => ?_)
  · replace hc : i < l.length := by have := of_decide_eq_true hc; simp only at this; omega
    have hh1 := h.ext0 hN.1
    obtain ⟨ad, rfl, hx⟩ := hh1.cell i hc
    have hskip := hd.skip hc
    have hput := fun at_ h0 ha h1 h2 => hd.put (at_ := at_) hc h0 ha h1 h2
    have hxE : ∀ m', Ext m [] m' → ∀ j w, (cC l[i])[j]? = some w → m'.cell? ((ad.add (i * 2)).add j) = some w := fun m' hE => by
      obtain ⟨ad', h1, h2⟩ := (h.ext0 hE).cell i hc
      injection h1 with h1
      subst h1
      exact h2
    generalize l[i] = x at hx hskip hput hxE
    have hRd : Cs m1 [] (.slice Au d.length cu) d := hO.sl (by simp)
    refine WP.skip ?_; (with_reducible repeat (first | refine QN.B1 ?_ | refine QN.N1 ?_ | refine WP.S1 ?_ | refine WP.B1 ?_ | refine WP.R1 ?_))
    refine RL.A1 T_ok rfl ?_
    refine RL.N1 ?_; (with_reducible repeat (first | refine QN.B1 ?_ | refine QN.N1 ?_))
    refine WP.cut (X := Nat) (fun a => [(0, .slice (some ad) l.length c), (3, .slice Au d.length cu), (4, .int .i64 i), (5, .int .i64 a)])
      (fun a m' => m' = m1 ∧ a ≤ d.length ∧ (∀ j (h : j < d.length), j < a → d[j].c < x.c) ∧ ∀ h : a < d.length, x.c ≤ d[a].c) ?_ ?_
    · refine WP.B1 ?_
      refine (WP.loop (X := Nat) (fun a => [(0, .slice (some ad) l.length c), (3, .slice Au d.length cu), (4, .int .i64 i), (5, .int .i64 a)])
        (fun a m' => m' = m1 ∧ a ≤ d.length ∧ (∀ j (h : j < d.length), j < a → d[j].c < x.c)) (fun a => d.length - a) 0
        (Sub.C1 rfl (Sub.C1 rfl (Sub.C1 rfl (Sub.C1 rfl Sub.nil)))) ⟨rfl, by simp, (fun j _ hj => absurd hj (by omega))⟩ ?_)
      rintro a mL ⟨rfl, ha, hlt⟩
      refine WP.S1 ?_
      refine WP.S1 ?_
      refine WP.drawQ (fun m' => m' = mL) [] (by kernel_rfl) rfl (by with_reducible repeat (first | exact PanicOk.body | refine PanicOk.then_ ?_ | refine PanicOk.block_ ?_)) (fun hQ => ?_)
      refine RH.pure T_ok hQ [0, 1, 2, 3] (by kernel_rfl) rfl ?_
      by_cases hc1 : a < d.length
      rotate_left
      · refine RH.eqv (v' := .bool false) (congrArg _ (decide_eq_false (by omega))) ?_
        refine RH.pure T_ok hQ [4, 5, 6, 7, 8, 9, 10, 11, 12, 13, 14, 15, 16] (by kernel_rfl) rfl ?_
        refine RH.done (by kernel_rfl) (fun _ => ?_)
        (with_reducible repeat (first | refine QN.B1 ?_ | refine QN.N1 ?_))
        refine WP.condF rfl ?_
        refine WP.exit ?_
        (with_reducible repeat (first | refine QN.tx ?_ | refine QN.bx ?_ | refine QN.B1 ?_))
        exact QN.cutEnd a (Sub.C1 rfl (Sub.C1 rfl (Sub.C1 rfl (Sub.C1 rfl Sub.nil)))) ⟨rfl, ha, hlt, fun h => absurd h hc1⟩
      obtain ⟨adu, rfl, hy⟩ := hRd.cell a hc1
      refine RH.eqv (v' := .bool true) (congrArg _ (decide_eq_true (by omega))) ?_
      refine RH.pure T_ok hQ [4, 5, 6] (by kernel_rfl) rfl ?_
      refine RH.indexAddr T_ok hQ 7 (k := a) rfl (by kernel_rfl) rfl rfl rfl rfl rfl rfl rfl hc1 rfl ?_
      refine RH.pure T_ok hQ [8] (by kernel_rfl) rfl ?_
      refine RH.load T_ok hQ 9 (fun m' hm' => by rw [hm']; exact hy 0 _ rfl) rfl (by kernel_rfl) rfl rfl rfl rfl ?_
      refine RH.pure T_ok hQ [10, 11] (by kernel_rfl) rfl ?_
      refine RH.indexAddr T_ok hQ 12 (k := i) rfl (by kernel_rfl) rfl rfl rfl rfl rfl rfl rfl hc rfl ?_
      refine RH.pure T_ok hQ [13] (by kernel_rfl) rfl ?_
      refine RH.load T_ok hQ 14 (fun m' hm' => by rw [hm']; exact hx 0 _ rfl) rfl (by kernel_rfl) rfl rfl rfl rfl ?_
      refine RH.pure T_ok hQ [15] (by kernel_rfl) rfl ?_
      by_cases hc2 : d[a].c < x.c
      · refine RH.eqv (v' := .bool true) (congrArg _ (by rw [dlt]; exact decide_eq_true hc2)) ?_
        refine RH.pure T_ok hQ [16] (by kernel_rfl) rfl ?_
        refine RH.done (by kernel_rfl) (fun _ => ?_)
        (with_reducible repeat (first | refine QN.B1 ?_ | refine QN.N1 ?_))
        refine WP.condT rfl ?_
        refine WP.skip ?_; (with_reducible repeat (first | refine QN.B1 ?_ | refine QN.N1 ?_ | refine WP.S1 ?_ | refine WP.B1 ?_ | refine WP.R1 ?_))
        refine RL.pure T_ok 2 rfl ?_
        refine RL.eqv (v' := .int .i64 ((a + 1 : Nat) : Int)) (congrArg _ (by rw [wrap_i64_in _ (by omega) (by omega)]; rfl)) ?_
        refine RL.A1 T_ok rfl ?_
        refine RL.N1 ?_
        (with_reducible repeat (first | refine QN.B1 ?_ | refine QN.N1 ?_))
        refine QN.round (a + 1) (Sub.C1 rfl (Sub.C1 rfl (Sub.C1 rfl (Sub.C1 rfl Sub.nil)))) ⟨rfl, hc1, fun j hj hja => ?_⟩ (by omega)
        by_cases hj2 : j = a
        · subst hj2; exact hc2
        · exact hlt j hj (by omega)
      · refine RH.eqv (v' := .bool false) (congrArg _ (by rw [dlt]; exact decide_eq_false hc2)) ?_
        refine RH.pure T_ok hQ [16] (by kernel_rfl) rfl ?_
        refine RH.done (by kernel_rfl) (fun _ => ?_)
        (with_reducible repeat (first | refine QN.B1 ?_ | refine QN.N1 ?_))
        refine WP.condF rfl ?_
        refine WP.exit ?_
        (with_reducible repeat (first | refine QN.tx ?_ | refine QN.bx ?_ | refine QN.B1 ?_))
        exact QN.cutEnd a (Sub.C1 rfl (Sub.C1 rfl (Sub.C1 rfl (Sub.C1 rfl Sub.nil)))) ⟨rfl, ha, hlt, fun _ => by omega⟩
    rintro a mL ⟨rfl, ha, hlt, hge⟩
    refine WP.S1 ?_
    refine WP.cut (X := Bool) (fun q => [(0, .slice (some ad) l.length c), (3, .slice Au d.length cu), (4, .int .i64 i), (5, .int .i64 a), (58, .bool q)])
      (fun q m' => m' = mL ∧ (q = true → vat l x.c = 0 ∨ ∃ y ∈ d, y.c = x.c) ∧ (q = false → vat l x.c ≠ 0 ∧ ∀ j (h : j < d.length), a ≤ j → x.c < d[j].c)) ?_ ?_
    · refine WP.drawQ (fun m' => m' = mL) [] (by kernel_rfl) rfl (by with_reducible repeat (first | exact PanicOk.body | refine PanicOk.then_ ?_ | refine PanicOk.block_ ?_)) (fun hQ => ?_)
      refine RH.pure T_ok hQ [0, 1, 2] (by kernel_rfl) rfl ?_
      refine RH.indexAddr T_ok hQ 3 (k := i) rfl (by kernel_rfl) rfl rfl rfl rfl rfl rfl rfl hc rfl ?_
      refine RH.pure T_ok hQ [4] (by kernel_rfl) rfl ?_
      refine RH.load T_ok hQ 5 (fun m' hm' => by rw [hm']; exact hx 0 _ rfl) rfl (by kernel_rfl) rfl rfl rfl rfl ?_
      refine RH.only 6 rfl (by kernel_rfl) (fun _ => ?_)
      refine RL.call (fi := []) (ca := []) rfl rfl rfl rfl (refvat_c mL _ l hh1 (by omega) x.c) ?_
      rintro _ mM ⟨rfl, hmM⟩
      subst hmM
      refine ⟨_, rfl, RL.N1 (RH.cont rfl ?_)⟩
      refine RH.pure T_ok hQ [7] (by kernel_rfl) rfl ?_
      by_cases h0 : vat l x.c = 0
      · refine RH.eqv (v' := .bool true) (congrArg _ (by rw [h0]; rfl)) ?_
        refine RH.pure T_ok hQ [8, 9, 10, 11, 12, 13, 14, 15, 16, 17, 18, 19, 20, 21, 22, 23, 24, 25, 26] (by kernel_rfl) rfl ?_
        refine RH.done (by kernel_rfl) (fun _ => ?_)
        exact QN.cutEnd true (Sub.C1 rfl (Sub.C1 rfl (Sub.C1 rfl (Sub.C1 rfl (Sub.C1 rfl Sub.nil))))) ⟨rfl, (fun _ => .inl h0), (fun hh => by cases hh)⟩
      refine RH.eqv (v' := .bool false) (congrArg _ (by rw [beq_eq_false_iff_ne]; omega)) ?_
      refine RH.pure T_ok hQ [8, 9, 10, 11, 12] (by kernel_rfl) rfl ?_
      by_cases hc1 : a < d.length
      rotate_left
      · refine RH.eqv (v' := .bool false) (congrArg _ (decide_eq_false (by omega))) ?_
        refine RH.pure T_ok hQ [13, 14, 15, 16, 17, 18, 19, 20, 21, 22, 23, 24, 25, 26] (by kernel_rfl) rfl ?_
        refine RH.done (by kernel_rfl) (fun _ => ?_)
        exact QN.cutEnd false (Sub.C1 rfl (Sub.C1 rfl (Sub.C1 rfl (Sub.C1 rfl (Sub.C1 rfl Sub.nil))))) ⟨rfl, (fun hh => by cases hh), fun _ => ⟨h0, fun j hj hja => absurd hj (by omega)⟩⟩
      obtain ⟨adu, rfl, hy⟩ := hRd.cell a hc1
      have hge1 := hge hc1
      refine RH.eqv (v' := .bool true) (congrArg _ (decide_eq_true (by omega))) ?_
      refine RH.pure T_ok hQ [13, 14, 15] (by kernel_rfl) rfl ?_
      refine RH.indexAddr T_ok hQ 16 (k := a) rfl (by kernel_rfl) rfl rfl rfl rfl rfl rfl rfl hc1 rfl ?_
      refine RH.pure T_ok hQ [17] (by kernel_rfl) rfl ?_
      refine RH.load T_ok hQ 18 (fun m' hm' => by rw [hm']; exact hy 0 _ rfl) rfl (by kernel_rfl) rfl rfl rfl rfl ?_
      refine RH.pure T_ok hQ [19, 20] (by kernel_rfl) rfl ?_
      refine RH.indexAddr T_ok hQ 21 (k := i) rfl (by kernel_rfl) rfl rfl rfl rfl rfl rfl rfl hc rfl ?_
      refine RH.pure T_ok hQ [22] (by kernel_rfl) rfl ?_
      refine RH.load T_ok hQ 23 (fun m' hm' => by rw [hm']; exact hx 0 _ rfl) rfl (by kernel_rfl) rfl rfl rfl rfl ?_
      refine RH.pure T_ok hQ [24] (by kernel_rfl) rfl ?_
      refine RH.eqv (v' := .bool (decide (d[a].c = x.c))) (congrArg _ (deq _ _)) ?_
      refine RH.pure T_ok hQ [25, 26] (by kernel_rfl) rfl ?_
      refine RH.done (by kernel_rfl) (fun _ => ?_)
      refine QN.cutEnd (decide (d[a].c = x.c)) (Sub.C1 rfl (Sub.C1 rfl (Sub.C1 rfl (Sub.C1 rfl (Sub.C1 rfl Sub.nil))))) ⟨rfl, (fun hh => .inr ⟨d[a], List.getElem_mem _, of_decide_eq_true hh⟩), fun hh => ⟨h0, fun j hj hja => ?_⟩⟩
      have hne := of_decide_eq_false hh
      rcases Nat.lt_or_eq_of_le hja with h9 | h9
      · have := List.pairwise_iff_getElem.1 hd.canon.2 a j hc1 hj h9
        omega
      · subst h9; omega
    rintro q mM ⟨rfl, hqt, hqf⟩
    refine WP.cond rfl (fun hq => ?_) (fun hq => ?_)
    · have hnx := hskip (hqt hq)
      refine WP.exit ?_; (with_reducible repeat (first | refine QN.tx ?_ | refine QN.bx ?_ | refine QN.block_far rfl ?_ | refine QN.B1 ?_ | refine QN.N1 ?_)); (with_reducible repeat (first | refine WP.S1 ?_ | refine WP.B1 ?_ | refine WP.R1 ?_))
      refine RL.pure T_ok 2 rfl ?_
      refine RL.eqv (v' := .int .i64 ((i + 1 : Nat) : Int)) (congrArg _ (by rw [wrap_i64_in _ (by omega) (by omega)]; rfl)) ?_
      refine RL.A1 T_ok rfl ?_
      exact RL.N1 (QN.round (i + 1, .slice Au d.length cu, S, d) (Sub.C1 rfl (Sub.C1 rfl (Sub.C1 rfl Sub.nil))) ⟨by show i + 1 ≤ _; omega, hnx, hO, hN⟩ (by show _ - (i + 1) < _ - i; omega))
    obtain ⟨h0, hgt⟩ := hqf hq
    have hnx := hput a h0 ha hlt hgt
    refine WP.skip ?_; (with_reducible repeat (first | refine QN.B1 ?_ | refine QN.N1 ?_ | refine WP.S1 ?_ | refine WP.B1 ?_ | refine WP.R1 ?_))
    refine RL.pure T_ok 2 rfl ?_
    refine RL.append1 T_ok [.tmp 60] hO (us := [cV ⟨0, 0⟩]) (cC ⟨0, 0⟩) rfl rfl rfl rfl rfl rfl rfl rfl rfl (by simp [cV, cC, Value.cells]) (by simp [cV, Value.cells]) (cC_one _) (by unfold maxLen; omega) (by show (_ + 1) * 16 ≤ _; omega) ?_
    intro v4 m4 S4 hO4 hE4 hF4
    refine ⟨_, rfl, ?_⟩
    have hN4 : New m S4 m4 := ⟨hN.1.trans hE4 (fun k hk => .inr (hN.ge k hk)), hN.2.trans hF4 hN.1.size⟩
    obtain ⟨A4, c4, rfl, _⟩ := hO4.shape
    refine RL.A1 T_ok rfl ?_
    refine RL.N1 ?_; (with_reducible repeat (first | refine QN.B1 ?_ | refine QN.N1 ?_ | refine WP.S1 ?_ | refine WP.B1 ?_ | refine WP.R1 ?_))
    refine RL.pure T_ok 3 rfl ?_
    refine RL.eqv (v' := .int .i64 (d.length : Int)) (congrArg _ (by rw [wrap_i64_in _ (by omega) (by omega)]; omega)) ?_
    refine RL.A1 T_ok rfl ?_
    refine RL.N1 ?_; (with_reducible repeat (first | refine QN.B1 ?_ | refine QN.N1 ?_ | refine WP.S1 ?_ | refine WP.B1 ?_ | refine WP.R1 ?_))
    refine (WP.loop (X := Nat × Clk) (fun q => [(0, .slice (some ad) l.length c), (3, .slice A4 (d.length + 1) c4), (4, .int .i64 i), (5, .int .i64 a), (6, .int .i64 q.1)])
      (fun q m' => a ≤ q.1 ∧ q.1 ≤ d.length ∧ Ev.Own m' S4 46 2 (.slice A4 (d.length + 1) c4) (d.length + 1) ((d.take q.1 ++ [q.2] ++ d.drop q.1).flatMap cC) ∧ New m S4 m') (fun q => q.1) (d.length, ⟨0, 0⟩)
      (Sub.C1 rfl (Sub.C1 rfl (Sub.C1 rfl (Sub.C1 rfl (Sub.C1 rfl Sub.nil))))) ⟨ha, Nat.le_refl _, by simpa using hO4, hN4⟩ ?_)
    rintro ⟨k, w⟩ m5 ⟨k1, k2, hO5, hN5⟩
    simp only at k1 k2 hO5
    have hzl : (d.take k ++ [w] ++ d.drop k).length = d.length + 1 := by simp; omega
    (with_reducible repeat (first | refine WP.S1 ?_ | refine WP.B1 ?_ | refine WP.R1 ?_))
    refine RL.A1 T_ok rfl ?_
    refine RL.N1 ?_; (with_reducible repeat (first | refine QN.B1 ?_ | refine QN.N1 ?_ | refine WP.S1 ?_ | refine WP.B1 ?_ | refine WP.R1 ?_))
    refine WP.cond rfl (fun hck => ?_) (fun hck => ?_)
    · replace hck : a < k := by have := of_decide_eq_true hck; simp only at this; omega
      obtain ⟨q, rfl⟩ : ∃ q, k = q + 1 := ⟨k - 1, by omega⟩
      have hRz : Cs m5 [] (.slice A4 (d.length + 1) c4) (d.take (q + 1) ++ [w] ++ d.drop (q + 1)) := hO5.sl (by simp)
      obtain ⟨ad5, rfl, hy⟩ := hRz.cell q (by simp; omega)
      rw [zipK_get d w q (by omega)] at hy
      obtain ⟨g, cap, cur, hv5, hB5, rfl, hj5, hset⟩ := hO5.putK (j := (q + 1) * 2) (k := 2) (by omega) (by omega)
      injection hv5 with hv5 hv5'
      injection hv5 with hv5
      subst hv5
      refine WP.skip ?_; (with_reducible repeat (first | refine QN.B1 ?_ | refine QN.N1 ?_ | refine WP.S1 ?_ | refine WP.B1 ?_ | refine WP.R1 ?_))
      refine RL.pure T_ok 5 rfl ?_
      refine RL.eqv (v' := .int .i64 (q : Int)) (congrArg _ (by rw [wrap_i64_in _ (by omega) (by omega)]; omega)) ?_
      refine RL.indexAddr (k := q) T_ok rfl rfl rfl rfl rfl rfl rfl (by omega) rfl ?_
      refine RL.loadAgg T_ok (cC d[q]) rfl rfl rfl hy rfl ?_
      refine RL.indexAddr (k := q + 1) T_ok rfl rfl rfl rfl rfl rfl rfl (by omega) rfl ?_
      refine RL.eqv (v' := .pointer (some ⟨g, (q + 1) * 2, none⟩)) (congrArg (fun q => Value.pointer (some q)) (by rw [add_block]; show (⟨g, 0 + (q + 1) * 2, none⟩ : Addr) = _; rw [Nat.zero_add])) ?_
      refine RL.storeAgg T_ok (b := g) (i := (q + 1) * 2) (vs := cC d[q]) hB5 rfl rfl rfl rfl rfl hj5 (cC_one _) rfl ?_
      intro m6 hC6
      have hO6 := hset m6 (cC d[q]) rfl hC6
      rw [csC_set _ (q + 1) _ (by rw [hzl]; omega), zipK_set d w _ (q + 1) k2, zipK_shift d q (by omega)] at hO6
      refine RL.N1 ?_; (with_reducible repeat (first | refine QN.B1 ?_ | refine QN.N1 ?_ | refine WP.S1 ?_ | refine WP.B1 ?_ | refine WP.R1 ?_))
      refine RL.pure T_ok 2 rfl ?_
      refine RL.eqv (v' := .int .i64 (q : Int)) (congrArg _ (by rw [wrap_i64_in _ (by omega) (by omega)]; omega)) ?_
      refine RL.A1 T_ok rfl ?_
      exact RL.N1 (QN.round (q, d[q]) (Sub.C1 rfl (Sub.C1 rfl (Sub.C1 rfl (Sub.C1 rfl (Sub.C1 rfl Sub.nil))))) ⟨by show a ≤ q; omega, by show q ≤ _; omega, hO6, ⟨hN5.1.trans hC6.ext (fun k hk => .inr (hN5.ge k hk)), hN5.2⟩⟩ (by show q < q + 1; omega))
    · replace hck : k = a := by have := of_decide_eq_false hck; simp only at this; omega
      subst hck
      obtain ⟨g, cap, cur, hv5, hB5, rfl, hj5, hset⟩ := hO5.putK (j := k * 2) (k := 2) (by omega) (by omega)
      injection hv5 with hv5 hv5'
      subst hv5
      have hx5 := hxE m5 hN5.1
      refine WP.exit ?_
      (with_reducible repeat (first | refine QN.tx ?_ | refine QN.bx ?_ | refine QN.block_far rfl ?_ | refine QN.B1 ?_ | refine QN.N1 ?_))
      refine WP.drawQ (fun m' => m' = m5) [16] (by kernel_rfl) rfl (by with_reducible repeat (first | exact PanicOk.body | refine PanicOk.then_ ?_ | refine PanicOk.block_ ?_)) (fun hQ => ?_)
      refine RH.pure T_ok hQ [0, 1, 2, 3] (by kernel_rfl) rfl ?_
      refine RH.indexAddr T_ok hQ 4 (k := i) rfl (by kernel_rfl) rfl rfl rfl rfl rfl rfl rfl hc rfl ?_
      refine RH.pure T_ok hQ [5] (by kernel_rfl) rfl ?_
      refine RH.load T_ok hQ 6 (fun m' hm' => by rw [hm']; exact hx5 0 _ rfl) rfl (by kernel_rfl) rfl rfl rfl rfl ?_
      refine RH.pure T_ok hQ [7, 8, 9] (by kernel_rfl) rfl ?_
      refine RH.indexAddr T_ok hQ 10 (k := i) rfl (by kernel_rfl) rfl rfl rfl rfl rfl rfl rfl hc rfl ?_
      refine RH.pure T_ok hQ [11] (by kernel_rfl) rfl ?_
      refine RH.load T_ok hQ 12 (fun m' hm' => by rw [hm']; exact hx5 0 _ rfl) rfl (by kernel_rfl) rfl rfl rfl rfl ?_
      refine RH.only 13 rfl (by kernel_rfl) (fun _ => ?_)
      refine RL.call (fi := []) (ca := []) rfl rfl rfl rfl (refvat_c m5 _ l (h.ext0 hN5.1) (by omega) x.c) ?_
      rintro _ mM ⟨rfl, hmM⟩
      subst hmM
      refine ⟨_, rfl, RL.N1 (RH.cont rfl ?_)⟩
      refine RH.pure T_ok hQ [14] (by kernel_rfl) rfl ?_
      refine RH.eqv (v' := cV ⟨x.c, vat l x.c⟩) rfl ?_
      refine RH.indexAddr T_ok hQ 15 (k := k) rfl (by kernel_rfl) rfl rfl rfl rfl rfl rfl rfl (by omega) rfl ?_
      refine RH.eqv (v' := .pointer (some ⟨g, k * 2, none⟩)) (congrArg (fun q => Value.pointer (some q)) (by rw [add_block, Nat.zero_add])) ?_
      refine RH.only 16 rfl (by kernel_rfl) (fun _ => ?_)
      refine RL.storeAgg T_ok (b := g) (i := k * 2) (vs := cC ⟨x.c, vat l x.c⟩) hB5 rfl rfl rfl rfl rfl hj5 (cC_one _) rfl ?_
      intro m6 hC6
      have hO6 := hset m6 (cC ⟨x.c, vat l x.c⟩) rfl hC6
      rw [csC_set _ k _ (by rw [hzl]; omega), zipK_set d w _ k k2] at hO6
      have hlen6 : (d.take k ++ ⟨x.c, vat l x.c⟩ :: d.drop k).length = d.length + 1 := by simp; omega
      refine RL.N1 (RF.cont (by kernel_rfl) ?_)
      refine RF.done (by kernel_rfl) ?_
      (with_reducible repeat (first | refine QN.B1 ?_ | refine QN.N1 ?_))
      (with_reducible repeat (first | refine WP.S1 ?_ | refine WP.B1 ?_ | refine WP.R1 ?_))
      refine RL.pure T_ok 2 rfl ?_
      refine RL.eqv (v' := .int .i64 ((i + 1 : Nat) : Int)) (congrArg _ (by rw [wrap_i64_in _ (by omega) (by omega)]; rfl)) ?_
      refine RL.A1 T_ok rfl ?_
      refine RL.N1 (QN.round (i + 1, .slice (some ⟨g, 0, none⟩) (d.length + 1) c4, [g], d.take k ++ ⟨x.c, vat l x.c⟩ :: d.drop k) (Sub.C1 rfl (Sub.C1 rfl (Sub.C1 rfl Sub.nil))) ⟨by show i + 1 ≤ _; omega, hnx, ?_, ⟨hN5.1.trans hC6.ext (fun k hk => .inr (hN5.ge k hk)), hN5.2⟩⟩ (by show _ - (i + 1) < _ - i; omega))
      show Ev.Own m6 [g] 46 2 _ (d.take k ++ ⟨x.c, vat l x.c⟩ :: d.drop k).length _
      rw [hlen6]
      simpa using hO6
  · replace hc : i = l.length := by have := of_decide_eq_false hc; simp only at this; omega
    subst hc
    have he := hd.done
    subst he
    refine WP.exit ?_; (with_reducible repeat (first | refine QN.tx ?_ | refine QN.bx ?_ | refine QN.block_far rfl ?_ | refine QN.B1 ?_ | refine QN.N1 ?_)); (with_reducible repeat (first | refine WP.S1 ?_ | refine WP.B1 ?_ | refine WP.R1 ?_))
    refine RL.A1 T_ok rfl ?_
    refine RL.N1 ?_; (with_reducible repeat (first | refine QN.B1 ?_ | refine QN.N1 ?_ | refine WP.S1 ?_ | refine WP.B1 ?_ | refine WP.R1 ?_))
    refine WP.ret ?_; (with_reducible repeat (first | refine QN.tr ?_ | refine QN.br ?_))
    exact QN.ret1 rfl rfl ⟨_, rfl, S, hO, hN⟩
end Go.Proofs.YtmjpcaiehfimgaaGreatDoor
end
section
namespace Go.Proofs.YtmjpcaiehfimgaaGreatDoor
open Go.RowKit Go.Ev Go.Ids
end Go.Proofs.YtmjpcaiehfimgaaGreatDoor
end
section
namespace Go.Proofs.YtmjpcaiehfimgaaGreatDoor
open Go.ChangeShapes Go.WideShapes Go.ChangeAt Go.RowKit Go.Ev Go.Ids
end Go.Proofs.YtmjpcaiehfimgaaGreatDoor
end
section
namespace Go.Proofs.YtmjpcaiehfimgaaGreatDoor
open Go.RowKit Go.Ev Go.Ids
theorem qfail_c (m : World) (M : List Nat) (b : Nat) (l : List UInt8) (e k : Int) (h : QAt m M b l e) (hbM : b ∈ M) :
    FnR Tryz.prog 73 [.pointer (some ⟨b, 0, none⟩), .int .i64 k] m fun v m' => v = .tuple #[] ∧ QAt m' M b l (if e = 0 then k else e) ∧ Ext m [b] m' := by
  obtain ⟨v, hB, hS⟩ := h
  refine FnE.enter ⟨_, Tryz.func73, by kernel_rfl, by kernel_rfl⟩ Tryz.func73 rfl rfl ?_
  (with_reducible repeat (first | refine WP.S1 ?_ | refine WP.B1 ?_ | refine WP.R1 ?_))
  refine RL.A1 T_ok rfl ?_
  refine RL.load T_ok rfl rfl rfl (hB.cell 1 rfl) rfl ?_
  refine RL.A1 T_ok rfl ?_
  refine RL.N1 ?_; (with_reducible repeat (first | refine QN.B1 ?_ | refine QN.N1 ?_ | refine WP.S1 ?_ | refine WP.B1 ?_ | refine WP.R1 ?_))
  refine WP.cond rfl (fun hc => ?_) (fun hc => ?_)
  · have he : e = 0 := by simpa using hc
    subst he
    (with_reducible repeat (first | refine WP.S1 ?_ | refine WP.B1 ?_ | refine WP.R1 ?_))
    refine RL.A1 T_ok rfl ?_
    refine RL.store T_ok hB (i := 1) (v := .int .i64 k) (by simp) rfl rfl rfl rfl rfl rfl ?_
    intro m1 hC
    refine RL.N1 (QN.end0 rfl ⟨_, rfl, rfl, ⟨v, hC.blk, Sl.ext hS (hC.ext.mono (by simp [hbM])) (fun _ hk => .inl hk) (by omega)⟩, hC.ext⟩)
  · have he : ¬ e = 0 := by simpa using hc
    refine WP.skip (QN.end0 rfl ⟨_, rfl, rfl, ?_, Ext.refl _ _⟩)
    rw [if_neg he]; exact ⟨v, hB, hS⟩
structure RdI (At : World → List Nat → Nat → List UInt8 → Int → Prop) (tot : List Clk × List UInt8 × Int) (m : World) (M : List Nat) (b n last : Nat) (ov : Value) (S : List Nat) (out : List Clk) (l : List UInt8) (e : Int) (m' : World) : Prop where
  rest : vrdL n last out (l, e) = tot
  room : out.length + n ≤ 16384
  l64 : last < 18446744073709551616
  lmax : e = 0 → last ≤ 9007199254740991
  own : Ev.Own m' S 46 2 ov out.length (out.flatMap cC)
  at_ : At m' (S ++ M) b l e
  ext : Ext m [b] m'
  fp : FpNew m [] S
def VRPost (At : World → List Nat → Nat → List UInt8 → Int → Prop) (m : World) (M : List Nat) (b : Nat) (t : List Clk × List UInt8 × Int) (r : Value) (m' : World) : Prop :=
  ∃ S', Ev.Own m' S' 46 2 r t.1.length (t.1.flatMap cC) ∧ At m' (S' ++ M) b t.2.1 t.2.2 ∧ Ext m [b] m' ∧ FpNew m [] S'
set_option maxRecDepth 10000 in
set_option maxHeartbeats 1000000 in
theorem vread_c (m : World) (M : List Nat) (b : Nat) (l : List UInt8) (e : Int) (h : RAt m M b l e) (hbM : b ∈ M) :
    FnR Tryz.prog 64 [.pointer (some ⟨b, 0, none⟩)] m fun r m' => VRPost RAt m M b (vrd (l, e)) r m' := by
  have hblt := h.lt
  refine FnE.enter ⟨_, Tryz.func64, by kernel_rfl, by kernel_rfl⟩ Tryz.func64 rfl rfl ?_
  (with_reducible repeat (first | refine WP.S1 ?_ | refine WP.B1 ?_ | refine WP.R1 ?_))
  refine RL.A1 T_ok rfl ?_
  refine RL.N1 ?_; (with_reducible repeat (first | refine QN.B1 ?_ | refine QN.N1 ?_ | refine WP.S1 ?_ | refine WP.B1 ?_ | refine WP.R1 ?_))
  have hr0 : gR 0 e l (rdU 16384 0 0 l) = rdN 16384 (l, e) := rfl
  have hle0 := rdN_le 16384 (l, e)
  have hvrd : vrd (l, e) = (if (vrdL (rdN 16384 (l, e)).1 0 [] (rdN 16384 (l, e)).2).2.2 = 0 then (vrdL (rdN 16384 (l, e)).1 0 [] (rdN 16384 (l, e)).2).1 else [], (vrdL (rdN 16384 (l, e)).1 0 [] (rdN 16384 (l, e)).2).2) := rfl
  rw [hvrd]
  generalize rdN 16384 (l, e) = r0 at hr0 hle0 ⊢
  obtain ⟨n0, l0, e0⟩ := r0
  simp only at hle0 ⊢
  clear hvrd
  obtain ⟨tot, htot⟩ : ∃ tot, vrdL n0 0 [] (l0, e0) = tot := ⟨_, rfl⟩
  rw [htot]
  refine RL.A1 T_ok rfl ?_
  refine RL.N1 ?_; (with_reducible repeat (first | refine QN.B1 ?_ | refine QN.N1 ?_ | refine WP.S1 ?_ | refine WP.B1 ?_ | refine WP.R1 ?_))
  refine RL.A1 T_ok rfl ?_
  refine RL.N1 ?_; (with_reducible repeat (first | refine QN.B1 ?_ | refine QN.N1 ?_))
  refine WP.cut (X := Value × List Nat) (fun q => [(0, .pointer (some ⟨b, 0, none⟩)), (3, q.1)])
    (fun q m' => Ev.Own m' q.2 46 2 q.1 tot.1.length (tot.1.flatMap cC) ∧ RAt m' (q.2 ++ M) b tot.2.1 tot.2.2 ∧ Ext m [b] m' ∧ FpNew m [] q.2) ?_ ?_
  · (with_reducible repeat (first | refine WP.S1 ?_ | refine WP.B1 ?_ | refine WP.R1 ?_))
    refine RL.A1 T_ok rfl ?_
    refine RL.call (fi := []) (ca := []) rfl rfl rfl rfl (ruint_c m M b l e h hbM 16384) ?_
    rintro _ m1 ⟨rfl, hR1, hE1⟩
    refine ⟨_, rfl, ?_⟩
    rw [hr0] at hR1 ⊢
    simp only at hR1 ⊢
    refine RL.A1 T_ok rfl ?_
    refine RL.N1 ?_; (with_reducible repeat (first | refine QN.B1 ?_ | refine QN.N1 ?_))
    refine WP.B1 ?_
    refine (WP.loop (X := Nat × Nat × Value × List Nat × List Clk × List UInt8 × Int) (fun q => [(0, .pointer (some ⟨b, 0, none⟩)), (3, q.2.2.1), (4, .int .u64 q.2.1), (5, .int .u64 q.1)])
      (fun q m' => RdI RAt tot m M b q.1 q.2.1 q.2.2.1 q.2.2.2.1 q.2.2.2.2.1 q.2.2.2.2.2.1 q.2.2.2.2.2.2 m') (fun q => q.1) (n0, 0, .slice none 0 0, [], [], l0, e0)
      (Sub.C1 rfl (Sub.C1 rfl (Sub.C1 rfl (Sub.C1 rfl Sub.nil)))) ⟨htot, by show 0 + n0 ≤ 16384; omega, by show 0 < 18446744073709551616; omega, (fun _ => by show 0 ≤ _; omega), Own.empty _ _ _ _, hR1, hE1, FpNew.nil _ _⟩ ?_)
    rintro ⟨n1, last, ov, S, out, l1, e1⟩ m2 hI
    simp only at hI
    obtain ⟨hrest, hroom, hl64, hlmax, hO, hR, hE, hF⟩ := hI
    have hbS : b ∉ S := fun hh => by
      rcases hF b hh with h9 | h9
      · cases h9
      · omega
    have hbSM : b ∈ S ++ M := List.mem_append_right _ hbM
    (with_reducible repeat (first | refine WP.S1 ?_ | refine WP.B1 ?_ | refine WP.R1 ?_))
    refine RL.pure T_ok 2 rfl ?_
    by_cases hn : n1 = 0
    · subst hn
      refine RL.eqv (v' := .bool false) (congrArg _ (by simp)) ?_
      refine RL.A1 T_ok rfl ?_
      refine RL.N1 ?_; (with_reducible repeat (first | refine QN.B1 ?_ | refine QN.N1 ?_))
      refine WP.condF rfl ?_
      refine WP.exit ?_
      (with_reducible repeat (first | refine QN.tx ?_ | refine QN.bx ?_ | refine QN.B1 ?_))
      have ht : tot = (out, l1, e1) := hrest.symm
      subst ht
      exact QN.cutEnd (ov, S) (Sub.C1 rfl (Sub.C1 rfl Sub.nil)) ⟨hO, hR, hE, hF⟩
    obtain ⟨n, rfl⟩ : ∃ n, n1 = n + 1 := ⟨n1 - 1, by omega⟩
    refine RL.eqv (v' := .bool true) (congrArg _ (decide_eq_true (by simp only; omega))) ?_
    refine RL.A1 T_ok rfl ?_
    refine RL.call (fi := []) (ca := []) rfl rfl rfl rfl (err_c m2 (S ++ M) b _ _ hR) ?_
    rintro _ mE ⟨rfl, hmE⟩
    subst hmE
    refine ⟨_, rfl, ?_⟩
    refine RL.pure T_ok 1 rfl ?_
    by_cases he : e1 = 0
    rotate_left
    · refine RL.eqv (v' := .bool false) (congrArg _ (by rw [beq_eq_false_iff_ne]; exact he)) ?_
      refine RL.A1 T_ok rfl ?_
      refine RL.N1 ?_; (with_reducible repeat (first | refine QN.B1 ?_ | refine QN.N1 ?_))
      refine WP.condF rfl ?_
      refine WP.exit ?_
      (with_reducible repeat (first | refine QN.tx ?_ | refine QN.bx ?_ | refine QN.B1 ?_))
      have ht : tot = (out, l1, e1) := by rw [← hrest]; exact vrdL_off he
      subst ht
      exact QN.cutEnd (ov, S) (Sub.C1 rfl (Sub.C1 rfl Sub.nil)) ⟨hO, hR, hE, hF⟩
    subst he
    rw [vrdL_step rfl] at hrest
    have hlm := hlmax rfl
    refine RL.eqv (v' := .bool true) (congrArg _ (by rfl)) ?_
    refine RL.A1 T_ok rfl ?_
    refine RL.N1 ?_; (with_reducible repeat (first | refine QN.B1 ?_ | refine QN.N1 ?_))
    refine WP.condT rfl ?_
    refine WP.skip ?_; (with_reducible repeat (first | refine QN.B1 ?_ | refine QN.N1 ?_ | refine WP.S1 ?_ | refine WP.B1 ?_ | refine WP.R1 ?_))
    refine RL.A1 T_ok rfl ?_
    refine RL.call (fi := []) (ca := []) rfl rfl rfl rfl (ruint_c mE (S ++ M) b l1 0 hR hbSM 18446744073709551615) ?_
    rintro _ m3 ⟨rfl, hR3, hE3⟩
    refine ⟨_, rfl, ?_⟩
    have hr1 : gR 0 (0 : Int) l1 (rdU 18446744073709551615 0 0 l1) = rdN 18446744073709551615 (l1, 0) := rfl
    have hm1 := rdN_le 18446744073709551615 (l1, 0)
    rw [hr1] at hR3 ⊢
    generalize rdN 18446744073709551615 (l1, (0 : Int)) = r1 at hrest hR3 hm1 ⊢
    obtain ⟨more, l3, e3⟩ := r1
    simp only at hrest hR3 hm1 ⊢
    have hO3 := hO.ext hE3 (fun k hk hh => hbS (by have h9 : k = b := (by simpa using hh); exact h9 ▸ hk))
    replace hE3 := hE.trans hE3 (fun k hk => .inl hk)
    clear hO hR hE
    refine RL.A1 T_ok rfl ?_
    refine RL.N1 ?_; (with_reducible repeat (first | refine QN.B1 ?_ | refine QN.N1 ?_))
    refine WP.cut (X := Unit) (fun _ => [(0, .pointer (some ⟨b, 0, none⟩)), (3, ov), (4, .int .u64 last), (5, .int .u64 ((n + 1 : Nat) : Int)), (6, .int .u64 more)]) (fun _ m' => RAt m' (S ++ M) b (badIf (wrongStep last more) (l3, e3)).1 (badIf (wrongStep last more) (l3, e3)).2 ∧ Ext m3 [b] m') ?_ ?_
    · refine WP.cut (X := Bool) (fun q => [(0, .pointer (some ⟨b, 0, none⟩)), (3, ov), (4, .int .u64 last), (5, .int .u64 ((n + 1 : Nat) : Int)), (6, .int .u64 more), (33, .bool q)]) (fun q m' => m' = m3 ∧ q = (decide (e3 = 0) && wrongStep last more)) ?_ ?_
      · refine WP.R1 ?_
        refine RL.A1 T_ok rfl ?_
        refine RL.call (fi := []) (ca := []) rfl rfl rfl rfl (err_c m3 (S ++ M) b _ _ hR3) ?_
        rintro _ mE ⟨rfl, hmE⟩
        subst hmE
        refine ⟨_, rfl, ?_⟩
        refine RL.pure T_ok 1 rfl ?_
        by_cases he3 : e3 = 0
        rotate_left
        · refine RL.eqv (v' := .bool false) (congrArg _ (by rw [beq_eq_false_iff_ne]; exact he3)) ?_
          refine RL.A1 T_ok rfl ?_
          exact RL.N1 (QN.cutEnd false (Sub.C1 rfl (Sub.C1 rfl (Sub.C1 rfl (Sub.C1 rfl (Sub.C1 rfl (Sub.C1 rfl Sub.nil)))))) ⟨rfl, by simp [he3]⟩)
        refine RL.eqv (v' := .bool true) (congrArg _ (by rw [beq_iff_eq]; exact he3)) ?_
        refine RL.pure T_ok 3 rfl ?_
        by_cases hmz : more = 0
        · refine RL.eqv (v' := .bool true) (congrArg _ (by rw [hmz]; rfl)) ?_
          refine RL.A1 T_ok rfl ?_
          exact RL.N1 (QN.cutEnd true (Sub.C1 rfl (Sub.C1 rfl (Sub.C1 rfl (Sub.C1 rfl (Sub.C1 rfl (Sub.C1 rfl Sub.nil)))))) ⟨rfl, by simp [he3, wrongStep, hmz]⟩)
        refine RL.eqv (v' := .bool false) (congrArg _ (by rw [beq_eq_false_iff_ne]; omega)) ?_
        refine RL.pure T_ok 4 rfl ?_
        refine RL.eqv (v' := .int .u64 ((9007199254740991 - last : Nat) : Int)) (congrArg _ (by rw [wrap_u64_in _ (by omega) (by omega)]; omega)) ?_
        refine RL.pure T_ok 1 rfl ?_
        refine RL.eqv (v' := .bool (decide (9007199254740991 - last < more))) (congrArg _ (by rw [decide_eq_decide]; omega)) ?_
        refine RL.A1 T_ok rfl ?_
        exact RL.N1 (QN.cutEnd (decide (9007199254740991 - last < more)) (Sub.C1 rfl (Sub.C1 rfl (Sub.C1 rfl (Sub.C1 rfl (Sub.C1 rfl (Sub.C1 rfl Sub.nil)))))) ⟨rfl, by simp [he3, wrongStep, hmz]⟩)
      rintro q mq ⟨rfl, hq⟩
      refine WP.cond rfl (fun hp => ?_) (fun hp => ?_)
      · rw [hp] at hq
        have hq2 := hq.symm
        rw [Bool.and_eq_true, decide_eq_true_eq] at hq2
        rw [badIf_yes (s := (l3, e3)) ⟨hq2.1, hq2.2⟩]
        (with_reducible repeat (first | refine WP.S1 ?_ | refine WP.B1 ?_ | refine WP.R1 ?_))
        refine RL.A1 T_ok rfl ?_
        refine RL.call (fi := []) (ca := []) rfl rfl rfl rfl (bad_c mq (S ++ M) b l3 e3 11 hR3 hbSM) ?_
        rintro _ m4 ⟨rfl, hR4, hE4⟩
        refine ⟨_, rfl, ?_⟩
        rw [if_pos hq2.1] at hR4
        exact RL.N1 (QN.cutEnd () (Sub.C1 rfl (Sub.C1 rfl (Sub.C1 rfl (Sub.C1 rfl (Sub.C1 rfl Sub.nil))))) ⟨hR4, hE4⟩)
      · rw [hp] at hq
        rw [badIf_no (s := (l3, e3)) (fun hh => by rw [hh.2, decide_eq_true hh.1] at hq; cases hq)]
        refine WP.skip ?_
        exact QN.cutEnd () (Sub.C1 rfl (Sub.C1 rfl (Sub.C1 rfl (Sub.C1 rfl (Sub.C1 rfl Sub.nil))))) ⟨hR3, Ext.refl _ _⟩
    rintro _ m4 ⟨hR4, hE4⟩
    have hok := @badIf_ok (wrongStep last more) (l3, e3)
    have hO4 := hO3.ext hE4 (fun k hk hh => hbS (by have h9 : k = b := (by simpa using hh); exact h9 ▸ hk))
    replace hE4 := hE3.trans hE4 (fun k hk => .inl hk)
    clear hR3 hO3 hE3
    generalize badIf (wrongStep last more) (l3, e3) = s1 at hrest hR4 hok
    obtain ⟨l4, e4⟩ := s1
    simp only at hR4 hok
    (with_reducible repeat (first | refine WP.S1 ?_ | refine WP.B1 ?_ | refine WP.R1 ?_))
    refine RL.A1 T_ok rfl ?_
    refine RL.call (fi := []) (ca := []) rfl rfl rfl rfl (ruint_c m4 (S ++ M) b l4 e4 hR4 hbSM 9007199254740991) ?_
    rintro _ m5 ⟨rfl, hR5, hE5⟩
    refine ⟨_, rfl, ?_⟩
    have hr2 : gR 0 e4 l4 (rdU 9007199254740991 0 0 l4) = rdN 9007199254740991 (l4, e4) := rfl
    have hm2 := rdN_le 9007199254740991 (l4, e4)
    have herr : e4 ≠ 0 → (rdN 9007199254740991 (l4, e4)).2.2 = e4 := fun hh => by
      have : rdN 9007199254740991 (l4, e4) = (0, l4, e4) := gR_off hh
      rw [this]
    rw [hr2] at hR5 ⊢
    generalize rdN 9007199254740991 (l4, e4) = r2 at hrest hR5 hm2 herr ⊢
    obtain ⟨ck, l5, e5⟩ := r2
    simp only at hrest hR5 hm2 herr ⊢
    have hO5 := hO4.ext hE5 (fun k hk hh => hbS (by have h9 : k = b := (by simpa using hh); exact h9 ▸ hk))
    replace hE5 := hE4.trans hE5 (fun k hk => .inl hk)
    clear hR4 hO4 hE4
    refine RL.A1 T_ok rfl ?_
    refine RL.N1 ?_; (with_reducible repeat (first | refine QN.B1 ?_ | refine QN.N1 ?_))
    refine WP.cut (X := Unit) (fun _ => [(0, .pointer (some ⟨b, 0, none⟩)), (3, ov), (4, .int .u64 last), (5, .int .u64 ((n + 1 : Nat) : Int)), (6, .int .u64 more), (7, .int .u64 ck)]) (fun _ m' => RAt m' (S ++ M) b (badIf (decide (ck = 0)) (l5, e5)).1 (badIf (decide (ck = 0)) (l5, e5)).2 ∧ Ext m5 [b] m') ?_ ?_
    · refine WP.cut (X := Bool) (fun q => [(0, .pointer (some ⟨b, 0, none⟩)), (3, ov), (4, .int .u64 last), (5, .int .u64 ((n + 1 : Nat) : Int)), (6, .int .u64 more), (7, .int .u64 ck), (44, .bool q)]) (fun q m' => m' = m5 ∧ q = (decide (e5 = 0) && decide (ck = 0))) ?_ ?_
      · refine WP.R1 ?_
        refine RL.A1 T_ok rfl ?_
        refine RL.call (fi := []) (ca := []) rfl rfl rfl rfl (err_c m5 (S ++ M) b _ _ hR5) ?_
        rintro _ mE ⟨rfl, hmE⟩
        subst hmE
        refine ⟨_, rfl, ?_⟩
        refine RL.pure T_ok 1 rfl ?_
        by_cases he5 : e5 = 0
        rotate_left
        · refine RL.eqv (v' := .bool false) (congrArg _ (by rw [beq_eq_false_iff_ne]; exact he5)) ?_
          refine RL.A1 T_ok rfl ?_
          exact RL.N1 (QN.cutEnd false (Sub.C1 rfl (Sub.C1 rfl (Sub.C1 rfl (Sub.C1 rfl (Sub.C1 rfl (Sub.C1 rfl (Sub.C1 rfl Sub.nil))))))) ⟨rfl, by simp [he5]⟩)
        refine RL.eqv (v' := .bool true) (congrArg _ (by rw [beq_iff_eq]; exact he5)) ?_
        refine RL.pure T_ok 3 rfl ?_
        refine RL.eqv (v' := .bool (decide (ck = 0))) (congrArg _ (deq ck 0)) ?_
        refine RL.A1 T_ok rfl ?_
        exact RL.N1 (QN.cutEnd (decide (ck = 0)) (Sub.C1 rfl (Sub.C1 rfl (Sub.C1 rfl (Sub.C1 rfl (Sub.C1 rfl (Sub.C1 rfl (Sub.C1 rfl Sub.nil))))))) ⟨rfl, by simp [he5]⟩)
      rintro q mq ⟨rfl, hq⟩
      refine WP.cond rfl (fun hp => ?_) (fun hp => ?_)
      · rw [hp] at hq
        have hq2 := hq.symm
        rw [Bool.and_eq_true, decide_eq_true_eq] at hq2
        rw [badIf_yes (s := (l5, e5)) ⟨hq2.1, hq2.2⟩]
        (with_reducible repeat (first | refine WP.S1 ?_ | refine WP.B1 ?_ | refine WP.R1 ?_))
        refine RL.A1 T_ok rfl ?_
        refine RL.call (fi := []) (ca := []) rfl rfl rfl rfl (bad_c mq (S ++ M) b l5 e5 11 hR5 hbSM) ?_
        rintro _ m6 ⟨rfl, hR6, hE6⟩
        refine ⟨_, rfl, ?_⟩
        rw [if_pos hq2.1] at hR6
        exact RL.N1 (QN.cutEnd () (Sub.C1 rfl (Sub.C1 rfl (Sub.C1 rfl (Sub.C1 rfl (Sub.C1 rfl (Sub.C1 rfl Sub.nil)))))) ⟨hR6, hE6⟩)
      · rw [hp] at hq
        rw [badIf_no (s := (l5, e5)) (fun hh => by rw [hh.2, decide_eq_true hh.1] at hq; cases hq)]
        refine WP.skip ?_
        exact QN.cutEnd () (Sub.C1 rfl (Sub.C1 rfl (Sub.C1 rfl (Sub.C1 rfl (Sub.C1 rfl (Sub.C1 rfl Sub.nil)))))) ⟨hR5, Ext.refl _ _⟩
    rintro _ m6 ⟨hR6, hE6⟩
    have hok2 := @badIf_ok (decide (ck = 0)) (l5, e5)
    have hO6 := hO5.ext hE6 (fun k hk hh => hbS (by have h9 : k = b := (by simpa using hh); exact h9 ▸ hk))
    replace hE6 := hE5.trans hE6 (fun k hk => .inl hk)
    clear hR5 hO5 hE5
    generalize badIf (decide (ck = 0)) (l5, e5) = s2 at hrest hR6 hok2
    obtain ⟨l6, e6⟩ := s2
    simp only at hR6 hok2
    have hlast : e6 = 0 → (last + more) % 18446744073709551616 ≤ 9007199254740991 := fun h6 => by
      have h5 := (hok2 h6).1
      have h4 : e4 = 0 := by
        by_cases hh : e4 = 0
        · exact hh
        · have := herr hh; omega
      have h3 := (hok h4).2
      have h3 := of_decide_eq_false h3
      omega
    have hl64' : (last + more) % 18446744073709551616 < 18446744073709551616 := Nat.mod_lt _ (by omega)
    (with_reducible repeat (first | refine WP.S1 ?_ | refine WP.B1 ?_ | refine WP.R1 ?_))
    refine RL.pure T_ok 3 rfl ?_
    refine RL.eqv (v' := .int .u64 (((last + more) % 18446744073709551616 : Nat) : Int)) (congrArg _ (by rw [wrap_u64]; omega)) ?_
    generalize (last + more) % 18446744073709551616 = last2 at hrest hlast hl64' ⊢
    refine RL.A1 T_ok rfl ?_
    refine RL.N1 ?_; (with_reducible repeat (first | refine QN.B1 ?_ | refine QN.N1 ?_ | refine WP.S1 ?_ | refine WP.B1 ?_ | refine WP.R1 ?_))
    refine RL.pure T_ok 4 rfl ?_
    refine RL.append1 T_ok [.tmp 53] hO6 (us := [cV ⟨last2, ck⟩]) (cC ⟨last2, ck⟩) rfl rfl rfl rfl rfl rfl rfl rfl rfl (by simp [cV, cC, Value.cells]) (by simp [cV, Value.cells]) (cC_one _) (by unfold maxLen; omega) (by show (_ + 1) * 16 ≤ _; omega) ?_
    intro v7 m7 S7 hO7 hE7 hF7
    refine ⟨_, rfl, ?_⟩
    have hge : ∀ k ∈ S, m.heap.size ≤ k := fun k hk => by
      rcases hF k hk with h9 | h9
      · cases h9
      · exact h9
    have hR7 : RAt m7 (S7 ++ M) b l6 e6 := hR6.ext hE7 hbS (fun k hk _ => List.mem_append_left _ hk) (fun k hk => by
      rcases List.mem_append.1 hk with h9 | h9
      · rcases hF7 k h9 with h8 | h8
        · exact .inl (List.mem_append_left _ h8)
        · exact .inr h8
      · exact .inl (List.mem_append_right _ h9))
    have hE7' := hE6.trans hE7 (fun k hk => .inr (hge k hk))
    have hF7' : FpNew m [] S7 := fun k hk => by
      rcases hF7 k hk with h8 | h8
      · exact .inr (hge k h8)
      · exact .inr (Nat.le_trans hE6.size h8)
    refine RL.A1 T_ok rfl ?_
    refine RL.N1 ?_; (with_reducible repeat (first | refine QN.B1 ?_ | refine QN.N1 ?_ | refine WP.S1 ?_ | refine WP.B1 ?_ | refine WP.R1 ?_))
    refine RL.pure T_ok 2 rfl ?_
    refine RL.eqv (v' := .int .u64 ((n : Nat) : Int)) (congrArg _ (by rw [wrap_u64_in _ (by omega) (by omega)]; omega)) ?_
    refine RL.A1 T_ok rfl ?_
    refine RL.N1 (QN.round (n, last2, v7, S7, out ++ [⟨last2, ck⟩], l6, e6) (Sub.C1 rfl (Sub.C1 rfl (Sub.C1 rfl (Sub.C1 rfl Sub.nil)))) ⟨hrest, by simp; omega, hl64', hlast, ?_, hR7, hE7', hF7'⟩ (by show n < n + 1; omega))
    rw [List.length_append, ← csC_app]
    simpa using hO7
  rintro ⟨ov, S⟩ m2 ⟨hO, hR, hE, hF⟩
  simp only at hO hR hF
  have hbS : b ∉ S := fun hh => by
    rcases hF b hh with h9 | h9
    · cases h9
    · omega
  obtain ⟨out, l2, e2⟩ := tot
  simp only at hO hR ⊢
  (with_reducible repeat (first | refine WP.S1 ?_ | refine WP.B1 ?_ | refine WP.R1 ?_))
  refine RL.A1 T_ok rfl ?_
  refine RL.call (fi := []) (ca := []) rfl rfl rfl rfl (err_c m2 (S ++ M) b _ _ hR) ?_
  rintro _ mE ⟨rfl, hmE⟩
  subst hmE
  refine ⟨_, rfl, ?_⟩
  refine RL.pure T_ok 1 rfl ?_
  by_cases he : e2 = 0
  · refine RL.eqv (v' := .bool false) (congrArg _ (by simp [he])) ?_
    rw [if_pos he]
    refine RL.N1 ?_; (with_reducible repeat (first | refine QN.B1 ?_ | refine QN.N1 ?_ | refine WP.S1 ?_ | refine WP.B1 ?_ | refine WP.R1 ?_))
    refine WP.condF rfl ?_
    refine WP.skip ?_; (with_reducible repeat (first | refine QN.B1 ?_ | refine QN.N1 ?_ | refine WP.S1 ?_ | refine WP.B1 ?_ | refine WP.R1 ?_))
    refine RL.A1 T_ok rfl ?_
    refine RL.N1 ?_; (with_reducible repeat (first | refine QN.B1 ?_ | refine QN.N1 ?_ | refine WP.S1 ?_ | refine WP.B1 ?_ | refine WP.R1 ?_))
    refine WP.ret ?_; (with_reducible repeat (first | refine QN.tr ?_ | refine QN.br ?_))
    exact QN.ret1 rfl rfl ⟨_, rfl, S, hO, hR, hE, hF⟩
  · refine RL.eqv (v' := .bool true) (congrArg _ (by simp [he])) ?_
    rw [if_neg he]
    refine RL.N1 ?_; (with_reducible repeat (first | refine QN.B1 ?_ | refine QN.N1 ?_ | refine WP.S1 ?_ | refine WP.B1 ?_ | refine WP.R1 ?_))
    refine WP.condT rfl ?_
    (with_reducible repeat (first | refine WP.S1 ?_ | refine WP.B1 ?_ | refine WP.R1 ?_))
    refine RL.A1 T_ok rfl ?_
    refine RL.N1 ?_; (with_reducible repeat (first | refine QN.B1 ?_ | refine QN.N1 ?_ | refine WP.S1 ?_ | refine WP.B1 ?_ | refine WP.R1 ?_))
    refine WP.ret ?_; (with_reducible repeat (first | refine QN.tr ?_ | refine QN.br ?_))
    exact QN.ret1 rfl rfl ⟨_, rfl, [], Own.empty _ _ _ _, hR.ext (Ext.refl _ []) (by simp) (by simp) (fun k hk => .inl (List.mem_append_right _ (by simpa using hk))), hE, FpNew.nil _ _⟩
set_option maxRecDepth 10000 in
set_option maxHeartbeats 1000000 in
theorem refvread_c (m : World) (M : List Nat) (b : Nat) (l : List UInt8) (e : Int) (h : QAt m M b l e) (hbM : b ∈ M) :
    FnR Tryz.prog 43 [.pointer (some ⟨b, 0, none⟩)] m fun r m' => VRPost QAt m M b (vrd (l, e)) r m' := by
  have hblt := h.lt
  refine FnE.enter ⟨_, Tryz.func43, by kernel_rfl, by kernel_rfl⟩ Tryz.func43 rfl rfl ?_
  (with_reducible repeat (first | refine WP.S1 ?_ | refine WP.B1 ?_ | refine WP.R1 ?_))
  refine RL.A1 T_ok rfl ?_
  refine RL.N1 ?_; (with_reducible repeat (first | refine QN.B1 ?_ | refine QN.N1 ?_ | refine WP.S1 ?_ | refine WP.B1 ?_ | refine WP.R1 ?_))
  have hr0 : gR 0 e l (rdU 16384 0 0 l) = rdN 16384 (l, e) := rfl
  have hle0 := rdN_le 16384 (l, e)
  have hvrd : vrd (l, e) = (if (vrdL (rdN 16384 (l, e)).1 0 [] (rdN 16384 (l, e)).2).2.2 = 0 then (vrdL (rdN 16384 (l, e)).1 0 [] (rdN 16384 (l, e)).2).1 else [], (vrdL (rdN 16384 (l, e)).1 0 [] (rdN 16384 (l, e)).2).2) := rfl
  rw [hvrd]
  generalize rdN 16384 (l, e) = r0 at hr0 hle0 ⊢
  obtain ⟨n0, l0, e0⟩ := r0
  simp only at hle0 ⊢
  clear hvrd
  obtain ⟨tot, htot⟩ : ∃ tot, vrdL n0 0 [] (l0, e0) = tot := ⟨_, rfl⟩
  rw [htot]
  refine RL.A1 T_ok rfl ?_
  refine RL.call (fi := []) (ca := []) rfl rfl rfl rfl (quint_c m M b l e h hbM 16384) ?_
  rintro _ m1 ⟨rfl, hR1, hE1⟩
  refine ⟨_, rfl, ?_⟩
  rw [hr0] at hR1 ⊢
  simp only at hR1 ⊢
  refine RL.A1 T_ok rfl ?_
  refine RL.N1 ?_; (with_reducible repeat (first | refine QN.B1 ?_ | refine QN.N1 ?_ | refine WP.S1 ?_ | refine WP.B1 ?_ | refine WP.R1 ?_))
  refine RL.A1 T_ok rfl ?_
  refine RL.N1 ?_; (with_reducible repeat (first | refine QN.B1 ?_ | refine QN.N1 ?_ | refine WP.S1 ?_ | refine WP.B1 ?_ | refine WP.R1 ?_))
  refine RL.A1 T_ok rfl ?_
  refine RL.N1 ?_; (with_reducible repeat (first | refine QN.B1 ?_ | refine QN.N1 ?_))
  refine WP.cut (X := Value × List Nat) (fun q => [(0, .pointer (some ⟨b, 0, none⟩)), (4, q.1)])
    (fun q m' => Ev.Own m' q.2 46 2 q.1 tot.1.length (tot.1.flatMap cC) ∧ QAt m' (q.2 ++ M) b tot.2.1 tot.2.2 ∧ Ext m [b] m' ∧ FpNew m [] q.2) ?_ ?_
  · skip
    refine WP.B1 ?_
    refine (WP.loop (X := Nat × Nat × Value × List Nat × List Clk × List UInt8 × Int) (fun q => [(0, .pointer (some ⟨b, 0, none⟩)), (4, q.2.2.1), (5, .int .u64 q.2.1), (3, .int .u64 q.1)])
      (fun q m' => RdI QAt tot m M b q.1 q.2.1 q.2.2.1 q.2.2.2.1 q.2.2.2.2.1 q.2.2.2.2.2.1 q.2.2.2.2.2.2 m') (fun q => q.1) (n0, 0, .slice none 0 0, [], [], l0, e0)
      (Sub.C1 rfl (Sub.C1 rfl (Sub.C1 rfl (Sub.C1 rfl Sub.nil)))) ⟨htot, by show 0 + n0 ≤ 16384; omega, by show 0 < 18446744073709551616; omega, (fun _ => by show 0 ≤ _; omega), Own.empty _ _ _ _, hR1, hE1, FpNew.nil _ _⟩ ?_)
    rintro ⟨n1, last, ov, S, out, l1, e1⟩ m2 hI
    simp only at hI
    obtain ⟨hrest, hroom, hl64, hlmax, hO, hR, hE, hF⟩ := hI
    have hbS : b ∉ S := fun hh => by
      rcases hF b hh with h9 | h9
      · cases h9
      · omega
    have hbSM : b ∈ S ++ M := List.mem_append_right _ hbM
    (with_reducible repeat (first | refine WP.S1 ?_ | refine WP.B1 ?_ | refine WP.R1 ?_))
    refine RL.pure T_ok 2 rfl ?_
    by_cases hn : n1 = 0
    · subst hn
      refine RL.eqv (v' := .bool false) (congrArg _ (by simp)) ?_
      refine RL.A1 T_ok rfl ?_
      refine RL.N1 ?_; (with_reducible repeat (first | refine QN.B1 ?_ | refine QN.N1 ?_))
      refine WP.condF rfl ?_
      refine WP.exit ?_
      (with_reducible repeat (first | refine QN.tx ?_ | refine QN.bx ?_ | refine QN.B1 ?_))
      have ht : tot = (out, l1, e1) := hrest.symm
      subst ht
      exact QN.cutEnd (ov, S) (Sub.C1 rfl (Sub.C1 rfl Sub.nil)) ⟨hO, hR, hE, hF⟩
    obtain ⟨n, rfl⟩ : ∃ n, n1 = n + 1 := ⟨n1 - 1, by omega⟩
    refine RL.eqv (v' := .bool true) (congrArg _ (decide_eq_true (by simp only; omega))) ?_
    have hRc := hR
    obtain ⟨vq, hBq, hSq⟩ := hRc
    refine RL.A1 T_ok rfl ?_
    refine RL.load T_ok rfl rfl rfl (hBq.cell 1 rfl) rfl ?_
    refine RL.pure T_ok 1 rfl ?_
    by_cases he : e1 = 0
    rotate_left
    · refine RL.eqv (v' := .bool false) (congrArg _ (by rw [beq_eq_false_iff_ne]; exact he)) ?_
      refine RL.A1 T_ok rfl ?_
      refine RL.N1 ?_; (with_reducible repeat (first | refine QN.B1 ?_ | refine QN.N1 ?_))
      refine WP.condF rfl ?_
      refine WP.exit ?_
      (with_reducible repeat (first | refine QN.tx ?_ | refine QN.bx ?_ | refine QN.B1 ?_))
      have ht : tot = (out, l1, e1) := by rw [← hrest]; exact vrdL_off he
      subst ht
      exact QN.cutEnd (ov, S) (Sub.C1 rfl (Sub.C1 rfl Sub.nil)) ⟨hO, hR, hE, hF⟩
    subst he
    rw [vrdL_step rfl] at hrest
    have hlm := hlmax rfl
    refine RL.eqv (v' := .bool true) (congrArg _ (by rfl)) ?_
    refine RL.A1 T_ok rfl ?_
    refine RL.N1 ?_; (with_reducible repeat (first | refine QN.B1 ?_ | refine QN.N1 ?_))
    refine WP.condT rfl ?_
    refine WP.skip ?_; (with_reducible repeat (first | refine QN.B1 ?_ | refine QN.N1 ?_ | refine WP.S1 ?_ | refine WP.B1 ?_ | refine WP.R1 ?_))
    refine RL.A1 T_ok rfl ?_
    refine RL.call (fi := []) (ca := []) rfl rfl rfl rfl (quint_c m2 (S ++ M) b l1 0 hR hbSM 18446744073709551615) ?_
    rintro _ m3 ⟨rfl, hR3, hE3⟩
    refine ⟨_, rfl, ?_⟩
    have hr1 : gR 0 (0 : Int) l1 (rdU 18446744073709551615 0 0 l1) = rdN 18446744073709551615 (l1, 0) := rfl
    have hm1 := rdN_le 18446744073709551615 (l1, 0)
    rw [hr1] at hR3 ⊢
    generalize rdN 18446744073709551615 (l1, (0 : Int)) = r1 at hrest hR3 hm1 ⊢
    obtain ⟨more, l3, e3⟩ := r1
    simp only at hrest hR3 hm1 ⊢
    have hO3 := hO.ext hE3 (fun k hk hh => hbS (by have h9 : k = b := (by simpa using hh); exact h9 ▸ hk))
    replace hE3 := hE.trans hE3 (fun k hk => .inl hk)
    clear hO hR hE
    refine RL.A1 T_ok rfl ?_
    refine RL.N1 ?_; (with_reducible repeat (first | refine QN.B1 ?_ | refine QN.N1 ?_))
    refine WP.cut (X := Unit) (fun _ => [(0, .pointer (some ⟨b, 0, none⟩)), (4, ov), (5, .int .u64 last), (3, .int .u64 ((n + 1 : Nat) : Int)), (6, .int .u64 more)]) (fun _ m' => QAt m' (S ++ M) b (badIf (wrongStep last more) (l3, e3)).1 (badIf (wrongStep last more) (l3, e3)).2 ∧ Ext m3 [b] m') ?_ ?_
    · refine WP.cut (X := Bool) (fun q => [(0, .pointer (some ⟨b, 0, none⟩)), (4, ov), (5, .int .u64 last), (3, .int .u64 ((n + 1 : Nat) : Int)), (6, .int .u64 more), (37, .bool q)]) (fun q m' => m' = m3 ∧ q = (decide (e3 = 0) && wrongStep last more)) ?_ ?_
      · refine WP.R1 ?_
        have hRc := hR3
        obtain ⟨vq, hBq, hSq⟩ := hRc
        refine RL.A1 T_ok rfl ?_
        refine RL.load T_ok rfl rfl rfl (hBq.cell 1 rfl) rfl ?_
        refine RL.pure T_ok 1 rfl ?_
        by_cases he3 : e3 = 0
        rotate_left
        · refine RL.eqv (v' := .bool false) (congrArg _ (by rw [beq_eq_false_iff_ne]; exact he3)) ?_
          refine RL.A1 T_ok rfl ?_
          exact RL.N1 (QN.cutEnd false (Sub.C1 rfl (Sub.C1 rfl (Sub.C1 rfl (Sub.C1 rfl (Sub.C1 rfl (Sub.C1 rfl Sub.nil)))))) ⟨rfl, by simp [he3]⟩)
        refine RL.eqv (v' := .bool true) (congrArg _ (by rw [beq_iff_eq]; exact he3)) ?_
        refine RL.pure T_ok 3 rfl ?_
        by_cases hmz : more = 0
        · refine RL.eqv (v' := .bool true) (congrArg _ (by rw [hmz]; rfl)) ?_
          refine RL.A1 T_ok rfl ?_
          exact RL.N1 (QN.cutEnd true (Sub.C1 rfl (Sub.C1 rfl (Sub.C1 rfl (Sub.C1 rfl (Sub.C1 rfl (Sub.C1 rfl Sub.nil)))))) ⟨rfl, by simp [he3, wrongStep, hmz]⟩)
        refine RL.eqv (v' := .bool false) (congrArg _ (by rw [beq_eq_false_iff_ne]; omega)) ?_
        refine RL.pure T_ok 4 rfl ?_
        refine RL.eqv (v' := .int .u64 ((9007199254740991 - last : Nat) : Int)) (congrArg _ (by rw [wrap_u64_in _ (by omega) (by omega)]; omega)) ?_
        refine RL.pure T_ok 1 rfl ?_
        refine RL.eqv (v' := .bool (decide (9007199254740991 - last < more))) (congrArg _ (by rw [decide_eq_decide]; omega)) ?_
        refine RL.A1 T_ok rfl ?_
        exact RL.N1 (QN.cutEnd (decide (9007199254740991 - last < more)) (Sub.C1 rfl (Sub.C1 rfl (Sub.C1 rfl (Sub.C1 rfl (Sub.C1 rfl (Sub.C1 rfl Sub.nil)))))) ⟨rfl, by simp [he3, wrongStep, hmz]⟩)
      rintro q mq ⟨rfl, hq⟩
      refine WP.cond rfl (fun hp => ?_) (fun hp => ?_)
      · rw [hp] at hq
        have hq2 := hq.symm
        rw [Bool.and_eq_true, decide_eq_true_eq] at hq2
        rw [badIf_yes (s := (l3, e3)) ⟨hq2.1, hq2.2⟩]
        (with_reducible repeat (first | refine WP.S1 ?_ | refine WP.B1 ?_ | refine WP.R1 ?_))
        refine RL.A1 T_ok rfl ?_
        refine RL.call (fi := []) (ca := []) rfl rfl rfl rfl (qfail_c mq (S ++ M) b l3 e3 11 hR3 hbSM) ?_
        rintro _ m4 ⟨rfl, hR4, hE4⟩
        refine ⟨_, rfl, ?_⟩
        rw [if_pos hq2.1] at hR4
        exact RL.N1 (QN.cutEnd () (Sub.C1 rfl (Sub.C1 rfl (Sub.C1 rfl (Sub.C1 rfl (Sub.C1 rfl Sub.nil))))) ⟨hR4, hE4⟩)
      · rw [hp] at hq
        rw [badIf_no (s := (l3, e3)) (fun hh => by rw [hh.2, decide_eq_true hh.1] at hq; cases hq)]
        refine WP.skip ?_
        exact QN.cutEnd () (Sub.C1 rfl (Sub.C1 rfl (Sub.C1 rfl (Sub.C1 rfl (Sub.C1 rfl Sub.nil))))) ⟨hR3, Ext.refl _ _⟩
    rintro _ m4 ⟨hR4, hE4⟩
    have hok := @badIf_ok (wrongStep last more) (l3, e3)
    have hO4 := hO3.ext hE4 (fun k hk hh => hbS (by have h9 : k = b := (by simpa using hh); exact h9 ▸ hk))
    replace hE4 := hE3.trans hE4 (fun k hk => .inl hk)
    clear hR3 hO3 hE3
    generalize badIf (wrongStep last more) (l3, e3) = s1 at hrest hR4 hok
    obtain ⟨l4, e4⟩ := s1
    simp only at hR4 hok
    (with_reducible repeat (first | refine WP.S1 ?_ | refine WP.B1 ?_ | refine WP.R1 ?_))
    refine RL.A1 T_ok rfl ?_
    refine RL.call (fi := []) (ca := []) rfl rfl rfl rfl (quint_c m4 (S ++ M) b l4 e4 hR4 hbSM 9007199254740991) ?_
    rintro _ m5 ⟨rfl, hR5, hE5⟩
    refine ⟨_, rfl, ?_⟩
    have hr2 : gR 0 e4 l4 (rdU 9007199254740991 0 0 l4) = rdN 9007199254740991 (l4, e4) := rfl
    have hm2 := rdN_le 9007199254740991 (l4, e4)
    have herr : e4 ≠ 0 → (rdN 9007199254740991 (l4, e4)).2.2 = e4 := fun hh => by
      have : rdN 9007199254740991 (l4, e4) = (0, l4, e4) := gR_off hh
      rw [this]
    rw [hr2] at hR5 ⊢
    generalize rdN 9007199254740991 (l4, e4) = r2 at hrest hR5 hm2 herr ⊢
    obtain ⟨ck, l5, e5⟩ := r2
    simp only at hrest hR5 hm2 herr ⊢
    have hO5 := hO4.ext hE5 (fun k hk hh => hbS (by have h9 : k = b := (by simpa using hh); exact h9 ▸ hk))
    replace hE5 := hE4.trans hE5 (fun k hk => .inl hk)
    clear hR4 hO4 hE4
    refine RL.A1 T_ok rfl ?_
    refine RL.N1 ?_; (with_reducible repeat (first | refine QN.B1 ?_ | refine QN.N1 ?_))
    refine WP.cut (X := Unit) (fun _ => [(0, .pointer (some ⟨b, 0, none⟩)), (4, ov), (5, .int .u64 last), (3, .int .u64 ((n + 1 : Nat) : Int)), (6, .int .u64 more), (7, .int .u64 ck)]) (fun _ m' => QAt m' (S ++ M) b (badIf (decide (ck = 0)) (l5, e5)).1 (badIf (decide (ck = 0)) (l5, e5)).2 ∧ Ext m5 [b] m') ?_ ?_
    · refine WP.cut (X := Bool) (fun q => [(0, .pointer (some ⟨b, 0, none⟩)), (4, ov), (5, .int .u64 last), (3, .int .u64 ((n + 1 : Nat) : Int)), (6, .int .u64 more), (7, .int .u64 ck), (50, .bool q)]) (fun q m' => m' = m5 ∧ q = (decide (e5 = 0) && decide (ck = 0))) ?_ ?_
      · refine WP.R1 ?_
        have hRc := hR5
        obtain ⟨vq, hBq, hSq⟩ := hRc
        refine RL.A1 T_ok rfl ?_
        refine RL.load T_ok rfl rfl rfl (hBq.cell 1 rfl) rfl ?_
        refine RL.pure T_ok 1 rfl ?_
        by_cases he5 : e5 = 0
        rotate_left
        · refine RL.eqv (v' := .bool false) (congrArg _ (by rw [beq_eq_false_iff_ne]; exact he5)) ?_
          refine RL.A1 T_ok rfl ?_
          exact RL.N1 (QN.cutEnd false (Sub.C1 rfl (Sub.C1 rfl (Sub.C1 rfl (Sub.C1 rfl (Sub.C1 rfl (Sub.C1 rfl (Sub.C1 rfl Sub.nil))))))) ⟨rfl, by simp [he5]⟩)
        refine RL.eqv (v' := .bool true) (congrArg _ (by rw [beq_iff_eq]; exact he5)) ?_
        refine RL.pure T_ok 3 rfl ?_
        refine RL.eqv (v' := .bool (decide (ck = 0))) (congrArg _ (deq ck 0)) ?_
        refine RL.A1 T_ok rfl ?_
        exact RL.N1 (QN.cutEnd (decide (ck = 0)) (Sub.C1 rfl (Sub.C1 rfl (Sub.C1 rfl (Sub.C1 rfl (Sub.C1 rfl (Sub.C1 rfl (Sub.C1 rfl Sub.nil))))))) ⟨rfl, by simp [he5]⟩)
      rintro q mq ⟨rfl, hq⟩
      refine WP.cond rfl (fun hp => ?_) (fun hp => ?_)
      · rw [hp] at hq
        have hq2 := hq.symm
        rw [Bool.and_eq_true, decide_eq_true_eq] at hq2
        rw [badIf_yes (s := (l5, e5)) ⟨hq2.1, hq2.2⟩]
        (with_reducible repeat (first | refine WP.S1 ?_ | refine WP.B1 ?_ | refine WP.R1 ?_))
        refine RL.A1 T_ok rfl ?_
        refine RL.call (fi := []) (ca := []) rfl rfl rfl rfl (qfail_c mq (S ++ M) b l5 e5 11 hR5 hbSM) ?_
        rintro _ m6 ⟨rfl, hR6, hE6⟩
        refine ⟨_, rfl, ?_⟩
        rw [if_pos hq2.1] at hR6
        exact RL.N1 (QN.cutEnd () (Sub.C1 rfl (Sub.C1 rfl (Sub.C1 rfl (Sub.C1 rfl (Sub.C1 rfl (Sub.C1 rfl Sub.nil)))))) ⟨hR6, hE6⟩)
      · rw [hp] at hq
        rw [badIf_no (s := (l5, e5)) (fun hh => by rw [hh.2, decide_eq_true hh.1] at hq; cases hq)]
        refine WP.skip ?_
        exact QN.cutEnd () (Sub.C1 rfl (Sub.C1 rfl (Sub.C1 rfl (Sub.C1 rfl (Sub.C1 rfl (Sub.C1 rfl Sub.nil)))))) ⟨hR5, Ext.refl _ _⟩
    rintro _ m6 ⟨hR6, hE6⟩
    have hok2 := @badIf_ok (decide (ck = 0)) (l5, e5)
    have hO6 := hO5.ext hE6 (fun k hk hh => hbS (by have h9 : k = b := (by simpa using hh); exact h9 ▸ hk))
    replace hE6 := hE5.trans hE6 (fun k hk => .inl hk)
    clear hR5 hO5 hE5
    generalize badIf (decide (ck = 0)) (l5, e5) = s2 at hrest hR6 hok2
    obtain ⟨l6, e6⟩ := s2
    simp only at hR6 hok2
    have hlast : e6 = 0 → (last + more) % 18446744073709551616 ≤ 9007199254740991 := fun h6 => by
      have h5 := (hok2 h6).1
      have h4 : e4 = 0 := by
        by_cases hh : e4 = 0
        · exact hh
        · have := herr hh; omega
      have h3 := (hok h4).2
      have h3 := of_decide_eq_false h3
      omega
    have hl64' : (last + more) % 18446744073709551616 < 18446744073709551616 := Nat.mod_lt _ (by omega)
    (with_reducible repeat (first | refine WP.S1 ?_ | refine WP.B1 ?_ | refine WP.R1 ?_))
    refine RL.pure T_ok 3 rfl ?_
    refine RL.eqv (v' := .int .u64 (((last + more) % 18446744073709551616 : Nat) : Int)) (congrArg _ (by rw [wrap_u64]; omega)) ?_
    generalize (last + more) % 18446744073709551616 = last2 at hrest hlast hl64' ⊢
    refine RL.A1 T_ok rfl ?_
    refine RL.N1 ?_; (with_reducible repeat (first | refine QN.B1 ?_ | refine QN.N1 ?_ | refine WP.S1 ?_ | refine WP.B1 ?_ | refine WP.R1 ?_))
    refine RL.pure T_ok 4 rfl ?_
    refine RL.append1 T_ok [.tmp 59] hO6 (us := [cV ⟨last2, ck⟩]) (cC ⟨last2, ck⟩) rfl rfl rfl rfl rfl rfl rfl rfl rfl (by simp [cV, cC, Value.cells]) (by simp [cV, Value.cells]) (cC_one _) (by unfold maxLen; omega) (by show (_ + 1) * 16 ≤ _; omega) ?_
    intro v7 m7 S7 hO7 hE7 hF7
    refine ⟨_, rfl, ?_⟩
    have hge : ∀ k ∈ S, m.heap.size ≤ k := fun k hk => by
      rcases hF k hk with h9 | h9
      · cases h9
      · exact h9
    have hR7 : QAt m7 (S7 ++ M) b l6 e6 := hR6.ext hE7 hbS (fun k hk _ => List.mem_append_left _ hk) (fun k hk => by
      rcases List.mem_append.1 hk with h9 | h9
      · rcases hF7 k h9 with h8 | h8
        · exact .inl (List.mem_append_left _ h8)
        · exact .inr h8
      · exact .inl (List.mem_append_right _ h9))
    have hE7' := hE6.trans hE7 (fun k hk => .inr (hge k hk))
    have hF7' : FpNew m [] S7 := fun k hk => by
      rcases hF7 k hk with h8 | h8
      · exact .inr (hge k h8)
      · exact .inr (Nat.le_trans hE6.size h8)
    refine RL.A1 T_ok rfl ?_
    refine RL.N1 ?_; (with_reducible repeat (first | refine QN.B1 ?_ | refine QN.N1 ?_ | refine WP.S1 ?_ | refine WP.B1 ?_ | refine WP.R1 ?_))
    refine RL.pure T_ok 2 rfl ?_
    refine RL.eqv (v' := .int .u64 ((n : Nat) : Int)) (congrArg _ (by rw [wrap_u64_in _ (by omega) (by omega)]; omega)) ?_
    refine RL.A1 T_ok rfl ?_
    refine RL.N1 (QN.round (n, last2, v7, S7, out ++ [⟨last2, ck⟩], l6, e6) (Sub.C1 rfl (Sub.C1 rfl (Sub.C1 rfl (Sub.C1 rfl Sub.nil)))) ⟨hrest, by simp; omega, hl64', hlast, ?_, hR7, hE7', hF7'⟩ (by show n < n + 1; omega))
    rw [List.length_append, ← csC_app]
    simpa using hO7
  rintro ⟨ov, S⟩ m2 ⟨hO, hR, hE, hF⟩
  simp only at hO hR hF
  have hbS : b ∉ S := fun hh => by
    rcases hF b hh with h9 | h9
    · cases h9
    · omega
  obtain ⟨out, l2, e2⟩ := tot
  simp only at hO hR ⊢
  (with_reducible repeat (first | refine WP.S1 ?_ | refine WP.B1 ?_ | refine WP.R1 ?_))
  have hRc := hR
  obtain ⟨vq, hBq, hSq⟩ := hRc
  refine RL.A1 T_ok rfl ?_
  refine RL.load T_ok rfl rfl rfl (hBq.cell 1 rfl) rfl ?_
  refine RL.pure T_ok 1 rfl ?_
  by_cases he : e2 = 0
  · refine RL.eqv (v' := .bool false) (congrArg _ (by simp [he])) ?_
    rw [if_pos he]
    refine RL.N1 ?_; (with_reducible repeat (first | refine QN.B1 ?_ | refine QN.N1 ?_ | refine WP.S1 ?_ | refine WP.B1 ?_ | refine WP.R1 ?_))
    refine WP.condF rfl ?_
    refine WP.skip ?_; (with_reducible repeat (first | refine QN.B1 ?_ | refine QN.N1 ?_ | refine WP.S1 ?_ | refine WP.B1 ?_ | refine WP.R1 ?_))
    refine RL.A1 T_ok rfl ?_
    refine RL.N1 ?_; (with_reducible repeat (first | refine QN.B1 ?_ | refine QN.N1 ?_ | refine WP.S1 ?_ | refine WP.B1 ?_ | refine WP.R1 ?_))
    refine WP.ret ?_; (with_reducible repeat (first | refine QN.tr ?_ | refine QN.br ?_))
    exact QN.ret1 rfl rfl ⟨_, rfl, S, hO, hR, hE, hF⟩
  · refine RL.eqv (v' := .bool true) (congrArg _ (by simp [he])) ?_
    rw [if_neg he]
    refine RL.N1 ?_; (with_reducible repeat (first | refine QN.B1 ?_ | refine QN.N1 ?_ | refine WP.S1 ?_ | refine WP.B1 ?_ | refine WP.R1 ?_))
    refine WP.condT rfl ?_
    (with_reducible repeat (first | refine WP.S1 ?_ | refine WP.B1 ?_ | refine WP.R1 ?_))
    refine RL.A1 T_ok rfl ?_
    refine RL.N1 ?_; (with_reducible repeat (first | refine QN.B1 ?_ | refine QN.N1 ?_ | refine WP.S1 ?_ | refine WP.B1 ?_ | refine WP.R1 ?_))
    refine WP.ret ?_; (with_reducible repeat (first | refine QN.tr ?_ | refine QN.br ?_))
    exact QN.ret1 rfl rfl ⟨_, rfl, [], Own.empty _ _ _ _, hR.ext (Ext.refl _ []) (by simp) (by simp) (fun k hk => .inl (List.mem_append_right _ (by simpa using hk))), hE, FpNew.nil _ _⟩
end Go.Proofs.YtmjpcaiehfimgaaGreatDoor
end
section
namespace Go.Proofs.YtmjpcaiehfimgaaGreatDoor
open Go.RowKit Go.Ev Go.Ids
def lastc (L : List Clk) (i : Nat) : Nat := (L.take i).getLast?.elim 0 Clk.c
theorem lastc_succ (L : List Clk) (i : Nat) (h : i < L.length) : lastc L (i + 1) = L[i].c := by
  unfold lastc
  rw [List.take_succ_eq_append_getElem h, List.getLast?_concat]
  rfl
theorem lastc_lt {L : List Clk} (hL : VCanon L) (i : Nat) (h : i < L.length) : lastc L i < L[i].c := by
  cases i with
  | zero =>
    have := (hL.1 L[0] (List.getElem_mem _)).1
    have e : lastc L 0 = 0 := by simp [lastc]
    rw [e]; omega
  | succ i =>
    rw [lastc_succ L i (by omega)]
    exact List.pairwise_iff_getElem.1 hL.2 i (i + 1) (by omega) h (by omega)
def encA (L : List Clk) (i : Nat) : List UInt8 := encU L.length ++ encL 0 (L.take i)
theorem encA_zero (L : List Clk) : encA L 0 = encU L.length := by simp [encA, encL]
theorem encA_all (L : List Clk) : encA L L.length = encV L := by simp [encA, encV]
theorem encA_succ (L : List Clk) (i : Nat) (h : i < L.length) : encA L (i + 1) = encA L i ++ encU (L[i].c - lastc L i) ++ encU L[i].k := by
  unfold encA lastc
  rw [List.take_succ_eq_append_getElem h, encL_snoc]
  simp
theorem encA_len {L : List Clk} (hL : VCanon L) (hl : L.length < 1000000) (i : Nat) : (encA L i).length ≤ 20 * L.length + 10 := by
  unfold encA
  have h1 := encU_len10 (n := L.length) (by omega)
  have h2 := encL_len 0 (L.take i) (fun x hx => hL.1 x (List.mem_of_mem_take hx))
  have h3 := List.length_take_le i L
  have h4 : (L.take i).length ≤ L.length := List.length_take_le' _ _
  rw [List.length_append]; omega
theorem vwrite_c (m : World) (b : Nat) (S : List Nat) (bs : List UInt8) (v : Value) (l : List Clk) (hW : WAt m b S bs) (h : Cs m [] v l) (hl : l.length < 1000000) (hbs : bs.length < 100000000) :
    FnR Tryz.prog 22 [.pointer (some ⟨b, 0, none⟩), v] m (WPost m b S (bs ++ encV (vclean l))) := by
  refine FnE.enter ⟨_, Tryz.func22, by kernel_rfl, by kernel_rfl⟩ Tryz.func22 rfl rfl ?_
  (with_reducible repeat (first | refine WP.S1 ?_ | refine WP.B1 ?_ | refine WP.R1 ?_))
  refine RL.A1 T_ok rfl ?_
  refine RL.call (fi := []) (ca := []) rfl rfl rfl rfl (vclean_c m v l h (by omega)) ?_
  rintro v1 m1 ⟨S1, hO1, hN1⟩
  refine ⟨_, rfl, ?_⟩
  have hcan := vclean_canon l
  have hln := vclean_len l
  generalize vclean l = L at hO1 hcan hln ⊢
  obtain ⟨A, c, rfl, _⟩ := hO1.shape
  have hW1 := hW.ext hN1.1 (by simp)
  have hC1 : Cs m1 S (.slice A L.length c) L := hO1.sl (fun k hk hh => by
    have h1 := hN1.ge k hk
    have h2 := hW.lt k hh
    omega)
  have hlt := hW.lt
  clear hW hO1
  refine RL.A1 T_ok rfl ?_
  refine RL.N1 ?_; (with_reducible repeat (first | refine QN.B1 ?_ | refine QN.N1 ?_ | refine WP.S1 ?_ | refine WP.B1 ?_ | refine WP.R1 ?_))
  refine RL.pure T_ok 3 rfl ?_
  refine RL.pure T_ok 1 rfl ?_
  refine RL.eqv (v' := .int .u64 (L.length : Nat)) (congrArg _ (by rw [wrap_u64_in _ (by omega) (by omega)])) ?_
  refine RL.call (fi := []) (ca := []) rfl rfl rfl rfl (wuint m1 L.length (by omega) b S bs hW1 (by omega)) ?_
  rintro _ m2 ⟨rfl, S2, hW2, hE2, hF2⟩
  refine ⟨_, rfl, ?_⟩
  have hC2 : Cs m2 S2 (.slice A L.length c) L := Sl.ext hC1 hE2 hF2 (by omega)
  have hE02 : Ext m S m2 := (hN1.1.mono (by simp)).trans hE2 (fun k hk => .inl hk)
  have hF02 : FpNew m S S2 := fun k hk => by
    rcases hF2 k hk with h9 | h9
    · exact .inl h9
    · exact .inr (Nat.le_trans hN1.1.size h9)
  rw [← encA_zero L] at hW2
  clear hW1 hC1 hE2 hF2
  refine RL.N1 ?_; (with_reducible repeat (first | refine QN.B1 ?_ | refine QN.N1 ?_ | refine WP.S1 ?_ | refine WP.B1 ?_ | refine WP.R1 ?_))
  refine RL.A1 T_ok rfl ?_
  refine RL.N1 ?_; (with_reducible repeat (first | refine QN.B1 ?_ | refine QN.N1 ?_ | refine WP.S1 ?_ | refine WP.B1 ?_ | refine WP.R1 ?_))
  refine RL.A1 T_ok rfl ?_
  refine RL.N1 ?_; (with_reducible repeat (first | refine QN.B1 ?_ | refine QN.N1 ?_ | refine WP.S1 ?_ | refine WP.B1 ?_ | refine WP.R1 ?_))
  refine (WP.loop (X := Nat × List Nat) (fun q => [(0, .pointer (some ⟨b, 0, none⟩)), (4, .int .u64 (lastc L q.1)), (14, .slice A L.length c), (15, .int .i64 L.length), (16, .int .i64 q.1)])
    (fun q m' => q.1 ≤ L.length ∧ WAt m' b q.2 (bs ++ encA L q.1) ∧ Cs m' q.2 (.slice A L.length c) L ∧ Ext m S m' ∧ FpNew m S q.2) (fun q => L.length - q.1) (0, S2)
    (Sub.C1 rfl (Sub.C1 rfl (Sub.C1 rfl (Sub.C1 rfl (Sub.C1 rfl Sub.nil))))) ⟨by simp, hW2, hC2, hE02, hF02⟩ ?_)
  clear hW2 hC2 hE02 hF02
  rintro ⟨i, S3⟩ m3 ⟨hi, hW, hC, hE, hF⟩
  simp only at hi hW hC hF
  (with_reducible repeat (first | refine WP.S1 ?_ | refine WP.B1 ?_ | refine WP.R1 ?_))
  refine RL.A1 T_ok rfl ?_
  refine RL.N1 ?_; (with_reducible repeat (first | refine QN.B1 ?_ | refine QN.N1 ?_ | refine WP.S1 ?_ | refine WP.B1 ?_ | refine WP.R1 ?_))
  refine WP.cond rfl (fun hc => ?_) (fun hc => ?_)
  · replace hc : i < L.length := by have := of_decide_eq_true hc; simp only at this; omega
    obtain ⟨ad, rfl, hx⟩ := hC.cell i hc
    have hok := hcan.1 L[i] (List.getElem_mem _)
    have hlast := lastc_lt hcan i hc
    have hsucc := lastc_succ L i hc
    have henc := encA_succ L i hc
    have hlen := encA_len hcan (by omega) i
    generalize L[i] = x at hx hok hlast hsucc henc
    have hc1 := hok.2.1
    have hc2 := hok.2.2.2
    have hu1 := encU_len10 (n := x.c - lastc L i) (by omega)
    have hltS := hW.lt
    refine WP.skip ?_; (with_reducible repeat (first | refine QN.B1 ?_ | refine QN.N1 ?_ | refine WP.S1 ?_ | refine WP.B1 ?_ | refine WP.R1 ?_))
    refine RL.indexAddr (k := i) T_ok rfl rfl rfl rfl rfl rfl rfl hc rfl ?_
    refine RL.loadAgg T_ok (cC x) rfl rfl rfl hx rfl ?_
    refine RL.alloc T_ok rfl rfl (fun b3 m4 hb3 hC3 => ⟨_, rfl, ?_⟩)
    refine RL.storeAgg T_ok (b := b3) (i := 0) (vs := cC x) (cs := [.int .u64 0, .int .u64 0]) hC3.blk rfl rfl rfl rfl rfl (by simp) (by simp [cC, Value.oneCell']) rfl ?_
    intro m5 hC4
    have hE5 : Ext m3 [] m5 := (hC3.new (by omega)).trans hC4.ext (fun q hq => .inr (by have h9 : q = b3 := (by simpa using hq); omega))
    have hB5 : Blk m5 b3 46 (cC x) := hC4.blk
    have hbS : b3 ∉ S3 := fun hh => by have := hltS _ hh; omega
    have hW5 := hW.ext hE5 (by simp)
    have hC5 : Cs m5 S3 (.slice (some ad) L.length c) L := Sl.ext hC (hE5.mono (by simp)) (fun k hk => .inl hk) (by omega)
    clear hC3 hC4 hW hC
    refine RL.N1 ?_; (with_reducible repeat (first | refine QN.B1 ?_ | refine QN.N1 ?_ | refine WP.S1 ?_ | refine WP.B1 ?_ | refine WP.R1 ?_))
    refine RL.pure T_ok 2 rfl ?_
    refine RL.load T_ok rfl rfl rfl (hB5.cell 0 rfl) rfl ?_
    refine RL.pure T_ok 2 rfl ?_
    refine RL.eqv (v' := .int .u64 ((x.c - lastc L i : Nat) : Int)) (congrArg _ (by rw [wrap_u64_in _ (by simp only; omega) (by simp only; omega)]; simp only; omega)) ?_
    refine RL.call (fi := []) (ca := []) rfl rfl rfl rfl (wuint m5 (x.c - lastc L i) (by omega) b S3 (bs ++ encA L i) hW5 (by rw [List.length_append]; omega)) ?_
    rintro _ m6 ⟨rfl, S6, hW6, hE6, hF6⟩
    refine ⟨_, rfl, ?_⟩
    have hB6 := hB5.ext hE6 hbS
    have hbS6 : b3 ∉ S6 := hF6.far hbS hB5.lt
    have hC6 : Cs m6 S6 (.slice (some ad) L.length c) L := Sl.ext hC5 hE6 hF6 (by omega)
    refine RL.N1 ?_; (with_reducible repeat (first | refine QN.B1 ?_ | refine QN.N1 ?_ | refine WP.S1 ?_ | refine WP.B1 ?_ | refine WP.R1 ?_))
    refine RL.pure T_ok 2 rfl ?_
    refine RL.load T_ok rfl rfl rfl (hB6.cell 1 rfl) rfl ?_
    refine RL.call (fi := []) (ca := []) rfl rfl rfl rfl (wuint m6 x.k (by omega) b S6 (bs ++ encA L i ++ encU (x.c - lastc L i)) hW6 (by rw [List.length_append, List.length_append]; omega)) ?_
    rintro _ m7 ⟨rfl, S7, hW7, hE7, hF7⟩
    refine ⟨_, rfl, ?_⟩
    have hB7 := hB6.ext hE7 hbS6
    have hC7 : Cs m7 S7 (.slice (some ad) L.length c) L := Sl.ext hC6 hE7 hF7 (by omega)
    refine RL.N1 ?_; (with_reducible repeat (first | refine QN.B1 ?_ | refine QN.N1 ?_ | refine WP.S1 ?_ | refine WP.B1 ?_ | refine WP.R1 ?_))
    refine RL.pure T_ok 1 rfl ?_
    refine RL.load T_ok rfl rfl rfl (hB7.cell 0 rfl) rfl ?_
    refine RL.A1 T_ok rfl ?_
    refine RL.N1 ?_; (with_reducible repeat (first | refine QN.B1 ?_ | refine QN.N1 ?_ | refine WP.S1 ?_ | refine WP.B1 ?_ | refine WP.R1 ?_))
    refine RL.pure T_ok 1 rfl ?_
    refine RL.eqv (v' := .int .i64 ((i + 1 : Nat) : Int)) (congrArg _ (by rw [wrap_i64_in _ (by omega) (by omega)]; rfl)) ?_
    refine RL.A1 T_ok rfl ?_
    have hF37 : FpNew m3 S3 S7 := fun k hk => by
      rcases hF7 k hk with h9 | h9
      · rcases hF6 k h9 with h8 | h8
        · exact .inl h8
        · exact .inr (Nat.le_trans hE5.size h8)
      · exact .inr (Nat.le_trans hE5.size (Nat.le_trans hE6.size h9))
    have hE37 : Ext m3 S3 m7 := ((hE5.mono (by simp)).trans hE6 (fun k hk => .inl hk)).trans hE7 (fun k hk => by
      rcases hF6 k hk with h9 | h9
      · exact .inl h9
      · exact .inr (Nat.le_trans hE5.size h9))
    refine RL.N1 (QN.round (i + 1, S7) (Sub.C1 rfl (Sub.C1 (by rw [hsucc]; rfl) (Sub.C1 rfl (Sub.C1 rfl (Sub.C1 rfl Sub.nil))))) ⟨by show i + 1 ≤ _; omega, ?_, hC7, hE.trans hE37 (fun k hk => hF k hk), hF.trans hF37 hE.size⟩ (by show _ - (i + 1) < _ - i; omega))
    show WAt m7 b S7 (bs ++ encA L (i + 1))
    rw [henc, ← List.append_assoc, ← List.append_assoc]
    exact hW7
  · replace hc : i = L.length := by have := of_decide_eq_false hc; simp only at this; omega
    subst hc
    rw [encA_all] at hW
    refine WP.exit ?_
    (with_reducible repeat (first | refine QN.tx ?_ | refine QN.bx ?_ | refine QN.block_far rfl ?_ | refine QN.B1 ?_ | refine QN.N1 ?_))
    exact QN.end0 rfl ⟨_, rfl, rfl, S3, hW, hE, hF⟩
theorem refvwrite_c (m : World) (S : List Nat) (u : Value) (bs : List UInt8) (v : Value) (l : List Clk) (hO : Ev.Own m S 5 1 u bs.length (u8s bs)) (h : Cs m [] v l) (hl : l.length < 1000000) (hbs : bs.length < 100000000) :
    FnR Tryz.prog 29 [u, v] m (OPost m S (bs ++ encV (vclean l))) := by
  refine FnE.enter ⟨_, Tryz.func29, by kernel_rfl, by kernel_rfl⟩ Tryz.func29 rfl rfl ?_
  (with_reducible repeat (first | refine WP.S1 ?_ | refine WP.B1 ?_ | refine WP.R1 ?_))
  refine RL.A1 T_ok rfl ?_
  refine RL.N1 ?_; (with_reducible repeat (first | refine QN.B1 ?_ | refine QN.N1 ?_ | refine WP.S1 ?_ | refine WP.B1 ?_ | refine WP.R1 ?_))
  refine RL.A1 T_ok rfl ?_
  refine RL.call (fi := []) (ca := []) rfl rfl rfl rfl (refvclean_c m v l h (by omega)) ?_
  rintro v1 m1 ⟨S1, hO1, hN1⟩
  refine ⟨_, rfl, ?_⟩
  have hcan := vclean_canon l
  have hln := vclean_len l
  generalize vclean l = L at hO1 hcan hln ⊢
  obtain ⟨A, c, rfl, _⟩ := hO1.shape
  have hOb1 := hO.ext hN1.1 (by simp)
  have hC1 : Cs m1 S (.slice A L.length c) L := hO1.sl (fun k hk hh => by
    have h1 := hN1.ge k hk
    have h2 := hO.lt k hh
    omega)
  clear hO1
  refine RL.A1 T_ok rfl ?_
  refine RL.N1 ?_; (with_reducible repeat (first | refine QN.B1 ?_ | refine QN.N1 ?_ | refine WP.S1 ?_ | refine WP.B1 ?_ | refine WP.R1 ?_))
  refine RL.pure T_ok 3 rfl ?_
  refine RL.pure T_ok 1 rfl ?_
  refine RL.eqv (v' := .int .u64 (L.length : Nat)) (congrArg _ (by rw [wrap_u64_in _ (by omega) (by omega)])) ?_
  refine RL.call (fi := []) (ca := []) rfl rfl rfl rfl (refuint_c m1 L.length (by omega) S u bs hOb1 (by omega)) ?_
  rintro u2 m2 ⟨S2, hO2, hE2, hF2⟩
  refine ⟨_, rfl, ?_⟩
  have hC2 : Cs m2 S2 (.slice A L.length c) L := Sl.ext hC1 hE2 hF2 (by omega)
  have hE02 : Ext m S m2 := (hN1.1.mono (by simp)).trans hE2 (fun k hk => .inl hk)
  have hF02 : FpNew m S S2 := fun k hk => by
    rcases hF2 k hk with h9 | h9
    · exact .inl h9
    · exact .inr (Nat.le_trans hN1.1.size h9)
  rw [← encA_zero L] at hO2
  clear hOb1 hC1 hE2 hF2
  refine RL.A1 T_ok rfl ?_
  refine RL.N1 ?_; (with_reducible repeat (first | refine QN.B1 ?_ | refine QN.N1 ?_ | refine WP.S1 ?_ | refine WP.B1 ?_ | refine WP.R1 ?_))
  refine RL.A1 T_ok rfl ?_
  refine RL.N1 ?_; (with_reducible repeat (first | refine QN.B1 ?_ | refine QN.N1 ?_ | refine WP.S1 ?_ | refine WP.B1 ?_ | refine WP.R1 ?_))
  refine RL.A1 T_ok rfl ?_
  refine RL.N1 ?_; (with_reducible repeat (first | refine QN.B1 ?_ | refine QN.N1 ?_ | refine WP.S1 ?_ | refine WP.B1 ?_ | refine WP.R1 ?_))
  refine (WP.loop (X := Nat × Value × List Nat) (fun q => [(0, q.2.1), (1, .slice A L.length c), (5, .int .u64 (lastc L q.1)), (6, .int .i64 q.1)])
    (fun q m' => q.1 ≤ L.length ∧ Ev.Own m' q.2.2 5 1 q.2.1 (bs ++ encA L q.1).length (u8s (bs ++ encA L q.1)) ∧ Cs m' q.2.2 (.slice A L.length c) L ∧ Ext m S m' ∧ FpNew m S q.2.2) (fun q => L.length - q.1) (0, u2, S2)
    (Sub.C1 rfl (Sub.C1 rfl (Sub.C1 rfl (Sub.C1 rfl Sub.nil)))) ⟨by simp, hO2, hC2, hE02, hF02⟩ ?_)
  clear hO2 hC2 hE02 hF02 hO
  rintro ⟨i, u3, S3⟩ m3 ⟨hi, hO, hC, hE, hF⟩
  simp only at hi hO hC hF
  (with_reducible repeat (first | refine WP.S1 ?_ | refine WP.B1 ?_ | refine WP.R1 ?_))
  refine RL.A1 T_ok rfl ?_
  refine RL.N1 ?_; (with_reducible repeat (first | refine QN.B1 ?_ | refine QN.N1 ?_ | refine WP.S1 ?_ | refine WP.B1 ?_ | refine WP.R1 ?_))
  refine WP.cond rfl (fun hc => ?_) (fun hc => ?_)
  · replace hc : i < L.length := by have := of_decide_eq_true hc; simp only at this; omega
    obtain ⟨ad, rfl, _⟩ := hC.cell i hc
    have hx : ∀ {m' S'}, Cs m' S' (.slice (some ad) L.length c) L → ∀ j w, (cC L[i])[j]? = some w → m'.cell? ((ad.add (i * 2)).add j) = some w := fun hs => cS_at hs i hc
    have hok := hcan.1 L[i] (List.getElem_mem _)
    have hlast := lastc_lt hcan i hc
    have hsucc := lastc_succ L i hc
    have henc := encA_succ L i hc
    have hlen := encA_len hcan (by omega) i
    generalize L[i] = x at hx hok hlast hsucc henc
    have hc1 := hok.2.1
    have hc2 := hok.2.2.2
    have hu1 := encU_len10 (n := x.c - lastc L i) (by omega)
    refine WP.skip ?_; (with_reducible repeat (first | refine QN.B1 ?_ | refine QN.N1 ?_))
    refine WP.S1 ?_
    refine WP.B1 ?_
    refine WP.S1 ?_
    refine WP.drawQ (fun m' => Cs m' [] (.slice (some ad) L.length c) L) [] (by kernel_rfl) (Sl.less hC (by simp) (by omega)) (by with_reducible repeat (first | exact PanicOk.body | refine PanicOk.then_ ?_ | refine PanicOk.block_ ?_)) (fun hQ => ?_)
    refine RH.pure T_ok hQ [0, 1, 2] (by kernel_rfl) rfl ?_
    refine RH.indexAddr T_ok hQ 3 (k := i) rfl (by kernel_rfl) rfl rfl rfl rfl rfl rfl rfl hc rfl ?_
    refine RH.pure T_ok hQ [4] (by kernel_rfl) rfl ?_
    refine RH.load T_ok hQ 5 (fun m' hm' => hx hm' 0 _ rfl) rfl (by kernel_rfl) rfl rfl rfl rfl ?_
    refine RH.pure T_ok hQ [6, 7] (by kernel_rfl) rfl ?_
    refine RH.eqv (v' := .int .u64 ((x.c - lastc L i : Nat) : Int)) (congrArg _ (by rw [wrap_u64_in _ (by simp only; omega) (by simp only; omega)]; simp only; omega)) ?_
    refine RH.pure T_ok hQ [9, 10] (by kernel_rfl) rfl ?_
    refine RH.indexAddr T_ok hQ 11 (k := i) rfl (by kernel_rfl) rfl rfl rfl rfl rfl rfl rfl hc rfl ?_
    refine RH.pure T_ok hQ [12] (by kernel_rfl) rfl ?_
    refine RH.load T_ok hQ 13 (fun m' hm' => hx hm' 1 _ rfl) rfl (by kernel_rfl) rfl rfl rfl rfl ?_
    refine RH.only 8 rfl (by kernel_rfl) (fun _ => ?_)
    refine RL.call (fi := []) (ca := []) rfl rfl rfl rfl (refuint_c m3 (x.c - lastc L i) (by omega) S3 u3 (bs ++ encA L i) hO (by rw [List.length_append]; omega)) ?_
    rintro u6 m6 ⟨S6, hO6, hE6, hF6⟩
    have hC6 : Cs m6 S6 (.slice (some ad) L.length c) L := Sl.ext hC hE6 hF6 (by omega)
    refine ⟨_, rfl, RL.N1 (RH.cont (Sl.less hC6 (by simp) (by omega)) ?_)⟩
    refine RH.only 14 rfl (by kernel_rfl) (fun _ => ?_)
    refine RL.call (fi := []) (ca := []) rfl rfl rfl rfl (refuint_c m6 x.k (by omega) S6 u6 (bs ++ encA L i ++ encU (x.c - lastc L i)) hO6 (by rw [List.length_append, List.length_append]; omega)) ?_
    rintro u7 m7 ⟨S7, hO7, hE7, hF7⟩
    have hC7 : Cs m7 S7 (.slice (some ad) L.length c) L := Sl.ext hC6 hE7 hF7 (by omega)
    refine ⟨_, rfl, RL.N1 (RH.cont (Sl.less hC7 (by simp) (by omega)) ?_)⟩
    refine RH.pure T_ok hQ [15] (by kernel_rfl) rfl ?_
    refine RH.done (by kernel_rfl) (fun _ => ?_)
    (with_reducible repeat (first | refine QN.B1 ?_ | refine QN.N1 ?_))
    (with_reducible repeat (first | refine WP.S1 ?_ | refine WP.B1 ?_ | refine WP.R1 ?_))
    refine RL.pure T_ok 2 rfl ?_
    refine RL.indexAddr (k := i) T_ok rfl rfl rfl rfl rfl rfl rfl hc rfl ?_
    refine RL.pure T_ok 1 rfl ?_
    refine RL.load T_ok rfl rfl rfl (hx hC7 0 _ rfl) rfl ?_
    refine RL.A1 T_ok rfl ?_
    refine RL.N1 ?_; (with_reducible repeat (first | refine QN.B1 ?_ | refine QN.N1 ?_ | refine WP.S1 ?_ | refine WP.B1 ?_ | refine WP.R1 ?_))
    refine RL.pure T_ok 2 rfl ?_
    refine RL.eqv (v' := .int .i64 ((i + 1 : Nat) : Int)) (congrArg _ (by rw [wrap_i64_in _ (by omega) (by omega)]; rfl)) ?_
    refine RL.A1 T_ok rfl ?_
    have hF37 : FpNew m3 S3 S7 := hF6.trans hF7 hE6.size
    have hE37 : Ext m3 S3 m7 := hE6.trans hE7 (fun k hk => hF6 k hk)
    refine RL.N1 (QN.round (i + 1, u7, S7) (Sub.C1 rfl (Sub.C1 rfl (Sub.C1 (by rw [hsucc]; rfl) (Sub.C1 rfl Sub.nil)))) ⟨by show i + 1 ≤ _; omega, ?_, hC7, hE.trans hE37 (fun k hk => hF k hk), hF.trans hF37 hE.size⟩ (by show _ - (i + 1) < _ - i; omega))
    show Ev.Own m7 S7 5 1 u7 (bs ++ encA L (i + 1)).length (u8s (bs ++ encA L (i + 1)))
    rw [henc, ← List.append_assoc, ← List.append_assoc]
    exact hO7
  · replace hc : i = L.length := by have := of_decide_eq_false hc; simp only at this; omega
    subst hc
    rw [encA_all] at hO
    refine WP.exit ?_; (with_reducible repeat (first | refine QN.tx ?_ | refine QN.bx ?_ | refine QN.block_far rfl ?_ | refine QN.B1 ?_ | refine QN.N1 ?_)); (with_reducible repeat (first | refine WP.S1 ?_ | refine WP.B1 ?_ | refine WP.R1 ?_))
    refine RL.A1 T_ok rfl ?_
    refine RL.N1 ?_; (with_reducible repeat (first | refine QN.B1 ?_ | refine QN.N1 ?_ | refine WP.S1 ?_ | refine WP.B1 ?_ | refine WP.R1 ?_))
    refine WP.ret ?_; (with_reducible repeat (first | refine QN.tr ?_ | refine QN.br ?_))
    exact QN.ret1 rfl rfl ⟨_, rfl, S3, hO, hE, hF⟩
end Go.Proofs.YtmjpcaiehfimgaaGreatDoor
end
section
namespace Go.Proofs.YtmjpcaiehfimgaaGreatDoor
open Go.RowKit Go.Ev Go.Ids
end Go.Proofs.YtmjpcaiehfimgaaGreatDoor
end
section
namespace Go.Proofs.YtmjpcaiehfimgaaGreatDoor
open Go.ChangeShapes Go.WideShapes Go.ChangeAt Go.RowKit Go.Ev Go.Ids
end Go.Proofs.YtmjpcaiehfimgaaGreatDoor
end
section
namespace Go.Proofs.YtmjpcaiehfimgaaGreatDoor
open Go.RowKit Go.Ev Go.Ids
def tC (x : Trn) : List Value := [.int .u64 x.c, .int .u64 x.f, .int .u64 x.t, .int .u64 x.n]
def tV (x : Trn) : Value := .agg (tC x).toArray
theorem tright_eq (x : Trn) : x.right = (Rng.right ⟨x.c, x.f, x.t⟩ && num x.n) := rfl
theorem turn_c (m : World) (x : Trn) : FnR Tryz.prog 50 [tV x] m fun r m' => r = .bool x.right ∧ Ext m [] m' := by
  refine FnE.enter ⟨_, Tryz.func50, by kernel_rfl, by kernel_rfl⟩ Tryz.func50 rfl rfl ?_
  (with_reducible repeat (first | refine WP.S1 ?_ | refine WP.B1 ?_ | refine WP.R1 ?_))
  refine RL.box rfl rfl (fun b m1 hb hC => ⟨_, rfl, ?_⟩)
  have hB : Blk m1 b 57 (tC x) := hC.here
  have hE : Ext m [] m1 := hC.new (by omega)
  clear hC
  refine RL.A1 T_ok rfl ?_
  refine RL.N1 ?_; (with_reducible repeat (first | refine QN.B1 ?_ | refine QN.N1 ?_ | refine WP.S1 ?_ | refine WP.B1 ?_ | refine WP.R1 ?_))
  repeat (first | refine RL.pure T_ok 1 rfl ?_ | refine RL.load T_ok rfl rfl rfl (hB.cell _ rfl) rfl ?_)
  refine RL.eqv (v' := rV ⟨x.c, x.f, x.t⟩) rfl ?_
  refine RL.call (fi := []) (ca := []) rfl rfl rfl rfl (right_c m1 ⟨x.c, x.f, x.t⟩) ?_
  rintro _ m2 ⟨rfl, hE2⟩
  refine ⟨_, rfl, ?_⟩
  have hB2 := hB.ext hE2 (by simp)
  by_cases h1 : Rng.right ⟨x.c, x.f, x.t⟩ = true
  · refine RL.eqv (v' := .bool true) (congrArg _ h1) ?_
    repeat (first | refine RL.pure T_ok 1 rfl ?_ | refine RL.load T_ok rfl rfl rfl (hB2.cell _ rfl) rfl ?_)
    refine RL.call (fi := []) (ca := []) rfl rfl rfl rfl (number_c m2 x.n) ?_
    rintro _ m3 ⟨rfl, rfl⟩
    refine ⟨_, rfl, ?_⟩
    repeat (first | refine RL.pure T_ok 1 rfl ?_ | refine RL.load T_ok rfl rfl rfl (hB2.cell _ rfl) rfl ?_)
    refine RL.N1 ?_; (with_reducible repeat (first | refine QN.B1 ?_ | refine QN.N1 ?_ | refine WP.S1 ?_ | refine WP.B1 ?_ | refine WP.R1 ?_))
    refine WP.ret ?_; (with_reducible repeat (first | refine QN.tr ?_ | refine QN.br ?_))
    exact QN.ret1 rfl rfl ⟨_, rfl, congrArg _ (by rw [tright_eq, h1]; rfl), hE.trans hE2 (by simp)⟩
  · refine RL.eqv (v' := .bool false) (congrArg _ (Bool.not_eq_true _ ▸ h1)) ?_
    repeat (first | refine RL.pure T_ok 1 rfl ?_ | refine RL.load T_ok rfl rfl rfl (hB2.cell _ rfl) rfl ?_)
    refine RL.N1 ?_; (with_reducible repeat (first | refine QN.B1 ?_ | refine QN.N1 ?_ | refine WP.S1 ?_ | refine WP.B1 ?_ | refine WP.R1 ?_))
    refine WP.ret ?_; (with_reducible repeat (first | refine QN.tr ?_ | refine QN.br ?_))
    exact QN.ret1 rfl rfl ⟨_, rfl, congrArg _ (by rw [tright_eq]; simp [h1]), hE.trans hE2 (by simp)⟩
theorem refturn_c (m : World) (x : Trn) : FnR Tryz.prog 94 [tV x] m fun r m' => r = .bool x.right ∧ Ext m [] m' := by
  refine FnE.enter ⟨_, Tryz.func94, by kernel_rfl, by kernel_rfl⟩ Tryz.func94 rfl rfl ?_
  (with_reducible repeat (first | refine WP.S1 ?_ | refine WP.B1 ?_ | refine WP.R1 ?_))
  refine RL.box rfl rfl (fun b m1 hb hC => ⟨_, rfl, ?_⟩)
  have hB : Blk m1 b 57 (tC x) := hC.here
  have hE : Ext m [] m1 := hC.new (by omega)
  clear hC
  refine RL.A1 T_ok rfl ?_
  refine RL.N1 ?_; (with_reducible repeat (first | refine QN.B1 ?_ | refine QN.N1 ?_ | refine WP.S1 ?_ | refine WP.B1 ?_ | refine WP.R1 ?_))
  repeat (first | refine RL.pure T_ok 1 rfl ?_ | refine RL.load T_ok rfl rfl rfl (hB.cell _ rfl) rfl ?_)
  refine RL.eqv (v' := rV ⟨x.c, x.f, x.t⟩) rfl ?_
  refine RL.call (fi := []) (ca := []) rfl rfl rfl rfl (refrightR_c m1 ⟨x.c, x.f, x.t⟩) ?_
  rintro _ m2 ⟨rfl, hE2⟩
  refine ⟨_, rfl, ?_⟩
  have hB2 := hB.ext hE2 (by simp)
  by_cases h1 : Rng.right ⟨x.c, x.f, x.t⟩ = true
  · refine RL.eqv (v' := .bool true) (congrArg _ h1) ?_
    repeat (first | refine RL.pure T_ok 1 rfl ?_ | refine RL.load T_ok rfl rfl rfl (hB2.cell _ rfl) rfl ?_)
    by_cases h2 : 1 ≤ x.n
    · refine RL.eqv (v' := .bool true) (congrArg _ (by rw [dge x.n 1 1 rfl]; exact decide_eq_true h2)) ?_
      repeat (first | refine RL.pure T_ok 1 rfl ?_ | refine RL.load T_ok rfl rfl rfl (hB2.cell _ rfl) rfl ?_)
      refine RL.N1 ?_; (with_reducible repeat (first | refine QN.B1 ?_ | refine QN.N1 ?_ | refine WP.S1 ?_ | refine WP.B1 ?_ | refine WP.R1 ?_))
      refine WP.ret ?_; (with_reducible repeat (first | refine QN.tr ?_ | refine QN.br ?_))
      refine QN.ret1 rfl rfl ⟨_, rfl, congrArg _ ?_, hE.trans hE2 (by simp)⟩
      rw [dle x.n 9007199254740991 9007199254740991 rfl, tright_eq, h1]; simp [num, h2]
    · refine RL.eqv (v' := .bool false) (congrArg _ (by rw [dge x.n 1 1 rfl]; exact decide_eq_false h2)) ?_
      repeat (first | refine RL.pure T_ok 1 rfl ?_ | refine RL.load T_ok rfl rfl rfl (hB2.cell _ rfl) rfl ?_)
      refine RL.N1 ?_; (with_reducible repeat (first | refine QN.B1 ?_ | refine QN.N1 ?_ | refine WP.S1 ?_ | refine WP.B1 ?_ | refine WP.R1 ?_))
      refine WP.ret ?_; (with_reducible repeat (first | refine QN.tr ?_ | refine QN.br ?_))
      refine QN.ret1 rfl rfl ⟨_, rfl, congrArg _ ?_, hE.trans hE2 (by simp)⟩
      rw [tright_eq, h1]; simp [num, h2]
  · refine RL.eqv (v' := .bool false) (congrArg _ (Bool.not_eq_true _ ▸ h1)) ?_
    repeat (first | refine RL.pure T_ok 1 rfl ?_ | refine RL.load T_ok rfl rfl rfl (hB2.cell _ rfl) rfl ?_)
    refine RL.N1 ?_; (with_reducible repeat (first | refine QN.B1 ?_ | refine QN.N1 ?_ | refine WP.S1 ?_ | refine WP.B1 ?_ | refine WP.R1 ?_))
    refine WP.ret ?_; (with_reducible repeat (first | refine QN.tr ?_ | refine QN.br ?_))
    exact QN.ret1 rfl rfl ⟨_, rfl, congrArg _ (by rw [tright_eq]; simp [h1]), hE.trans hE2 (by simp)⟩
def cfT (x y : Trn) : Int := if cmpN x.c y.c = 0 then cmpN x.f y.f else cmpN x.c y.c
theorem cmpT_c (m : World) (x y : Trn) : FnR Tryz.prog 52 [tV x, tV y] m fun r m' => r = .int .i64 (cfT x y) ∧ Ext m [] m' := by
  refine FnE.enter ⟨_, Tryz.func52, by kernel_rfl, by kernel_rfl⟩ Tryz.func52 rfl rfl ?_
  (with_reducible repeat (first | refine WP.S1 ?_ | refine WP.B1 ?_ | refine WP.R1 ?_))
  refine RL.box rfl rfl (fun b m1 hb hC => ⟨_, rfl, ?_⟩)
  refine RL.box rfl rfl (fun b2 m2 hb2 hC2 => ⟨_, rfl, ?_⟩)
  have hE1 : Ext m [] m1 := hC.new (by omega)
  have hE2 : Ext m1 [] m2 := hC2.new (by omega)
  have s1 := hC.size
  have hB0 : Blk m1 b 57 (tC x) := hC.here
  have hB : Blk m2 b 57 (tC x) := hB0.ext hE2 (by simp)
  have hD : Blk m2 b2 57 (tC y) := hC2.here
  have hE : Ext m [] m2 := hE1.trans hE2 (by simp)
  clear hC hC2 hB0 hE1 hE2
  refine RL.A1 T_ok rfl ?_
  refine RL.N1 (QN.N1 ?_)
  refine WP.S1 ?_
  refine WP.drawQ (fun m' => Blk m' b 57 (tC x) ∧ Blk m' b2 57 (tC y)) [] (by kernel_rfl) ⟨hB, hD⟩ (by with_reducible repeat (first | exact PanicOk.body | refine PanicOk.then_ ?_ | refine PanicOk.block_ ?_)) (fun hQ => ?_)
  refine RH.pure T_ok hQ [0] (by kernel_rfl) rfl ?_
  refine RH.load T_ok hQ 1 (fun m' h => h.1.cell 0 rfl) rfl (by kernel_rfl) rfl rfl rfl rfl ?_
  refine RH.pure T_ok hQ [2] (by kernel_rfl) rfl ?_
  refine RH.load T_ok hQ 3 (fun m' h => h.2.cell 0 rfl) rfl (by kernel_rfl) rfl rfl rfl rfl ?_
  refine RH.pure T_ok hQ [5] (by kernel_rfl) rfl ?_
  refine RH.load T_ok hQ 6 (fun m' h => h.1.cell 1 rfl) rfl (by kernel_rfl) rfl rfl rfl rfl ?_
  refine RH.pure T_ok hQ [7] (by kernel_rfl) rfl ?_
  refine RH.load T_ok hQ 8 (fun m' h => h.2.cell 1 rfl) rfl (by kernel_rfl) rfl rfl rfl rfl ?_
  refine RH.only 4 rfl (by kernel_rfl) (fun _ => ?_)
  refine RL.call (fi := []) (ca := []) rfl rfl rfl rfl (compare_c m2 x.c y.c) ?_
  rintro _ m3 ⟨rfl, rfl⟩
  refine ⟨_, rfl, RL.N1 (RH.cont ⟨hB, hD⟩ ?_)⟩
  refine RH.only 9 rfl (by kernel_rfl) (fun _ => ?_)
  refine RL.call (fi := []) (ca := []) rfl rfl rfl rfl (compare_c m3 x.f y.f) ?_
  rintro _ m4 ⟨rfl, rfl⟩
  refine ⟨_, rfl, RL.N1 (RH.cont ⟨hB, hD⟩ ?_)⟩
  refine RH.only 10 rfl (by kernel_rfl) (fun _ => ?_)
  refine RL.buildSlice T_ok [.tmp 9, .tmp 14] [.int .i64 (cmpN x.c y.c), .int .i64 (cmpN x.f y.f)] rfl rfl rfl rfl rfl rfl (by simp [Value.cells]) rfl rfl (fun b5 m5 hb5 hC5 => ⟨_, rfl, ?_⟩)
  have hE5 : Ext m4 [] m5 := hC5.new (by omega)
  refine RL.N1 (RH.cont ⟨hB.ext hE5 (by simp), hD.ext hE5 (by simp)⟩ ?_)
  have hS5 : Sl m5 [] 1 (.slice (some ⟨b5, 0, none⟩) 2 2) [.int .i64 (cmpN x.c y.c), .int .i64 (cmpN x.f y.f)] := Sl.of_blk (M := []) (n := 2) (c := 2) (sz := 1) hC5.blk (by simp) (by simp) (by omega) (by unfold maxLen; omega)
  refine RH.only 11 rfl (by kernel_rfl) (fun _ => ?_)
  refine RL.call (fi := []) (ca := []) rfl rfl rfl rfl (or_c m5 _ _ _ hS5) ?_
  rintro _ m6 ⟨rfl, rfl⟩
  refine ⟨_, rfl, RL.N1 (RH.cont ⟨hB.ext hE5 (by simp), hD.ext hE5 (by simp)⟩ ?_)⟩
  refine RH.pure T_ok hQ [12] (by kernel_rfl) rfl ?_
  refine RH.done (by kernel_rfl) (fun _ => ?_)
  refine QN.N1 ?_
  refine WP.ret ?_; (with_reducible repeat (first | refine QN.tr ?_ | refine QN.br ?_))
  exact QN.ret1 rfl rfl ⟨_, rfl, rfl, hE.trans hE5 (by simp)⟩
theorem tsC_len : ∀ l : List Trn, (l.flatMap tC).length = l.length * 4
  | [] => rfl
  | x :: l => by simp [tC, tsC_len l]; omega
theorem tsC_get : ∀ (l : List Trn) (k : Nat) (h : k < l.length) (j : Nat), j < 4 → (l.flatMap tC)[k * 4 + j]? = (tC l[k])[j]?
  | x :: l, 0, _, j, hj => by
    rw [List.flatMap_cons, List.getElem?_append_left (by simp [tC]; omega)]
    simp
  | x :: l, k + 1, h, j, hj => by
    rw [List.flatMap_cons, List.getElem?_append_right (by simp [tC]; omega)]
    have : (k + 1) * 4 + j - (tC x).length = k * 4 + j := by simp [tC]; omega
    rw [this, tsC_get l k (by simpa using h) j hj]
    simp
theorem tsC_one (l : List Trn) : ∀ u ∈ l.flatMap tC, u.oneCell' = true := by
  intro u hu
  obtain ⟨x, _, hx⟩ := List.mem_flatMap.1 hu
  simp [tC] at hx
  rcases hx with rfl | rfl | rfl | rfl <;> rfl
def Ts (m : World) (M : List Nat) (v : Value) (l : List Trn) : Prop := Sl m M 4 v (l.flatMap tC)
theorem Ts.shape {m : World} {M : List Nat} {v : Value} {l : List Trn} (h : Ts m M v l) : ∃ A c, v = .slice A l.length c ∧ l.length ≤ c ∧ c ≤ maxLen := Sl.shape h (tsC_len l) (by omega)
theorem Ts.ext0 {m m' : World} {v : Value} {l : List Trn} (h : Ts m [] v l) (hE : Ext m [] m') : Ts m' [] v l := Sl.ext h hE (by simp) (by omega)
theorem Ts.cell {m : World} {M : List Nat} {A : Option Addr} {n c : Nat} {l : List Trn} (h : Ts m M (.slice A n c) l) (k : Nat) (hk : k < l.length) : ∃ ad, A = some ad ∧ ∀ j u, (tC l[k])[j]? = some u → m.cell? ((ad.add (k * 4)).add j) = some u := by
  obtain ⟨hl, _⟩ := Sl.len h
  rw [tsC_len] at hl
  obtain ⟨ad, rfl, _, hc⟩ := Sl.addr h (by omega)
  refine ⟨ad, rfl, fun j u hu => ?_⟩
  have hj : j < 4 := by have := (List.getElem?_eq_some_iff.1 hu).1; simpa [tC] using this
  rw [add_add]
  exact hc _ u (by rw [tsC_get l k hk j hj]; exact hu)
theorem eqT_run (x y : Trn) (w : World) : (binOp .neq 57 (tV x) (tV y)).run Tryz.prog w = .ok (.bool (decide (x ≠ y))) w := by
  have hS : Tryz.prog.underlying 57 = some (.struct (Tryz.prog.fieldsOf 57)) := by kernel_rfl
  have hp : Tryz.prog.stoodInHeld 57 = false := by kernel_rfl
  have u37 := Tryz.underlying22
  have a37 := Tryz.isAgg22
  have z37 := Tryz.sizeOf22
  simp only [tV, tC]
  rw [run_neq_struct, show (10000 : Nat) = 9999 + 1 from rfl, run_equalIn_agg w 9999 57 _ _ hS hp]
  simp only [Program.fieldsOf, Tryz.underlying57]
  go_simp
  obtain ⟨a, b, c, d⟩ := x
  obtain ⟨a', b', c', d'⟩ := y
  by_cases h1 : a = a' <;> by_cases h2 : b = b' <;> by_cases h3 : c = c' <;> by_cases h4 : d = d' <;> simp [h1, h2, h3, h4, Int.natCast_inj] 
theorem eqT_guard (x y : Trn) (ox oy : Operand) (w : World) : (eqGuard .neq 57 ox oy (tV x) (tV y)).run Tryz.prog w = .ok () w := run_eqGuard_agg w .neq 57 ox oy _ _ (by kernel_rfl)
theorem turns_c (m : World) (v u : Value) (xs ys : List Trn) (h : Ts m [] v xs) (h' : Ts m [] u ys) (hl : xs.length < 1000000000) :
    FnR Tryz.prog 39 [v, u] m fun r m' => r = .bool (decide (xs = ys)) ∧ m' = m := by
  obtain ⟨A, c, rfl, _, _⟩ := h.shape
  obtain ⟨B, c', rfl, _, _⟩ := h'.shape
  refine FnE.enter ⟨_, Tryz.func39, by kernel_rfl, by kernel_rfl⟩ Tryz.func39 rfl rfl ?_
  (with_reducible repeat (first | refine WP.S1 ?_ | refine WP.B1 ?_ | refine WP.R1 ?_))
  refine RL.A1 T_ok rfl ?_
  refine RL.N1 ?_; (with_reducible repeat (first | refine QN.B1 ?_ | refine QN.N1 ?_ | refine WP.S1 ?_ | refine WP.B1 ?_ | refine WP.R1 ?_))
  refine RL.pure T_ok 4 rfl ?_
  refine RL.pure T_ok 1 rfl ?_
  refine RL.eqv (v' := .bool (decide (xs.length ≠ ys.length))) (congrArg _ (bne_nat' _ _)) ?_
  refine RL.N1 ?_; (with_reducible repeat (first | refine QN.B1 ?_ | refine QN.N1 ?_ | refine WP.S1 ?_ | refine WP.B1 ?_ | refine WP.R1 ?_))
  refine WP.cond rfl (fun hc => ?_) (fun hc => ?_)
  · have hc : xs.length ≠ ys.length := of_decide_eq_true hc
    (with_reducible repeat (first | refine WP.S1 ?_ | refine WP.B1 ?_ | refine WP.R1 ?_))
    refine RL.A1 T_ok rfl ?_
    refine RL.N1 ?_; (with_reducible repeat (first | refine QN.B1 ?_ | refine QN.N1 ?_ | refine WP.S1 ?_ | refine WP.B1 ?_ | refine WP.R1 ?_))
    refine WP.ret ?_; (with_reducible repeat (first | refine QN.tr ?_ | refine QN.br ?_))
    exact QN.ret1 rfl rfl ⟨_, rfl, by rw [decide_eq_false (fun h => hc (by rw [h]))], rfl⟩
  have hlen : xs.length = ys.length := Classical.not_not.1 (of_decide_eq_false hc)
  refine WP.skip ?_; (with_reducible repeat (first | refine QN.B1 ?_ | refine QN.N1 ?_ | refine WP.S1 ?_ | refine WP.B1 ?_ | refine WP.R1 ?_))
  refine RL.A1 T_ok rfl ?_
  refine RL.N1 ?_; (with_reducible repeat (first | refine QN.B1 ?_ | refine QN.N1 ?_ | refine WP.S1 ?_ | refine WP.B1 ?_ | refine WP.R1 ?_))
  refine WP.loop (X := Nat) (fun i => [(0, .slice A xs.length c), (1, .slice B ys.length c'), (5, .int .i64 i)]) (fun i m' => i ≤ xs.length ∧ xs.take i = ys.take i ∧ m' = m) (fun i => xs.length - i) 0
    (Sub.C1 rfl (Sub.C1 rfl (Sub.C1 rfl Sub.nil))) ⟨by simp, by simp, rfl⟩ ?_
  rintro i m1 ⟨hi, ht, rfl⟩
  (with_reducible repeat (first | refine WP.S1 ?_ | refine WP.B1 ?_ | refine WP.R1 ?_))
  refine RL.A1 T_ok rfl ?_
  refine RL.N1 ?_; (with_reducible repeat (first | refine QN.B1 ?_ | refine QN.N1 ?_ | refine WP.S1 ?_ | refine WP.B1 ?_ | refine WP.R1 ?_))
  refine WP.cond rfl (fun hc => ?_) (fun hc => ?_)
  · have hc : i < xs.length := by have := of_decide_eq_true hc; omega
    have hcb : i < ys.length := by omega
    refine WP.skip ?_; (with_reducible repeat (first | refine QN.B1 ?_ | refine QN.N1 ?_ | refine WP.S1 ?_ | refine WP.B1 ?_ | refine WP.R1 ?_))
    refine WP.drawQ (fun m' => m' = m1) [] (by kernel_rfl) rfl (by with_reducible repeat (first | exact PanicOk.body | refine PanicOk.then_ ?_ | refine PanicOk.block_ ?_)) (fun hQ => ?_)
    refine RH.pure T_ok hQ [0, 1] (by kernel_rfl) rfl ?_
    obtain ⟨ad, rfl, hx⟩ := h.cell i hc
    obtain ⟨bd, rfl, hy⟩ := h'.cell i hcb
    refine RH.indexAddr T_ok hQ 2 (k := i) rfl (by kernel_rfl) rfl rfl rfl rfl rfl rfl rfl hc rfl ?_
    refine RH.loadAgg T_ok hQ 3 (tC xs[i]) (fun m' hm' => by rw [hm']; exact hx) rfl (by kernel_rfl) rfl rfl rfl rfl ?_
    refine RH.pure T_ok hQ [4, 5] (by kernel_rfl) rfl ?_
    refine RH.indexAddr T_ok hQ 6 (k := i) rfl (by kernel_rfl) rfl rfl rfl rfl rfl rfl rfl hcb rfl ?_
    refine RH.loadAgg T_ok hQ 7 (tC ys[i]) (fun m' hm' => by rw [hm']; exact hy) rfl (by kernel_rfl) rfl rfl rfl rfl ?_
    refine RH.binOp (eqT_run xs[i] ys[i]) (eqT_guard xs[i] ys[i] _ _) hQ 8 rfl (by kernel_rfl) rfl rfl rfl rfl ?_
    refine RH.done (by kernel_rfl) (fun _ => ?_)
    (with_reducible repeat (first | refine QN.B1 ?_ | refine QN.N1 ?_))
    by_cases hab : xs[i] = ys[i]
    · refine WP.condF (congrArg (fun q => some (Value.bool q)) (decide_eq_false (not_not_intro hab))) ?_
      refine WP.skip ?_; (with_reducible repeat (first | refine QN.B1 ?_ | refine QN.N1 ?_ | refine WP.S1 ?_ | refine WP.B1 ?_ | refine WP.R1 ?_))
      refine RL.A1 T_ok rfl ?_
      refine RL.N1 (QN.round (i + 1) (Sub.C1 rfl (Sub.C1 rfl (Sub.C1 ?_ Sub.nil))) ⟨by omega, ?_, rfl⟩ (by omega))
      · show some (Value.int .i64 (IntKind.i64.wrap ((i : Int) + 1))) = some (Value.int .i64 ((i + 1 : Nat) : Int))
        rw [wrap_i64_in _ (by omega) (by omega)]; rfl
      · rw [List.take_succ_eq_append_getElem hc, List.take_succ_eq_append_getElem hcb, ht, hab]
    · refine WP.condT (congrArg (fun q => some (Value.bool q)) (decide_eq_true hab)) ?_
      (with_reducible repeat (first | refine WP.S1 ?_ | refine WP.B1 ?_ | refine WP.R1 ?_))
      refine RL.A1 T_ok rfl ?_
      refine RL.N1 ?_; (with_reducible repeat (first | refine QN.B1 ?_ | refine QN.N1 ?_ | refine WP.S1 ?_ | refine WP.B1 ?_ | refine WP.R1 ?_))
      refine WP.ret ?_; (with_reducible repeat (first | refine QN.tr ?_ | refine QN.br ?_))
      refine QN.ret1 rfl rfl ⟨_, rfl, ?_, rfl⟩
      rw [decide_eq_false]
      intro h; subst h; exact hab rfl
  · have hc : i = xs.length := by have := of_decide_eq_false hc; omega
    subst hc
    rw [List.take_length, hlen, List.take_length] at ht
    refine WP.exit ?_; (with_reducible repeat (first | refine QN.tx ?_ | refine QN.bx ?_ | refine QN.block_far rfl ?_ | refine QN.B1 ?_ | refine QN.N1 ?_)); (with_reducible repeat (first | refine WP.S1 ?_ | refine WP.B1 ?_ | refine WP.R1 ?_))
    refine RL.A1 T_ok rfl ?_
    refine RL.N1 ?_; (with_reducible repeat (first | refine QN.B1 ?_ | refine QN.N1 ?_ | refine WP.S1 ?_ | refine WP.B1 ?_ | refine WP.R1 ?_))
    refine WP.ret ?_; (with_reducible repeat (first | refine QN.tr ?_ | refine QN.br ?_))
    exact QN.ret1 rfl rfl ⟨_, rfl, by rw [decide_eq_true ht], rfl⟩
def TK (b1 b2 : Nat) (v : Value) (l : List Trn) (k : FuncId) (a : World) : Prop := Blk a b1 24 [v] ∧ Blk a b2 87 [.func (.func k) #[] #[]] ∧ Ts a [] v l
theorem rightsT1_c (m : World) (b1 b2 : Nat) (v : Value) (l : List Trn) (hl : l.length < 1000000000) (k : FuncId) (p : Trn → Bool) (hf : ∀ m1 x, FnR Tryz.prog k [tV x] m1 fun r m2 => r = .bool (p x) ∧ Ext m1 [] m2) :
    SeqE Tryz.prog 75 [.pointer (some ⟨b1, 0, none⟩), .pointer (some ⟨b2, 0, none⟩)] (fun x : Trn => [tV x]) false (TK b1 b2 v l k) (fun pre x => p x = true ∧ pre.length < l.length) (fun xs => xs = l.filter p) (fun _ => True) m := by
  intro lp J Jx m1 _ hJ hJx hK hround h0
  have hk0 := hK _ _ h0
  obtain ⟨A, c, rfl, _, _⟩ := hk0.2.2.shape
  refine FnE.enter ⟨_, Tryz.func75, by kernel_rfl, by kernel_rfl⟩ Tryz.func75 rfl rfl ?_
  (with_reducible repeat (first | refine WP.S1 ?_ | refine WP.B1 ?_ | refine WP.R1 ?_))
  refine RL.load T_ok rfl rfl rfl (hk0.1.cell 0 rfl) rfl ?_
  refine RL.A1 T_ok rfl ?_
  refine RL.N1 ?_; (with_reducible repeat (first | refine QN.B1 ?_ | refine QN.N1 ?_ | refine WP.S1 ?_ | refine WP.B1 ?_ | refine WP.R1 ?_))
  refine WP.loop (X := Nat) (fun i => [(0, .func (.yield lp) #[] #[]), (1, .pointer (some ⟨b1, 0, none⟩)), (2, .pointer (some ⟨b2, 0, none⟩)), (6, .slice A l.length c), (7, .int .i64 l.length), (8, .int .i64 i)])
    (fun i m' => i ≤ l.length ∧ J ((l.take i).filter p) m') (fun i => l.length - i) 0 (Sub.C1 rfl (Sub.C1 rfl (Sub.C1 rfl (Sub.C1 rfl (Sub.C1 rfl (Sub.C1 rfl Sub.nil)))))) ⟨by simp, h0⟩ ?_
  rintro i m2 ⟨hi, hj⟩
  have hk := hK _ _ hj
  (with_reducible repeat (first | refine WP.S1 ?_ | refine WP.B1 ?_ | refine WP.R1 ?_))
  refine RL.A1 T_ok rfl ?_
  refine RL.N1 ?_; (with_reducible repeat (first | refine QN.B1 ?_ | refine QN.N1 ?_ | refine WP.S1 ?_ | refine WP.B1 ?_ | refine WP.R1 ?_))
  refine WP.cond rfl (fun hc => ?_) (fun hc => ?_)
  · have hc : i < l.length := by have := of_decide_eq_true hc; omega
    obtain ⟨ad, rfl, hx⟩ := hk.2.2.cell i hc
    have hstep : (l.take (i + 1)).filter p = (l.take i).filter p ++ (if p l[i] then [l[i]] else []) := by
      rw [List.take_succ_eq_append_getElem hc, List.filter_append]
      cases h : p l[i] <;> simp [h]
    refine WP.skip ?_; (with_reducible repeat (first | refine QN.B1 ?_ | refine QN.N1 ?_ | refine WP.S1 ?_ | refine WP.B1 ?_ | refine WP.R1 ?_))
    refine RL.indexAddr (k := i) T_ok rfl rfl rfl rfl rfl rfl rfl hc rfl ?_
    refine RL.loadAgg T_ok (tC l[i]) rfl rfl rfl hx rfl ?_
    refine RL.alloc T_ok rfl rfl (fun b5 m3 hb5 hC3 => ⟨_, rfl, ?_⟩)
    refine RL.storeAgg T_ok (b := b5) (i := 0) (vs := tC l[i]) (cs := [.int .u64 0, .int .u64 0, .int .u64 0, .int .u64 0]) hC3.blk rfl rfl rfl rfl rfl (by simp) (by simp [tC, Value.oneCell']) rfl ?_
    intro m4 hC4
    have hE4 : Ext m2 [] m4 := (hC3.new (by omega)).trans hC4.ext (fun q hq => .inr (by have h9 : q = b5 := (by simpa using hq); omega))
    have hB4 : Blk m4 b5 57 (tC l[i]) := hC4.blk
    have hj4 := hJ _ _ _ hj hE4
    have hk4 := hK _ _ hj4
    refine RL.N1 ?_; (with_reducible repeat (first | refine QN.B1 ?_ | refine QN.N1 ?_ | refine WP.S1 ?_ | refine WP.B1 ?_ | refine WP.R1 ?_))
    refine RL.load T_ok rfl rfl rfl (hk4.2.1.cell 0 rfl) rfl ?_
    refine RL.loadAgg T_ok (tC l[i]) rfl rfl rfl (fun j u hu => by rw [add_block]; exact hB4.cell _ (by simpa using hu)) rfl ?_
    refine RL.call (fi := []) (ca := []) rfl rfl rfl rfl (hf m4 l[i]) ?_
    rintro _ m5 ⟨rfl, hE5⟩
    refine ⟨_, rfl, ?_⟩
    have hB5 := hB4.ext hE5 (by simp)
    have hj5 := hJ _ _ _ hj4 hE5
    refine RL.pure T_ok 1 rfl ?_
    by_cases hp : p l[i] = true
    · refine RL.eqv (v' := .bool true) (congrArg _ hp) ?_
      refine RL.A1 T_ok rfl ?_
      refine RL.loadAgg T_ok (tC l[i]) rfl rfl rfl (fun j u hu => by rw [add_block]; exact hB5.cell _ (by simpa using hu)) rfl ?_
      refine RL.yield rfl rfl rfl (hround _ l[i] m5 hj5 ⟨hp, Nat.lt_of_le_of_lt (List.length_filter_le _ _) (by simp; omega)⟩) ?_ (by rintro ch m6 (⟨h, _⟩ | ⟨h, _⟩) <;> cases h) (by rintro m6 (⟨h, _⟩ | ⟨h, _⟩) <;> cases h)
      rintro _ m6 (⟨h6, hj6, _⟩ | ⟨h6, hj6⟩)
      · injection h6 with h6
        subst h6
        refine ⟨_, rfl, ?_⟩
        refine RL.A1 T_ok rfl ?_
        refine RL.N1 ?_; (with_reducible repeat (first | refine QN.B1 ?_ | refine QN.N1 ?_ | refine WP.S1 ?_ | refine WP.B1 ?_ | refine WP.R1 ?_))
        refine WP.condF rfl ?_
        refine WP.skip ?_; (with_reducible repeat (first | refine QN.B1 ?_ | refine QN.N1 ?_ | refine WP.S1 ?_ | refine WP.B1 ?_ | refine WP.R1 ?_))
        refine RL.pure T_ok 1 rfl ?_
        refine RL.eqv (v' := .int .i64 ((i + 1 : Nat) : Int)) (congrArg _ (by rw [wrap_i64_in _ (by omega) (by omega)]; rfl)) ?_
        refine RL.A1 T_ok rfl ?_
        refine RL.N1 (QN.round (i + 1) (Sub.C1 rfl (Sub.C1 rfl (Sub.C1 rfl (Sub.C1 rfl (Sub.C1 rfl (Sub.C1 rfl Sub.nil)))))) ⟨by omega, ?_⟩ (by omega))
        rw [hstep, if_pos hp]; exact hj6
      · injection h6 with h6
        subst h6
        refine ⟨_, rfl, ?_⟩
        refine RL.A1 T_ok rfl ?_
        refine RL.N1 ?_; (with_reducible repeat (first | refine QN.B1 ?_ | refine QN.N1 ?_ | refine WP.S1 ?_ | refine WP.B1 ?_ | refine WP.R1 ?_))
        refine WP.condT rfl ?_
        refine WP.ret ?_; (with_reducible repeat (first | refine QN.tr ?_ | refine QN.br ?_))
        exact QN.ret0 rfl ⟨_, rfl, .inr ⟨_, trivial, hj6⟩⟩
    · refine RL.eqv (v' := .bool false) (congrArg _ (Bool.not_eq_true _ ▸ hp)) ?_
      refine RL.A1 T_ok rfl ?_
      refine RL.N1 ?_; (with_reducible repeat (first | refine QN.B1 ?_ | refine QN.N1 ?_ | refine WP.S1 ?_ | refine WP.B1 ?_ | refine WP.R1 ?_))
      refine WP.condF rfl ?_
      refine WP.skip ?_; (with_reducible repeat (first | refine QN.B1 ?_ | refine QN.N1 ?_ | refine WP.S1 ?_ | refine WP.B1 ?_ | refine WP.R1 ?_))
      refine RL.pure T_ok 1 rfl ?_
      refine RL.eqv (v' := .int .i64 ((i + 1 : Nat) : Int)) (congrArg _ (by rw [wrap_i64_in _ (by omega) (by omega)]; rfl)) ?_
      refine RL.A1 T_ok rfl ?_
      refine RL.N1 (QN.round (i + 1) (Sub.C1 rfl (Sub.C1 rfl (Sub.C1 rfl (Sub.C1 rfl (Sub.C1 rfl (Sub.C1 rfl Sub.nil)))))) ⟨by omega, ?_⟩ (by omega))
      rw [hstep, if_neg hp, List.append_nil]; exact hj5
  · have hc : i = l.length := by have := of_decide_eq_false hc; omega
    subst hc
    rw [List.take_length] at hj
    refine WP.exit ?_; (with_reducible repeat (first | refine QN.tx ?_ | refine QN.bx ?_ | refine QN.block_far rfl ?_ | refine QN.B1 ?_ | refine QN.N1 ?_)); (with_reducible repeat (first | refine WP.S1 ?_ | refine WP.B1 ?_ | refine WP.R1 ?_))
    exact QN.end0 rfl ⟨_, rfl, .inl ⟨_, rfl, hj⟩⟩
theorem rightsT_c (m : World) (v : Value) (l : List Trn) (k : FuncId) : FnR Tryz.prog 49 [v, .func (.func k) #[] #[]] m fun r m' => ∃ b1 b2, r = .func (.func 75) #[] #[.pointer (some ⟨b1, 0, none⟩), .pointer (some ⟨b2, 0, none⟩)] ∧ m.heap.size ≤ b1 ∧ m.heap.size ≤ b2 ∧ Ext m [] m' ∧ (Ts m [] v l → TK b1 b2 v l k m') := by
  refine FnE.enter ⟨_, Tryz.func49, by kernel_rfl, by kernel_rfl⟩ Tryz.func49 rfl rfl ?_
  (with_reducible repeat (first | refine WP.S1 ?_ | refine WP.B1 ?_ | refine WP.R1 ?_))
  refine RL.box rfl rfl (fun b1 m1 hb1 hC1 => ⟨_, rfl, ?_⟩)
  refine RL.box rfl rfl (fun b2 m2 hb2 hC2 => ⟨_, rfl, ?_⟩)
  have hE1 : Ext m [] m1 := hC1.new (by omega)
  have hE2 : Ext m1 [] m2 := hC2.new (by omega)
  have s1 := hC1.size
  refine RL.A1 T_ok rfl ?_
  refine RL.N1 ?_; (with_reducible repeat (first | refine QN.B1 ?_ | refine QN.N1 ?_ | refine WP.S1 ?_ | refine WP.B1 ?_ | refine WP.R1 ?_))
  refine RL.A1 T_ok rfl ?_
  refine RL.N1 ?_; (with_reducible repeat (first | refine QN.B1 ?_ | refine QN.N1 ?_ | refine WP.S1 ?_ | refine WP.B1 ?_ | refine WP.R1 ?_))
  refine WP.ret ?_; (with_reducible repeat (first | refine QN.tr ?_ | refine QN.br ?_))
  refine QN.ret1 rfl rfl ⟨_, rfl, b1, b2, rfl, by omega, by omega, hE1.trans hE2 (by simp), fun h => ⟨?_, hC2.here, (h.ext0 hE1).ext0 hE2⟩⟩
  obtain ⟨A, c, rfl, _, _⟩ := h.shape
  exact Blk.ext (cs := [.slice A l.length c]) hC1.here hE2 (by simp)
def Trn.le (x y : Trn) : Prop := x.c < y.c ∨ (x.c = y.c ∧ x.f ≤ y.f)
theorem ltOf_cfT (x y : Trn) : Go.Proofs.ltOf cfT x y = true ↔ x.c < y.c ∨ (x.c = y.c ∧ x.f < y.f) := by
  unfold Go.Proofs.ltOf
  rw [decide_eq_true_eq]
  unfold cfT
  split
  · rename_i h; rw [cmpN_zero] at h; rw [cmpN_neg]; omega
  · rename_i h; rw [cmpN_zero] at h; rw [cmpN_neg]; omega
theorem swoT : Go.Sort.SWO (Go.Proofs.ltOf cfT) where
  irrefl x := by rw [← Bool.not_eq_true, ltOf_cfT]; omega
  trans x y z h1 h2 := by rw [ltOf_cfT] at *; omega
  ntrans x y z h1 h2 := by
    rw [← Bool.not_eq_true, ltOf_cfT] at *; omega
instance : Inhabited Trn := ⟨⟨0, 0, 0, 0⟩⟩
theorem tC_len (x : Trn) : (tC x).length = 4 := rfl
theorem tC_one (x : Trn) : ∀ v ∈ tC x, v.oneCell' = true := by intro v hv; simp [tC] at hv; rcases hv with rfl | rfl | rfl | rfl <;> rfl
theorem sortT_c (m : World) (S : List Nat) (v : Value) (l : List Trn) (h : Ev.Own m S 57 4 v l.length (l.flatMap tC)) (hl : l.length < 1000000000) :
    FnR Tryz.prog 51 [v, .func (.func 52) #[] #[]] m fun r m' => r = .tuple #[] ∧ Ext m S m' ∧ ∃ l' : List Trn, l'.Perm l ∧ l'.Pairwise Trn.le ∧ Ev.Own m' S 57 4 v l'.length (l'.flatMap tC) := by
  refine FnR.mono (sortFunc_run Tryz.sortT 4 (by omega) Tryz.isAgg57 Tryz.sizeOf57 tC tC_len tC_one cfT swoT 52 ⟨_, Tryz.func52, by kernel_rfl, by kernel_rfl⟩ ⟨_, Tryz.func51, by kernel_rfl, by kernel_rfl⟩ (fun W x y => cmpT_c W x y) h (by omega)) ?_
  rintro r m' ⟨rfl, hE, l', h1, h2, h3⟩
  refine ⟨rfl, hE, l', h1, h2.imp (fun {a b} hab => ?_), h3⟩
  rw [← Bool.not_eq_true, ltOf_cfT] at hab
  simp only [Trn.le]; omega
end Go.Proofs.YtmjpcaiehfimgaaGreatDoor
end
section
namespace Go.Ev
open Go.RowKit
section
variable {P : Program} {T : Ty} {ops : Array Oper} {Q : Exit → Act → World → Prop} {rest : List Oper} {n : Nat} {e e' : Env} {D : Fr} {m : World}
  {d : Option Tmp} {x : Operand} {t ty : TypeId} {pos : String} {aft : Array Edge} {g : Option (Nat × Bool)} {r : Row}
theorem RL.clear (hT : T.Ok P) {te tb : TypeId} {b off k c : Nat} {cs : List Value} (he : T.elem t = some (te, r)) (hB : Blk m b tb cs) (hg : gd ops e ⟨d, .call ⟨.builtin .clear, #[x], #[t]⟩, ty, pos, aft, g⟩ = some true)
    (hx : e.ev x = some (.slice (some ⟨b, off, none⟩) k c)) (hk : 0 < k) (hlen : off + k * r.size ≤ cs.length) (h1 : ∀ v ∈ (Builtin.zeroCells r.zero.cells k).toList, v.oneCell' = true) (hp : putE n d (.tuple #[]) e = some e')
    (h : ∀ m', Chg m b (.cells (cs.take off ++ (Builtin.zeroCells r.zero.cells k).toList ++ cs.drop (off + k * r.size)).toArray tb (0, 0)) m' → RL P ops Q rest n e' D m') :
    RL P ops Q (⟨d, .call ⟨.builtin .clear, #[x], #[t]⟩, ty, pos, aft, g⟩ :: rest) n e D m := by
  obtain ⟨rt, hrt, hkk, hr, hcz, hsz, _⟩ := Ty.elem_spec he
  have hu := (hT.row hrt).k
  rw [hkk] at hu
  obtain ⟨i, hi, hz0, hz1, _⟩ := (hT.row hr).parts
  have hl := size_zero r.zero.cells k
  rw [hcz] at hl
  refine RL.valueW _ (m.setRow b (cs.take off ++ (Builtin.zeroCells r.zero.cells k).toList ++ cs.drop (off + k * r.size)).toArray) hg (fun a w hf hs => ?_) hp (h _ (setRow_chg hB _))
  have hw : w.heap[b]? = some (.cells cs.toArray tb (0, 0)) := by rw [hs.heap]; exact hB
  have h3 := run_storeCells_at P b off tb (Builtin.zeroCells r.zero.cells k).toList 0 cs.toArray w hw (by rw [List.size_toArray]; omega) h1
  refine ⟨w.setRow b (cs.take off ++ (Builtin.zeroCells r.zero.cells k).toList ++ cs.drop (off + k * r.size)).toArray, ?_, hs.setRow b _⟩
  simp only [Nat.add_zero] at h3
  rw [hl] at h3
  obtain ⟨q, rfl⟩ : ∃ q, k = q + 1 := ⟨k - 1, by omega⟩
  simp [execOp, resolve, invoke, builtin, Builtin.clear_, hf.ev hx, run_underlying hu, zeroValue, typeInfo, hi, hz0]
  simp only [List.append_assoc] at h3
  rw [h3]
  simp
end
theorem Own.cutTo {m : World} {S : List Nat} {t : TypeId} {sz g n cap i : Nat} {xs : List Value} (h : Ev.Own m S t sz (.slice (some ⟨g, 0, none⟩) n cap) n xs) (hn : 0 < n) (hi : i ≤ n) : Ev.Own m S t sz (.slice (some ⟨g, 0, none⟩) i cap) i (xs.take (i * sz)) := by
  obtain ⟨g', cap', cur, hv, hB, h1, h2, h3, h4, rfl⟩ := h.at_ hn
  injection hv with hv hv2 hv3
  injection hv with hv
  injection hv with hv
  subst hv; subst hv3
  have hle : i * sz ≤ n * sz := Nat.mul_le_mul_right _ hi
  refine ⟨?_, .inr ⟨g, cap, cur, rfl, hB, by omega, h2, h3, ?_, rfl⟩⟩
  · rw [List.length_take, h.1]; omega
  · rw [← h4, List.take_take, Nat.min_eq_left hle]
end Go.Ev
namespace Go.Proofs.YtmjpcaiehfimgaaGreatDoor
open Go.RowKit Go.Ev Go.Ids
theorem tzero_one (k : Nat) : ∀ v ∈ (Builtin.zeroCells (#[.int .u64 0, .int .u64 0, .int .u64 0, .int .u64 0] : Array Value) k).toList, v.oneCell' = true := by
  intro v hv
  simp only [Builtin.zeroCells, Array.toList_map, List.mem_map] at hv
  obtain ⟨q, _, rfl⟩ := hv
  have h4 : q % (#[.int .u64 0, .int .u64 0, .int .u64 0, .int .u64 0] : Array Value).size < 4 := Nat.mod_lt _ (by simp)
  generalize q % (#[.int .u64 0, .int .u64 0, .int .u64 0, .int .u64 0] : Array Value).size = z at h4
  match z, h4 with
  | 0, _ => rfl
  | 1, _ => rfl
  | 2, _ => rfl
  | 3, _ => rfl
theorem tsC_take (l : List Trn) (k : Nat) : (l.flatMap tC).take (k * 4) = (l.take k).flatMap tC := by
  induction k generalizing l with
  | zero => simp
  | succ k ih =>
    cases l with
    | nil => simp
    | cons x l =>
      rw [List.flatMap_cons, List.take_succ_cons, List.flatMap_cons, ← ih l, Nat.succ_mul, Nat.add_comm]
      exact List.take_length_add_append (l₁ := tC x) (k * 4)
theorem tsC_drop (l : List Trn) (k : Nat) : (l.flatMap tC).drop (k * 4) = (l.drop k).flatMap tC := by
  induction k generalizing l with
  | zero => simp
  | succ k ih =>
    cases l with
    | nil => simp
    | cons x l =>
      rw [List.flatMap_cons, List.drop_succ_cons, ← ih l, Nat.succ_mul, Nat.add_comm, ← List.drop_drop]
      rfl
theorem tsC_put (l : List Trn) (k : Nat) (y : Trn) : (l.flatMap tC).take (k * 4) ++ tC y ++ (l.flatMap tC).drop (k * 4 + 4) = (l.take k ++ [y] ++ l.drop (k + 1)).flatMap tC := by
  rw [tsC_take, show k * 4 + 4 = (k + 1) * 4 by omega, tsC_drop]; simp
theorem tsC_app (a b : List Trn) : a.flatMap tC ++ b.flatMap tC = (a ++ b).flatMap tC := by simp
theorem indexT_c (m : World) (v : Value) (l : List Trn) (h : Ts m [] v l) (hl : l.length < 1000000000) (k : FuncId) (ca : List Value) (p : Trn → Bool) (hf : ∀ m1 x, Ext m [] m1 → FnR Tryz.prog k (tV x :: ca) m1 fun r m2 => r = .bool (p x) ∧ Ext m1 [] m2) :
    FnR Tryz.prog 81 [v, .func (.func k) #[] ca.toArray] m fun r m' => ((r = .int .i64 (-1) ∧ l.any p = false) ∨ ∃ i : Nat, r = .int .i64 i ∧ i < l.length ∧ (l.take i).any p = false ∧ ∃ h : i < l.length, p l[i] = true) ∧ Ext m [] m' := by
  obtain ⟨A, c, rfl, _, _⟩ := h.shape
  refine FnE.enter ⟨_, Tryz.func81, by kernel_rfl, by kernel_rfl⟩ Tryz.func81 rfl rfl ?_
  (with_reducible repeat (first | refine WP.S1 ?_ | refine WP.B1 ?_ | refine WP.R1 ?_))
  refine RL.A1 T_ok rfl ?_
  refine RL.N1 ?_; (with_reducible repeat (first | refine QN.B1 ?_ | refine QN.N1 ?_ | refine WP.S1 ?_ | refine WP.B1 ?_ | refine WP.R1 ?_))
  refine RL.A1 T_ok rfl ?_
  refine RL.N1 ?_; (with_reducible repeat (first | refine QN.B1 ?_ | refine QN.N1 ?_ | refine WP.S1 ?_ | refine WP.B1 ?_ | refine WP.R1 ?_))
  refine WP.loop (X := Nat) (fun i => [(0, .slice A l.length c), (1, .func (.func k) #[] ca.toArray), (7, .int .i64 l.length), (8, .int .i64 i)]) (fun i m' => i ≤ l.length ∧ (l.take i).any p = false ∧ Ext m [] m') (fun i => l.length - i) 0
    (Sub.C1 rfl (Sub.C1 rfl (Sub.C1 rfl (Sub.C1 rfl Sub.nil)))) ⟨by simp, by simp, Ext.refl _ _⟩ ?_
  rintro i m1 ⟨hi, ht, hE⟩
  (with_reducible repeat (first | refine WP.S1 ?_ | refine WP.B1 ?_ | refine WP.R1 ?_))
  refine RL.A1 T_ok rfl ?_
  refine RL.N1 ?_; (with_reducible repeat (first | refine QN.B1 ?_ | refine QN.N1 ?_ | refine WP.S1 ?_ | refine WP.B1 ?_ | refine WP.R1 ?_))
  refine WP.cond rfl (fun hc => ?_) (fun hc => ?_)
  · have hc : i < l.length := by have := of_decide_eq_true hc; omega
    obtain ⟨ad, rfl, hx⟩ := (h.ext0 hE).cell i hc
    refine WP.skip ?_; (with_reducible repeat (first | refine QN.B1 ?_ | refine QN.N1 ?_ | refine WP.S1 ?_ | refine WP.B1 ?_ | refine WP.R1 ?_))
    refine RL.A1 T_ok rfl ?_
    refine RL.N1 ?_; (with_reducible repeat (first | refine QN.B1 ?_ | refine QN.N1 ?_ | refine WP.S1 ?_ | refine WP.B1 ?_ | refine WP.R1 ?_))
    refine RL.A1 T_ok rfl ?_
    refine RL.indexAddr (k := i) T_ok rfl rfl rfl rfl rfl rfl rfl hc rfl ?_
    refine RL.loadAgg T_ok (tC l[i]) rfl rfl rfl hx rfl ?_
    refine RL.call (fi := []) (ca := ca) rfl rfl rfl rfl (hf m1 l[i] hE) ?_
    rintro _ m2 ⟨rfl, hE2⟩
    refine ⟨_, rfl, ?_⟩
    have hEm := hE.trans hE2 (by simp)
    refine RL.N1 ?_; (with_reducible repeat (first | refine QN.B1 ?_ | refine QN.N1 ?_ | refine WP.S1 ?_ | refine WP.B1 ?_ | refine WP.R1 ?_))
    refine WP.cond rfl (fun hp => ?_) (fun hp => ?_)
    · (with_reducible repeat (first | refine WP.S1 ?_ | refine WP.B1 ?_ | refine WP.R1 ?_))
      refine RL.A1 T_ok rfl ?_
      refine RL.N1 ?_; (with_reducible repeat (first | refine QN.B1 ?_ | refine QN.N1 ?_ | refine WP.S1 ?_ | refine WP.B1 ?_ | refine WP.R1 ?_))
      refine WP.ret ?_; (with_reducible repeat (first | refine QN.tr ?_ | refine QN.br ?_))
      exact QN.ret1 rfl rfl ⟨_, rfl, .inr ⟨i, rfl, hc, ht, hc, hp⟩, hEm⟩
    · refine WP.skip ?_; (with_reducible repeat (first | refine QN.B1 ?_ | refine QN.N1 ?_ | refine WP.S1 ?_ | refine WP.B1 ?_ | refine WP.R1 ?_))
      refine RL.A1 T_ok rfl ?_
      refine RL.N1 (QN.round (i + 1) (Sub.C1 rfl (Sub.C1 rfl (Sub.C1 rfl (Sub.C1 ?_ Sub.nil)))) ⟨by omega, ?_, hEm⟩ (by omega))
      · show some (Value.int .i64 (IntKind.i64.wrap ((i : Int) + 1))) = some (Value.int .i64 ((i + 1 : Nat) : Int))
        rw [wrap_i64_in _ (by omega) (by omega)]; rfl
      · rw [List.take_succ_eq_append_getElem hc, List.any_append, ht]
        simp [hp]
  · have hc : i = l.length := by have := of_decide_eq_false hc; omega
    subst hc
    rw [List.take_length] at ht
    refine WP.exit ?_; (with_reducible repeat (first | refine QN.tx ?_ | refine QN.bx ?_ | refine QN.block_far rfl ?_ | refine QN.B1 ?_ | refine QN.N1 ?_)); (with_reducible repeat (first | refine WP.S1 ?_ | refine WP.B1 ?_ | refine WP.R1 ?_))
    refine RL.A1 T_ok rfl ?_
    refine RL.N1 ?_; (with_reducible repeat (first | refine QN.B1 ?_ | refine QN.N1 ?_ | refine WP.S1 ?_ | refine WP.B1 ?_ | refine WP.R1 ?_))
    refine WP.ret ?_; (with_reducible repeat (first | refine QN.tr ?_ | refine QN.br ?_))
    exact QN.ret1 rfl rfl ⟨_, rfl, .inl ⟨rfl, ht⟩, hE⟩
theorem filter_none {p : Trn → Bool} {l : List Trn} (h : l.any p = false) : l.filter (fun x => !p x) = l := by
  rw [List.filter_eq_self]
  intro x hx
  have := List.any_eq_false.1 h x hx
  simp [this]
theorem deleteT_c (m : World) (S : List Nat) (v : Value) (l : List Trn) (h : Ev.Own m S 57 4 v l.length (l.flatMap tC)) (hl : l.length < 1000000000) (k : FuncId) (ca : List Value) (p : Trn → Bool) (K : World → Prop) (hK0 : K m) (hK : ∀ a b, K a → Ext a S b → K b)
    (hf : ∀ m1 x, K m1 → FnR Tryz.prog k (tV x :: ca) m1 fun r m2 => r = .bool (p x) ∧ Ext m1 [] m2) :
    FnR Tryz.prog 57 [v, .func (.func k) #[] ca.toArray] m fun r m' => Ev.Own m' S 57 4 r (l.filter fun x => !p x).length ((l.filter fun x => !p x).flatMap tC) ∧ Ext m S m' := by
  have hT : Ts m [] v l := h.sl (by simp)
  refine FnE.enter ⟨_, Tryz.func57, by kernel_rfl, by kernel_rfl⟩ Tryz.func57 rfl rfl ?_
  (with_reducible repeat (first | refine WP.S1 ?_ | refine WP.B1 ?_ | refine WP.R1 ?_))
  refine RL.A1 T_ok rfl ?_
  refine RL.N1 ?_; (with_reducible repeat (first | refine QN.B1 ?_ | refine QN.N1 ?_ | refine WP.S1 ?_ | refine WP.B1 ?_ | refine WP.R1 ?_))
  refine RL.A1 T_ok rfl ?_
  refine RL.call (fi := []) (ca := []) rfl rfl rfl rfl (indexT_c m v l hT hl k ca p (fun m1 x hE => hf m1 x (hK m m1 hK0 (hE.mono (by simp))))) ?_
  rintro _ m1 ⟨⟨rfl, hn⟩ | ⟨i0, rfl, hi0, hpre, hi1, hp0⟩, hE1⟩
  · refine ⟨_, rfl, ?_⟩
    refine RL.A1 T_ok rfl ?_
    refine RL.N1 ?_; (with_reducible repeat (first | refine QN.B1 ?_ | refine QN.N1 ?_ | refine WP.S1 ?_ | refine WP.B1 ?_ | refine WP.R1 ?_))
    refine RL.A1 T_ok rfl ?_
    refine RL.N1 ?_; (with_reducible repeat (first | refine QN.B1 ?_ | refine QN.N1 ?_ | refine WP.S1 ?_ | refine WP.B1 ?_ | refine WP.R1 ?_))
    refine WP.condT rfl ?_
    (with_reducible repeat (first | refine WP.S1 ?_ | refine WP.B1 ?_ | refine WP.R1 ?_))
    refine RL.A1 T_ok rfl ?_
    refine RL.N1 ?_; (with_reducible repeat (first | refine QN.B1 ?_ | refine QN.N1 ?_ | refine WP.S1 ?_ | refine WP.B1 ?_ | refine WP.R1 ?_))
    refine WP.ret ?_; (with_reducible repeat (first | refine QN.tr ?_ | refine QN.br ?_))
    refine QN.ret1 rfl rfl ⟨_, rfl, ?_, hE1.mono (by simp)⟩
    rw [filter_none hn]
    exact h.ext hE1 (by simp)
  · refine ⟨_, rfl, ?_⟩
    have hO1 := h.ext hE1 (by simp)
    have hK1 := hK m m1 hK0 (hE1.mono (by simp))
    obtain ⟨g, cap, cur, rfl, _, _, _, _, _, rfl⟩ := h.at_ (by omega)
    refine RL.A1 T_ok rfl ?_
    refine RL.N1 ?_; (with_reducible repeat (first | refine QN.B1 ?_ | refine QN.N1 ?_ | refine WP.S1 ?_ | refine WP.B1 ?_ | refine WP.R1 ?_))
    refine RL.pure T_ok 2 rfl ?_
    refine RL.eqv (v' := .bool false) (congrArg _ (beq_eq_false_iff_ne.2 (by omega))) ?_
    refine RL.N1 ?_; (with_reducible repeat (first | refine QN.B1 ?_ | refine QN.N1 ?_ | refine WP.S1 ?_ | refine WP.B1 ?_ | refine WP.R1 ?_))
    refine WP.condF rfl ?_
    refine WP.skip ?_; (with_reducible repeat (first | refine QN.B1 ?_ | refine QN.N1 ?_ | refine WP.S1 ?_ | refine WP.B1 ?_ | refine WP.R1 ?_))
    refine RL.pure T_ok 2 rfl ?_
    refine RL.eqv (v' := .int .i64 ((i0 + 1 : Nat) : Int)) (congrArg _ (by rw [wrap_i64_in _ (by omega) (by omega)]; rfl)) ?_
    refine RL.A1 T_ok rfl ?_
    refine RL.N1 ?_; (with_reducible repeat (first | refine QN.B1 ?_ | refine QN.N1 ?_ | refine WP.S1 ?_ | refine WP.B1 ?_ | refine WP.R1 ?_))
    have hF0 : (l.take (i0 + 1)).filter (fun x => !p x) = l.take i0 := by
      rw [List.take_succ_eq_append_getElem hi0, List.filter_append, filter_none hpre]
      simp [hp0]
    refine (WP.loop (X := Nat × List Trn) (fun q => [(0, .slice (some ⟨g, 0, none⟩) l.length cap), (1, .func (.func k) #[] ca.toArray), (5, .int .i64 ((l.take q.1).filter fun x => !p x).length), (6, .int .i64 q.1)])
      (fun q m' => q.1 ≤ l.length ∧ ((l.take q.1).filter fun x => !p x).length < q.1 ∧ q.2.length = l.length ∧ q.2.take ((l.take q.1).filter fun x => !p x).length = ((l.take q.1).filter fun x => !p x) ∧ q.2.drop q.1 = l.drop q.1 ∧
        Ev.Own m' [g] 57 4 (.slice (some ⟨g, 0, none⟩) l.length cap) l.length (q.2.flatMap tC) ∧ Ext m [g] m' ∧ K m') (fun q => l.length - q.1) (i0 + 1, l)
      (Sub.C1 rfl (Sub.C1 rfl (Sub.C1 ?_ (Sub.C1 rfl Sub.nil)))) ⟨hi0, by rw [hF0, List.length_take]; omega, rfl, by rw [hF0, List.length_take, Nat.min_eq_left (by omega)], rfl, hO1, hE1.mono (by simp), hK1⟩ ?_)
    · show some (Value.int .i64 (i0 : Int)) = some (Value.int .i64 ((((l.take (i0 + 1)).filter fun x => !p x).length : Nat) : Int))
      rw [hF0, List.length_take, Nat.min_eq_left (by omega)]
    rintro ⟨j, L⟩ m2 ⟨hj, hlt, hLl, hLt, hLd, hO2, hE2, hK2⟩
    simp only at hj hlt hLl hLt hLd hO2 hK2
    (with_reducible repeat (first | refine WP.S1 ?_ | refine WP.B1 ?_ | refine WP.R1 ?_))
    refine RL.A1 T_ok rfl ?_
    refine RL.N1 ?_; (with_reducible repeat (first | refine QN.B1 ?_ | refine QN.N1 ?_ | refine WP.S1 ?_ | refine WP.B1 ?_ | refine WP.R1 ?_))
    refine WP.cond rfl (fun hc => ?_) (fun hc => ?_)
    · replace hc : j < l.length := by have := of_decide_eq_true hc; simp only at this; omega
      have hR2 : Ts m2 [] (.slice (some ⟨g, 0, none⟩) L.length cap) L := by rw [hLl]; exact hO2.sl (by simp)
      obtain ⟨ad, had, hx⟩ := hR2.cell j (by omega)
      injection had with had
      subst had
      have hLj : L[j]'(by omega) = l[j] := by
        have h1 : (L.drop j)[0]? = (l.drop j)[0]? := by rw [hLd]
        rw [List.getElem?_drop, List.getElem?_drop, Nat.add_zero, List.getElem?_eq_getElem (by omega), List.getElem?_eq_getElem hc] at h1
        exact Option.some.inj h1
      rw [hLj] at hx
      have hstep : (l.take (j + 1)).filter (fun x => !p x) = (l.take j).filter (fun x => !p x) ++ (if p l[j] then [] else [l[j]]) := by
        rw [List.take_succ_eq_append_getElem hc, List.filter_append]
        cases h : p l[j] <;> simp [h]
      have hLd' : L.drop (j + 1) = l.drop (j + 1) := by
        have h1 := congrArg (List.drop 1) hLd
        rwa [List.drop_drop, List.drop_drop] at h1
      generalize (l.take j).filter (fun x => !p x) = F at hlt hLt hstep
      obtain ⟨x, hxe⟩ : ∃ x, l[j] = x := ⟨_, rfl⟩
      rw [hxe] at hx hstep
      refine WP.skip ?_; (with_reducible repeat (first | refine QN.B1 ?_ | refine QN.N1 ?_ | refine WP.S1 ?_ | refine WP.B1 ?_ | refine WP.R1 ?_))
      refine RL.A1 T_ok rfl ?_
      refine RL.indexAddr (k := j) T_ok rfl rfl rfl rfl rfl rfl rfl hc rfl ?_
      refine RL.loadAgg T_ok (tC x) rfl rfl rfl hx rfl ?_
      refine RL.alloc T_ok rfl rfl (fun b7 m3 hb7 hC3 => ⟨_, rfl, ?_⟩)
      refine RL.storeAgg T_ok (b := b7) (i := 0) (vs := tC x) (cs := [.int .u64 0, .int .u64 0, .int .u64 0, .int .u64 0]) hC3.blk rfl rfl rfl rfl rfl (by simp) (by simp [tC, Value.oneCell']) rfl ?_
      intro m4 hC4
      have hE4 : Ext m2 [] m4 := (hC3.new (by omega)).trans hC4.ext (fun q hq => .inr (by have h9 : q = b7 := (by simpa using hq); omega))
      have hB4 : Blk m4 b7 57 (tC x) := hC4.blk
      have hO4 := hO2.ext hE4 (by simp)
      have hK4 := hK _ _ hK2 (hE4.mono (by simp))
      have l4 := hO2.lt g (by simp)
      refine RL.N1 ?_; (with_reducible repeat (first | refine QN.B1 ?_ | refine QN.N1 ?_ | refine WP.S1 ?_ | refine WP.B1 ?_ | refine WP.R1 ?_))
      refine RL.A1 T_ok rfl ?_
      refine RL.loadAgg T_ok (tC x) rfl rfl rfl (fun j u hu => by rw [add_block]; exact hB4.cell _ (by simpa using hu)) rfl ?_
      refine RL.call (fi := []) (ca := ca) rfl rfl rfl rfl (hf m4 x hK4) ?_
      rintro _ m5 ⟨rfl, hE5⟩
      refine ⟨_, rfl, ?_⟩
      have hB5 := hB4.ext hE5 (by simp)
      have hO5 := hO4.ext hE5 (by simp)
      have hK5 := hK _ _ hK4 (hE5.mono (by simp))
      have hE25 : Ext m2 [] m5 := hE4.trans hE5 (by simp)
      refine RL.A1 T_ok rfl ?_
      refine RL.N1 ?_; (with_reducible repeat (first | refine QN.B1 ?_ | refine QN.N1 ?_ | refine WP.S1 ?_ | refine WP.B1 ?_ | refine WP.R1 ?_))
      refine WP.cond rfl (fun hpx => ?_) (fun hpx => ?_)
      · have hpx : p x = false := by simpa using hpx
        rw [hpx, if_neg (by simp)] at hstep
        obtain ⟨g', cap', cur, hv5, hB5g, hgg, hj5, hset⟩ := hO5.putK (j := F.length * 4) (k := 4) (by omega) (by omega)
        injection hv5 with hv5 hv5'
        injection hv5 with hv5
        injection hv5 with hv5
        subst hv5
        (with_reducible repeat (first | refine WP.S1 ?_ | refine WP.B1 ?_ | refine WP.R1 ?_))
        refine RL.A1 T_ok rfl ?_
        refine RL.loadAgg T_ok (tC x) rfl rfl rfl (fun j u hu => by rw [add_block]; exact hB5.cell _ (by simpa using hu)) rfl ?_
        refine RL.indexAddr (k := F.length) T_ok rfl rfl rfl rfl rfl rfl rfl (by omega) rfl ?_
        refine RL.eqv (v' := .pointer (some ⟨g, F.length * 4, none⟩)) (congrArg (fun q => Value.pointer (some q)) (by rw [add_block]; show (⟨g, 0 + F.length * 4, none⟩ : Addr) = _; rw [Nat.zero_add])) ?_
        refine RL.storeAgg T_ok (b := g) (i := F.length * 4) (vs := tC x) hB5g rfl rfl rfl rfl rfl hj5 (tC_one _) rfl ?_
        intro m6 hC6
        have hO6 := hset m6 (tC x) rfl hC6
        rw [tsC_put] at hO6
        have hE6 : Ext m [g] m6 := (hE2.trans (hE25.mono (by simp)) (fun k hk => .inl hk)).trans hC6.ext (fun k hk => .inl hk)
        have hK6 := hK _ _ hK5 hC6.ext
        have hLL : (L.take F.length ++ [x] ++ L.drop (F.length + 1)).length = l.length := by simp; omega
        refine RL.N1 ?_; (with_reducible repeat (first | refine QN.B1 ?_ | refine QN.N1 ?_ | refine WP.S1 ?_ | refine WP.B1 ?_ | refine WP.R1 ?_))
        refine RL.pure T_ok 2 rfl ?_
        refine RL.eqv (v' := .int .i64 ((F.length + 1 : Nat) : Int)) (congrArg _ (by rw [wrap_i64_in _ (by omega) (by omega)]; rfl)) ?_
        refine RL.A1 T_ok rfl ?_
        refine RL.N1 ?_; (with_reducible repeat (first | refine QN.B1 ?_ | refine QN.N1 ?_ | refine WP.S1 ?_ | refine WP.B1 ?_ | refine WP.R1 ?_))
        refine RL.pure T_ok 2 rfl ?_
        refine RL.eqv (v' := .int .i64 ((j + 1 : Nat) : Int)) (congrArg _ (by rw [wrap_i64_in _ (by omega) (by omega)]; rfl)) ?_
        refine RL.A1 T_ok rfl ?_
        have hFl : ((l.take (j + 1)).filter fun x => !p x).length = F.length + 1 := by rw [hstep]; simp
        refine RL.N1 (QN.round (j + 1, L.take F.length ++ [x] ++ L.drop (F.length + 1)) (Sub.C1 rfl (Sub.C1 rfl (Sub.C1 ?_ (Sub.C1 rfl Sub.nil)))) ⟨by show j + 1 ≤ _; omega, ?_, hLL, ?_, ?_, hO6, hE6, hK6⟩ (by show _ - (j + 1) < _ - j; omega))
        · show some (Value.int .i64 ((F.length + 1 : Nat) : Int)) = some (Value.int .i64 ((((l.take (j + 1)).filter fun x => !p x).length : Nat) : Int))
          rw [hFl]
        · show ((l.take (j + 1)).filter fun x => !p x).length < j + 1
          rw [hFl]; omega
        · show (L.take F.length ++ [x] ++ L.drop (F.length + 1)).take ((l.take (j + 1)).filter fun x => !p x).length = (l.take (j + 1)).filter fun x => !p x
          rw [hFl, hstep, hLt]
          have e1 : (F ++ [x]).length = F.length + 1 := by simp
          rw [← e1, List.take_left]
        · show (L.take F.length ++ [x] ++ L.drop (F.length + 1)).drop (j + 1) = l.drop (j + 1)
          have e1 : (L.take F.length ++ [x]).length = F.length + 1 := by simp; omega
          rw [List.drop_append, e1, List.drop_eq_nil_of_le (by rw [e1]; omega), List.nil_append, List.drop_drop, ← hLd']
          congr 1; omega
      · have hpx : p x = true := by simpa using hpx
        rw [hpx, if_pos rfl, List.append_nil] at hstep
        refine WP.skip ?_; (with_reducible repeat (first | refine QN.B1 ?_ | refine QN.N1 ?_ | refine WP.S1 ?_ | refine WP.B1 ?_ | refine WP.R1 ?_))
        refine RL.pure T_ok 2 rfl ?_
        refine RL.eqv (v' := .int .i64 ((j + 1 : Nat) : Int)) (congrArg _ (by rw [wrap_i64_in _ (by omega) (by omega)]; rfl)) ?_
        refine RL.A1 T_ok rfl ?_
        refine RL.N1 (QN.round (j + 1, L) (Sub.C1 rfl (Sub.C1 rfl (Sub.C1 ?_ (Sub.C1 rfl Sub.nil)))) ⟨by show j + 1 ≤ _; omega, ?_, hLl, ?_, hLd', hO5, hE2.trans (hE25.mono (by simp)) (fun k hk => .inl hk), hK5⟩ (by show _ - (j + 1) < _ - j; omega))
        · show some (Value.int .i64 ((F.length : Nat) : Int)) = some (Value.int .i64 ((((l.take (j + 1)).filter fun x => !p x).length : Nat) : Int))
          rw [hstep]
        · show ((l.take (j + 1)).filter fun x => !p x).length < j + 1
          rw [hstep]; omega
        · show L.take ((l.take (j + 1)).filter fun x => !p x).length = (l.take (j + 1)).filter fun x => !p x
          rw [hstep]; exact hLt
    · replace hc : j = l.length := by have := of_decide_eq_false hc; simp only at this; omega
      subst hc
      rw [List.take_length] at hlt hLt
      have e0 : (l.take l.length).filter (fun x => !p x) = l.filter (fun x => !p x) := by rw [List.take_length]
      have elen : (((l.take l.length).filter fun x => !p x).length : Nat) = (l.filter fun x => !p x).length := by rw [e0]
      generalize l.filter (fun x => !p x) = F at hlt hLt e0 elen ⊢
      refine WP.exit ?_; (with_reducible repeat (first | refine QN.tx ?_ | refine QN.bx ?_ | refine QN.block_far rfl ?_ | refine QN.B1 ?_ | refine QN.N1 ?_)); (with_reducible repeat (first | refine WP.S1 ?_ | refine WP.B1 ?_ | refine WP.R1 ?_))
      refine RL.sub (e' := [(0, .slice (some ⟨g, 0, none⟩) l.length cap), (5, .int .i64 (F.length : Nat))]) (Sub.C1 rfl (Sub.C1 ?_ Sub.nil)) ?_
      · show some (Value.int .i64 ((((l.take l.length).filter fun x => !p x).length : Nat) : Int)) = _
        rw [elen]
      have hcapl : l.length ≤ cap := by
        obtain ⟨g', cap', cur, hv, _, h9, _⟩ := hO2.at_ (by omega)
        injection hv with _ _ hv
      obtain ⟨g', cap', cur, hv5, hB5g, hgg, hj5, hset⟩ := hO2.putK (j := F.length * 4) (k := (l.length - F.length) * 4) (by omega) (by omega)
      injection hv5 with hv5 hv5'
      injection hv5 with hv5
      injection hv5 with hv5
      subst hv5
      refine RL.A1 T_ok rfl ?_
      refine RL.sliceFrom T_ok (l := F.length) rfl rfl rfl rfl rfl (by omega) rfl ?_
      refine RL.eqv (v' := .slice (some ⟨g, F.length * 4, none⟩) (l.length - F.length) (cap - F.length)) (by
        rw [if_neg (by omega)]
        show Value.slice (some ((⟨g, 0, none⟩ : Addr).add (F.length * 4))) _ _ = _
        rw [add_block, Nat.zero_add]) ?_
      refine RL.clear T_ok (b := g) (off := F.length * 4) (k := l.length - F.length) (cs := cur) rfl hB5g rfl rfl (by omega) hj5 (tzero_one _) rfl ?_
      intro m6 hC6
      have hO6 := hset m6 _ (by rw [size_zero]; rfl) hC6
      have hO7 := hO6.cutTo (i := F.length) (by omega) (by omega)
      have hE6 : Ext m [g] m6 := hE2.trans hC6.ext (fun k hk => .inl hk)
      rw [List.append_assoc, List.take_append_of_le_length (by rw [List.length_take, tsC_len, hLl]; omega), List.take_take, Nat.min_self, tsC_take, hLt] at hO7
      refine RL.N1 ?_; (with_reducible repeat (first | refine QN.B1 ?_ | refine QN.N1 ?_ | refine WP.S1 ?_ | refine WP.B1 ?_ | refine WP.R1 ?_))
      refine RL.A1 T_ok rfl ?_
      refine RL.sliceTo (l := F.length) T_ok rfl rfl rfl rfl rfl (by omega) rfl ?_
      refine RL.A1 T_ok rfl ?_
      refine RL.N1 ?_; (with_reducible repeat (first | refine QN.B1 ?_ | refine QN.N1 ?_ | refine WP.S1 ?_ | refine WP.B1 ?_ | refine WP.R1 ?_))
      refine WP.ret ?_; (with_reducible repeat (first | refine QN.tr ?_ | refine QN.br ?_))
      exact QN.ret1 rfl rfl ⟨_, rfl, hO7, hE6⟩
theorem del1_c (m : World) (x : Trn) (b7 : Nat) (a : Nat) (hB7 : Blk m b7 22 [.int .u64 a]) : FnR Tryz.prog 58 [tV x, .pointer (some ⟨b7, 0, none⟩)] m fun r m' => r = .bool (decide (x.t ≤ a)) ∧ Ext m [] m' := by
  refine FnE.enter ⟨_, Tryz.func58, by kernel_rfl, by kernel_rfl⟩ Tryz.func58 rfl rfl ?_
  (with_reducible repeat (first | refine WP.S1 ?_ | refine WP.B1 ?_ | refine WP.R1 ?_))
  refine RL.box rfl rfl (fun b m1 hb hC => ⟨_, rfl, ?_⟩)
  have hB : Blk m1 b 57 (tC x) := hC.here
  have hE : Ext m [] m1 := hC.new (by omega)
  have hD := hB7.ext hE (by simp)
  clear hC
  refine RL.A1 T_ok rfl ?_
  refine RL.N1 ?_; (with_reducible repeat (first | refine QN.B1 ?_ | refine QN.N1 ?_ | refine WP.S1 ?_ | refine WP.B1 ?_ | refine WP.R1 ?_))
  repeat (first | refine RL.pure T_ok 1 rfl ?_ | refine RL.load T_ok rfl rfl rfl (hB.cell _ rfl) rfl ?_ | refine RL.load T_ok rfl rfl rfl (hD.cell _ rfl) rfl ?_)
  refine RL.N1 ?_; (with_reducible repeat (first | refine QN.B1 ?_ | refine QN.N1 ?_ | refine WP.S1 ?_ | refine WP.B1 ?_ | refine WP.R1 ?_))
  refine WP.ret ?_; (with_reducible repeat (first | refine QN.tr ?_ | refine QN.br ?_))
  exact QN.ret1 rfl rfl ⟨_, rfl, congrArg _ (dle' _ _), hE⟩
theorem tsC_setT (a : List Trn) (y : Trn) (z : Nat) : ((a ++ [y]).flatMap tC).set (a.length * 4 + 2) (.int .u64 z) = (a ++ [{ y with t := z }]).flatMap tC := by
  rw [List.flatMap_append, List.flatMap_append, List.set_append_right _ _ (by rw [tsC_len]; omega), tsC_len]
  have : a.length * 4 + 2 - a.length * 4 = 2 := by omega
  rw [this]
  rfl
theorem joined_c (m : World) (S : List Nat) (v : Value) (r : List Trn) (x : Trn) (h : Ev.Own m S 57 4 v r.length (r.reverse.flatMap tC)) (hl : r.length < 1000000000) :
    FnR Tryz.prog 56 [v, tV x] m fun u m' => ∃ S', Ev.Own m' S' 57 4 u (tj r x).length ((tj r x).reverse.flatMap tC) ∧ Ext m S m' ∧ FpNew m S S' := by
  obtain ⟨A5, c5, rfl, hc5⟩ := h.shape
  refine FnE.enter ⟨_, Tryz.func56, by kernel_rfl, by kernel_rfl⟩ Tryz.func56 rfl rfl ?_
  (with_reducible repeat (first | refine WP.S1 ?_ | refine WP.B1 ?_ | refine WP.R1 ?_))
  refine RL.box rfl rfl (fun b7 m7 hb7 hC => ⟨_, rfl, ?_⟩)
  have hB7 : Blk m7 b7 57 (tC x) := hC.here
  have hE7 : Ext m [] m7 := hC.new (by omega)
  have hO7 := h.ext hE7 (by simp)
  have h7S : b7 ∉ S := fun hh => by have := h.lt _ hh; omega
  clear hC
  refine RL.A1 T_ok rfl ?_
  refine RL.N1 ?_; (with_reducible repeat (first | refine QN.B1 ?_ | refine QN.N1 ?_))
  refine WP.cut (X := Unit) (fun _ => [(0, .slice A5 r.length c5), (3, .pointer (some ⟨b7, 0, none⟩))]) (fun _ m' => m' = m7 ∧ tj r x = x :: r) ?_ ?_
  · (with_reducible repeat (first | refine WP.S1 ?_ | refine WP.B1 ?_ | refine WP.R1 ?_))
    rcases r with _ | ⟨y, r'⟩
    · refine RL.pure T_ok 3 rfl ?_
      refine RL.eqv (v' := .int .i64 (-1)) rfl ?_
      refine RL.A1 T_ok rfl ?_
      refine RL.N1 ?_; (with_reducible repeat (first | refine QN.B1 ?_ | refine QN.N1 ?_))
      (with_reducible repeat (first | refine WP.S1 ?_ | refine WP.B1 ?_ | refine WP.R1 ?_))
      refine WP.drawQ (fun m' => m' = m7) [] (by kernel_rfl) rfl (by with_reducible repeat (first | exact PanicOk.body | refine PanicOk.then_ ?_ | refine PanicOk.block_ ?_)) (fun hQ => ?_)
      refine RH.pure T_ok hQ [0, 1, 2, 3, 4, 5, 6, 7, 8, 9, 10, 11, 12, 13, 14, 15, 16, 17, 18, 19, 20, 21, 22, 23, 24, 25, 26, 27, 28, 29, 30, 31] (by kernel_rfl) rfl ?_
      refine RH.done (by kernel_rfl) (fun _ => ?_)
      (with_reducible repeat (first | refine QN.B1 ?_ | refine QN.N1 ?_))
      refine WP.condF rfl ?_
      refine WP.skip ?_
      exact QN.cutEnd () (Sub.C1 rfl (Sub.C1 rfl Sub.nil)) ⟨rfl, rfl⟩
    · have hrl : (y :: r').length = r'.length + 1 := rfl
      refine RL.pure T_ok 3 rfl ?_
      refine RL.eqv (v' := .int .i64 r'.length) (congrArg _ (by show IntKind.i64.wrap (((r'.length + 1 : Nat) : Int) - 1) = r'.length; rw [wrap_i64_in _ (by omega) (by omega)]; omega)) ?_
      refine RL.A1 T_ok rfl ?_
      refine RL.N1 ?_; (with_reducible repeat (first | refine QN.B1 ?_ | refine QN.N1 ?_))
      (with_reducible repeat (first | refine WP.S1 ?_ | refine WP.B1 ?_ | refine WP.R1 ?_))
      have hR7 : Ts m7 [] (.slice A5 (y :: r').length c5) (r'.reverse ++ [y]) := by
        have := hO7.sl (M := []) (by simp)
        rw [List.reverse_cons] at this; exact this
      obtain ⟨ad5, rfl, hy⟩ := hR7.cell r'.length (by simp)
      have hyy : (r'.reverse ++ [y])[r'.length]'(by simp) = y := by simp
      rw [hyy] at hy
      refine WP.drawQ (fun m' => m' = m7) [] (by kernel_rfl) rfl (by with_reducible repeat (first | exact PanicOk.body | refine PanicOk.then_ ?_ | refine PanicOk.block_ ?_)) (fun hQ => ?_)
      refine RH.pure T_ok hQ [0, 1] (by kernel_rfl) rfl ?_
      refine RH.eqv (v' := .bool true) (congrArg _ (decide_eq_true (by omega))) ?_
      refine RH.pure T_ok hQ [2, 3, 4] (by kernel_rfl) rfl ?_
      refine RH.indexAddr T_ok hQ 5 (k := r'.length) rfl (by kernel_rfl) rfl rfl rfl rfl rfl rfl rfl (by omega) rfl ?_
      refine RH.pure T_ok hQ [6] (by kernel_rfl) rfl ?_
      refine RH.load T_ok hQ 7 (fun m' hm' => by rw [hm']; exact hy 0 _ rfl) rfl (by kernel_rfl) rfl rfl rfl rfl ?_
      refine RH.pure T_ok hQ [8] (by kernel_rfl) rfl ?_
      refine RH.load T_ok hQ 9 (fun m' hm' => by rw [hm']; exact hB7.cell 0 rfl) rfl (by kernel_rfl) rfl rfl rfl rfl ?_
      refine RH.pure T_ok hQ [10] (by kernel_rfl) rfl ?_
      by_cases h1 : y.c = x.c
      · refine RH.eqv (v' := .bool true) (congrArg _ (by rw [deq]; exact decide_eq_true h1)) ?_
        refine RH.pure T_ok hQ [11, 12, 13, 14] (by kernel_rfl) rfl ?_
        refine RH.indexAddr T_ok hQ 15 (k := r'.length) rfl (by kernel_rfl) rfl rfl rfl rfl rfl rfl rfl (by omega) rfl ?_
        refine RH.pure T_ok hQ [16] (by kernel_rfl) rfl ?_
        refine RH.load T_ok hQ 17 (fun m' hm' => by rw [hm']; exact hy 2 _ rfl) rfl (by kernel_rfl) rfl rfl rfl rfl ?_
        refine RH.pure T_ok hQ [18] (by kernel_rfl) rfl ?_
        refine RH.load T_ok hQ 19 (fun m' hm' => by rw [hm']; exact hB7.cell 1 rfl) rfl (by kernel_rfl) rfl rfl rfl rfl ?_
        refine RH.pure T_ok hQ [20] (by kernel_rfl) rfl ?_
        by_cases h2 : y.t = x.f
        · refine RH.eqv (v' := .bool true) (congrArg _ (by rw [deq]; exact decide_eq_true h2)) ?_
          refine RH.pure T_ok hQ [21, 22, 23, 24] (by kernel_rfl) rfl ?_
          refine RH.indexAddr T_ok hQ 25 (k := r'.length) rfl (by kernel_rfl) rfl rfl rfl rfl rfl rfl rfl (by omega) rfl ?_
          refine RH.pure T_ok hQ [26] (by kernel_rfl) rfl ?_
          refine RH.load T_ok hQ 27 (fun m' hm' => by rw [hm']; exact hy 3 _ rfl) rfl (by kernel_rfl) rfl rfl rfl rfl ?_
          refine RH.pure T_ok hQ [28] (by kernel_rfl) rfl ?_
          refine RH.load T_ok hQ 29 (fun m' hm' => by rw [hm']; exact hB7.cell 3 rfl) rfl (by kernel_rfl) rfl rfl rfl rfl ?_
          refine RH.pure T_ok hQ [30] (by kernel_rfl) rfl ?_
          by_cases h3 : y.n = x.n
          · refine RH.eqv (v' := .bool true) (congrArg _ (by rw [deq]; exact decide_eq_true h3)) ?_
            refine RH.pure T_ok hQ [31] (by kernel_rfl) rfl ?_
            refine RH.done (by kernel_rfl) (fun _ => ?_)
            (with_reducible repeat (first | refine QN.B1 ?_ | refine QN.N1 ?_))
            refine WP.condT rfl ?_
            have hO8 : Ev.Own m7 S 57 4 (.slice (some ad5) (y :: r').length c5) (y :: r').length ((r'.reverse ++ [y]).flatMap tC) := by
              have := hO7; rw [List.reverse_cons] at this; exact this
            obtain ⟨g, cap, cur, hv8, hB8, rfl, hj8, hset⟩ := hO8.putN (j := r'.length * 4 + 2) (by rw [hrl]; omega)
            injection hv8 with hv8 hv8'
            injection hv8 with hv8
            subst hv8
            (with_reducible repeat (first | refine WP.S1 ?_ | refine WP.B1 ?_ | refine WP.R1 ?_))
            refine RL.A1 T_ok rfl ?_
            refine RL.load T_ok rfl rfl rfl (hB7.cell 2 rfl) rfl ?_
            refine RL.indexAddr (k := r'.length) T_ok rfl rfl rfl rfl rfl rfl rfl (by omega) rfl ?_
            refine RL.eqv (v' := .pointer (some ⟨g, r'.length * 4, none⟩)) (congrArg (fun q => Value.pointer (some q)) (by rw [add_block]; show (⟨g, 0 + r'.length * 4, none⟩ : Addr) = _; rw [Nat.zero_add])) ?_
            refine RL.A1 T_ok rfl ?_
            refine RL.store T_ok hB8 (i := r'.length * 4 + 2) (v := .int .u64 x.t) hj8 rfl rfl rfl rfl rfl rfl ?_
            intro m9 hC9
            have hO9 := hset m9 _ hC9
            rw [show r'.length * 4 + 2 = r'.reverse.length * 4 + 2 by rw [List.length_reverse], tsC_setT, ← List.reverse_cons] at hO9
            have htj : tj (y :: r') x = { y with t := x.t } :: r' := by rw [tj_cons, if_pos ⟨h1, h2, h3⟩]
            refine RL.N1 ?_; (with_reducible repeat (first | refine QN.B1 ?_ | refine QN.N1 ?_ | refine WP.S1 ?_ | refine WP.B1 ?_ | refine WP.R1 ?_))
            refine RL.A1 T_ok rfl ?_
            refine RL.N1 ?_; (with_reducible repeat (first | refine QN.B1 ?_ | refine QN.N1 ?_ | refine WP.S1 ?_ | refine WP.B1 ?_ | refine WP.R1 ?_))
            refine WP.ret ?_; (with_reducible repeat (first | refine QN.tr ?_ | refine QN.br ?_))
            refine QN.ret1 rfl rfl ⟨_, rfl, [g], ?_, (hE7.mono (by simp)).trans hC9.ext (fun k hk => .inl hk), FpNew.refl _ _⟩
            rw [htj]; exact hO9
          · refine RH.eqv (v' := .bool false) (congrArg _ (by rw [deq]; exact decide_eq_false h3)) ?_
            refine RH.pure T_ok hQ [31] (by kernel_rfl) rfl ?_
            refine RH.done (by kernel_rfl) (fun _ => ?_)
            (with_reducible repeat (first | refine QN.B1 ?_ | refine QN.N1 ?_))
            refine WP.condF rfl ?_
            refine WP.skip ?_
            exact QN.cutEnd () (Sub.C1 rfl (Sub.C1 rfl Sub.nil)) ⟨rfl, by rw [tj_cons, if_neg (fun hh => h3 hh.2.2)]⟩
        · refine RH.eqv (v' := .bool false) (congrArg _ (by rw [deq]; exact decide_eq_false h2)) ?_
          refine RH.pure T_ok hQ [21, 22, 23, 24, 25, 26, 27, 28, 29, 30, 31] (by kernel_rfl) rfl ?_
          refine RH.done (by kernel_rfl) (fun _ => ?_)
          (with_reducible repeat (first | refine QN.B1 ?_ | refine QN.N1 ?_))
          refine WP.condF rfl ?_
          refine WP.skip ?_
          exact QN.cutEnd () (Sub.C1 rfl (Sub.C1 rfl Sub.nil)) ⟨rfl, by rw [tj_cons, if_neg (fun hh => h2 hh.2.1)]⟩
      · refine RH.eqv (v' := .bool false) (congrArg _ (by rw [deq]; exact decide_eq_false h1)) ?_
        refine RH.pure T_ok hQ [11, 12, 13, 14, 15, 16, 17, 18, 19, 20, 21, 22, 23, 24, 25, 26, 27, 28, 29, 30, 31] (by kernel_rfl) rfl ?_
        refine RH.done (by kernel_rfl) (fun _ => ?_)
        (with_reducible repeat (first | refine QN.B1 ?_ | refine QN.N1 ?_))
        refine WP.condF rfl ?_
        refine WP.skip ?_
        exact QN.cutEnd () (Sub.C1 rfl (Sub.C1 rfl Sub.nil)) ⟨rfl, by rw [tj_cons, if_neg (fun hh => h1 hh.1)]⟩
  · rintro _ mc ⟨rfl, htj⟩
    (with_reducible repeat (first | refine QN.B1 ?_ | refine QN.N1 ?_))
    (with_reducible repeat (first | refine WP.S1 ?_ | refine WP.B1 ?_ | refine WP.R1 ?_))
    refine RL.A1 T_ok rfl ?_
    refine RL.loadAgg T_ok (tC x) rfl rfl rfl (fun j u hu => by rw [add_block]; exact hB7.cell _ (by simpa using hu)) rfl ?_
    refine RL.append1 T_ok [.tmp 49] hO7 (us := [tV x]) (tC x) rfl rfl rfl rfl rfl rfl rfl rfl rfl (by simp [tV, tC, Value.cells]) (by simp [tV, Value.cells]) (tC_one x) (by unfold maxLen; omega) (by show (_ + 1) * 32 ≤ _; omega) ?_
    intro v8 m8 S8 hO8 hE8 hF8
    refine ⟨_, rfl, ?_⟩
    refine RL.A1 T_ok rfl ?_
    refine RL.N1 ?_; (with_reducible repeat (first | refine QN.B1 ?_ | refine QN.N1 ?_ | refine WP.S1 ?_ | refine WP.B1 ?_ | refine WP.R1 ?_))
    refine WP.ret ?_; (with_reducible repeat (first | refine QN.tr ?_ | refine QN.br ?_))
    refine QN.ret1 rfl rfl ⟨_, rfl, S8, ?_, (hE7.mono (by simp)).trans hE8 (fun k hk => .inl hk), hF8.trans' hE7⟩
    rw [htj, List.reverse_cons, ← tsC_app]
    exact hO8
end Go.Proofs.YtmjpcaiehfimgaaGreatDoor
end
section
namespace Go.Proofs.YtmjpcaiehfimgaaGreatDoor
open Go.RowKit Go.Ev Go.Ids
def Swp (mB mZ : World) (Z : List Nat) (m : World) (b5 b6 b7 : Nat) (P : List Trn) (c0 a : Nat) (op out : List Trn) : Prop :=
  Swept P c0 a op out ∧ Ext mB [] m ∧ ∃ S5 S6 v5 v6, Blk m b5 24 [v5] ∧ Blk m b6 24 [v6] ∧ Blk m b7 22 [.int .u64 a] ∧
    Ev.Own m S5 57 4 v5 out.length (out.reverse.flatMap tC) ∧ Ev.Own m S6 57 4 v6 op.length (op.flatMap tC) ∧
    (∀ k ∈ S5, mB.heap.size ≤ k ∧ k ≠ b5 ∧ k ≠ b6 ∧ k ≠ b7 ∧ k ∉ S6) ∧ (∀ k ∈ S6, mB.heap.size ≤ k ∧ k ≠ b5 ∧ k ≠ b6 ∧ k ≠ b7) ∧
    ∀ k ∈ Z, k < m.heap.size ∧ m.heap[k]? = mZ.heap[k]? ∧ k ≠ b5 ∧ k ≠ b6 ∧ k ≠ b7 ∧ k ∉ S5 ∧ k ∉ S6
theorem Swp.ext {mB mZ m m' : World} {Z : List Nat} {b5 b6 b7 : Nat} {P : List Trn} {c0 a : Nat} {op out : List Trn} (h : Swp mB mZ Z m b5 b6 b7 P c0 a op out) (hE : Ext m [] m') : Swp mB mZ Z m' b5 b6 b7 P c0 a op out := by
  obtain ⟨h0, h1, S5, S6, v5, v6, g1, g2, g3, g4, g5, g6, g7, g8⟩ := h
  exact ⟨h0, h1.trans hE (by simp), S5, S6, v5, v6, g1.ext hE (by simp), g2.ext hE (by simp), g3.ext hE (by simp), g4.ext hE (by simp), g5.ext hE (by simp), g6, g7, fun k hk => by
    obtain ⟨z1, z2, z3⟩ := g8 k hk
    exact ⟨Nat.lt_of_lt_of_le z1 hE.size, (hE.far k z1 (by simp)).trans z2, z3⟩⟩
theorem tEnd_succ (u : Nat) (l : List Trn) (j : Nat) (h : j < l.length) : tEnd u (l.take (j + 1)) = min (tEnd u (l.take j)) l[j].t := by
  unfold tEnd
  rw [List.take_succ_eq_append_getElem h, List.foldl_append]; rfl
theorem tTop_succ (l : List Trn) (j : Nat) (h : j < l.length) : tTop (l.take (j + 1)) = max (tTop (l.take j)) l[j].n := by
  unfold tTop
  rw [List.take_succ_eq_append_getElem h, List.foldl_append]; rfl
theorem minV (a b : Nat) : Value.int .u64 (if (b : Int) < (a : Int) then (b : Int) else (a : Int)) = .int .u64 (min a b : Nat) := congrArg _ (by split <;> omega)
theorem maxV (a b : Nat) : Value.int .u64 (if (b : Int) > (a : Int) then (b : Int) else (a : Int)) = .int .u64 (max a b : Nat) := congrArg _ (by split <;> omega)
theorem tj_len (r : List Trn) (x : Trn) : (tj r x).length ≤ r.length + 1 := by
  cases r with
  | nil => simp [tj]
  | cons y r => rw [tj_cons]; split <;> simp
theorem filter_drop {op : List Trn} {u : Nat} (h : tEnd u op < u) : (op.filter fun x => decide (¬ x.t ≤ tEnd u op)).length + 1 ≤ op.length := by
  obtain ⟨-, -, h3⟩ := tEnd_spec op u
  rcases h3 with h3 | ⟨x, hx, h3⟩
  · omega
  · generalize tEnd u op = e at *
    subst h3
    induction op with
    | nil => cases hx
    | cons y l ih =>
      rw [List.filter_cons]
      rcases List.mem_cons.1 hx with rfl | hx
      · rw [if_neg (by simp)]
        have := List.length_filter_le (fun z : Trn => decide (¬ z.t ≤ x.t)) l
        simp only [List.length_cons]; omega
      · have h1 := ih hx
        split <;> simp only [List.length_cons] <;> omega
theorem flush_c (mB mZ : World) (Z : List Nat) (m : World) (b5 b6 b7 : Nat) (hb : b5 ≠ b6 ∧ b5 ≠ b7 ∧ b6 ≠ b7 ∧ mB.heap.size ≤ b5 ∧ mB.heap.size ≤ b6 ∧ mB.heap.size ≤ b7) (P : List Trn) (c0 a : Nat) (op out : List Trn) (u : Nat) (hu : u ≤ 9007199254740992)
    (h : Swp mB mZ Z m b5 b6 b7 P c0 a op out) (hl : out.length + op.length < 1000000000) (hau : a ≤ u) :
    FnR Tryz.prog 55 [.int .u64 c0, .int .u64 u, .pointer (some ⟨b6, 0, none⟩), .pointer (some ⟨b7, 0, none⟩), .pointer (some ⟨b5, 0, none⟩)] m fun _ m' => ∃ a' op' out', Swp mB mZ Z m' b5 b6 b7 P c0 a' op' out' ∧ (op' = [] ∨ a' = u) ∧ a' ≤ u ∧ out'.length + op'.length ≤ out.length + op.length + 1 := by
  obtain ⟨hb1, hb2, hb3, hb4, hb5, hb6⟩ := hb
  refine FnE.enter ⟨_, Tryz.func55, by kernel_rfl, by kernel_rfl⟩ Tryz.func55 rfl rfl ?_
  refine (WP.B1 ?_)
  refine (WP.loop (X := Nat × List Trn × List Trn) (fun _ => [(0, .int .u64 c0), (1, .int .u64 u), (2, .pointer (some ⟨b6, 0, none⟩)), (3, .pointer (some ⟨b7, 0, none⟩)), (4, .pointer (some ⟨b5, 0, none⟩))])
    (fun x m' => x.1 ≤ u ∧ (x.2.2.length + x.2.1.length ≤ out.length + op.length ∨ (x.1 = u ∧ x.2.2.length + x.2.1.length ≤ out.length + op.length + 1)) ∧ Swp mB mZ Z m' b5 b6 b7 P c0 x.1 x.2.1 x.2.2) (fun x => u - x.1) (a, op, out)
    (Sub.C1 rfl (Sub.C1 rfl (Sub.C1 rfl (Sub.C1 rfl (Sub.C1 rfl Sub.nil))))) ⟨hau, .inl (Nat.le_refl _), h⟩ ?_)
  rintro ⟨a1, op1, out1⟩ m1 ⟨ha1, hl1, hsw, hE1, S5, S6, v5, v6, g1, g2, g3, g4, g5, g6, g7, g8⟩
  simp only at ha1 hl1 hsw g3 g4 g5
  obtain ⟨A6, c6, rfl, _⟩ := g5.shape
  (with_reducible repeat (first | refine WP.S1 ?_ | refine WP.B1 ?_ | refine WP.R1 ?_))
  refine RL.load T_ok rfl rfl rfl (g2.cell 0 rfl) rfl ?_
  refine RL.pure T_ok 1 rfl ?_
  rcases hop : op1 with _ | ⟨y, op2⟩
  · subst hop
    refine RL.A1 T_ok rfl ?_
    refine RL.N1 ?_; (with_reducible repeat (first | refine QN.B1 ?_ | refine QN.N1 ?_ | refine WP.S1 ?_ | refine WP.B1 ?_ | refine WP.R1 ?_))
    refine WP.condF rfl ?_
    refine WP.exit ?_; (with_reducible repeat (first | refine QN.tx ?_ | refine QN.bx ?_ | refine QN.block_far rfl ?_ | refine QN.B1 ?_ | refine QN.N1 ?_)); (with_reducible repeat (first | refine WP.S1 ?_ | refine WP.B1 ?_ | refine WP.R1 ?_))
    exact QN.end0 rfl ⟨_, rfl, a1, [], out1, ⟨hsw, hE1, S5, S6, v5, _, g1, g2, g3, g4, g5, g6, g7, g8⟩, .inl rfl, ha1, by omega⟩
  have hne : op1 ≠ [] := by rw [hop]; simp
  have hyc : y.c = c0 := (hsw.opens y (by rw [hop]; simp)).2.1
  rw [← hop]
  have hpos : 0 < op1.length := by rw [hop]; simp
  have hR6 : Ts m1 [] (.slice A6 op1.length c6) op1 := g5.sl (by simp)
  obtain ⟨ad, rfl, hx⟩ := hR6.cell 0 hpos
  have hx0 : op1[0] = y := by simp [hop]
  rw [hx0] at hx
  refine RL.pure T_ok 1 rfl ?_
  refine RL.eqv (v' := .bool true) (congrArg _ (decide_eq_true (by omega))) ?_
  refine RL.pure T_ok 1 rfl ?_
  refine RL.load T_ok rfl rfl rfl (g2.cell 0 rfl) rfl ?_
  refine RL.indexAddr (k := 0) T_ok rfl rfl rfl rfl rfl rfl rfl hpos rfl ?_
  refine RL.pure T_ok 1 rfl ?_
  refine RL.load T_ok rfl rfl rfl (hx 0 _ rfl) rfl ?_
  refine RL.pure T_ok 2 rfl ?_
  refine RL.eqv (v' := .bool true) (congrArg _ (by rw [deq]; exact decide_eq_true hyc)) ?_
  refine RL.pure T_ok 2 rfl ?_
  refine RL.load T_ok rfl rfl rfl (g3.cell 0 rfl) rfl ?_
  by_cases hau1 : a1 < u
  rotate_left
  · refine RL.pure T_ok 2 rfl ?_
    refine RL.eqv (v' := .bool false) (congrArg _ (by rw [dlt]; exact decide_eq_false hau1)) ?_
    refine RL.A1 T_ok rfl ?_
    refine RL.N1 ?_; (with_reducible repeat (first | refine QN.B1 ?_ | refine QN.N1 ?_ | refine WP.S1 ?_ | refine WP.B1 ?_ | refine WP.R1 ?_))
    refine WP.condF rfl ?_
    refine WP.exit ?_; (with_reducible repeat (first | refine QN.tx ?_ | refine QN.bx ?_ | refine QN.block_far rfl ?_ | refine QN.B1 ?_ | refine QN.N1 ?_)); (with_reducible repeat (first | refine WP.S1 ?_ | refine WP.B1 ?_ | refine WP.R1 ?_))
    exact QN.end0 rfl ⟨_, rfl, a1, op1, out1, ⟨hsw, hE1, S5, S6, v5, _, g1, g2, g3, g4, g5, g6, g7, g8⟩, .inr (by omega), ha1, by omega⟩
  have hl1 : out1.length + op1.length ≤ out.length + op.length := by rcases hl1 with h1 | h1 <;> omega
  obtain ⟨p1, p2, p3⟩ := hsw.piece hne hau1 hu
  refine RL.pure T_ok 2 rfl ?_
  refine RL.eqv (v' := .bool true) (congrArg _ (by rw [dlt]; exact decide_eq_true hau1)) ?_
  refine RL.A1 T_ok rfl ?_
  refine RL.N1 ?_; (with_reducible repeat (first | refine QN.B1 ?_ | refine QN.N1 ?_ | refine WP.S1 ?_ | refine WP.B1 ?_ | refine WP.R1 ?_))
  refine WP.condT rfl ?_
  refine WP.skip ?_; (with_reducible repeat (first | refine QN.B1 ?_ | refine QN.N1 ?_ | refine WP.S1 ?_ | refine WP.B1 ?_ | refine WP.R1 ?_))
  refine RL.A1 T_ok rfl ?_
  refine RL.N1 ?_; (with_reducible repeat (first | refine QN.B1 ?_ | refine QN.N1 ?_ | refine WP.S1 ?_ | refine WP.B1 ?_ | refine WP.R1 ?_))
  refine RL.load T_ok rfl rfl rfl (g2.cell 0 rfl) rfl ?_
  refine RL.A1 T_ok rfl ?_
  refine RL.N1 ?_; (with_reducible repeat (first | refine QN.B1 ?_ | refine QN.N1 ?_ | refine WP.S1 ?_ | refine WP.B1 ?_ | refine WP.R1 ?_))
  refine (WP.loop (X := Nat) (fun j => [(0, .int .u64 c0), (1, .int .u64 u), (2, .pointer (some ⟨b6, 0, none⟩)), (3, .pointer (some ⟨b7, 0, none⟩)), (4, .pointer (some ⟨b5, 0, none⟩)), (28, .slice (some ad) op1.length c6), (29, .int .i64 op1.length), (7, .int .u64 (tEnd u (op1.take j))), (8, .int .u64 (tTop (op1.take j))), (30, .int .i64 j)])
    (fun j m' => j ≤ op1.length ∧ Ext m1 [] m') (fun j => op1.length - j) 0
    (Sub.C1 rfl (Sub.C1 rfl (Sub.C1 rfl (Sub.C1 rfl (Sub.C1 rfl (Sub.C1 rfl (Sub.C1 rfl (Sub.C1 rfl (Sub.C1 rfl (Sub.C1 rfl Sub.nil)))))))))) ⟨by simp, Ext.refl _ _⟩ ?_)
  rintro j m2 ⟨hj, hE2⟩
  (with_reducible repeat (first | refine WP.S1 ?_ | refine WP.B1 ?_ | refine WP.R1 ?_))
  refine RL.A1 T_ok rfl ?_
  refine RL.N1 ?_; (with_reducible repeat (first | refine QN.B1 ?_ | refine QN.N1 ?_ | refine WP.S1 ?_ | refine WP.B1 ?_ | refine WP.R1 ?_))
  refine WP.cond rfl (fun hc => ?_) (fun hc => ?_)
  · have hc : j < op1.length := by have := of_decide_eq_true hc; omega
    obtain ⟨ad', had', hz⟩ := (hR6.ext0 hE2).cell j hc
    injection had' with had'
    subst had'
    refine WP.skip ?_; (with_reducible repeat (first | refine QN.B1 ?_ | refine QN.N1 ?_ | refine WP.S1 ?_ | refine WP.B1 ?_ | refine WP.R1 ?_))
    refine RL.indexAddr (k := j) T_ok rfl rfl rfl rfl rfl rfl rfl hc rfl ?_
    refine RL.loadAgg T_ok (tC op1[j]) rfl rfl rfl hz rfl ?_
    refine RL.alloc T_ok rfl rfl (fun b10 m3 hb10 hC3 => ⟨_, rfl, ?_⟩)
    refine RL.storeAgg T_ok (b := b10) (i := 0) (vs := tC op1[j]) (cs := [.int .u64 0, .int .u64 0, .int .u64 0, .int .u64 0]) hC3.blk rfl rfl rfl rfl rfl (by simp) (by simp [tC, Value.oneCell']) rfl ?_
    intro m4 hC4
    have hE4 : Ext m2 [] m4 := (hC3.new (by omega)).trans hC4.ext (fun q hq => .inr (by have h9 : q = b10 := (by simpa using hq); omega))
    have hB4 : Blk m4 b10 57 (tC op1[j]) := hC4.blk
    refine RL.N1 ?_; (with_reducible repeat (first | refine QN.B1 ?_ | refine QN.N1 ?_))
    (with_reducible repeat (first | refine WP.S1 ?_ | refine WP.B1 ?_ | refine WP.R1 ?_))
    refine WP.drawQ (fun m' => m' = m4) [] (by kernel_rfl) rfl (by with_reducible repeat (first | exact PanicOk.body | refine PanicOk.then_ ?_ | refine PanicOk.block_ ?_)) (fun hQ => ?_)
    refine RH.pure T_ok hQ [0, 1] (by kernel_rfl) rfl ?_
    refine RH.load T_ok hQ 2 (fun m' hm' => by rw [hm']; exact hB4.cell 2 rfl) rfl (by kernel_rfl) rfl rfl rfl rfl ?_
    refine RH.pure T_ok hQ [3] (by kernel_rfl) rfl ?_
    refine RH.eqv (v' := .int .u64 (tEnd u (op1.take (j + 1)))) (by rw [tEnd_succ u op1 j hc]; exact minV _ _) ?_
    refine RH.pure T_ok hQ [4, 5] (by kernel_rfl) rfl ?_
    refine RH.load T_ok hQ 6 (fun m' hm' => by rw [hm']; exact hB4.cell 3 rfl) rfl (by kernel_rfl) rfl rfl rfl rfl ?_
    refine RH.pure T_ok hQ [7] (by kernel_rfl) rfl ?_
    refine RH.eqv (v' := .int .u64 (tTop (op1.take (j + 1)))) (by rw [tTop_succ op1 j hc]; exact maxV _ _) ?_
    refine RH.pure T_ok hQ [8, 9] (by kernel_rfl) rfl ?_
    refine RH.done (by kernel_rfl) (fun _ => ?_)
    (with_reducible repeat (first | refine QN.B1 ?_ | refine QN.N1 ?_))
    (with_reducible repeat (first | refine WP.S1 ?_ | refine WP.B1 ?_ | refine WP.R1 ?_))
    refine RL.pure T_ok 1 rfl ?_
    refine RL.eqv (v' := .int .i64 ((j + 1 : Nat) : Int)) (congrArg _ (by rw [wrap_i64_in _ (by omega) (by omega)]; rfl)) ?_
    refine RL.A1 T_ok rfl ?_
    exact RL.N1 (QN.round (j + 1) (Sub.C1 rfl (Sub.C1 rfl (Sub.C1 rfl (Sub.C1 rfl (Sub.C1 rfl (Sub.C1 rfl (Sub.C1 rfl (Sub.C1 rfl (Sub.C1 rfl (Sub.C1 rfl Sub.nil)))))))))) ⟨by omega, hE2.trans hE4 (by simp)⟩ (by omega))
  · have hc : j = op1.length := by have := of_decide_eq_false hc; omega
    subst hc
    rw [List.take_length]
    have k1 := g1.ext hE2 (by simp)
    have k2 := g2.ext hE2 (by simp)
    have k3 := g3.ext hE2 (by simp)
    have k4 := g4.ext hE2 (by simp)
    have k5 := g5.ext hE2 (by simp)
    have hE12 := hE1.trans hE2 (by simp)
    have lt5 := k1.lt
    have lt6 := k2.lt
    have lt7 := k3.lt
    have ltS6 := k5.lt
    have htl := tj_len out1 ⟨c0, a1, tEnd u op1, tTop op1⟩
    refine WP.exit ?_; (with_reducible repeat (first | refine QN.tx ?_ | refine QN.bx ?_ | refine QN.block_far rfl ?_ | refine QN.B1 ?_ | refine QN.N1 ?_)); (with_reducible repeat (first | refine WP.S1 ?_ | refine WP.B1 ?_ | refine WP.R1 ?_))
    refine RL.load T_ok rfl rfl rfl (k1.cell 0 rfl) rfl ?_
    refine RL.A1 T_ok rfl ?_
    refine RL.load T_ok rfl rfl rfl (k3.cell 0 rfl) rfl ?_
    refine RL.A1 T_ok rfl ?_
    refine RL.eqv (v' := tV ⟨c0, a1, tEnd u op1, tTop op1⟩) rfl ?_
    refine RL.call (fi := []) (ca := []) rfl rfl rfl rfl (joined_c m2 S5 v5 out1 ⟨c0, a1, tEnd u op1, tTop op1⟩ k4 (by omega)) ?_
    rintro w5 m3 ⟨T5, hO3, hE3, hF3⟩
    refine ⟨_, rfl, ?_⟩
    have j5 : ∀ k ∈ T5, mB.heap.size ≤ k ∧ k ≠ b5 ∧ k ≠ b6 ∧ k ≠ b7 ∧ k ∉ S6 := fun k hk => by
      rcases hF3 k hk with h9 | h9
      · exact g6 k h9
      · have := hE12.size
        exact ⟨by omega, by omega, by omega, by omega, fun hh => by have := ltS6 k hh; omega⟩
    have q1 := k1.ext hE3 (fun hh => (g6 _ hh).2.1 rfl)
    have q2 := k2.ext hE3 (fun hh => (g6 _ hh).2.2.1 rfl)
    have q3 := k3.ext hE3 (fun hh => (g6 _ hh).2.2.2.1 rfl)
    have q5 := k5.ext hE3 (fun k hk hh => (g6 _ hh).2.2.2.2 hk)
    have hE13 := hE12.trans hE3 (fun k hk => .inr (g6 k hk).1)
    refine RL.store T_ok q1 (i := 0) (v := w5) (by simp) rfl rfl rfl rfl hO3.one rfl ?_
    intro m4 hC4
    have r1 : Blk m4 b5 24 [w5] := hC4.blk
    have r2 := q2.far hC4 (by omega)
    have r3 := q3.far hC4 (by omega)
    have r4 := hO3.ext hC4.ext (fun k hk hh => (j5 k hk).2.1 (by simpa using hh))
    have r5 := q5.ext hC4.ext (fun k hk hh => (g7 k hk).2.1 (by simpa using hh))
    have hE14 := hE13.trans hC4.ext (fun k hk => .inr (by have h9 : k = b5 := (by simpa using hk); omega))
    refine RL.N1 ?_; (with_reducible repeat (first | refine QN.B1 ?_ | refine QN.N1 ?_ | refine WP.S1 ?_ | refine WP.B1 ?_ | refine WP.R1 ?_))
    refine RL.A1 T_ok rfl ?_
    refine RL.store T_ok r3 (i := 0) (v := .int .u64 (tEnd u op1)) (by simp) rfl rfl rfl rfl rfl rfl ?_
    intro m5 hC5
    have t1 := r1.far hC5 (by omega)
    have t2 := r2.far hC5 (by omega)
    have t3 : Blk m5 b7 22 [.int .u64 (tEnd u op1)] := hC5.blk
    have t4 := r4.ext hC5.ext (fun k hk hh => (j5 k hk).2.2.2.1 (by simpa using hh))
    have t5 := r5.ext hC5.ext (fun k hk hh => (g7 k hk).2.2.2 (by simpa using hh))
    have hE15 := hE14.trans hC5.ext (fun k hk => .inr (by have h9 : k = b7 := (by simpa using hk); omega))
    refine RL.N1 ?_; (with_reducible repeat (first | refine QN.B1 ?_ | refine QN.N1 ?_ | refine WP.S1 ?_ | refine WP.B1 ?_ | refine WP.R1 ?_))
    refine RL.load T_ok rfl rfl rfl (t2.cell 0 rfl) rfl ?_
    refine RL.A1 T_ok rfl ?_
    refine RL.call (fi := []) (ca := []) rfl rfl rfl rfl (deleteT_c m5 S6 _ op1 t5 (by omega) 58 [.pointer (some ⟨b7, 0, none⟩)] (fun x => decide (x.t ≤ tEnd u op1)) (fun q => Blk q b7 22 [.int .u64 (tEnd u op1)]) t3 (fun q1 q2 hq hE => hq.ext hE (fun hh => (g7 _ hh).2.2.2 rfl)) (fun q1 x hq => del1_c q1 x b7 _ hq)) ?_
    rintro w6 m6 ⟨hO6, hE6⟩
    refine ⟨_, rfl, ?_⟩
    have hfe : (op1.filter fun x => !decide (x.t ≤ tEnd u op1)) = op1.filter fun x => decide (¬ x.t ≤ tEnd u op1) := List.filter_congr (fun x _ => by rw [decide_not])
    rw [hfe] at hO6
    have u1 := t1.ext hE6 (fun hh => (g7 _ hh).2.1 rfl)
    have u2 := t2.ext hE6 (fun hh => (g7 _ hh).2.2.1 rfl)
    have u3 := t3.ext hE6 (fun hh => (g7 _ hh).2.2.2 rfl)
    have u4 := t4.ext hE6 (fun k hk hh => (j5 k hk).2.2.2.2 hh)
    have hE16 := hE15.trans hE6 (fun k hk => .inr (g7 k hk).1)
    refine RL.store T_ok u2 (i := 0) (v := w6) (by simp) rfl rfl rfl rfl hO6.one rfl ?_
    intro m7 hC7
    have hE17 := hE16.trans hC7.ext (fun k hk => .inr (by have h9 : k = b6 := (by simpa using hk); omega))
    have hfl := List.length_filter_le (fun x : Trn => decide (¬ x.t ≤ tEnd u op1)) op1
    have hz8 : ∀ k ∈ Z, k < m7.heap.size ∧ m7.heap[k]? = mZ.heap[k]? ∧ k ≠ b5 ∧ k ≠ b6 ∧ k ≠ b7 ∧ k ∉ T5 ∧ k ∉ S6 := fun k hk => by
      obtain ⟨z1, z2, z3, z4, z5, z6, z7⟩ := g8 k hk
      have e2 := hE2.size
      have e3 := hE3.size
      have e4 := hC4.ext.size
      have e5 := hC5.ext.size
      have e6 := hE6.size
      have e7 := hC7.ext.size
      refine ⟨by omega, ?_, z3, z4, z5, fun hh => ?_, z7⟩
      · exact (hC7.far k (by omega)).trans ((hE6.far k (by omega) z7).trans ((hC5.far k (by omega)).trans ((hC4.far k (by omega)).trans ((hE3.far k (by omega) z6).trans ((hE2.far k (by omega) (by simp)).trans z2)))))
      · rcases hF3 k hh with h9 | h9
        · exact z6 h9
        · omega
    refine RL.N1 ?_
    (with_reducible repeat (first | refine QN.B1 ?_ | refine QN.N1 ?_))
    refine QN.round (tEnd u op1, op1.filter (fun x => decide (¬ x.t ≤ tEnd u op1)), tj out1 ⟨c0, a1, tEnd u op1, tTop op1⟩) (Sub.C1 rfl (Sub.C1 rfl (Sub.C1 rfl (Sub.C1 rfl (Sub.C1 rfl Sub.nil))))) ⟨p2, ?_, p3, hE17, T5, S6, w5, w6, u1.far hC7 (by omega), hC7.blk, u3.far hC7 (by omega), u4.ext hC7.ext (fun k hk hh => (j5 k hk).2.2.1 (by simpa using hh)), hO6.ext hC7.ext (fun k hk hh => (g7 k hk).2.2.1 (by simpa using hh)), j5, g7, hz8⟩ (by show u - tEnd u op1 < u - a1; omega)
    rcases Nat.lt_or_eq_of_le p2 with h9 | h9
    · have := filter_drop h9
      exact .inl (by simp only; omega)
    · exact .inr ⟨h9, by simp only; omega⟩
end Go.Proofs.YtmjpcaiehfimgaaGreatDoor
end
section
namespace Go.Proofs.YtmjpcaiehfimgaaGreatDoor
open Go.RowKit Go.Ev Go.Ids
def TurnsI (m : World) (b1 b2 b3 : Nat) (v : Value) (l : List Trn) (pre : List Trn) (a : World) : Prop :=
  ∃ S ov, Blk a b3 24 [ov] ∧ Ev.Own a S 57 4 ov pre.length (pre.flatMap tC) ∧ (∀ k ∈ S, m.heap.size ≤ k ∧ k ≠ b3 ∧ k ≠ b1 ∧ k ≠ b2) ∧ Ext m [] a ∧ TK b1 b2 v l 50 a
theorem TurnsI.kc {m a b : World} {b1 b2 b3 B : Nat} {v : Value} {l pre : List Trn} (h : TurnsI m b1 b2 b3 v l pre a) (hK : Kc B a b) (hB : m.heap.size ≤ B) : TurnsI m b1 b2 b3 v l pre b := by
  obtain ⟨S, ov, h1, h2, h3, h4, h5, h6, h7⟩ := h
  exact ⟨S, ov, h1.kc hK, h2.kc hK, h3, h4.of_kc hK hB, h5.kc hK, h6.kc hK, Sl.kc h7 hK⟩
def TMade (m : World) (r : Value) (L : List Trn) (m' : World) : Prop := ∃ S', Ev.Own m' S' 57 4 r L.length (L.flatMap tC) ∧ New m S' m'
theorem TMade.ext {m m' : World} {r : Value} {l : List Trn} (h : TMade m r l m') : Ext m [] m' := by obtain ⟨_, _, h⟩ := h; exact h.1
theorem TMade.ts {m m' : World} {r : Value} {l : List Trn} (h : TMade m r l m') : Ts m' [] r l := by obtain ⟨_, h, _⟩ := h; exact h.sl (by simp)
def TForm (l L : List Trn) : Prop := TCanon L ∧ (∀ c k, turnOf L c k = turnOf l c k) ∧ L.length ≤ 2 * l.length + 2
theorem turnsF_c (m : World) (v : Value) (l : List Trn) (h : Ts m [] v l) (hl : l.length < 200000000) :
    FnR Tryz.prog 23 [v] m fun r m' => ∃ L, TForm l L ∧ TMade m r L m' := by
  obtain ⟨A, c, rfl, _, _⟩ := h.shape
  refine FnE.enterM ⟨_, Tryz.func23, by kernel_rfl, by kernel_rfl⟩ Tryz.func23 rfl rfl ?_
  (with_reducible repeat (first | refine WP.S1 ?_ | refine WP.B1 ?_ | refine WP.R1 ?_))
  refine RL.A1 T_ok rfl ?_
  refine RL.N1 ?_; (with_reducible repeat (first | refine QN.B1 ?_ | refine QN.N1 ?_))
  (with_reducible repeat (first | refine WP.S1 ?_ | refine WP.B1 ?_ | refine WP.R1 ?_))
  refine RL.alloc T_ok rfl rfl (fun b3 m1 hb3 hC1 => ⟨_, rfl, ?_⟩)
  have hB1 : Blk m1 b3 24 [.slice none 0 0] := hC1.blk
  have hE1 : Ext m [] m1 := hC1.new (by omega)
  have s1 := hC1.size
  refine RL.N1 ?_; (with_reducible repeat (first | refine QN.B1 ?_ | refine QN.N1 ?_ | refine WP.S1 ?_ | refine WP.B1 ?_ | refine WP.R1 ?_))
  refine RL.A1 T_ok rfl ?_
  refine RL.call (fi := []) (ca := []) rfl rfl rfl rfl (rightsT_c m1 (.slice A l.length c) l 50) ?_
  rintro _ m2 ⟨b1, b2, rfl, g1, g2, hE2, hRK⟩
  refine ⟨_, rfl, ?_⟩
  have hRK := hRK (h.ext0 hE1)
  have hB2 := hB1.ext hE2 (by simp)
  have hEm := hE1.trans hE2 (by simp)
  have lb1 := hRK.1.lt
  have lb2 := hRK.2.1.lt
  have lb3 := hB2.lt
  refine RL.sub (e' := [(3, .pointer (some ⟨b3, 0, none⟩)), (13, .func (.func 75) #[] #[.pointer (some ⟨b1, 0, none⟩), .pointer (some ⟨b2, 0, none⟩)])]) (Sub.C1 rfl (Sub.C1 rfl Sub.nil)) ?_
  refine RL.N1 ?_; (with_reducible repeat (first | refine QN.B1 ?_ | refine QN.N1 ?_ | refine WP.S1 ?_ | refine WP.B1 ?_ | refine WP.R1 ?_))
  refine WP.rangeFunc (ps := [14]) (gf := 75) (lb := [.pointer (some ⟨b1, 0, none⟩), .pointer (some ⟨b2, 0, none⟩)]) (fun x : Trn => [tV x]) rfl (rightsT1_c m2 b1 b2 (.slice A l.length c) l (by omega) 50 Trn.right (fun m1 x => turn_c m1 x)) ⟨_, Tryz.func75, by kernel_rfl, by kernel_rfl⟩
    (TurnsI m b1 b2 b3 (.slice A l.length c) l) (fun _ _ _ => False) (fun pre a b hi hK => hi.kc hK hEm.size) (fun _ _ _ _ hi _ => hi) (fun pre a ⟨_, _, _, _, _, _, hk⟩ => hk)
    ⟨[], .slice none 0 0, hB2, Own.empty _ _ _ _, (by simp), hEm, hRK⟩
    (fun x => [(14, tV x), (3, .pointer (some ⟨b3, 0, none⟩)), (13, .func (.func 75) #[] #[.pointer (some ⟨b1, 0, none⟩), .pointer (some ⟨b2, 0, none⟩)])]) (fun x => rfl) (fun x => rfl)
    (fun x b4 => [(4, .pointer (some ⟨b4, 0, none⟩)), (3, .pointer (some ⟨b3, 0, none⟩))]) (fun pre x b4 a => Blk a b4 57 (tC x) ∧ TurnsI m b1 b2 b3 (.slice A l.length c) l pre a) (fun pre x y a b hi hK => ⟨hi.1.kc hK, hi.2.kc hK hEm.size⟩)
    ?_ ?_ ?_ ?_
  · -- the round's variable
    rintro lp pre x m3 hI hlen hsz
    refine WP.R1 ?_
    refine RL.alloc T_ok rfl rfl (fun b4 m4 hb4 hC4 => ⟨_, rfl, ?_⟩)
    have hE4 : Ext m3 [] m4 := hC4.new (by omega)
    refine RL.storeAgg T_ok (b := b4) (i := 0) (vs := tC x) (cs := [.int .u64 0, .int .u64 0, .int .u64 0, .int .u64 0]) hC4.blk rfl rfl rfl rfl rfl (by simp) (by simp [tC, Value.oneCell']) rfl ?_
    intro m5 hC5
    have hE5 : Ext m3 [] m5 := hE4.trans hC5.ext (fun q hq => .inr (by have h9 : q = b4 := (by simpa using hq); omega))
    exact RL.N1 (QN.asgEnd b4 (Sub.C1 rfl (Sub.C1 rfl Sub.nil)) hE5.kn0 ⟨hC5.blk, hI.kc hE5.kc hEm.size⟩)
  · -- one more
    rintro lp pre x b4 m3 ⟨hB4, S, ov, hB3, hO, hS, hE3, hRK3⟩ hlen hsz
    replace hlen : pre.length < l.length := hlen.2
    (with_reducible repeat (first | refine WP.S1 ?_ | refine WP.B1 ?_ | refine WP.R1 ?_))
    refine RL.load T_ok rfl rfl rfl (hB3.cell 0 rfl) rfl ?_
    refine RL.loadAgg T_ok (tC x) rfl rfl rfl (fun j u hu => by rw [add_block]; exact hB4.cell _ (by simpa using hu)) rfl ?_
    refine RL.append1 T_ok [.tmp 16] hO (us := [tV x]) (tC x) rfl rfl rfl rfl rfl rfl rfl rfl rfl (by simp [tV, tC, Value.cells]) (by simp [tV, Value.cells]) (tC_one x) (by unfold maxLen; omega) (by show (_ + 1) * 32 ≤ _; omega) ?_
    intro v4 m4 S4 hO4 hE4 hF4
    refine ⟨_, rfl, ?_⟩
    have hB34 := hB3.ext hE4 (fun hh => (hS _ hh).2.1 rfl)
    refine RL.store T_ok hB34 (i := 0) (v := v4) (by simp) rfl rfl rfl rfl hO4.one rfl ?_
    intro m5 hC5
    have l1 := hRK3.1.lt
    have l2 := hRK3.2.1.lt
    have l3 := hB3.lt
    have hS4 : ∀ k ∈ S4, m.heap.size ≤ k ∧ k ≠ b3 ∧ k ≠ b1 ∧ k ≠ b2 := fun k hk => by
      rcases hF4 k hk with h9 | h9
      · exact hS k h9
      · have := hE3.size; exact ⟨by omega, by omega, by omega, by omega⟩
    have hE5 : Ext m3 (b3 :: S) m5 := (hE4.mono (fun k hk _ => zO _ hk)).trans hC5.ext (fun k hk => .inl (by have h9 : k = b3 := (by simpa using hk); simp [h9]))
    have hE5m : Ext m [] m5 := hE3.trans hE5 (fun k hk => .inr (by
      rcases List.mem_cons.1 hk with rfl | hk
      · omega
      · exact (hS k hk).1))
    refine RL.N1 ?_
    (with_reducible repeat (first | refine QN.B1 ?_ | refine QN.N1 ?_))
    refine QN.rdNormal (hE5.kn (fun k hk _ _ => ?_)) ⟨S4, v4, hC5.blk, ?_, hS4, hE5m, hRK3.1.ext hE5 ?_, hRK3.2.1.ext hE5 ?_, h.ext0 hE5m⟩
    · rcases List.mem_cons.1 hk with rfl | hk
      · exact ⟨_, _, _, hB3⟩
      · exact hO.cells k hk
    · rw [List.length_append, List.flatMap_append]
      exact (hO4.ext hC5.ext (fun k hk => by have := (hS4 k hk).2.1; simpa using this))
    · intro hh
      rcases List.mem_cons.1 hh with h9 | h9
      · omega
      · exact (hS _ h9).2.2.1 rfl
    · intro hh
      rcases List.mem_cons.1 hh with h9 | h9
      · omega
      · exact (hS _ h9).2.2.2 rfl
  · -- sorted, then swept
    rintro D xs m3 hD rfl ⟨S, ov, hB3, hO, hS, hE3, _⟩ hk
    have hDm : m.heap.size ≤ D := Nat.le_trans hEm.size hD
    have hDlt : D < m3.heap.size := (Array.getElem?_eq_some_iff.1 hk).1
    have hDnS : D ∉ S := fun hh => by
      obtain ⟨c1, t1, z1, h9⟩ := hO.cells D hh
      rw [h9] at hk; cases hk
    have hxl : (l.filter Trn.right).length ≤ l.length := List.length_filter_le _ _
    (with_reducible repeat (first | refine WP.S1 ?_ | refine WP.B1 ?_ | refine WP.R1 ?_))
    (with_reducible repeat (first | refine QN.B1 ?_ | refine QN.N1 ?_))
    (with_reducible repeat (first | refine WP.S1 ?_ | refine WP.B1 ?_ | refine WP.R1 ?_))
    refine RL.load T_ok rfl rfl rfl (hB3.cell 0 rfl) rfl ?_
    refine RL.call (fi := []) (ca := []) rfl rfl rfl rfl (sortT_c m3 S ov _ hO (by omega)) ?_
    rintro _ m4 ⟨rfl, hE4, d, hperm, hsort, hO4⟩
    refine ⟨_, rfl, ?_⟩
    have hB4 := hB3.ext hE4 (fun hh => (hS _ hh).2.1 rfl)
    have hk4 : m4.heap[D]? = some (.deferred (some [])) := (hE4.far D hDlt hDnS).trans hk
    have hE4m : Ext m [] m4 := hE3.trans hE4 (fun k hk => .inr (hS k hk).1)
    have hlen' : d.length ≤ l.length := by rw [hperm.length_eq]; exact hxl
    have hdr : ∀ x ∈ d, x.right = true := fun x hx => (List.mem_filter.1 (hperm.mem_iff.1 hx)).2
    obtain ⟨A', c', rfl, hc'⟩ := hO4.shape
    have hR4 : Ts m4 [] (.slice A' d.length c') d := hO4.sl (by simp)
    have hDlt4 : D < m4.heap.size := (Array.getElem?_eq_some_iff.1 hk4).1
    refine RL.N1 ?_; (with_reducible repeat (first | refine QN.B1 ?_ | refine QN.N1 ?_ | refine WP.S1 ?_ | refine WP.B1 ?_ | refine WP.R1 ?_))
    refine RL.alloc T_ok rfl rfl (fun b5 m5 hb5 hC5 => ⟨_, rfl, ?_⟩)
    refine RL.alloc T_ok rfl rfl (fun b6 m6 hb6 hC6 => ⟨_, rfl, ?_⟩)
    have hE5 : Ext m4 [] m5 := hC5.new (by omega)
    have hE6 : Ext m5 [] m6 := hC6.new (by omega)
    have s5 := hC5.size
    have s6 := hC6.size
    have hX5 : Blk m6 b5 24 [.slice none 0 0] := Blk.ext hC5.blk hE6 (by simp)
    have hX6 : Blk m6 b6 24 [.slice none 0 0] := hC6.blk
    clear hC5 hC6
    refine RL.N1 ?_; (with_reducible repeat (first | refine QN.B1 ?_ | refine QN.N1 ?_ | refine WP.S1 ?_ | refine WP.B1 ?_ | refine WP.R1 ?_))
    refine RL.alloc T_ok rfl rfl (fun b7 m7 hb7 hC7 => ⟨_, rfl, ?_⟩)
    have hE7 : Ext m6 [] m7 := hC7.new (by omega)
    have s7 := hC7.size
    refine RL.store T_ok (b := b7) (i := 0) (v := .int .u64 0) (cs := [.int .u64 0]) hC7.blk (by simp) rfl rfl rfl rfl rfl rfl ?_
    intro m8 hC8
    have hE8 : Ext m6 [] m8 := hE7.trans hC8.ext (fun k hk => .inr (by have h9 : k = b7 := (by simpa using hk); omega))
    have hE48 : Ext m4 [] m8 := (hE5.trans hE6 (by simp)).trans hE8 (by simp)
    have hsw0 : Swp m4 m4 [] m8 b5 b6 b7 [] 0 0 [] [] := ⟨Swept.start 0 0, hE48, [], [], _, _, hX5.ext hE8 (by simp), hX6.ext hE8 (by simp), hC8.blk, Own.empty _ _ _ _, Own.empty _ _ _ _, by simp, by simp, by simp⟩
    have hbs : b5 ≠ b6 ∧ b5 ≠ b7 ∧ b6 ≠ b7 ∧ m4.heap.size ≤ b5 ∧ m4.heap.size ≤ b6 ∧ m4.heap.size ≤ b7 := ⟨by omega, by omega, by omega, by omega, by omega, by omega⟩
    clear hC7 hC8
    refine RL.N1 ?_; (with_reducible repeat (first | refine QN.B1 ?_ | refine QN.N1 ?_ | refine WP.S1 ?_ | refine WP.B1 ?_ | refine WP.R1 ?_))
    refine RL.A1 T_ok rfl ?_
    refine RL.N1 ?_; (with_reducible repeat (first | refine QN.B1 ?_ | refine QN.N1 ?_ | refine WP.S1 ?_ | refine WP.B1 ?_ | refine WP.R1 ?_))
    refine RL.load T_ok rfl rfl rfl ((hB4.ext hE48 (by simp)).cell 0 rfl) rfl ?_
    refine RL.A1 T_ok rfl ?_
    refine RL.N1 ?_; (with_reducible repeat (first | refine QN.B1 ?_ | refine QN.N1 ?_ | refine WP.S1 ?_ | refine WP.B1 ?_ | refine WP.R1 ?_))
    obtain ⟨fv, hfv⟩ : ∃ fv : Value, fv = .func (.func 55) #[] #[.pointer (some ⟨b6, 0, none⟩), .pointer (some ⟨b7, 0, none⟩), .pointer (some ⟨b5, 0, none⟩)] := ⟨_, rfl⟩
    refine (WP.loop (X := Nat × Nat × Nat × List Trn × List Trn) (fun x => [(22, .slice A' d.length c'), (23, .int .i64 d.length), (24, .int .i64 x.1), (5, .pointer (some ⟨b5, 0, none⟩)), (6, .pointer (some ⟨b6, 0, none⟩)), (7, .pointer (some ⟨b7, 0, none⟩)), (8, fv)])
      (fun x m' => x.1 ≤ d.length ∧ Swp m4 m4 [] m' b5 b6 b7 (d.take x.1) x.2.1 x.2.2.1 x.2.2.2.1 x.2.2.2.2 ∧ x.2.2.2.2.length + x.2.2.2.1.length ≤ 2 * x.1 ∧ ∀ y ∈ d.drop x.1, x.2.1 < y.c ∨ (x.2.1 = y.c ∧ x.2.2.1 ≤ y.f)) (fun x => d.length - x.1) (0, 0, 0, [], [])
      (Sub.C1 rfl (Sub.C1 rfl (Sub.C1 rfl (Sub.C1 rfl (Sub.C1 rfl (Sub.C1 rfl (Sub.C1 ?_ Sub.nil))))))) ⟨by simp, hsw0, by simp, fun y hy => .inl (by have := tright_iff.1 (hdr y (by simpa using hy)); show 0 < y.c; omega)⟩ ?_)
    · rw [hfv]; rfl
    rintro ⟨i, c0, a, op, out⟩ m9 ⟨hi, hsw, hln, hord⟩
    simp only at hi hsw hln hord
    (with_reducible repeat (first | refine WP.S1 ?_ | refine WP.B1 ?_ | refine WP.R1 ?_))
    refine RL.A1 T_ok rfl ?_
    refine RL.N1 ?_; (with_reducible repeat (first | refine QN.B1 ?_ | refine QN.N1 ?_ | refine WP.S1 ?_ | refine WP.B1 ?_ | refine WP.R1 ?_))
    refine WP.cond rfl (fun hc => ?_) (fun hc => ?_)
    · replace hc : i < d.length := by have := of_decide_eq_true hc; simp only at this; omega
      obtain ⟨ad, rfl, hx⟩ := (hR4.ext0 hsw.2.1).cell i hc
      obtain ⟨x, hxe⟩ : ∃ x, d[i] = x := ⟨_, rfl⟩
      have hxr : x.right = true := by rw [← hxe]; exact hdr _ (List.getElem_mem _)
      have gx := tright_iff.1 hxr
      have hxo : c0 < x.c ∨ (c0 = x.c ∧ a ≤ x.f) := hord x (by rw [← hxe, List.drop_eq_getElem_cons hc]; exact zS ..)
      have hsnext : ∀ y ∈ d.drop (i + 1), x.c < y.c ∨ (x.c = y.c ∧ x.f ≤ y.f) := fun y hy => by
        obtain ⟨q, hq, rfl⟩ := List.mem_iff_getElem.1 hy
        rw [List.getElem_drop, ← hxe]
        rw [List.length_drop] at hq
        exact List.pairwise_iff_getElem.1 hsort i (i + 1 + q) hc (by omega) (by omega)
      have htake : d.take (i + 1) = d.take i ++ [x] := by rw [List.take_succ_eq_append_getElem hc, hxe]
      rw [hxe] at hx
      refine WP.skip ?_; (with_reducible repeat (first | refine QN.B1 ?_ | refine QN.N1 ?_ | refine WP.S1 ?_ | refine WP.B1 ?_ | refine WP.R1 ?_))
      refine RL.indexAddr (k := i) T_ok rfl rfl rfl rfl rfl rfl rfl hc rfl ?_
      refine RL.loadAgg T_ok (tC x) rfl rfl rfl hx rfl ?_
      refine RL.alloc T_ok rfl rfl (fun b10 m10 hb10 hC10 => ⟨_, rfl, ?_⟩)
      refine RL.storeAgg T_ok (b := b10) (i := 0) (vs := tC x) (cs := [.int .u64 0, .int .u64 0, .int .u64 0, .int .u64 0]) hC10.blk rfl rfl rfl rfl rfl (by simp) (by simp [tC, Value.oneCell']) rfl ?_
      intro m11 hC11
      have hE11 : Ext m9 [] m11 := (hC10.new (by omega)).trans hC11.ext (fun q hq => .inr (by have h9 : q = b10 := (by simpa using hq); omega))
      have hB11 : Blk m11 b10 57 (tC x) := hC11.blk
      have hswZ : Swp m4 m11 [b10] m11 b5 b6 b7 (d.take i) c0 a op out := by
        obtain ⟨y0, y1, S5, S6, v5, v6, g1, g2, g3, g4, g5, g6, g7, _⟩ := hsw
        refine ⟨y0, y1.trans hE11 (by simp), S5, S6, v5, v6, g1.ext hE11 (by simp), g2.ext hE11 (by simp), g3.ext hE11 (by simp), g4.ext hE11 (by simp), g5.ext hE11 (by simp), g6, g7, fun k hk => ?_⟩
        have hk : k = b10 := by simpa using hk
        subst hk
        have e5 := g1.lt
        have e6 := g2.lt
        have e7 := g3.lt
        exact ⟨hB11.lt, rfl, by omega, by omega, by omega, fun hh => by have := g4.lt _ hh; omega, fun hh => by have := g5.lt _ hh; omega⟩
      clear hsw hC10 hC11
      refine RL.N1 ?_; (with_reducible repeat (first | refine QN.B1 ?_ | refine QN.N1 ?_))
      refine WP.cut (X := Nat × List Trn × List Trn) (fun _ => [(22, .slice (some ad) d.length c'), (23, .int .i64 d.length), (24, .int .i64 i), (5, .pointer (some ⟨b5, 0, none⟩)), (6, .pointer (some ⟨b6, 0, none⟩)), (7, .pointer (some ⟨b7, 0, none⟩)), (8, fv), (10, .pointer (some ⟨b10, 0, none⟩))])
        (fun q m' => Swp m4 m11 [b10] m' b5 b6 b7 (d.take i) c0 q.1 q.2.1 q.2.2 ∧ q.2.2.length + q.2.1.length ≤ 2 * i + 1 ∧ (q.2.1 = [] ∨ c0 = x.c ∧ q.1 = x.f) ∧ (c0 < x.c ∨ c0 = x.c ∧ q.1 ≤ x.f)) ?_ ?_
      · have hsw1 := hswZ
        obtain ⟨y0, y1, S5, S6, v5, v6, g1, g2, g3, g4, g5, g6, g7, g8⟩ := hswZ
        obtain ⟨A6, c6, rfl, _⟩ := g5.shape
        (with_reducible repeat (first | refine WP.S1 ?_ | refine WP.B1 ?_ | refine WP.R1 ?_))
        refine RL.load T_ok rfl rfl rfl (g2.cell 0 rfl) rfl ?_
        refine RL.pure T_ok 1 rfl ?_
        rcases hop : op with _ | ⟨y, op2⟩
        · subst hop
          refine RL.A1 T_ok rfl ?_
          refine RL.N1 ?_; (with_reducible repeat (first | refine QN.B1 ?_ | refine QN.N1 ?_))
          refine WP.condF rfl ?_
          refine WP.skip ?_
          exact QN.cutEnd (a, [], out) (Sub.C1 rfl (Sub.C1 rfl (Sub.C1 rfl (Sub.C1 rfl (Sub.C1 rfl (Sub.C1 rfl (Sub.C1 rfl (Sub.C1 rfl Sub.nil)))))))) ⟨hsw1, by show out.length + 0 ≤ _; simp only [List.length_nil] at hln; omega, .inl rfl, hxo⟩
        have hy0 := y0.opens y (by rw [hop]; simp)
        have gy := tright_iff.1 hy0.1
        rw [← hop]
        have hpos : 0 < op.length := by rw [hop]; simp
        have hR6 : Ts m11 [] (.slice A6 op.length c6) op := g5.sl (by simp)
        obtain ⟨ad6, rfl, hz⟩ := hR6.cell 0 hpos
        have hz0 : op[0] = y := by simp [hop]
        rw [hz0] at hz
        refine RL.pure T_ok 1 rfl ?_
        refine RL.eqv (v' := .bool true) (congrArg _ (decide_eq_true (by omega))) ?_
        refine RL.N1 ?_; (with_reducible repeat (first | refine QN.B1 ?_ | refine QN.N1 ?_))
        refine WP.condT rfl ?_
        (with_reducible repeat (first | refine WP.S1 ?_ | refine WP.B1 ?_ | refine WP.R1 ?_))
        refine RL.pure T_ok 1 rfl ?_
        refine RL.load T_ok rfl rfl rfl (hB11.cell 1 rfl) rfl ?_
        refine RL.A1 T_ok rfl ?_
        refine RL.N1 (QN.N1 ?_)
        refine WP.cut (X := Unit) (fun _ => [(22, .slice (some ad) d.length c'), (23, .int .i64 d.length), (24, .int .i64 i), (5, .pointer (some ⟨b5, 0, none⟩)), (6, .pointer (some ⟨b6, 0, none⟩)), (7, .pointer (some ⟨b7, 0, none⟩)), (8, fv), (10, .pointer (some ⟨b10, 0, none⟩)), (11, .int .u64 (if c0 = x.c then x.f else 9007199254740992 : Nat))]) (fun _ m' => m' = m11) ?_ ?_
        · refine WP.S1 ?_
          refine WP.calm ?_
          refine WP.drawQ (fun m' => m' = m11) [] (by kernel_rfl) rfl PanicOk.calm (fun hQ => ?_)
          refine RH.load T_ok hQ 0 (fun m' hm' => by rw [hm']; exact g2.cell 0 rfl) rfl (by kernel_rfl) rfl rfl rfl rfl ?_
          refine RH.indexAddr T_ok hQ 1 (k := 0) rfl (by kernel_rfl) rfl rfl rfl rfl rfl rfl rfl hpos rfl ?_
          refine RH.pure T_ok hQ [2] (by kernel_rfl) rfl ?_
          refine RH.load T_ok hQ 3 (fun m' hm' => by rw [hm']; exact hz 0 _ rfl) rfl (by kernel_rfl) rfl rfl rfl rfl ?_
          refine RH.pure T_ok hQ [4] (by kernel_rfl) rfl ?_
          refine RH.load T_ok hQ 5 (fun m' hm' => by rw [hm']; exact hB11.cell 0 rfl) rfl (by kernel_rfl) rfl rfl rfl rfl ?_
          refine RH.pure T_ok hQ [6] (by kernel_rfl) rfl ?_
          by_cases hcc : c0 = x.c
          · refine RH.eqv (v' := .bool false) (congrArg _ (by rw [bne_nat']; exact decide_eq_false (fun hh => hh (by rw [hy0.2.1]; exact hcc)))) ?_
            refine RH.done (by kernel_rfl) (fun _ => QN.calm ?_)
            refine QN.N1 ?_
            refine WP.condF rfl ?_
            refine WP.skip ?_
            rw [if_pos hcc]
            exact QN.cutEnd () (Sub.C1 rfl (Sub.C1 rfl (Sub.C1 rfl (Sub.C1 rfl (Sub.C1 rfl (Sub.C1 rfl (Sub.C1 rfl (Sub.C1 rfl (Sub.C1 rfl (Sub.nil)))))))))) rfl
          · refine RH.eqv (v' := .bool true) (congrArg _ (by rw [bne_nat']; exact decide_eq_true (fun hh => hcc (by rw [← hy0.2.1]; exact hh)))) ?_
            refine RH.done (by kernel_rfl) (fun _ => QN.calm ?_)
            refine QN.N1 ?_
            refine WP.condT rfl ?_
            (with_reducible repeat (first | refine WP.S1 ?_ | refine WP.B1 ?_ | refine WP.R1 ?_))
            refine RL.A1 T_ok rfl ?_
            rw [if_neg hcc]
            exact RL.N1 (QN.cutEnd () (Sub.C1 rfl (Sub.C1 rfl (Sub.C1 rfl (Sub.C1 rfl (Sub.C1 rfl (Sub.C1 rfl (Sub.C1 rfl (Sub.C1 rfl (Sub.C1 rfl (Sub.nil)))))))))) rfl)
        · rintro _ mc rfl
          have hu : (if c0 = x.c then x.f else 9007199254740992) ≤ 9007199254740992 := by split <;> omega
          have hau : a ≤ (if c0 = x.c then x.f else 9007199254740992) := by
            split
            · rcases hxo with h1 | ⟨_, h1⟩ <;> omega
            · have := hy0.2.2.2; omega
          generalize hug : (if c0 = x.c then x.f else 9007199254740992) = u at hu hau
          subst hfv
          (with_reducible repeat (first | refine WP.S1 ?_ | refine WP.B1 ?_ | refine WP.R1 ?_))
          refine RL.A1 T_ok rfl ?_
          refine RL.load T_ok rfl rfl rfl (g2.cell 0 rfl) rfl ?_
          refine RL.indexAddr (k := 0) T_ok rfl rfl rfl rfl rfl rfl rfl hpos rfl ?_
          refine RL.pure T_ok 1 rfl ?_
          refine RL.load T_ok rfl rfl rfl (hz 0 _ rfl) rfl ?_
          refine RL.eqv (v' := .int .u64 c0) (congrArg (fun (q : Nat) => Value.int .u64 q) hy0.2.1) ?_
          refine RL.A1 T_ok rfl ?_
          refine RL.call (fi := []) (ca := [.pointer (some ⟨b6, 0, none⟩), .pointer (some ⟨b7, 0, none⟩), .pointer (some ⟨b5, 0, none⟩)]) rfl rfl rfl rfl (flush_c m4 mc [b10] mc b5 b6 b7 hbs (d.take i) c0 a op out u hu hsw1 (by omega) hau) ?_
          rintro _ m12 ⟨a', op', out', hsw12, hend, ha', hlen12⟩
          refine ⟨_, rfl, ?_⟩
          refine RL.N1 ?_
          refine QN.cutEnd (a', op', out') (Sub.C1 rfl (Sub.C1 rfl (Sub.C1 rfl (Sub.C1 rfl (Sub.C1 rfl (Sub.C1 rfl (Sub.C1 rfl (Sub.C1 rfl (Sub.nil))))))))) ⟨hsw12, by show out'.length + op'.length ≤ 2 * i + 1; omega, ?_, ?_⟩
          · show op' = [] ∨ c0 = x.c ∧ a' = x.f
            by_cases hcc : c0 = x.c
            · rw [if_pos hcc] at hug
              rcases hend with h1 | h1
              · exact .inl h1
              · exact .inr ⟨hcc, by omega⟩
            · rw [if_neg hcc] at hug
              rcases hend with h1 | h1
              · exact .inl h1
              · refine .inl (List.eq_nil_iff_forall_not_mem.2 fun z hz => ?_)
                have h2 := hsw12.1.opens z hz
                have h3 := tright_iff.1 h2.1
                omega
          · show c0 < x.c ∨ c0 = x.c ∧ a' ≤ x.f
            by_cases hcc : c0 = x.c
            · rw [if_pos hcc] at hug
              exact .inr ⟨hcc, by omega⟩
            · rcases hxo with h1 | ⟨h1, _⟩
              · exact .inl h1
              · exact absurd h1 hcc
      · rintro ⟨a', op', out'⟩ m12 ⟨hsw12, hln12, hcz, hbz⟩
        simp only at hsw12 hln12 hcz hbz
        obtain ⟨y0, y1, S5, S6, v5, v6, g1, g2, g3, g4, g5, g6, g7, g8⟩ := hsw12
        obtain ⟨z1, z2, z3, z4, z5, z6, z7⟩ := g8 b10 (by simp)
        have hB12 : Blk m12 b10 57 (tC x) := z2.trans hB11
        (with_reducible repeat (first | refine WP.S1 ?_ | refine WP.B1 ?_ | refine WP.R1 ?_))
        refine RL.pure T_ok 1 rfl ?_
        refine RL.load T_ok rfl rfl rfl (hB12.cell 1 rfl) rfl ?_
        refine RL.store T_ok g3 (i := 0) (v := .int .u64 x.f) (by simp) rfl rfl rfl rfl rfl rfl ?_
        intro m13 hC13
        have h1 := g1.far hC13 (by omega)
        have h2 := g2.far hC13 (by omega)
        have h3 : Blk m13 b7 22 [.int .u64 x.f] := hC13.blk
        have h4 := g4.ext hC13.ext (fun k hk hh => (g6 k hk).2.2.2.1 (by simpa using hh))
        have h5 := g5.ext hC13.ext (fun k hk hh => (g7 k hk).2.2.2 (by simpa using hh))
        have hB13 := hB12.far hC13 (by omega)
        have hE13 := y1.trans hC13.ext (fun k hk => .inr (by have h9 : k = b7 := (by simpa using hk); omega))
        refine RL.N1 ?_; (with_reducible repeat (first | refine QN.B1 ?_ | refine QN.N1 ?_ | refine WP.S1 ?_ | refine WP.B1 ?_ | refine WP.R1 ?_))
        refine RL.load T_ok rfl rfl rfl (h2.cell 0 rfl) rfl ?_
        refine RL.loadAgg T_ok (tC x) rfl rfl rfl (fun j u hu => by rw [add_block]; exact hB13.cell _ (by simpa using hu)) rfl ?_
        refine RL.append1 T_ok [.tmp 50] h5 (us := [tV x]) (tC x) rfl rfl rfl rfl rfl rfl rfl rfl rfl (by simp [tV, tC, Value.cells]) (by simp [tV, Value.cells]) (tC_one x) (by unfold maxLen; omega) (by show (_ + 1) * 32 ≤ _; omega) ?_
        intro v14 m14 S14 hO14 hE14 hF14
        refine ⟨_, rfl, ?_⟩
        have l1 := h1.lt
        have l2 := h2.lt
        have l3 := h3.lt
        have l4 := h4.lt
        have j14 : ∀ k ∈ S14, m4.heap.size ≤ k ∧ k ≠ b5 ∧ k ≠ b6 ∧ k ≠ b7 ∧ k ∉ S5 := fun k hk => by
          rcases hF14 k hk with h9 | h9
          · obtain ⟨q1, q2, q3, q4⟩ := g7 k h9
            exact ⟨q1, q2, q3, q4, fun hh => (g6 k hh).2.2.2.2 h9⟩
          · have := hE13.size
            exact ⟨by omega, by omega, by omega, by omega, fun hh => by have := l4 k hh; omega⟩
        have k1 := h1.ext hE14 (fun hh => (g7 _ hh).2.1 rfl)
        have k2 := h2.ext hE14 (fun hh => (g7 _ hh).2.2.1 rfl)
        have k3 := h3.ext hE14 (fun hh => (g7 _ hh).2.2.2 rfl)
        have k4 := h4.ext hE14 (fun k hk hh => (g6 k hk).2.2.2.2 hh)
        have hE4_14 := hE13.trans hE14 (fun k hk => .inr (g7 k hk).1)
        refine RL.store T_ok k2 (i := 0) (v := v14) (by simp) rfl rfl rfl rfl hO14.one rfl ?_
        intro m15 hC15
        have hE15 := hE4_14.trans hC15.ext (fun k hk => .inr (by have h9 : k = b6 := (by simpa using hk); omega))
        refine RL.N1 ?_; (with_reducible repeat (first | refine QN.B1 ?_ | refine QN.N1 ?_ | refine WP.S1 ?_ | refine WP.B1 ?_ | refine WP.R1 ?_))
        refine RL.pure T_ok 1 rfl ?_
        refine RL.eqv (v' := .int .i64 ((i + 1 : Nat) : Int)) (congrArg _ (by rw [wrap_i64_in _ (by omega) (by omega)]; rfl)) ?_
        refine RL.A1 T_ok rfl ?_
        have hswN := y0.more hxr hcz hbz
        rw [← htake] at hswN
        refine RL.N1 (QN.round (i + 1, x.c, x.f, op' ++ [x], out') (Sub.C1 rfl (Sub.C1 rfl (Sub.C1 rfl (Sub.C1 rfl (Sub.C1 rfl (Sub.C1 rfl (Sub.C1 rfl (Sub.nil)))))))) ⟨by show i + 1 ≤ _; omega, ⟨hswN, hE15, S5, S14, v5, v14, k1.far hC15 (by omega), hC15.blk, k3.far hC15 (by omega), k4.ext hC15.ext (fun k hk hh => (g6 k hk).2.2.1 (by simpa using hh)), ?_, fun k hk => ?_, fun k hk => ?_, by simp⟩, ?_, hsnext⟩ (by show _ - (i + 1) < _ - i; omega))
        · rw [List.length_append, ← tsC_app]
          have := hO14.ext hC15.ext (fun k hk hh => (j14 k hk).2.2.1 (by simpa using hh))
          simpa using this
        · obtain ⟨q1, q2, q3, q4, q5⟩ := g6 k hk
          exact ⟨q1, q2, q3, q4, fun hh => (j14 k hh).2.2.2.2 hk⟩
        · obtain ⟨q1, q2, q3, q4, _⟩ := j14 k hk
          exact ⟨q1, q2, q3, q4⟩
        · show out'.length + (op' ++ [x]).length ≤ 2 * (i + 1)
          rw [List.length_append, List.length_singleton]; omega
    · replace hc : i = d.length := by have := of_decide_eq_false hc; simp only at this; omega
      subst hc
      rw [List.take_length] at hsw
      refine WP.exit ?_
      (with_reducible repeat (first | refine QN.tx ?_ | refine QN.bx ?_ | refine QN.B1 ?_ | refine QN.N1 ?_))
      refine WP.cut (X := Nat × List Trn) (fun _ => [(5, .pointer (some ⟨b5, 0, none⟩))]) (fun q m' => Swp m4 m4 [] m' b5 b6 b7 d c0 q.1 [] q.2 ∧ q.2.length ≤ 2 * d.length + 1) ?_ ?_
      · have hsw1 := hsw
        obtain ⟨y0, y1, S5, S6, v5, v6, g1, g2, g3, g4, g5, g6, g7, g8⟩ := hsw
        obtain ⟨A6, c6, rfl, _⟩ := g5.shape
        (with_reducible repeat (first | refine WP.S1 ?_ | refine WP.B1 ?_ | refine WP.R1 ?_))
        refine RL.load T_ok rfl rfl rfl (g2.cell 0 rfl) rfl ?_
        refine RL.pure T_ok 1 rfl ?_
        rcases hop : op with _ | ⟨y, op2⟩
        · subst hop
          refine RL.A1 T_ok rfl ?_
          refine RL.N1 ?_; (with_reducible repeat (first | refine QN.B1 ?_ | refine QN.N1 ?_))
          refine WP.condF rfl ?_
          refine WP.skip ?_
          exact QN.cutEnd (a, out) (Sub.C1 rfl Sub.nil) ⟨hsw1, by show out.length ≤ _; simp only [List.length_nil] at hln; omega⟩
        have hy0 := y0.opens y (by rw [hop]; simp)
        have gy := tright_iff.1 hy0.1
        rw [← hop]
        have hpos : 0 < op.length := by rw [hop]; simp
        have hR6 : Ts m9 [] (.slice A6 op.length c6) op := g5.sl (by simp)
        obtain ⟨ad6, rfl, hz⟩ := hR6.cell 0 hpos
        have hz0 : op[0] = y := by simp [hop]
        rw [hz0] at hz
        refine RL.pure T_ok 1 rfl ?_
        refine RL.eqv (v' := .bool true) (congrArg _ (decide_eq_true (by omega))) ?_
        refine RL.N1 ?_; (with_reducible repeat (first | refine QN.B1 ?_ | refine QN.N1 ?_))
        refine WP.condT rfl ?_
        subst hfv
        (with_reducible repeat (first | refine WP.S1 ?_ | refine WP.B1 ?_ | refine WP.R1 ?_))
        refine RL.A1 T_ok rfl ?_
        refine RL.load T_ok rfl rfl rfl (g2.cell 0 rfl) rfl ?_
        refine RL.indexAddr (k := 0) T_ok rfl rfl rfl rfl rfl rfl rfl hpos rfl ?_
        refine RL.pure T_ok 1 rfl ?_
        refine RL.load T_ok rfl rfl rfl (hz 0 _ rfl) rfl ?_
        refine RL.eqv (v' := .int .u64 c0) (congrArg (fun (q : Nat) => Value.int .u64 q) hy0.2.1) ?_
        refine RL.call (fi := []) (ca := [.pointer (some ⟨b6, 0, none⟩), .pointer (some ⟨b7, 0, none⟩), .pointer (some ⟨b5, 0, none⟩)]) rfl rfl rfl rfl (flush_c m4 m4 [] m9 b5 b6 b7 hbs d c0 a op out 9007199254740992 (Nat.le_refl _) hsw1 (by omega) (by have := hy0.2.2.2; omega)) ?_
        rintro _ m12 ⟨a', op', out', hsw12, hend, ha', hlen12⟩
        refine ⟨_, rfl, ?_⟩
        have hop' : op' = [] := by
          rcases hend with h1 | h1
          · exact h1
          · refine List.eq_nil_iff_forall_not_mem.2 fun z hz => ?_
            have h2 := hsw12.1.opens z hz
            have h3 := tright_iff.1 h2.1
            omega
        subst hop'
        simp only [List.length_nil] at hlen12
        exact RL.N1 (QN.cutEnd (a', out') (Sub.C1 rfl Sub.nil) ⟨hsw12, by show out'.length ≤ _; omega⟩)
      · rintro ⟨a', out'⟩ m12 ⟨hsw12, hlen12⟩
        simp only at hsw12 hlen12
        obtain ⟨y0, y1, S5, S6, v5, v6, g1, g2, g3, g4, g5, g6, g7, g8⟩ := hsw12
        have hk12 : m12.heap[D]? = some (.deferred (some [])) := (y1.far D hDlt4 (by simp)).trans hk4
        obtain ⟨t1, t2⟩ := y0.done
        (with_reducible repeat (first | refine WP.S1 ?_ | refine WP.B1 ?_ | refine WP.R1 ?_))
        refine RL.load T_ok rfl rfl rfl (g1.cell 0 rfl) rfl ?_
        refine RL.A1 T_ok rfl ?_
        refine RL.N1 ?_; (with_reducible repeat (first | refine QN.B1 ?_ | refine QN.N1 ?_ | refine WP.S1 ?_ | refine WP.B1 ?_ | refine WP.R1 ?_))
        refine WP.ret ?_; (with_reducible repeat (first | refine QN.tr ?_ | refine QN.br ?_))
        refine QN.leaveM (.inl rfl) hk12 (fun m' hK hfar => ⟨Res.tmp rfl rfl, ⟨_, rfl, out'.reverse, ⟨t1, fun c k => ?_, ?_⟩, S5, ?_, (hE4m.trans y1 (by simp)).of_kc hK hDm, fun k hk => .inr (by have := (g6 k hk).1; have := hE4m.size; omega)⟩⟩)
        · rw [t2, turnOf_perm hperm, turnOf_filter]
        · rw [List.length_reverse]; omega
        · rw [List.length_reverse]; exact g4.kc hK
  · rintro D c pre m' _ _ hx
    exact hx.elim
end Go.Proofs.YtmjpcaiehfimgaaGreatDoor
end
section
namespace Go.Proofs.YtmjpcaiehfimgaaGreatDoor
open Go.RowKit Go.Ev Go.Ids
theorem maxZ (a b : Nat) : Value.int .u64 (if (b : Int) > (a : Int) then (b : Int) else (a : Int)) = .int .u64 (max a b : Nat) := congrArg _ (by split <;> omega)
theorem turnOf_snoc (pre : List Trn) (x : Trn) (c k : Nat) : turnOf (pre ++ [x]) c k = max (turnOf pre c k) (x.at c k) := by rw [turnOf_append]; simp [turnOf]
def tin (id : Idn) (r : Trn) : Bool := r.right && (decide (r.c = id.c) && (decide (r.f ≤ id.k) && decide (id.k < r.t)))
theorem tin_at (id : Idn) (x : Trn) : x.at id.c id.k = if tin id x = true then x.n else 0 := by
  unfold Trn.at tin
  simp only [Bool.and_eq_true, decide_eq_true_eq]
theorem refturnOf_c (m : World) (v : Value) (l : List Trn) (h : Ts m [] v l) (hl : l.length < 1000000000) (id : Idn) : FnR Tryz.prog 71 [v, iV id] m fun r m' => r = .int .u64 (turnOf l id.c id.k) ∧ Ext m [] m' := by
  obtain ⟨A, c, rfl, _, _⟩ := h.shape
  refine FnE.enter ⟨_, Tryz.func71, by kernel_rfl, by kernel_rfl⟩ Tryz.func71 rfl rfl ?_
  (with_reducible repeat (first | refine WP.S1 ?_ | refine WP.B1 ?_ | refine WP.R1 ?_))
  refine RL.box rfl rfl (fun b m1 hb hC => ⟨_, rfl, ?_⟩)
  have hB1 : Blk m1 b 108 (iC id) := hC.here
  have hE1 : Ext m [] m1 := hC.new (by omega)
  clear hC
  refine RL.A1 T_ok rfl ?_
  refine RL.N1 ?_; (with_reducible repeat (first | refine QN.B1 ?_ | refine QN.N1 ?_ | refine WP.S1 ?_ | refine WP.B1 ?_ | refine WP.R1 ?_))
  refine RL.A1 T_ok rfl ?_
  refine RL.N1 ?_; (with_reducible repeat (first | refine QN.B1 ?_ | refine QN.N1 ?_ | refine WP.S1 ?_ | refine WP.B1 ?_ | refine WP.R1 ?_))
  refine RL.A1 T_ok rfl ?_
  refine RL.N1 ?_; (with_reducible repeat (first | refine QN.B1 ?_ | refine QN.N1 ?_ | refine WP.S1 ?_ | refine WP.B1 ?_ | refine WP.R1 ?_))
  refine (WP.loop (X := Nat) (fun i => [(0, .slice A l.length c), (3, .pointer (some ⟨b, 0, none⟩)), (5, .int .u64 (turnOf (l.take i) id.c id.k)), (6, .int .i64 i)])
    (fun i m' => i ≤ l.length ∧ Ext m1 [] m') (fun i => l.length - i) 0
    (Sub.C1 rfl (Sub.C1 rfl (Sub.C1 rfl (Sub.C1 rfl Sub.nil)))) ⟨by simp, Ext.refl _ _⟩ ?_)
  rintro i m2 ⟨hi, hE2⟩
  (with_reducible repeat (first | refine WP.S1 ?_ | refine WP.B1 ?_ | refine WP.R1 ?_))
  refine RL.A1 T_ok rfl ?_
  refine RL.N1 ?_; (with_reducible repeat (first | refine QN.B1 ?_ | refine QN.N1 ?_ | refine WP.S1 ?_ | refine WP.B1 ?_ | refine WP.R1 ?_))
  refine WP.cond rfl (fun hc => ?_) (fun hc => ?_)
  · replace hc : i < l.length := by have := of_decide_eq_true hc; omega
    have hB2 := hB1.ext hE2 (by simp)
    have hE12 : Ext m [] m2 := hE1.trans hE2 (by simp)
    obtain ⟨ad, rfl, _⟩ := (h.ext0 hE12).cell i hc
    obtain ⟨x, hxe⟩ : ∃ x, l[i] = x := ⟨_, rfl⟩
    have hx : ∀ m', Ext m2 [] m' → ∀ j u, (tC x)[j]? = some u → m'.cell? ((ad.add (i * 4)).add j) = some u := fun m' hE => by
      obtain ⟨ad', h1, h2⟩ := (h.ext0 (hE12.trans hE (by simp))).cell i hc
      injection h1 with h1
      subst h1
      rw [hxe] at h2; exact h2
    have hI : ∀ m', Ext m2 [] m' → Blk m' b 108 (iC id) := fun m' hE => hB2.ext hE (by simp)
    have hnext : turnOf (l.take (i + 1)) id.c id.k = max (turnOf (l.take i) id.c id.k) (x.at id.c id.k) := by
      rw [List.take_succ_eq_append_getElem hc, hxe, turnOf_snoc]
    rw [tin_at] at hnext
    refine WP.skip ?_; (with_reducible repeat (first | refine QN.B1 ?_ | refine QN.N1 ?_))
    refine WP.S1 ?_
    refine WP.B1 ?_
    refine WP.cut (X := Bool) (fun q => [(0, .slice (some ad) l.length c), (3, .pointer (some ⟨b, 0, none⟩)), (5, .int .u64 (turnOf (l.take i) id.c id.k)), (6, .int .i64 i), (47, .bool q)]) (fun q m' => q = tin id x ∧ Ext m2 [] m') ?_ ?_
    · refine WP.drawQ (fun m' => Ext m2 [] m') [] (by kernel_rfl) (Ext.refl _ _) (by with_reducible repeat (first | exact PanicOk.body | refine PanicOk.then_ ?_ | refine PanicOk.block_ ?_)) (fun hQ => ?_)
      refine RH.pure T_ok hQ [0, 1] (by kernel_rfl) rfl ?_
      refine RH.indexAddr T_ok hQ 2 (k := i) rfl (by kernel_rfl) rfl rfl rfl rfl rfl rfl rfl hc rfl ?_
      refine RH.loadAgg T_ok hQ 3 (tC x) (fun m' hm' => hx m' hm') rfl (by kernel_rfl) rfl rfl rfl rfl ?_
      refine RH.only 4 rfl (by kernel_rfl) (fun _ => ?_)
      refine RL.call (fi := []) (ca := []) rfl rfl rfl rfl (refturn_c m2 x) ?_
      rintro _ m3 ⟨rfl, hE3⟩
      refine ⟨_, rfl, RL.N1 (RH.cont hE3 ?_)⟩
      by_cases h1 : x.right = true
      · refine RH.eqv (v' := .bool true) (congrArg _ h1) ?_
        refine RH.pure T_ok hQ [5, 6, 7] (by kernel_rfl) rfl ?_
        refine RH.indexAddr T_ok hQ 8 (k := i) rfl (by kernel_rfl) rfl rfl rfl rfl rfl rfl rfl hc rfl ?_
        refine RH.pure T_ok hQ [9] (by kernel_rfl) rfl ?_
        refine RH.load T_ok hQ 10 (fun m' hm' => hx m' hm' 0 _ rfl) rfl (by kernel_rfl) rfl rfl rfl rfl ?_
        refine RH.pure T_ok hQ [11] (by kernel_rfl) rfl ?_
        refine RH.load T_ok hQ 12 (fun m' hm' => (hI m' hm').cell 0 rfl) rfl (by kernel_rfl) rfl rfl rfl rfl ?_
        refine RH.pure T_ok hQ [13] (by kernel_rfl) rfl ?_
        by_cases h2 : x.c = id.c
        · refine RH.eqv (v' := .bool true) (congrArg _ (by rw [deq]; exact decide_eq_true h2)) ?_
          refine RH.pure T_ok hQ [14, 15, 16, 17] (by kernel_rfl) rfl ?_
          refine RH.indexAddr T_ok hQ 18 (k := i) rfl (by kernel_rfl) rfl rfl rfl rfl rfl rfl rfl hc rfl ?_
          refine RH.pure T_ok hQ [19] (by kernel_rfl) rfl ?_
          refine RH.load T_ok hQ 20 (fun m' hm' => hx m' hm' 1 _ rfl) rfl (by kernel_rfl) rfl rfl rfl rfl ?_
          refine RH.pure T_ok hQ [21] (by kernel_rfl) rfl ?_
          refine RH.load T_ok hQ 22 (fun m' hm' => (hI m' hm').cell 1 rfl) rfl (by kernel_rfl) rfl rfl rfl rfl ?_
          refine RH.pure T_ok hQ [23] (by kernel_rfl) rfl ?_
          by_cases h3 : x.f ≤ id.k
          · refine RH.eqv (v' := .bool true) (congrArg _ (by rw [dle x.f id.k id.k rfl]; exact decide_eq_true h3)) ?_
            refine RH.pure T_ok hQ [24, 25, 26] (by kernel_rfl) rfl ?_
            refine RH.load T_ok hQ 27 (fun m' hm' => (hI m' hm').cell 1 rfl) rfl (by kernel_rfl) rfl rfl rfl rfl ?_
            refine RH.pure T_ok hQ [28, 29] (by kernel_rfl) rfl ?_
            refine RH.indexAddr T_ok hQ 30 (k := i) rfl (by kernel_rfl) rfl rfl rfl rfl rfl rfl rfl hc rfl ?_
            refine RH.pure T_ok hQ [31] (by kernel_rfl) rfl ?_
            refine RH.load T_ok hQ 32 (fun m' hm' => hx m' hm' 2 _ rfl) rfl (by kernel_rfl) rfl rfl rfl rfl ?_
            refine RH.pure T_ok hQ [33, 34] (by kernel_rfl) rfl ?_
            refine RH.done (by kernel_rfl) (fun _ => ?_)
            refine QN.cutEnd (decide (id.k < x.t)) (Sub.C1 rfl (Sub.C1 rfl (Sub.C1 rfl (Sub.C1 rfl (Sub.C1 ?_ Sub.nil))))) ⟨by simp [tin, h1, h2, h3], hE3⟩
            show some (Value.bool (decide ((id.k : Int) < (x.t : Int)))) = _
            rw [dlt]
          · refine RH.eqv (v' := .bool false) (congrArg _ (by rw [dle x.f id.k id.k rfl]; exact decide_eq_false h3)) ?_
            refine RH.pure T_ok hQ [24, 25, 26, 27, 28, 29, 30, 31, 32, 33, 34] (by kernel_rfl) rfl ?_
            refine RH.done (by kernel_rfl) (fun _ => ?_)
            exact QN.cutEnd false (Sub.C1 rfl (Sub.C1 rfl (Sub.C1 rfl (Sub.C1 rfl (Sub.C1 rfl Sub.nil))))) ⟨by simp [tin, h1, h2, h3], hE3⟩
        · refine RH.eqv (v' := .bool false) (congrArg _ (by rw [deq]; exact decide_eq_false h2)) ?_
          refine RH.pure T_ok hQ [14, 15, 16, 17, 18, 19, 20, 21, 22, 23, 24, 25, 26, 27, 28, 29, 30, 31, 32, 33, 34] (by kernel_rfl) rfl ?_
          refine RH.done (by kernel_rfl) (fun _ => ?_)
          exact QN.cutEnd false (Sub.C1 rfl (Sub.C1 rfl (Sub.C1 rfl (Sub.C1 rfl (Sub.C1 rfl Sub.nil))))) ⟨by simp [tin, h1, h2], hE3⟩
      · refine RH.eqv (v' := .bool false) (congrArg _ (Bool.not_eq_true _ ▸ h1)) ?_
        refine RH.pure T_ok hQ [5, 6, 7, 8, 9, 10, 11, 12, 13, 14, 15, 16, 17, 18, 19, 20, 21, 22, 23, 24, 25, 26, 27, 28, 29, 30, 31, 32, 33, 34] (by kernel_rfl) rfl ?_
        refine RH.done (by kernel_rfl) (fun _ => ?_)
        exact QN.cutEnd false (Sub.C1 rfl (Sub.C1 rfl (Sub.C1 rfl (Sub.C1 rfl (Sub.C1 rfl Sub.nil))))) ⟨by simp [tin, h1], hE3⟩
    · rintro q m3 ⟨hq, hE3⟩
      have hE13 := hE12.trans hE3 (by simp)
      refine WP.cond rfl (fun hp => ?_) (fun hp => ?_)
      · rw [hp] at hq
        rw [if_pos hq.symm] at hnext
        (with_reducible repeat (first | refine WP.S1 ?_ | refine WP.B1 ?_ | refine WP.R1 ?_))
        refine RL.pure T_ok 3 rfl ?_
        refine RL.indexAddr (k := i) T_ok rfl rfl rfl rfl rfl rfl rfl hc rfl ?_
        refine RL.pure T_ok 1 rfl ?_
        refine RL.load T_ok rfl rfl rfl (hx m3 hE3 3 _ rfl) rfl ?_
        refine RL.pure T_ok 1 rfl ?_
        refine RL.eqv (v' := .int .u64 (turnOf (l.take (i + 1)) id.c id.k)) (by rw [hnext]; exact maxZ _ _) ?_
        refine RL.A1 T_ok rfl ?_
        refine RL.N1 ?_; (with_reducible repeat (first | refine QN.B1 ?_ | refine QN.N1 ?_ | refine WP.S1 ?_ | refine WP.B1 ?_ | refine WP.R1 ?_))
        refine RL.pure T_ok 2 rfl ?_
        refine RL.eqv (v' := .int .i64 ((i + 1 : Nat) : Int)) (congrArg _ (by rw [wrap_i64_in _ (by omega) (by omega)]; rfl)) ?_
        refine RL.A1 T_ok rfl ?_
        exact RL.N1 (QN.round (i + 1) (Sub.C1 rfl (Sub.C1 rfl (Sub.C1 rfl (Sub.C1 rfl Sub.nil)))) ⟨by omega, hE2.trans hE3 (by simp)⟩ (by omega))
      · rw [hp] at hq
        rw [if_neg (by rw [← hq]; simp), Nat.max_zero] at hnext
        refine WP.skip ?_; (with_reducible repeat (first | refine QN.B1 ?_ | refine QN.N1 ?_ | refine WP.S1 ?_ | refine WP.B1 ?_ | refine WP.R1 ?_))
        refine RL.pure T_ok 2 rfl ?_
        refine RL.eqv (v' := .int .i64 ((i + 1 : Nat) : Int)) (congrArg _ (by rw [wrap_i64_in _ (by omega) (by omega)]; rfl)) ?_
        refine RL.A1 T_ok rfl ?_
        refine RL.N1 (QN.round (i + 1) (Sub.C1 rfl (Sub.C1 rfl (Sub.C1 ?_ (Sub.C1 rfl Sub.nil)))) ⟨by omega, hE2.trans hE3 (by simp)⟩ (by omega))
        show some (Value.int .u64 ((turnOf (l.take i) id.c id.k : Nat) : Int)) = some (Value.int .u64 ((turnOf (l.take (i + 1)) id.c id.k : Nat) : Int))
        rw [hnext]
  · replace hc : i = l.length := by have := of_decide_eq_false hc; omega
    subst hc
    rw [List.take_length]
    refine WP.exit ?_; (with_reducible repeat (first | refine QN.tx ?_ | refine QN.bx ?_ | refine QN.block_far rfl ?_ | refine QN.B1 ?_ | refine QN.N1 ?_)); (with_reducible repeat (first | refine WP.S1 ?_ | refine WP.B1 ?_ | refine WP.R1 ?_))
    refine RL.A1 T_ok rfl ?_
    refine RL.N1 ?_; (with_reducible repeat (first | refine QN.B1 ?_ | refine QN.N1 ?_ | refine WP.S1 ?_ | refine WP.B1 ?_ | refine WP.R1 ?_))
    refine WP.ret ?_; (with_reducible repeat (first | refine QN.tr ?_ | refine QN.br ?_))
    exact QN.ret1 rfl rfl ⟨_, rfl, rfl, hE1.trans hE2 (by simp)⟩
end Go.Proofs.YtmjpcaiehfimgaaGreatDoor
end
