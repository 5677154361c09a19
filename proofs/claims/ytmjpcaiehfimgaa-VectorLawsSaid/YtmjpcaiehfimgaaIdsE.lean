/- The reference's Meet and Minus. -/
import Derived.Test.YtmjpcaiehfimgaaIdsD
namespace Go.Proofs.Ytmjpcaiehfimgaa
open Go.RowKit Go.Ev Go.Ids

theorem minusAt_len (a B : List Rng) (k : Nat) (hB : B.length ≤ k) (j : Nat) : (minus a (B.take j)).length ≤ a.length * (k + 1) := by
  refine Nat.le_trans (minus_len _ _) (Nat.mul_le_mul_left _ (Nat.succ_le_succ ?_))
  exact Nat.le_trans (List.length_take_le' _ _) hB
theorem refminus_c (m : World) (v u : Value) (a b : List Rng) (h : Rs m [] v a) (h' : Rs m [] u b) (hla : a.length < 500000000) (hlb : b.length < 500000000) (hl : a.length * (b.length + 1) < 100000000) :
    FnR Try.prog 43 [v, u] m fun r m' => Made m r (minus a b) m' := by
  refine FnE.enter ⟨_, Try.func43, by kernel_rfl, by kernel_rfl⟩ Try.func43 rfl rfl ?_
  repeat (first | with_reducible refine WP.seq ?_ | with_reducible refine WP.block ?_ | with_reducible refine WP.region ?_)
  refine RL.auto T_ok rfl ?_
  refine RL.nil ?_; repeat (first | with_reducible refine QN.block_normal ?_ | with_reducible refine QN.next ?_); repeat (first | with_reducible refine WP.seq ?_ | with_reducible refine WP.block ?_ | with_reducible refine WP.region ?_)
  refine RL.auto T_ok rfl ?_
  refine RL.call (fi := []) (ca := []) rfl rfl rfl rfl (refclean_c m v a h hla) ?_
  rintro v2 m1 ⟨S2, hO2, hN1⟩
  refine ⟨_, rfl, ?_⟩
  refine RL.auto T_ok rfl ?_
  refine RL.nil ?_; repeat (first | with_reducible refine QN.block_normal ?_ | with_reducible refine QN.next ?_); repeat (first | with_reducible refine WP.seq ?_ | with_reducible refine WP.block ?_ | with_reducible refine WP.region ?_)
  refine RL.auto T_ok rfl ?_
  refine RL.call (fi := []) (ca := []) rfl rfl rfl rfl (refclean_c m1 u b (h'.ext0 hN1.1) hlb) ?_
  rintro v1 m2 ⟨S1, hO12, hN2⟩
  refine ⟨_, rfl, ?_⟩
  have hO2' : Ev.Own m2 S2 62 3 v2 (clean a).length ((clean a).flatMap rC) := hO2.ext hN2.1 (by simp)
  have hMade0 : Made m v2 (minus a ((clean b).take 0)) m2 := by
    rw [List.take_zero, minus_nil]
    exact ⟨S2, hO2', hN1.1.trans hN2.1 (by simp), hN1.2⟩
  have hEm : Ext m [] m2 := hMade0.ext
  have hBl := clean_len b
  have hstep := fun i h => minus_take a b i h
  have hlast : minus a ((clean b).take (clean b).length) = minus a b := by rw [List.take_length, minus_clean]
  have hBr := (clean_canon b).1
  have hLl := fun j => minusAt_len a (clean b) b.length hBl j
  rw [← hlast]
  generalize clean b = B at hO12 hBl hstep hBr hMade0 hLl ⊢
  obtain ⟨A1, c1, rfl, _⟩ := hO12.shape
  have hRB : Rs m2 [] (.slice A1 B.length c1) B := hO12.sl (by simp)
  clear hO2 hO2' hO12 hN1 hN2 hlast
  refine RL.auto T_ok rfl ?_
  refine RL.nil ?_; repeat (first | with_reducible refine QN.block_normal ?_ | with_reducible refine QN.next ?_); repeat (first | with_reducible refine WP.seq ?_ | with_reducible refine WP.block ?_ | with_reducible refine WP.region ?_)
  refine RL.auto T_ok rfl ?_
  refine RL.nil ?_; repeat (first | with_reducible refine QN.block_normal ?_ | with_reducible refine QN.next ?_); repeat (first | with_reducible refine WP.seq ?_ | with_reducible refine WP.block ?_ | with_reducible refine WP.region ?_)
  refine (WP.loop (X := Nat × Value) (fun x => [(1, .slice A1 B.length c1), (5, x.2), (6, .int .i64 x.1)])
    (fun x m' => x.1 ≤ B.length ∧ Made m x.2 (minus a (B.take x.1)) m' ∧ Ext m2 [] m') (fun x => B.length - x.1) (0, v2)
    (Sub.cons rfl (Sub.cons rfl (Sub.cons rfl (Sub.nil)))) ⟨by simp, hMade0, Ext.refl _ _⟩ ?_)
  rintro ⟨j, v5⟩ m3 ⟨hj, hM3, hE3⟩
  simp only at hj hM3
  repeat (first | with_reducible refine WP.seq ?_ | with_reducible refine WP.block ?_ | with_reducible refine WP.region ?_)
  refine RL.auto T_ok rfl ?_
  refine RL.nil ?_; repeat (first | with_reducible refine QN.block_normal ?_ | with_reducible refine QN.next ?_); repeat (first | with_reducible refine WP.seq ?_ | with_reducible refine WP.block ?_ | with_reducible refine WP.region ?_)
  refine WP.cond rfl (fun hc => ?_) (fun hc => ?_)
  · replace hc : j < B.length := by have := of_decide_eq_true hc; simp only at this; omega
    obtain ⟨ae, rfl, _⟩ := hRB.cell j hc
    obtain ⟨y, hye⟩ : ∃ y, B[j] = y := ⟨_, rfl⟩
    have hy : ∀ m', Ext m2 [] m' → ∀ q u, (rC y)[q]? = some u → m'.cell? ((ae.add (j * 3)).add q) = some u := fun m' hE => by
      obtain ⟨ad', h1, h2⟩ := (hRB.ext0 hE).cell j hc
      injection h1 with h1
      subst h1
      rw [hye] at h2; exact h2
    have hst := hstep j hc
    have hLj := hLl j
    rw [hye] at hst
    generalize hLg : minus a (B.take j) = L at hM3 hLj hst
    have hE3m := hM3.ext
    have hRL := hM3.rs
    obtain ⟨AL, cL, rfl, _, _⟩ := hRL.shape
    refine WP.skip ?_; repeat (first | with_reducible refine QN.block_normal ?_ | with_reducible refine QN.next ?_); repeat (first | with_reducible refine WP.seq ?_ | with_reducible refine WP.block ?_ | with_reducible refine WP.region ?_)
    refine RL.auto T_ok rfl ?_
    refine RL.nil ?_; repeat (first | with_reducible refine QN.block_normal ?_ | with_reducible refine QN.next ?_); repeat (first | with_reducible refine WP.seq ?_ | with_reducible refine WP.block ?_ | with_reducible refine WP.region ?_)
    refine RL.auto T_ok rfl ?_
    refine RL.nil ?_; repeat (first | with_reducible refine QN.block_normal ?_ | with_reducible refine QN.next ?_); repeat (first | with_reducible refine WP.seq ?_ | with_reducible refine WP.block ?_ | with_reducible refine WP.region ?_)
    refine (WP.loop (X := Nat × Value × List Nat) (fun x => [(1, .slice (some ae) B.length c1), (5, .slice AL L.length cL), (6, .int .i64 j), (7, x.2.1), (8, .int .i64 x.1)])
      (fun q m' => q.1 ≤ L.length ∧ Ev.Own m' q.2.2 62 3 q.2.1 ((L.take q.1).flatMap (splitM y)).length (((L.take q.1).flatMap (splitM y)).flatMap rC) ∧ New m3 q.2.2 m') (fun x => L.length - x.1) (0, .slice none 0 0, [])
      (Sub.cons rfl (Sub.cons rfl (Sub.cons rfl (Sub.cons rfl (Sub.cons rfl (Sub.nil)))))) ⟨by simp, Own.empty _ _ _ _, Ext.refl _ _, FpNew.nil _ _⟩ ?_)
    rintro ⟨i, w6, S6⟩ m6 ⟨hi, hO6, hN6⟩
    simp only at hi hO6 hN6
    repeat (first | with_reducible refine WP.seq ?_ | with_reducible refine WP.block ?_ | with_reducible refine WP.region ?_)
    refine RL.auto T_ok rfl ?_
    refine RL.nil ?_; repeat (first | with_reducible refine QN.block_normal ?_ | with_reducible refine QN.next ?_); repeat (first | with_reducible refine WP.seq ?_ | with_reducible refine WP.block ?_ | with_reducible refine WP.region ?_)
    refine WP.cond rfl (fun hci => ?_) (fun hci => ?_)
    · replace hci : i < L.length := by have := of_decide_eq_true hci; simp only at this; omega
      obtain ⟨ad, rfl, hx⟩ := (hRL.ext0 hN6.1).cell i hci
      obtain ⟨x, hxe⟩ : ∃ x, L[i] = x := ⟨_, rfl⟩
      have hnx : (L.take (i + 1)).flatMap (splitM y) = (L.take i).flatMap (splitM y) ++ splitM y x := by
        rw [List.take_succ_eq_append_getElem hci, List.flatMap_append, hxe]; simp
      have hln := splits_len y (L.take i)
      rw [List.length_take, Nat.min_eq_left hi] at hln
      rw [hxe] at hx
      generalize (L.take i).flatMap (splitM y) = o' at hO6 hln hnx
      refine WP.skip ?_; repeat (first | with_reducible refine QN.block_normal ?_ | with_reducible refine QN.next ?_); repeat (first | with_reducible refine WP.seq ?_ | with_reducible refine WP.block ?_ | with_reducible refine WP.region ?_)
      refine RL.auto T_ok rfl ?_
      refine RL.indexAddr (k := i) T_ok rfl rfl rfl rfl rfl rfl rfl hci rfl ?_
      refine RL.loadAgg T_ok (rC x) rfl rfl rfl hx rfl ?_
      refine RL.alloc T_ok rfl rfl (fun b9 m7 hb9 hC7 => ⟨_, rfl, ?_⟩)
      refine RL.storeAgg T_ok (b := b9) (i := 0) (vs := rC x) (cs := [.int .u64 0, .int .u64 0, .int .u64 0]) hC7.blk rfl rfl rfl rfl rfl (by simp) (by simp [rC, Value.oneCell']) rfl ?_
      intro m8 hC8
      have hE8 : Ext m6 [] m8 := (hC7.new (by omega)).trans hC8.ext (fun q hq => .inr (by have h9 : q = b9 := (by simpa using hq); omega))
      have hB9 : Blk m8 b9 62 (rC x) := hC8.blk
      have hO8 := hO6.ext hE8 (by simp)
      have hN8 : New m3 S6 m8 := ⟨hN6.1.trans hE8 (by simp), hN6.2⟩
      have h9S : b9 ∉ S6 := fun hh => by have := hO6.lt _ hh; omega
      have hE28 : Ext m2 [] m8 := hE3.trans hN8.1 (by simp)
      have hJ : Blk m8 b9 62 (rC x) ∧ Ext m2 [] m8 := ⟨hB9, hE28⟩
      refine RL.nil ?_; repeat (first | with_reducible refine QN.block_normal ?_ | with_reducible refine QN.next ?_)
      refine WP.seq ?_
      refine WP.cut (X := Bool) (fun q => [(1, .slice (some ae) B.length c1), (5, .slice (some ad) L.length cL), (6, .int .i64 j), (7, w6), (8, .int .i64 i), (9, .pointer (some ⟨b9, 0, none⟩)), (57, .bool q)])
        (fun q m' => m' = m8 ∧ q = decide (x.c ≠ y.c ∨ y.t ≤ x.f ∨ x.t ≤ y.f)) ?_ ?_
      · refine WP.drawQ (fun m' => m' = m8) [] (by kernel_rfl) rfl (by repeat (first | with_reducible exact PanicOk.body | with_reducible refine PanicOk.then_ ?_ | with_reducible refine PanicOk.block_ ?_)) (fun hQ => ?_)
        refine RH.pure T_ok hQ [0] (by kernel_rfl) rfl ?_
        refine RH.load T_ok hQ 1 (fun m' hm' => by rw [hm']; exact hB9.cell 0 rfl) rfl (by kernel_rfl) rfl rfl rfl rfl ?_
        refine RH.pure T_ok hQ [2, 3] (by kernel_rfl) rfl ?_
        refine RH.indexAddr T_ok hQ 4 (k := j) rfl (by kernel_rfl) rfl rfl rfl rfl rfl rfl rfl hc rfl ?_
        refine RH.pure T_ok hQ [5] (by kernel_rfl) rfl ?_
        refine RH.load T_ok hQ 6 (fun m' hm' => by rw [hm']; exact hy _ hE28 0 _ rfl) rfl (by kernel_rfl) rfl rfl rfl rfl ?_
        refine RH.pure T_ok hQ [7] (by kernel_rfl) rfl ?_
        by_cases h1 : x.c = y.c
        · refine RH.eqv (v' := .bool false) (congrArg _ (by rw [bne_nat']; exact decide_eq_false (fun hh => hh h1))) ?_
          refine RH.pure T_ok hQ [8, 9, 10] (by kernel_rfl) rfl ?_
          refine RH.indexAddr T_ok hQ 11 (k := j) rfl (by kernel_rfl) rfl rfl rfl rfl rfl rfl rfl hc rfl ?_
          refine RH.pure T_ok hQ [12] (by kernel_rfl) rfl ?_
          refine RH.load T_ok hQ 13 (fun m' hm' => by rw [hm']; exact hy _ hE28 2 _ rfl) rfl (by kernel_rfl) rfl rfl rfl rfl ?_
          refine RH.pure T_ok hQ [14] (by kernel_rfl) rfl ?_
          refine RH.load T_ok hQ 15 (fun m' hm' => by rw [hm']; exact hB9.cell 1 rfl) rfl (by kernel_rfl) rfl rfl rfl rfl ?_
          refine RH.pure T_ok hQ [16] (by kernel_rfl) rfl ?_
          by_cases h2 : y.t ≤ x.f
          · refine RH.eqv (v' := .bool true) (congrArg _ (by rw [dle']; exact decide_eq_true h2)) ?_
            refine RH.pure T_ok hQ [17, 18, 19, 20, 21, 22, 23, 24, 25, 26, 27] (by kernel_rfl) rfl ?_
            refine RH.done (by kernel_rfl) (fun _ => ?_)
            exact QN.cutEnd true (Sub.cons rfl (Sub.cons rfl (Sub.cons rfl (Sub.cons rfl (Sub.cons rfl (Sub.cons rfl (Sub.cons rfl (Sub.nil)))))))) ⟨rfl, (decide_eq_true (.inr (.inl h2))).symm⟩
          · refine RH.eqv (v' := .bool false) (congrArg _ (by rw [dle']; exact decide_eq_false h2)) ?_
            refine RH.pure T_ok hQ [17, 18, 19] (by kernel_rfl) rfl ?_
            refine RH.load T_ok hQ 20 (fun m' hm' => by rw [hm']; exact hB9.cell 2 rfl) rfl (by kernel_rfl) rfl rfl rfl rfl ?_
            refine RH.pure T_ok hQ [21, 22] (by kernel_rfl) rfl ?_
            refine RH.indexAddr T_ok hQ 23 (k := j) rfl (by kernel_rfl) rfl rfl rfl rfl rfl rfl rfl hc rfl ?_
            refine RH.pure T_ok hQ [24] (by kernel_rfl) rfl ?_
            refine RH.load T_ok hQ 25 (fun m' hm' => by rw [hm']; exact hy _ hE28 1 _ rfl) rfl (by kernel_rfl) rfl rfl rfl rfl ?_
            refine RH.pure T_ok hQ [26, 27] (by kernel_rfl) rfl ?_
            refine RH.done (by kernel_rfl) (fun _ => ?_)
            refine QN.cutEnd (decide (x.t ≤ y.f)) (Sub.cons rfl (Sub.cons rfl (Sub.cons rfl (Sub.cons rfl (Sub.cons rfl (Sub.cons rfl (Sub.cons ?_ Sub.nil))))))) ⟨rfl, decide_eq_decide.2 ⟨fun hh => .inr (.inr hh), fun hh => ?_⟩⟩
            · show some (Value.bool (decide ((x.t : Int) ≤ (y.f : Int)))) = _
              rw [dle']
            · rcases hh with hh | hh | hh
              · exact absurd h1 hh
              · exact absurd hh h2
              · exact hh
        · refine RH.eqv (v' := .bool true) (congrArg _ (by rw [bne_nat']; exact decide_eq_true h1)) ?_
          refine RH.pure T_ok hQ [8, 9, 10, 11, 12, 13, 14, 15, 16, 17, 18, 19, 20, 21, 22, 23, 24, 25, 26, 27] (by kernel_rfl) rfl ?_
          refine RH.done (by kernel_rfl) (fun _ => ?_)
          exact QN.cutEnd true (Sub.cons rfl (Sub.cons rfl (Sub.cons rfl (Sub.cons rfl (Sub.cons rfl (Sub.cons rfl (Sub.cons rfl (Sub.nil)))))))) ⟨rfl, (decide_eq_true (.inl h1)).symm⟩
      rintro q mc ⟨rfl, hq⟩
      refine WP.cond rfl (fun hb => ?_) (fun hb => ?_)
      · rw [hb] at hq
        have hsp : splitM y x = [x] := if_pos (of_decide_eq_true hq.symm)
        rw [hsp] at hnx
        repeat (first | with_reducible refine WP.seq ?_ | with_reducible refine WP.block ?_ | with_reducible refine WP.region ?_)
        refine RL.auto T_ok rfl ?_
        refine RL.loadAgg T_ok (rC x) rfl rfl rfl (fun j u hu => by rw [add_block]; exact hB9.cell _ (by simpa using hu)) rfl ?_
        refine RL.append1 T_ok [.tmp 59] hO8 (us := [rV x]) (rC x) rfl rfl rfl rfl rfl rfl rfl rfl rfl (by simp [rV, rC, Value.cells]) (by simp [rV, Value.cells]) (rC_one x) (by unfold maxLen; omega) (by show (_ + 1) * 24 ≤ _; omega) ?_
        intro v10 m10 S10 hO10 hE10 hF10
        refine ⟨_, rfl, ?_⟩
        have hN10 : New m3 S10 m10 := ⟨hN8.1.trans hE10 (fun k hk => .inr (hN8.ge k hk)), hN8.2.trans hF10 hN8.1.size⟩
        refine RL.auto T_ok rfl ?_
        refine RL.nil ?_; repeat (first | with_reducible refine QN.block_normal ?_ | with_reducible refine QN.next ?_); repeat (first | with_reducible refine WP.seq ?_ | with_reducible refine WP.block ?_ | with_reducible refine WP.region ?_)
        refine WP.exit ?_; repeat (first | with_reducible refine QN.then_exit ?_ | with_reducible refine QN.block_exit ?_ | with_reducible refine QN.block_far rfl ?_ | with_reducible refine QN.block_normal ?_ | with_reducible refine QN.next ?_); repeat (first | with_reducible refine WP.seq ?_ | with_reducible refine WP.block ?_ | with_reducible refine WP.region ?_)
        refine RL.pure T_ok 2 rfl ?_
        refine RL.eqv (v' := .int .i64 ((i + 1 : Nat) : Int)) (congrArg _ (by rw [wrap_i64_in _ (by omega) (by omega)]; rfl)) ?_
        refine RL.auto T_ok rfl ?_
        refine RL.nil (QN.round (i + 1, v10, S10) (Sub.cons rfl (Sub.cons rfl (Sub.cons rfl (Sub.cons rfl (Sub.cons rfl (Sub.nil)))))) ⟨by show i + 1 ≤ _; omega, ?_, hN10⟩ (by show _ - (i + 1) < _ - i; omega))
        show Ev.Own m10 S10 62 3 v10 ((L.take (i + 1)).flatMap (splitM y)).length (((L.take (i + 1)).flatMap (splitM y)).flatMap rC)
        rw [hnx, List.length_append, ← rsC_app]
        simpa using hO10
      · rw [hb] at hq
        have hsp : splitM y x = [⟨x.c, x.f, y.f⟩, ⟨x.c, y.t, x.t⟩] := if_neg (of_decide_eq_false hq.symm)
        rw [hsp] at hnx
        refine WP.skip ?_; repeat (first | with_reducible refine QN.block_normal ?_ | with_reducible refine QN.next ?_)
        refine WP.drawQ (fun m' => Blk m' b9 62 (rC x) ∧ Ext m2 [] m') [] (by kernel_rfl) hJ (by repeat (first | with_reducible exact PanicOk.body | with_reducible refine PanicOk.then_ ?_ | with_reducible refine PanicOk.block_ ?_)) (fun hQ => ?_)
        refine RH.pure T_ok hQ [0, 1] (by kernel_rfl) rfl ?_
        refine RH.load T_ok hQ 2 (fun m' hm' => hm'.1.cell 0 rfl) rfl (by kernel_rfl) rfl rfl rfl rfl ?_
        refine RH.pure T_ok hQ [3] (by kernel_rfl) rfl ?_
        refine RH.load T_ok hQ 4 (fun m' hm' => hm'.1.cell 1 rfl) rfl (by kernel_rfl) rfl rfl rfl rfl ?_
        refine RH.pure T_ok hQ [5, 6] (by kernel_rfl) rfl ?_
        refine RH.indexAddr T_ok hQ 7 (k := j) rfl (by kernel_rfl) rfl rfl rfl rfl rfl rfl rfl hc rfl ?_
        refine RH.pure T_ok hQ [8] (by kernel_rfl) rfl ?_
        refine RH.load T_ok hQ 9 (fun m' hm' => hy m' hm'.2 1 _ rfl) rfl (by kernel_rfl) rfl rfl rfl rfl ?_
        refine RH.pure T_ok hQ [10, 11] (by kernel_rfl) rfl ?_
        refine RH.load T_ok hQ 12 (fun m' hm' => hm'.1.cell 0 rfl) rfl (by kernel_rfl) rfl rfl rfl rfl ?_
        refine RH.pure T_ok hQ [13, 14] (by kernel_rfl) rfl ?_
        refine RH.indexAddr T_ok hQ 15 (k := j) rfl (by kernel_rfl) rfl rfl rfl rfl rfl rfl rfl hc rfl ?_
        refine RH.pure T_ok hQ [16] (by kernel_rfl) rfl ?_
        refine RH.load T_ok hQ 17 (fun m' hm' => hy m' hm'.2 2 _ rfl) rfl (by kernel_rfl) rfl rfl rfl rfl ?_
        refine RH.pure T_ok hQ [18] (by kernel_rfl) rfl ?_
        refine RH.load T_ok hQ 19 (fun m' hm' => hm'.1.cell 2 rfl) rfl (by kernel_rfl) rfl rfl rfl rfl ?_
        refine RH.pure T_ok hQ [20] (by kernel_rfl) rfl ?_
        refine RH.only 21 rfl (by kernel_rfl) (fun _ => ?_)
        refine RL.buildSlice T_ok [.tmp 72, .tmp 82] (us := [rV ⟨x.c, x.f, y.f⟩, rV ⟨x.c, y.t, x.t⟩]) (([⟨x.c, x.f, y.f⟩, ⟨x.c, y.t, x.t⟩] : List Rng).flatMap rC) rfl rfl rfl rfl rfl rfl (by simp [rV, rC, Value.cells]) (by simp [rV, Value.cells]) rfl (fun b11 m11 hb11 hC11 => ⟨_, rfl, ?_⟩)
        have hE11 : Ext mc [] m11 := hC11.new (by omega)
        have hN11 : New m3 S6 m11 := ⟨hN8.1.trans hE11 (by simp), hN8.2⟩
        have hB11 := hB9.ext hE11 (by simp)
        refine RL.nil (RH.cont ⟨hB11, hE3.trans hN11.1 (by simp)⟩ ?_)
        refine RH.only 22 rfl (by kernel_rfl) (fun _ => ?_)
        refine RL.append T_ok (hO8.ext hE11 (by simp)) (([⟨x.c, x.f, y.f⟩, ⟨x.c, y.t, x.t⟩] : List Rng).flatMap rC) (Src.of_blk (k := 2) (c := 2) hC11.blk rfl) rfl rfl rfl rfl rfl rfl (rsC_one _) (by unfold maxLen; omega) (by show (_ + 2) * 24 ≤ _; omega) ?_
        intro v10 m10 S10 hO10 hE10 hF10
        have hN10 : New m3 S10 m10 := ⟨hN11.1.trans hE10 (fun k hk => .inr (hN11.ge k hk)), hN11.2.trans hF10 hN11.1.size⟩
        refine ⟨_, rfl, RL.nil (RH.cont ⟨hB11.ext hE10 h9S, hE3.trans hN10.1 (by simp)⟩ ?_)⟩
        refine RH.pure T_ok hQ [23] (by kernel_rfl) rfl ?_
        refine RH.done (by kernel_rfl) (fun _ => ?_)
        repeat (first | with_reducible refine QN.block_normal ?_ | with_reducible refine QN.next ?_)
        repeat (first | with_reducible refine WP.seq ?_ | with_reducible refine WP.block ?_ | with_reducible refine WP.region ?_)
        refine RL.pure T_ok 2 rfl ?_
        refine RL.eqv (v' := .int .i64 ((i + 1 : Nat) : Int)) (congrArg _ (by rw [wrap_i64_in _ (by omega) (by omega)]; rfl)) ?_
        refine RL.auto T_ok rfl ?_
        refine RL.nil (QN.round (i + 1, v10, S10) (Sub.cons rfl (Sub.cons rfl (Sub.cons rfl (Sub.cons rfl (Sub.cons rfl (Sub.nil)))))) ⟨by show i + 1 ≤ _; omega, ?_, hN10⟩ (by show _ - (i + 1) < _ - i; omega))
        show Ev.Own m10 S10 62 3 v10 ((L.take (i + 1)).flatMap (splitM y)).length (((L.take (i + 1)).flatMap (splitM y)).flatMap rC)
        rw [hnx, List.length_append, ← rsC_app]
        exact hO10
    · replace hci : i = L.length := by have := of_decide_eq_false hci; simp only at this; omega
      subst hci
      rw [List.take_length] at hO6
      have hln := splits_len y L
      have hRn : Rs m6 [] w6 (L.flatMap (splitM y)) := hO6.sl (by simp)
      refine WP.exit ?_; repeat (first | with_reducible refine QN.then_exit ?_ | with_reducible refine QN.block_exit ?_ | with_reducible refine QN.block_far rfl ?_ | with_reducible refine QN.block_normal ?_ | with_reducible refine QN.next ?_); repeat (first | with_reducible refine WP.seq ?_ | with_reducible refine WP.block ?_ | with_reducible refine WP.region ?_)
      refine RL.auto T_ok rfl ?_
      refine RL.call (fi := []) (ca := []) rfl rfl rfl rfl (refclean_c m6 w6 _ hRn (by omega)) ?_
      rintro v9 m9 ⟨S9, hO9, hN9⟩
      refine ⟨_, rfl, ?_⟩
      have hE36 : Ext m [] m6 := hE3m.trans hN6.1 (by simp)
      have hE26 : Ext m2 [] m6 := hE3.trans hN6.1 (by simp)
      refine RL.auto T_ok rfl ?_
      refine RL.nil ?_; repeat (first | with_reducible refine QN.block_normal ?_ | with_reducible refine QN.next ?_); repeat (first | with_reducible refine WP.seq ?_ | with_reducible refine WP.block ?_ | with_reducible refine WP.region ?_)
      refine RL.pure T_ok 2 rfl ?_
      refine RL.eqv (v' := .int .i64 ((j + 1 : Nat) : Int)) (congrArg _ (by rw [wrap_i64_in _ (by omega) (by omega)]; rfl)) ?_
      refine RL.auto T_ok rfl ?_
      refine RL.nil (QN.round (j + 1, v9) (Sub.cons rfl (Sub.cons rfl (Sub.cons rfl (Sub.nil)))) ⟨by show j + 1 ≤ _; omega, ?_, hE26.trans hN9.1 (by simp)⟩ (by show _ - (j + 1) < _ - j; omega))
      show Made m v9 (minus a (B.take (j + 1))) m9
      rw [← hst]
      exact ⟨S9, hO9, hE36.trans hN9.1 (by simp), hN9.2.trans' hE36⟩
  · replace hc : j = B.length := by have := of_decide_eq_false hc; simp only at this; omega
    subst hc
    refine WP.exit ?_; repeat (first | with_reducible refine QN.then_exit ?_ | with_reducible refine QN.block_exit ?_ | with_reducible refine QN.block_far rfl ?_ | with_reducible refine QN.block_normal ?_ | with_reducible refine QN.next ?_); repeat (first | with_reducible refine WP.seq ?_ | with_reducible refine WP.block ?_ | with_reducible refine WP.region ?_)
    refine RL.auto T_ok rfl ?_
    refine RL.nil ?_; repeat (first | with_reducible refine QN.block_normal ?_ | with_reducible refine QN.next ?_); repeat (first | with_reducible refine WP.seq ?_ | with_reducible refine WP.block ?_ | with_reducible refine WP.region ?_)
    refine WP.ret ?_; repeat (first | with_reducible refine QN.then_ret ?_ | with_reducible refine QN.block_ret ?_)
    exact QN.ret1 rfl rfl ⟨_, rfl, hM3⟩
end Go.Proofs.Ytmjpcaiehfimgaa
