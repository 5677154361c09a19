/- Above. -/
import Derived.Test.YtkfakfbndnbpiaaIdsV
import Derived.Test.YtkfakfbndnbpiaaTurnS
namespace Go.Proofs.Ytkfakfbndnbpiaa
open Go.RowKit Go.Ev Go.Ids

theorem pieceV (x y : Trn) : Value.agg #[.int .u64 x.c, .int .u64 (if (y.f : Int) > (x.f : Int) then (y.f : Int) else (x.f : Int)), .int .u64 (if (y.t : Int) < (x.t : Int) then (y.t : Int) else (x.t : Int)), .int .u64 x.n] = tV ⟨x.c, max x.f y.f, min x.t y.t, x.n⟩ := by
  have h1 := maxV x.f y.f
  have h2 := minV x.t y.t
  rw [h1, h2]; rfl
theorem dgt' (a b : Nat) : decide ((a : Int) > (b : Int)) = decide (b < a) := by rw [decide_eq_decide]; omega
theorem aboveT_c (m : World) (v u : Value) (a b : List Trn) (h : Ts m [] v a) (h' : Ts m [] u b) (hla : a.length < 100000000) (hlb : b.length < 100000000) (hl : (2 * a.length + 2) * (2 * (2 * b.length + 2) + 1) < 100000000) :
    FnR Try.prog 53 [v, u] m fun r m' => ∃ L, (TCanon L ∧ (∀ c k, turnOf L c k = aboveOf a b c k) ∧ L.length ≤ 2 * ((2 * a.length + 2) * (2 * (2 * b.length + 2) + 1)) + 2) ∧ TMade m r L m' := by
  refine FnE.enter ⟨_, Try.func53, by kernel_rfl, by kernel_rfl⟩ Try.func53 rfl rfl ?_
  repeat (first | with_reducible refine WP.seq ?_ | with_reducible refine WP.block ?_ | with_reducible refine WP.region ?_)
  refine RL.auto T_ok rfl ?_
  refine RL.nil ?_; repeat (first | with_reducible refine QN.block_normal ?_ | with_reducible refine QN.next ?_); repeat (first | with_reducible refine WP.seq ?_ | with_reducible refine WP.block ?_ | with_reducible refine WP.region ?_)
  refine RL.auto T_ok rfl ?_
  refine RL.nil ?_; repeat (first | with_reducible refine QN.block_normal ?_ | with_reducible refine QN.next ?_); repeat (first | with_reducible refine WP.seq ?_ | with_reducible refine WP.block ?_ | with_reducible refine WP.region ?_)
  refine RL.auto T_ok rfl ?_
  refine RL.call (fi := []) (ca := []) rfl rfl rfl rfl (turnsF_c m u b h' (by omega)) ?_
  rintro v1 m1 ⟨B, hB, S1, hO1, hN1⟩
  refine ⟨_, rfl, ?_⟩
  refine RL.auto T_ok rfl ?_
  refine RL.nil ?_; repeat (first | with_reducible refine QN.block_normal ?_ | with_reducible refine QN.next ?_); repeat (first | with_reducible refine WP.seq ?_ | with_reducible refine WP.block ?_ | with_reducible refine WP.region ?_)
  refine RL.auto T_ok rfl ?_
  refine RL.call (fi := []) (ca := []) rfl rfl rfl rfl (turnsF_c m1 v a (h.ext0 hN1.1) (by omega)) ?_
  rintro v2 m2 ⟨A, hA, S2, hO2, hN2⟩
  refine ⟨_, rfl, ?_⟩
  have hO12 := hO1.ext hN2.1 (by simp)
  have hEm : Ext m [] m2 := hN1.1.trans hN2.1 (by simp)
  have hml : A.length * (2 * B.length + 1) ≤ (2 * a.length + 2) * (2 * (2 * b.length + 2) + 1) := Nat.mul_le_mul hA.2.2 (by have := hB.2.2; omega)
  have hAl := hA.2.2
  have hBl := hB.2.2
  have htold := aboveO_told hA.1 hB.1 hA.2.1 hB.2.1
  have htake := fun i h => aboveO_take A B i h
  have hlen := fun i => aboveO_len (A.take i) B []
  obtain ⟨A2, c2, rfl, _⟩ := hO2.shape
  obtain ⟨A1, c1, rfl, _⟩ := hO12.shape
  have hRA : Ts m2 [] (.slice A2 A.length c2) A := hO2.sl (by simp)
  have hRB : Ts m2 [] (.slice A1 B.length c1) B := hO12.sl (by simp)
  clear hO2 hO12 hN1 hN2 hO1
  refine RL.auto T_ok rfl ?_
  refine RL.nil ?_; repeat (first | with_reducible refine QN.block_normal ?_ | with_reducible refine QN.next ?_); repeat (first | with_reducible refine WP.seq ?_ | with_reducible refine WP.block ?_ | with_reducible refine WP.region ?_)
  refine (WP.loop (X := Nat × Value × List Nat) (fun x => [(13, .slice A2 A.length c2), (14, .int .i64 A.length), (1, .slice A1 B.length c1), (5, x.2.1), (15, .int .i64 x.1)])
    (fun x m' => x.1 ≤ A.length ∧ Ev.Own m' x.2.2 101 4 x.2.1 (aboveO (A.take x.1) B).length ((aboveO (A.take x.1) B).flatMap tC) ∧ New m2 x.2.2 m') (fun x => A.length - x.1) (0, .slice none 0 0, [])
    (Sub.cons rfl (Sub.cons rfl (Sub.cons rfl (Sub.cons rfl (Sub.cons rfl Sub.nil))))) ⟨by simp, Own.empty _ _ _ _, Ext.refl _ _, FpNew.nil _ _⟩ ?_)
  rintro ⟨i, w, S⟩ m3 ⟨hi, hO3, hN3⟩
  simp only at hi hO3 hN3
  repeat (first | with_reducible refine WP.seq ?_ | with_reducible refine WP.block ?_ | with_reducible refine WP.region ?_)
  refine RL.auto T_ok rfl ?_
  refine RL.nil ?_; repeat (first | with_reducible refine QN.block_normal ?_ | with_reducible refine QN.next ?_); repeat (first | with_reducible refine WP.seq ?_ | with_reducible refine WP.block ?_ | with_reducible refine WP.region ?_)
  refine WP.cond rfl (fun hc => ?_) (fun hc => ?_)
  · replace hc : i < A.length := by have := of_decide_eq_true hc; simp only at this; omega
    obtain ⟨ad, rfl, hx⟩ := (hRA.ext0 hN3.1).cell i hc
    have hnext := htake i hc
    have hlen1 : (aboveO (A.take i) B).length ≤ i * (2 * B.length + 1) := by
      have h9 := hlen i
      rw [List.length_take, Nat.min_eq_left hi] at h9
      unfold aboveO
      simpa using h9
    have hlen2 : i * (2 * B.length + 1) + (2 * B.length + 1) ≤ A.length * (2 * B.length + 1) := by
      have h9 : (i + 1) * (2 * B.length + 1) ≤ A.length * (2 * B.length + 1) := Nat.mul_le_mul_right _ hc
      rw [Nat.succ_mul] at h9; exact h9
    generalize aboveO (A.take i) B = out at hO3 hnext hlen1
    obtain ⟨x, hxe⟩ : ∃ x, A[i] = x := ⟨_, rfl⟩
    rw [hxe] at hx hnext
    refine WP.skip ?_; repeat (first | with_reducible refine QN.block_normal ?_ | with_reducible refine QN.next ?_); repeat (first | with_reducible refine WP.seq ?_ | with_reducible refine WP.block ?_ | with_reducible refine WP.region ?_)
    refine RL.indexAddr (k := i) T_ok rfl rfl rfl rfl rfl rfl rfl hc rfl ?_
    refine RL.loadAgg T_ok (tC x) rfl rfl rfl hx rfl ?_
    refine RL.alloc T_ok rfl rfl (fun b7 m4 hb7 hC4 => ⟨_, rfl, ?_⟩)
    refine RL.storeAgg T_ok (b := b7) (i := 0) (vs := tC x) (cs := [.int .u64 0, .int .u64 0, .int .u64 0, .int .u64 0]) hC4.blk rfl rfl rfl rfl rfl (by simp) (by simp [tC, Value.oneCell']) rfl ?_
    intro m5 hC5
    have hE5 : Ext m3 [] m5 := (hC4.new (by omega)).trans hC5.ext (fun q hq => .inr (by have h9 : q = b7 := (by simpa using hq); omega))
    have hB5 : Blk m5 b7 101 (tC x) := hC5.blk
    have hO5 := hO3.ext hE5 (by simp)
    have h7S : b7 ∉ S := fun hh => by have := hO3.lt _ hh; omega
    have h7m : m2.heap.size ≤ b7 := by have := hN3.1.size; omega
    have hN5 : New m2 S m5 := ⟨hN3.1.trans hE5 (by simp), hN3.2⟩
    refine RL.nil ?_; repeat (first | with_reducible refine QN.block_normal ?_ | with_reducible refine QN.next ?_); repeat (first | with_reducible refine WP.seq ?_ | with_reducible refine WP.block ?_ | with_reducible refine WP.region ?_)
    refine RL.auto T_ok rfl ?_
    refine RL.nil ?_; repeat (first | with_reducible refine QN.block_normal ?_ | with_reducible refine QN.next ?_); repeat (first | with_reducible refine WP.seq ?_ | with_reducible refine WP.block ?_ | with_reducible refine WP.region ?_)
    refine (WP.loop (X := Nat × Value × List Nat) (fun x => [(13, .slice (some ad) A.length c2), (14, .int .i64 A.length), (1, .slice A1 B.length c1), (15, .int .i64 i), (7, .pointer (some ⟨b7, 0, none⟩)), (19, .slice A1 B.length c1), (20, .int .i64 B.length), (5, x.2.1), (21, .int .i64 x.1)])
      (fun q m' => q.1 ≤ B.length ∧ Blk m' b7 101 (tC ((B.take q.1).foldl cutT (x, out)).1) ∧ Ev.Own m' q.2.2 101 4 q.2.1 ((B.take q.1).foldl cutT (x, out)).2.length (((B.take q.1).foldl cutT (x, out)).2.flatMap tC) ∧ b7 ∉ q.2.2 ∧ New m2 q.2.2 m') (fun x => B.length - x.1) (0, w, S)
      (Sub.cons rfl (Sub.cons rfl (Sub.cons rfl (Sub.cons rfl (Sub.cons rfl (Sub.cons rfl (Sub.cons rfl (Sub.cons rfl (Sub.cons rfl Sub.nil))))))))) ⟨by simp, hB5, hO5, h7S, hN5⟩ ?_)
    rintro ⟨j, w6, S6⟩ m6 ⟨hj, hB6, hO6, h76, hN6⟩
    simp only at hj hB6 hO6 h76 hN6
    have hlen6 : ((B.take j).foldl cutT (x, out)).2.length ≤ out.length + 2 * j := by
      have h9 := cutT_len (B.take j) (x, out)
      rw [List.length_take, Nat.min_eq_left hj] at h9
      exact h9
    repeat (first | with_reducible refine WP.seq ?_ | with_reducible refine WP.block ?_ | with_reducible refine WP.region ?_)
    refine RL.auto T_ok rfl ?_
    refine RL.nil ?_; repeat (first | with_reducible refine QN.block_normal ?_ | with_reducible refine QN.next ?_); repeat (first | with_reducible refine WP.seq ?_ | with_reducible refine WP.block ?_ | with_reducible refine WP.region ?_)
    refine WP.cond rfl (fun hcj => ?_) (fun hcj => ?_)
    · replace hcj : j < B.length := by have := of_decide_eq_true hcj; simp only at this; omega
      obtain ⟨ae, rfl, hy⟩ := (hRB.ext0 hN6.1).cell j hcj
      obtain ⟨y, hye⟩ : ∃ y, B[j] = y := ⟨_, rfl⟩
      have hnx : (B.take (j + 1)).foldl cutT (x, out) = cutT ((B.take j).foldl cutT (x, out)) y := by rw [cutT_take B (x, out) j hcj, hye]
      rw [hye] at hy
      generalize (B.take j).foldl cutT (x, out) = s at hB6 hO6 hlen6 hnx
      obtain ⟨x', o'⟩ := s
      simp only at hB6 hO6 hlen6
      have hcut : cutT (x', o') y = if y.c ≠ x'.c ∨ y.t ≤ x'.f ∨ x'.t ≤ y.f then (x', o') else ({ x' with f := min x'.t y.t }, (o' ++ (if x'.f < y.f then [(⟨x'.c, x'.f, y.f, x'.n⟩ : Trn)] else [])) ++ (if y.n < x'.n then [(⟨x'.c, max x'.f y.f, min x'.t y.t, x'.n⟩ : Trn)] else [])) := rfl
      refine WP.skip ?_; repeat (first | with_reducible refine QN.block_normal ?_ | with_reducible refine QN.next ?_); repeat (first | with_reducible refine WP.seq ?_ | with_reducible refine WP.block ?_ | with_reducible refine WP.region ?_)
      refine RL.indexAddr (k := j) T_ok rfl rfl rfl rfl rfl rfl rfl hcj rfl ?_
      refine RL.loadAgg T_ok (tC y) rfl rfl rfl hy rfl ?_
      refine RL.alloc T_ok rfl rfl (fun b9 m7 hb9 hC7 => ⟨_, rfl, ?_⟩)
      refine RL.storeAgg T_ok (b := b9) (i := 0) (vs := tC y) (cs := [.int .u64 0, .int .u64 0, .int .u64 0, .int .u64 0]) hC7.blk rfl rfl rfl rfl rfl (by simp) (by simp [tC, Value.oneCell']) rfl ?_
      intro m8 hC8
      have hE8 : Ext m6 [] m8 := (hC7.new (by omega)).trans hC8.ext (fun q hq => .inr (by have h9 : q = b9 := (by simpa using hq); omega))
      have hB9 : Blk m8 b9 101 (tC y) := hC8.blk
      have hB7 := hB6.ext hE8 (by simp)
      have hO8 := hO6.ext hE8 (by simp)
      have hN8 : New m2 S6 m8 := ⟨hN6.1.trans hE8 (by simp), hN6.2⟩
      have l7 := hB6.lt
      have h96 : b9 ∉ S6 := fun hh => by have := hO6.lt _ hh; omega
      clear hB6 hO6 hC7 hC8 hN6 hE8
      refine RL.nil ?_; repeat (first | with_reducible refine QN.block_normal ?_ | with_reducible refine QN.next ?_)
      refine WP.seq ?_
      refine WP.cut (X := Bool) (fun q => [(13, .slice (some ad) A.length c2), (14, .int .i64 A.length), (1, .slice (some ae) B.length c1), (15, .int .i64 i), (7, .pointer (some ⟨b7, 0, none⟩)), (19, .slice (some ae) B.length c1), (20, .int .i64 B.length), (5, w6), (21, .int .i64 j), (9, .pointer (some ⟨b9, 0, none⟩)), (43, .bool q)]) (fun q m' => m' = m8 ∧ q = decide (y.c ≠ x'.c ∨ y.t ≤ x'.f ∨ x'.t ≤ y.f)) ?_ ?_
      · refine WP.region ?_
        repeat (first | refine RL.pure T_ok 1 rfl ?_ | refine RL.load T_ok rfl rfl rfl (hB7.cell _ rfl) rfl ?_ | refine RL.load T_ok rfl rfl rfl (hB9.cell _ rfl) rfl ?_)
        by_cases h1 : y.c = x'.c
        · refine RL.eqv (v' := .bool false) (congrArg _ (by rw [bne_nat']; exact decide_eq_false (fun hh => hh h1))) ?_
          repeat (first | refine RL.pure T_ok 1 rfl ?_ | refine RL.load T_ok rfl rfl rfl (hB7.cell _ rfl) rfl ?_ | refine RL.load T_ok rfl rfl rfl (hB9.cell _ rfl) rfl ?_)
          by_cases h2 : y.t ≤ x'.f
          · refine RL.eqv (v' := .bool true) (congrArg _ (by rw [dle']; exact decide_eq_true h2)) ?_
            repeat (first | refine RL.pure T_ok 1 rfl ?_ | refine RL.load T_ok rfl rfl rfl (hB7.cell _ rfl) rfl ?_ | refine RL.load T_ok rfl rfl rfl (hB9.cell _ rfl) rfl ?_)
            exact RL.nil (QN.cutEnd true (Sub.cons rfl (Sub.cons rfl (Sub.cons rfl (Sub.cons rfl (Sub.cons rfl (Sub.cons rfl (Sub.cons rfl (Sub.cons rfl (Sub.cons rfl (Sub.cons rfl (Sub.cons rfl Sub.nil))))))))))) ⟨rfl, (decide_eq_true (.inr (.inl h2))).symm⟩)
          · refine RL.eqv (v' := .bool false) (congrArg _ (by rw [dle']; exact decide_eq_false h2)) ?_
            repeat (first | refine RL.pure T_ok 1 rfl ?_ | refine RL.load T_ok rfl rfl rfl (hB7.cell _ rfl) rfl ?_ | refine RL.load T_ok rfl rfl rfl (hB9.cell _ rfl) rfl ?_)
            refine RL.nil (QN.cutEnd (decide (x'.t ≤ y.f)) (Sub.cons rfl (Sub.cons rfl (Sub.cons rfl (Sub.cons rfl (Sub.cons rfl (Sub.cons rfl (Sub.cons rfl (Sub.cons rfl (Sub.cons rfl (Sub.cons rfl (Sub.cons ?_ Sub.nil))))))))))) ⟨rfl, decide_eq_decide.2 ⟨fun hh => .inr (.inr hh), fun hh => ?_⟩⟩)
            · show some (Value.bool (decide ((y.f : Int) ≥ (x'.t : Int)))) = _
              rw [dge']
            · rcases hh with hh | hh | hh
              · exact absurd h1 hh
              · exact absurd hh h2
              · exact hh
        · refine RL.eqv (v' := .bool true) (congrArg _ (by rw [bne_nat']; exact decide_eq_true h1)) ?_
          repeat (first | refine RL.pure T_ok 1 rfl ?_ | refine RL.load T_ok rfl rfl rfl (hB7.cell _ rfl) rfl ?_ | refine RL.load T_ok rfl rfl rfl (hB9.cell _ rfl) rfl ?_)
          exact RL.nil (QN.cutEnd true (Sub.cons rfl (Sub.cons rfl (Sub.cons rfl (Sub.cons rfl (Sub.cons rfl (Sub.cons rfl (Sub.cons rfl (Sub.cons rfl (Sub.cons rfl (Sub.cons rfl (Sub.cons rfl Sub.nil))))))))))) ⟨rfl, (decide_eq_true (.inl h1)).symm⟩)
      rintro q mc ⟨rfl, hq⟩
      refine WP.cond rfl (fun hb => ?_) (fun hb => ?_)
      · rw [hb] at hq
        rw [hcut, if_pos (of_decide_eq_true hq.symm)] at hnx
        refine WP.exit ?_; repeat (first | with_reducible refine QN.then_exit ?_ | with_reducible refine QN.block_exit ?_ | with_reducible refine QN.block_far rfl ?_ | with_reducible refine QN.block_normal ?_ | with_reducible refine QN.next ?_); repeat (first | with_reducible refine WP.seq ?_ | with_reducible refine WP.block ?_ | with_reducible refine WP.region ?_)
        refine RL.pure T_ok 1 rfl ?_
        refine RL.eqv (v' := .int .i64 ((j + 1 : Nat) : Int)) (congrArg _ (by rw [wrap_i64_in _ (by omega) (by omega)]; rfl)) ?_
        refine RL.auto T_ok rfl ?_
        refine RL.nil (QN.round (j + 1, w6, S6) (Sub.cons rfl (Sub.cons rfl (Sub.cons rfl (Sub.cons rfl (Sub.cons rfl (Sub.cons rfl (Sub.cons rfl (Sub.cons rfl (Sub.cons rfl Sub.nil))))))))) ⟨by show j + 1 ≤ _; omega, ?_, ?_, h76, hN8⟩ (by show _ - (j + 1) < _ - j; omega))
        · show Blk _ b7 101 (tC ((B.take (j + 1)).foldl cutT (x, out)).1)
          rw [hnx]; exact hB7
        · show Ev.Own _ S6 101 4 w6 ((B.take (j + 1)).foldl cutT (x, out)).2.length (((B.take (j + 1)).foldl cutT (x, out)).2.flatMap tC)
          rw [hnx]; exact hO8
      rw [hb] at hq
      rw [hcut, if_neg (of_decide_eq_false hq.symm)] at hnx
      refine WP.skip ?_
      repeat (first | with_reducible refine QN.block_normal ?_ | with_reducible refine QN.next ?_)
      have hlp : (if x'.f < y.f then [(⟨x'.c, x'.f, y.f, x'.n⟩ : Trn)] else []).length ≤ 1 := by split <;> simp
      have hlq : (if y.n < x'.n then [(⟨x'.c, max x'.f y.f, min x'.t y.t, x'.n⟩ : Trn)] else []).length ≤ 1 := by split <;> simp
      refine WP.cut (X := Value × List Nat) (fun q => [(13, .slice (some ad) A.length c2), (14, .int .i64 A.length), (1, .slice (some ae) B.length c1), (15, .int .i64 i), (7, .pointer (some ⟨b7, 0, none⟩)), (19, .slice (some ae) B.length c1), (20, .int .i64 B.length), (5, q.1), (21, .int .i64 j), (9, .pointer (some ⟨b9, 0, none⟩))])
        (fun q m' => Blk m' b7 101 (tC x') ∧ Blk m' b9 101 (tC y) ∧ Ev.Own m' q.2 101 4 q.1 (o' ++ (if x'.f < y.f then [(⟨x'.c, x'.f, y.f, x'.n⟩ : Trn)] else [])).length ((o' ++ (if x'.f < y.f then [(⟨x'.c, x'.f, y.f, x'.n⟩ : Trn)] else [])).flatMap tC) ∧ b7 ∉ q.2 ∧ b9 ∉ q.2 ∧ New m2 q.2 m') ?_ ?_
      · repeat (first | with_reducible refine WP.seq ?_ | with_reducible refine WP.block ?_ | with_reducible refine WP.region ?_)
        repeat (first | refine RL.pure T_ok 1 rfl ?_ | refine RL.load T_ok rfl rfl rfl (hB7.cell _ rfl) rfl ?_ | refine RL.load T_ok rfl rfl rfl (hB9.cell _ rfl) rfl ?_)
        refine RL.eqv (v' := .bool (decide (x'.f < y.f))) (congrArg _ (dlt _ _)) ?_
        refine RL.nil ?_; repeat (first | with_reducible refine QN.block_normal ?_ | with_reducible refine QN.next ?_)
        refine WP.cond rfl (fun h1 => ?_) (fun h1 => ?_)
        · rw [if_pos (of_decide_eq_true h1)]
          repeat (first | with_reducible refine WP.seq ?_ | with_reducible refine WP.block ?_ | with_reducible refine WP.region ?_)
          repeat (first | refine RL.pure T_ok 1 rfl ?_ | refine RL.load T_ok rfl rfl rfl (hB7.cell _ rfl) rfl ?_ | refine RL.load T_ok rfl rfl rfl (hB9.cell _ rfl) rfl ?_)
          refine RL.append1 T_ok [.tmp 58] hO8 (us := [tV ⟨x'.c, x'.f, y.f, x'.n⟩]) (tC ⟨x'.c, x'.f, y.f, x'.n⟩) rfl rfl rfl rfl rfl rfl rfl rfl rfl (by simp [tV, tC, Value.cells]) (by simp [tV, Value.cells]) (tC_one _) (by unfold maxLen; omega) (by show (_ + 1) * 32 ≤ _; omega) ?_
          intro v10 m10 S10 hO10 hE10 hF10
          refine ⟨_, rfl, ?_⟩
          have l9 := hB9.lt
          have l7' := hB7.lt
          refine RL.auto T_ok rfl ?_
          refine RL.nil (QN.cutEnd (v10, S10) (Sub.cons rfl (Sub.cons rfl (Sub.cons rfl (Sub.cons rfl (Sub.cons rfl (Sub.cons rfl (Sub.cons rfl (Sub.cons rfl (Sub.cons rfl (Sub.cons rfl Sub.nil)))))))))) ⟨hB7.ext hE10 h76, hB9.ext hE10 h96, ?_, hF10.far h76 l7', hF10.far h96 l9, hN8.1.trans hE10 (fun k hk => .inr (hN8.ge k hk)), hN8.2.trans hF10 hN8.1.size⟩)
          rw [List.length_append, ← tsC_app]
          simpa using hO10
        · rw [if_neg (of_decide_eq_false h1), List.append_nil]
          refine WP.skip ?_
          exact QN.cutEnd (w6, S6) (Sub.cons rfl (Sub.cons rfl (Sub.cons rfl (Sub.cons rfl (Sub.cons rfl (Sub.cons rfl (Sub.cons rfl (Sub.cons rfl (Sub.cons rfl (Sub.cons rfl Sub.nil)))))))))) ⟨hB7, hB9, hO8, h76, h96, hN8⟩
      generalize hop : o' ++ (if x'.f < y.f then [(⟨x'.c, x'.f, y.f, x'.n⟩ : Trn)] else []) = op at hnx
      have hopl : op.length ≤ o'.length + 1 := by rw [← hop, List.length_append]; omega
      clear hB7 hB9 hO8 h76 h96 hN8
      rintro ⟨wA, SA⟩ mA ⟨hB7, hB9, hO8, h76, h96, hN8⟩
      simp only at hO8 h76 h96 hN8
      refine WP.cut (X := Value × List Nat) (fun q => [(13, .slice (some ad) A.length c2), (14, .int .i64 A.length), (1, .slice (some ae) B.length c1), (15, .int .i64 i), (7, .pointer (some ⟨b7, 0, none⟩)), (19, .slice (some ae) B.length c1), (20, .int .i64 B.length), (5, q.1), (21, .int .i64 j), (9, .pointer (some ⟨b9, 0, none⟩))])
        (fun q m' => Blk m' b7 101 (tC x') ∧ Blk m' b9 101 (tC y) ∧ Ev.Own m' q.2 101 4 q.1 (op ++ (if y.n < x'.n then [(⟨x'.c, max x'.f y.f, min x'.t y.t, x'.n⟩ : Trn)] else [])).length ((op ++ (if y.n < x'.n then [(⟨x'.c, max x'.f y.f, min x'.t y.t, x'.n⟩ : Trn)] else [])).flatMap tC) ∧ b7 ∉ q.2 ∧ b9 ∉ q.2 ∧ New m2 q.2 m') ?_ ?_
      · repeat (first | with_reducible refine WP.seq ?_ | with_reducible refine WP.block ?_ | with_reducible refine WP.region ?_)
        repeat (first | refine RL.pure T_ok 1 rfl ?_ | refine RL.load T_ok rfl rfl rfl (hB7.cell _ rfl) rfl ?_ | refine RL.load T_ok rfl rfl rfl (hB9.cell _ rfl) rfl ?_)
        refine RL.eqv (v' := .bool (decide (y.n < x'.n))) (congrArg _ (dgt' _ _)) ?_
        refine RL.nil ?_; repeat (first | with_reducible refine QN.block_normal ?_ | with_reducible refine QN.next ?_)
        refine WP.cond rfl (fun h1 => ?_) (fun h1 => ?_)
        · rw [if_pos (of_decide_eq_true h1)]
          repeat (first | with_reducible refine WP.seq ?_ | with_reducible refine WP.block ?_ | with_reducible refine WP.region ?_)
          repeat (first | refine RL.pure T_ok 1 rfl ?_ | refine RL.load T_ok rfl rfl rfl (hB7.cell _ rfl) rfl ?_ | refine RL.load T_ok rfl rfl rfl (hB9.cell _ rfl) rfl ?_)
          refine RL.eqv (v' := tV ⟨x'.c, max x'.f y.f, min x'.t y.t, x'.n⟩) (pieceV x' y) ?_
          refine RL.append1 T_ok [.tmp 81] hO8 (us := [tV ⟨x'.c, max x'.f y.f, min x'.t y.t, x'.n⟩]) (tC ⟨x'.c, max x'.f y.f, min x'.t y.t, x'.n⟩) rfl rfl rfl rfl rfl rfl rfl rfl rfl (by simp [tV, tC, Value.cells]) (by simp [tV, Value.cells]) (tC_one _) (by unfold maxLen; omega) (by show (_ + 1) * 32 ≤ _; omega) ?_
          intro v10 m10 S10 hO10 hE10 hF10
          refine ⟨_, rfl, ?_⟩
          have l9 := hB9.lt
          have l7' := hB7.lt
          refine RL.auto T_ok rfl ?_
          refine RL.nil (QN.cutEnd (v10, S10) (Sub.cons rfl (Sub.cons rfl (Sub.cons rfl (Sub.cons rfl (Sub.cons rfl (Sub.cons rfl (Sub.cons rfl (Sub.cons rfl (Sub.cons rfl (Sub.cons rfl Sub.nil)))))))))) ⟨hB7.ext hE10 h76, hB9.ext hE10 h96, ?_, hF10.far h76 l7', hF10.far h96 l9, hN8.1.trans hE10 (fun k hk => .inr (hN8.ge k hk)), hN8.2.trans hF10 hN8.1.size⟩)
          rw [List.length_append, ← tsC_app]
          simpa using hO10
        · rw [if_neg (of_decide_eq_false h1), List.append_nil]
          refine WP.skip ?_
          exact QN.cutEnd (wA, SA) (Sub.cons rfl (Sub.cons rfl (Sub.cons rfl (Sub.cons rfl (Sub.cons rfl (Sub.cons rfl (Sub.cons rfl (Sub.cons rfl (Sub.cons rfl (Sub.cons rfl Sub.nil)))))))))) ⟨hB7, hB9, hO8, h76, h96, hN8⟩
      clear hB7 hB9 hO8 h76 h96 hN8
      rintro ⟨wB, SB⟩ mB ⟨hB7, hB9, hO8, h76, h96, hN8⟩
      simp only at hO8 h76 h96 hN8
      repeat (first | with_reducible refine WP.seq ?_ | with_reducible refine WP.block ?_ | with_reducible refine WP.region ?_)
      refine RL.pure T_ok 1 rfl ?_
      refine RL.load T_ok rfl rfl rfl (hB7.cell 2 rfl) rfl ?_
      refine RL.pure T_ok 1 rfl ?_
      refine RL.load T_ok rfl rfl rfl (hB9.cell 2 rfl) rfl ?_
      refine RL.pure T_ok 1 rfl ?_
      refine RL.eqv (v' := .int .u64 (min x'.t y.t : Nat)) (minV x'.t y.t) ?_
      refine RL.pure T_ok 1 rfl ?_
      refine RL.store T_ok hB7 (i := 1) (v := .int .u64 (min x'.t y.t : Nat)) (by simp [tC]) rfl rfl rfl rfl rfl rfl ?_
      intro m11 hC11
      have hE11 : Ext m2 [] m11 := hN8.1.trans hC11.ext (fun k hk => .inr (by have h9 : k = b7 := (by simpa using hk); omega))
      have hO11 := hO8.ext hC11.ext (fun k hk hh => h76 (by have h9 : k = b7 := (by simpa using hh); exact h9 ▸ hk))
      have hB11 : Blk m11 b7 101 (tC { x' with f := min x'.t y.t }) := hC11.blk
      refine RL.nil ?_; repeat (first | with_reducible refine QN.block_normal ?_ | with_reducible refine QN.next ?_); repeat (first | with_reducible refine WP.seq ?_ | with_reducible refine WP.block ?_ | with_reducible refine WP.region ?_)
      refine RL.pure T_ok 1 rfl ?_
      refine RL.eqv (v' := .int .i64 ((j + 1 : Nat) : Int)) (congrArg _ (by rw [wrap_i64_in _ (by omega) (by omega)]; rfl)) ?_
      refine RL.auto T_ok rfl ?_
      refine RL.nil (QN.round (j + 1, wB, SB) (Sub.cons rfl (Sub.cons rfl (Sub.cons rfl (Sub.cons rfl (Sub.cons rfl (Sub.cons rfl (Sub.cons rfl (Sub.cons rfl (Sub.cons rfl Sub.nil))))))))) ⟨by show j + 1 ≤ _; omega, ?_, ?_, h76, ⟨hE11, hN8.2⟩⟩ (by show _ - (j + 1) < _ - j; omega))
      · show Blk _ b7 101 (tC ((B.take (j + 1)).foldl cutT (x, out)).1)
        rw [hnx]; exact hB11
      · show Ev.Own _ SB 101 4 wB ((B.take (j + 1)).foldl cutT (x, out)).2.length (((B.take (j + 1)).foldl cutT (x, out)).2.flatMap tC)
        rw [hnx]
        exact hO11
    · replace hcj : j = B.length := by have := of_decide_eq_false hcj; simp only at this; omega
      subst hcj
      rw [List.take_length] at hB6 hO6 hlen6
      have hoM : finT (B.foldl cutT (x, out)) = (B.foldl cutT (x, out)).2 ++ (if (B.foldl cutT (x, out)).1.f < (B.foldl cutT (x, out)).1.t then [(B.foldl cutT (x, out)).1] else []) := rfl
      generalize B.foldl cutT (x, out) = s at hB6 hO6 hlen6 hoM hnext
      obtain ⟨x', o'⟩ := s
      simp only at hB6 hO6 hlen6 hoM
      refine WP.exit ?_; repeat (first | with_reducible refine QN.then_exit ?_ | with_reducible refine QN.block_exit ?_ | with_reducible refine QN.block_far rfl ?_ | with_reducible refine QN.block_normal ?_ | with_reducible refine QN.next ?_); repeat (first | with_reducible refine WP.seq ?_ | with_reducible refine WP.block ?_ | with_reducible refine WP.region ?_)
      repeat (first | refine RL.pure T_ok 1 rfl ?_ | refine RL.load T_ok rfl rfl rfl (hB6.cell _ rfl) rfl ?_)
      refine RL.eqv (v' := .bool (decide (x'.f < x'.t))) (congrArg _ (dlt _ _)) ?_
      refine RL.nil ?_; repeat (first | with_reducible refine QN.block_normal ?_ | with_reducible refine QN.next ?_)
      refine WP.cond rfl (fun h1 => ?_) (fun h1 => ?_)
      · rw [if_pos (of_decide_eq_true h1)] at hoM
        repeat (first | with_reducible refine WP.seq ?_ | with_reducible refine WP.block ?_ | with_reducible refine WP.region ?_)
        refine RL.auto T_ok rfl ?_
        refine RL.loadAgg T_ok (tC x') rfl rfl rfl (fun j u hu => by rw [add_block]; exact hB6.cell _ (by simpa using hu)) rfl ?_
        refine RL.append1 T_ok [.tmp 97] hO6 (us := [tV x']) (tC x') rfl rfl rfl rfl rfl rfl rfl rfl rfl (by simp [tV, tC, Value.cells]) (by simp [tV, Value.cells]) (tC_one x') (by unfold maxLen; omega) (by show (_ + 1) * 32 ≤ _; omega) ?_
        intro v8 m8 S8 hO8 hE8 hF8
        refine ⟨_, rfl, ?_⟩
        refine RL.auto T_ok rfl ?_
        refine RL.nil ?_; repeat (first | with_reducible refine QN.block_normal ?_ | with_reducible refine QN.next ?_); repeat (first | with_reducible refine WP.seq ?_ | with_reducible refine WP.block ?_ | with_reducible refine WP.region ?_)
        refine RL.pure T_ok 1 rfl ?_
        refine RL.eqv (v' := .int .i64 ((i + 1 : Nat) : Int)) (congrArg _ (by rw [wrap_i64_in _ (by omega) (by omega)]; rfl)) ?_
        refine RL.auto T_ok rfl ?_
        have hN8 : New m2 S8 m8 := ⟨hN6.1.trans hE8 (fun k hk => .inr (hN6.ge k hk)), hN6.2.trans hF8 hN6.1.size⟩
        refine RL.nil (QN.round (i + 1, v8, S8) (Sub.cons rfl (Sub.cons rfl (Sub.cons rfl (Sub.cons rfl (Sub.cons rfl Sub.nil))))) ⟨by show i + 1 ≤ _; omega, ?_, hN8⟩ (by show _ - (i + 1) < _ - i; omega))
        show Ev.Own m8 S8 101 4 _ (aboveO (A.take (i + 1)) B).length ((aboveO (A.take (i + 1)) B).flatMap tC)
        rw [hnext, hoM, List.length_append, ← tsC_app]
        simpa using hO8
      · rw [if_neg (of_decide_eq_false h1), List.append_nil] at hoM
        refine WP.skip ?_; repeat (first | with_reducible refine QN.block_normal ?_ | with_reducible refine QN.next ?_); repeat (first | with_reducible refine WP.seq ?_ | with_reducible refine WP.block ?_ | with_reducible refine WP.region ?_)
        refine RL.pure T_ok 1 rfl ?_
        refine RL.eqv (v' := .int .i64 ((i + 1 : Nat) : Int)) (congrArg _ (by rw [wrap_i64_in _ (by omega) (by omega)]; rfl)) ?_
        refine RL.auto T_ok rfl ?_
        refine RL.nil (QN.round (i + 1, w6, S6) (Sub.cons rfl (Sub.cons rfl (Sub.cons rfl (Sub.cons rfl (Sub.cons rfl Sub.nil))))) ⟨by show i + 1 ≤ _; omega, ?_, hN6⟩ (by show _ - (i + 1) < _ - i; omega))
        show Ev.Own m6 S6 101 4 _ (aboveO (A.take (i + 1)) B).length ((aboveO (A.take (i + 1)) B).flatMap tC)
        rw [hnext, hoM]; exact hO6
  · replace hc : i = A.length := by have := of_decide_eq_false hc; simp only at this; omega
    subst hc
    have hlen1 := hlen A.length
    rw [List.take_length] at hO3 hlen1
    have hlen2 : (aboveO A B).length ≤ A.length * (2 * B.length + 1) := by
      unfold aboveO
      simpa using hlen1
    have hRo : Ts m3 [] w (aboveO A B) := hO3.sl (by simp)
    refine WP.exit ?_; repeat (first | with_reducible refine QN.then_exit ?_ | with_reducible refine QN.block_exit ?_ | with_reducible refine QN.block_far rfl ?_ | with_reducible refine QN.block_normal ?_ | with_reducible refine QN.next ?_); repeat (first | with_reducible refine WP.seq ?_ | with_reducible refine WP.block ?_ | with_reducible refine WP.region ?_)
    refine RL.auto T_ok rfl ?_
    refine RL.call (fi := []) (ca := []) rfl rfl rfl rfl (turnsF_c m3 w _ hRo (by omega)) ?_
    rintro v9 m9 ⟨L, hL, S9, hO9, hN9⟩
    refine ⟨_, rfl, ?_⟩
    refine RL.auto T_ok rfl ?_
    refine RL.nil ?_; repeat (first | with_reducible refine QN.block_normal ?_ | with_reducible refine QN.next ?_); repeat (first | with_reducible refine WP.seq ?_ | with_reducible refine WP.block ?_ | with_reducible refine WP.region ?_)
    refine WP.ret ?_; repeat (first | with_reducible refine QN.then_ret ?_ | with_reducible refine QN.block_ret ?_)
    have hE39 : Ext m [] m3 := hEm.trans hN3.1 (by simp)
    exact QN.ret1 rfl rfl ⟨_, rfl, L, ⟨hL.1, (fun c k => by rw [hL.2.1, htold]), by have := hL.2.2; omega⟩, S9, hO9, hE39.trans hN9.1 (by simp), hN9.2.trans' hE39⟩
end Go.Proofs.Ytkfakfbndnbpiaa
