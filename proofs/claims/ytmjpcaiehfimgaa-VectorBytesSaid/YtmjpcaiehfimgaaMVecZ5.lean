/- Texts that belong together: Ids9 VecB IdsD IdsE VecC VecD VecO VecR VecX. -/
import Derived.Test.YtmjpcaiehfimgaaMVecZ4
section
/- Minus. -/
namespace Go.Proofs.Ytmjpcaiehfimgaa
open Go.RowKit Go.Ev Go.Ids

theorem dle' (a b : Nat) : decide ((a : Int) ≤ (b : Int)) = decide (a ≤ b) := by rw [decide_eq_decide]; omega
theorem dge' (a b : Nat) : decide ((a : Int) ≥ (b : Int)) = decide (b ≤ a) := by rw [decide_eq_decide]; omega
/-- A set that a call made. -/
def Made (m : World) (r : Value) (l : List Rng) (m' : World) : Prop := ∃ S', Ev.Own m' S' 62 3 r l.length (l.flatMap rC) ∧ New m S' m'
theorem Made.ext {m m' : World} {r : Value} {l : List Rng} (h : Made m r l m') : Ext m [] m' := by obtain ⟨_, _, h⟩ := h; exact h.1
theorem Made.rs {m m' : World} {r : Value} {l : List Rng} (h : Made m r l m') : Rs m' [] r l := by obtain ⟨_, h, _⟩ := h; exact h.sl (by simp)
theorem Made.from_ {m0 m m' : World} {r : Value} {l : List Rng} (h : Made m r l m') (hE : Ext m0 [] m) : Made m0 r l m' := by
  obtain ⟨S, h1, h2, h3⟩ := h
  exact ⟨S, h1, hE.trans h2 (by simp), h3.trans' hE⟩
theorem minus_c (m : World) (v u : Value) (a b : List Rng) (h : Rs m [] v a) (h' : Rs m [] u b) (hla : a.length < 500000000) (hlb : b.length < 500000000) (hl : a.length * (b.length + 1) < 100000000) :
    FnR Try.prog 42 [v, u] m fun r m' => Made m r (minus a b) m' := by
  refine FnE.enter ⟨_, Try.func42, by kernel_rfl, by kernel_rfl⟩ Try.func42 rfl rfl ?_
  repeat (first | with_reducible refine WP.seq ?_ | with_reducible refine WP.block ?_ | with_reducible refine WP.region ?_)
  refine RL.auto T_ok rfl ?_
  refine RL.nil ?_; repeat (first | with_reducible refine QN.block_normal ?_ | with_reducible refine QN.next ?_); repeat (first | with_reducible refine WP.seq ?_ | with_reducible refine WP.block ?_ | with_reducible refine WP.region ?_)
  refine RL.auto T_ok rfl ?_
  refine RL.nil ?_; repeat (first | with_reducible refine QN.block_normal ?_ | with_reducible refine QN.next ?_); repeat (first | with_reducible refine WP.seq ?_ | with_reducible refine WP.block ?_ | with_reducible refine WP.region ?_)
  refine RL.auto T_ok rfl ?_
  refine RL.call (fi := []) (ca := []) rfl rfl rfl rfl (clean_c m u b h' hlb) ?_
  rintro v1 m1 ⟨S1, hO1, hN1⟩
  refine ⟨_, rfl, ?_⟩
  refine RL.auto T_ok rfl ?_
  refine RL.nil ?_; repeat (first | with_reducible refine QN.block_normal ?_ | with_reducible refine QN.next ?_); repeat (first | with_reducible refine WP.seq ?_ | with_reducible refine WP.block ?_ | with_reducible refine WP.region ?_)
  refine RL.auto T_ok rfl ?_
  refine RL.call (fi := []) (ca := []) rfl rfl rfl rfl (clean_c m1 v a (h.ext0 hN1.1) hla) ?_
  rintro v2 m2 ⟨S2, hO2, hN2⟩
  refine ⟨_, rfl, ?_⟩
  have hO12 := hO1.ext hN2.1 (by simp)
  have hEm : Ext m [] m2 := hN1.1.trans hN2.1 (by simp)
  have hAl := clean_len a
  have hBl := clean_len b
  have hml : (clean a).length * ((clean b).length + 1) ≤ a.length * (b.length + 1) := Nat.mul_le_mul hAl (Nat.succ_le_succ hBl)
  have hdef : minus a b = clean ((clean a).foldl (fun out x => outM (clean b) x out) []) := rfl
  rw [hdef]
  generalize clean a = A at hO2 hAl hml ⊢
  generalize clean b = B at hO12 hBl hml ⊢
  clear hdef hO1
  obtain ⟨A2, c2, rfl, _⟩ := hO2.shape
  obtain ⟨A1, c1, rfl, _⟩ := hO12.shape
  have hRA : Rs m2 [] (.slice A2 A.length c2) A := hO2.sl (by simp)
  have hRB : Rs m2 [] (.slice A1 B.length c1) B := hO12.sl (by simp)
  clear hO2 hO12 hN1 hN2
  refine RL.auto T_ok rfl ?_
  refine RL.nil ?_; repeat (first | with_reducible refine QN.block_normal ?_ | with_reducible refine QN.next ?_); repeat (first | with_reducible refine WP.seq ?_ | with_reducible refine WP.block ?_ | with_reducible refine WP.region ?_)
  refine (WP.loop (X := Nat × Value × List Nat) (fun x => [(13, .slice A2 A.length c2), (14, .int .i64 A.length), (1, .slice A1 B.length c1), (5, x.2.1), (15, .int .i64 x.1)])
    (fun x m' => x.1 ≤ A.length ∧ Ev.Own m' x.2.2 62 3 x.2.1 ((A.take x.1).foldl (fun out x => outM B x out) []).length (((A.take x.1).foldl (fun out x => outM B x out) []).flatMap rC) ∧ New m2 x.2.2 m') (fun x => A.length - x.1) (0, .slice none 0 0, [])
    (Sub.cons rfl (Sub.cons rfl (Sub.cons rfl (Sub.cons rfl (Sub.cons rfl Sub.nil))))) ⟨by simp, Own.empty _ _ _ _, Ext.refl _ _, FpNew.nil _ _⟩ ?_)
  rintro ⟨i, w, S⟩ m3 ⟨hi, hO3, hN3⟩
  simp only at hi hO3 hN3
  repeat (first | with_reducible refine WP.seq ?_ | with_reducible refine WP.block ?_ | with_reducible refine WP.region ?_)
  refine RL.auto T_ok rfl ?_
  refine RL.nil ?_; repeat (first | with_reducible refine QN.block_normal ?_ | with_reducible refine QN.next ?_); repeat (first | with_reducible refine WP.seq ?_ | with_reducible refine WP.block ?_ | with_reducible refine WP.region ?_)
  refine WP.cond rfl (fun hc => ?_) (fun hc => ?_)
  · replace hc : i < A.length := by have := of_decide_eq_true hc; simp only at this; omega
    obtain ⟨ad, rfl, hx⟩ := (hRA.ext0 hN3.1).cell i hc
    have hnext : (A.take (i + 1)).foldl (fun out x => outM B x out) [] = outM B A[i] ((A.take i).foldl (fun out x => outM B x out) []) := by rw [List.take_succ_eq_append_getElem hc, List.foldl_append]; rfl
    have hlen1 : ((A.take i).foldl (fun out x => outM B x out) []).length ≤ i * (B.length + 1) := by
      have h9 := minusO_len (A.take i) B []
      rw [List.length_take, Nat.min_eq_left hi] at h9
      simpa using h9
    have hlen2 : i * (B.length + 1) + (B.length + 1) ≤ A.length * (B.length + 1) := by
      have h9 : (i + 1) * (B.length + 1) ≤ A.length * (B.length + 1) := Nat.mul_le_mul_right _ hc
      rw [Nat.succ_mul] at h9; exact h9
    generalize (A.take i).foldl (fun out x => outM B x out) [] = out at hO3 hnext hlen1
    obtain ⟨x, hxe⟩ : ∃ x, A[i] = x := ⟨_, rfl⟩
    rw [hxe] at hx hnext
    refine WP.skip ?_; repeat (first | with_reducible refine QN.block_normal ?_ | with_reducible refine QN.next ?_); repeat (first | with_reducible refine WP.seq ?_ | with_reducible refine WP.block ?_ | with_reducible refine WP.region ?_)
    refine RL.indexAddr (k := i) T_ok rfl rfl rfl rfl rfl rfl rfl hc rfl ?_
    refine RL.loadAgg T_ok (rC x) rfl rfl rfl hx rfl ?_
    refine RL.alloc T_ok rfl rfl (fun b7 m4 hb7 hC4 => ⟨_, rfl, ?_⟩)
    refine RL.storeAgg T_ok (b := b7) (i := 0) (vs := rC x) (cs := [.int .u64 0, .int .u64 0, .int .u64 0]) hC4.blk rfl rfl rfl rfl rfl (by simp) (by simp [rC, Value.oneCell']) rfl ?_
    intro m5 hC5
    have hE5 : Ext m3 [] m5 := (hC4.new (by omega)).trans hC5.ext (fun q hq => .inr (by have h9 : q = b7 := (by simpa using hq); omega))
    have hB5 : Blk m5 b7 62 (rC x) := hC5.blk
    have hO5 := hO3.ext hE5 (by simp)
    have h7S : b7 ∉ S := fun hh => by have := hO3.lt _ hh; omega
    have h7m : m2.heap.size ≤ b7 := by have := hN3.1.size; omega
    have hN5 : New m2 S m5 := ⟨hN3.1.trans hE5 (by simp), hN3.2⟩
    refine RL.nil ?_; repeat (first | with_reducible refine QN.block_normal ?_ | with_reducible refine QN.next ?_); repeat (first | with_reducible refine WP.seq ?_ | with_reducible refine WP.block ?_ | with_reducible refine WP.region ?_)
    refine RL.auto T_ok rfl ?_
    refine RL.nil ?_; repeat (first | with_reducible refine QN.block_normal ?_ | with_reducible refine QN.next ?_); repeat (first | with_reducible refine WP.seq ?_ | with_reducible refine WP.block ?_ | with_reducible refine WP.region ?_)
    refine (WP.loop (X := Nat × Value × List Nat) (fun x => [(13, .slice (some ad) A.length c2), (14, .int .i64 A.length), (1, .slice A1 B.length c1), (15, .int .i64 i), (7, .pointer (some ⟨b7, 0, none⟩)), (19, .slice A1 B.length c1), (20, .int .i64 B.length), (5, x.2.1), (21, .int .i64 x.1)])
      (fun q m' => q.1 ≤ B.length ∧ Blk m' b7 62 (rC ((B.take q.1).foldl cutM (x, out)).1) ∧ Ev.Own m' q.2.2 62 3 q.2.1 ((B.take q.1).foldl cutM (x, out)).2.length (((B.take q.1).foldl cutM (x, out)).2.flatMap rC) ∧ b7 ∉ q.2.2 ∧ New m2 q.2.2 m') (fun x => B.length - x.1) (0, w, S)
      (Sub.cons rfl (Sub.cons rfl (Sub.cons rfl (Sub.cons rfl (Sub.cons rfl (Sub.cons rfl (Sub.cons rfl (Sub.cons rfl (Sub.cons rfl Sub.nil))))))))) ⟨by simp, hB5, hO5, h7S, hN5⟩ ?_)
    rintro ⟨j, w6, S6⟩ m6 ⟨hj, hB6, hO6, h76, hN6⟩
    simp only at hj hB6 hO6 h76 hN6
    have hlen6 : ((B.take j).foldl cutM (x, out)).2.length ≤ out.length + j := by
      have h9 := cutM_len (B.take j) (x, out)
      rw [List.length_take, Nat.min_eq_left hj] at h9
      exact h9
    repeat (first | with_reducible refine WP.seq ?_ | with_reducible refine WP.block ?_ | with_reducible refine WP.region ?_)
    refine RL.auto T_ok rfl ?_
    refine RL.nil ?_; repeat (first | with_reducible refine QN.block_normal ?_ | with_reducible refine QN.next ?_); repeat (first | with_reducible refine WP.seq ?_ | with_reducible refine WP.block ?_ | with_reducible refine WP.region ?_)
    refine WP.cond rfl (fun hcj => ?_) (fun hcj => ?_)
    · replace hcj : j < B.length := by have := of_decide_eq_true hcj; simp only at this; omega
      obtain ⟨ae, rfl, hy⟩ := (hRB.ext0 hN6.1).cell j hcj
      obtain ⟨y, hye⟩ : ∃ y, B[j] = y := ⟨_, rfl⟩
      have hnx : (B.take (j + 1)).foldl cutM (x, out) = cutM ((B.take j).foldl cutM (x, out)) y := by rw [List.take_succ_eq_append_getElem hcj, List.foldl_append, hye]; rfl
      rw [hye] at hy
      generalize (B.take j).foldl cutM (x, out) = s at hB6 hO6 hlen6 hnx
      obtain ⟨x', o'⟩ := s
      simp only at hB6 hO6 hlen6
      have hcut : cutM (x', o') y = if x'.c ≠ y.c ∨ y.t ≤ x'.f ∨ x'.t ≤ y.f then (x', o') else ({ x' with f := y.t }, o' ++ [⟨x'.c, x'.f, y.f⟩]) := rfl
      refine WP.skip ?_; repeat (first | with_reducible refine QN.block_normal ?_ | with_reducible refine QN.next ?_); repeat (first | with_reducible refine WP.seq ?_ | with_reducible refine WP.block ?_ | with_reducible refine WP.region ?_)
      refine RL.indexAddr (k := j) T_ok rfl rfl rfl rfl rfl rfl rfl hcj rfl ?_
      refine RL.loadAgg T_ok (rC y) rfl rfl rfl hy rfl ?_
      refine RL.alloc T_ok rfl rfl (fun b9 m7 hb9 hC7 => ⟨_, rfl, ?_⟩)
      refine RL.storeAgg T_ok (b := b9) (i := 0) (vs := rC y) (cs := [.int .u64 0, .int .u64 0, .int .u64 0]) hC7.blk rfl rfl rfl rfl rfl (by simp) (by simp [rC, Value.oneCell']) rfl ?_
      intro m8 hC8
      have hE8 : Ext m6 [] m8 := (hC7.new (by omega)).trans hC8.ext (fun q hq => .inr (by have h9 : q = b9 := (by simpa using hq); omega))
      have hB9 : Blk m8 b9 62 (rC y) := hC8.blk
      have hB7 := hB6.ext hE8 (by simp)
      have hO8 := hO6.ext hE8 (by simp)
      have hN8 : New m2 S6 m8 := ⟨hN6.1.trans hE8 (by simp), hN6.2⟩
      have l7 := hB6.lt
      have hE8m : Ext m2 [] m8 := hN8.1
      refine RL.nil ?_; repeat (first | with_reducible refine QN.block_normal ?_ | with_reducible refine QN.next ?_)
      refine WP.seq ?_
      refine WP.cut (X := Bool) (fun q => [(13, .slice (some ad) A.length c2), (14, .int .i64 A.length), (1, .slice (some ae) B.length c1), (15, .int .i64 i), (7, .pointer (some ⟨b7, 0, none⟩)), (19, .slice (some ae) B.length c1), (20, .int .i64 B.length), (5, w6), (21, .int .i64 j), (9, .pointer (some ⟨b9, 0, none⟩)), (43, .bool q)]) (fun q m' => m' = m8 ∧ q = decide (x'.c ≠ y.c ∨ y.t ≤ x'.f ∨ x'.t ≤ y.f)) ?_ ?_
      · refine WP.region ?_
        repeat (first | refine RL.pure T_ok 1 rfl ?_ | refine RL.load T_ok rfl rfl rfl (hB7.cell _ rfl) rfl ?_ | refine RL.load T_ok rfl rfl rfl (hB9.cell _ rfl) rfl ?_)
        by_cases h1 : x'.c = y.c
        · refine RL.eqv (v' := .bool false) (congrArg _ (by rw [bne_nat']; exact decide_eq_false (fun hh => hh h1))) ?_
          repeat (first | refine RL.pure T_ok 1 rfl ?_ | refine RL.load T_ok rfl rfl rfl (hB7.cell _ rfl) rfl ?_ | refine RL.load T_ok rfl rfl rfl (hB9.cell _ rfl) rfl ?_)
          by_cases h2 : y.t ≤ x'.f
          · refine RL.eqv (v' := .bool true) (congrArg _ (by rw [dle']; exact decide_eq_true h2)) ?_
            repeat (first | refine RL.pure T_ok 1 rfl ?_ | refine RL.load T_ok rfl rfl rfl (hB7.cell _ rfl) rfl ?_ | refine RL.load T_ok rfl rfl rfl (hB9.cell _ rfl) rfl ?_)
            exact RL.nil (QN.cutEnd true (Sub.cons rfl (Sub.cons rfl (Sub.cons rfl (Sub.cons rfl (Sub.cons rfl (Sub.cons rfl (Sub.cons rfl (Sub.cons rfl (Sub.cons rfl (Sub.cons rfl (Sub.cons rfl (Sub.nil)))))))))))) ⟨rfl, (decide_eq_true (.inr (.inl h2))).symm⟩)
          · refine RL.eqv (v' := .bool false) (congrArg _ (by rw [dle']; exact decide_eq_false h2)) ?_
            repeat (first | refine RL.pure T_ok 1 rfl ?_ | refine RL.load T_ok rfl rfl rfl (hB7.cell _ rfl) rfl ?_ | refine RL.load T_ok rfl rfl rfl (hB9.cell _ rfl) rfl ?_)
            refine RL.nil (QN.cutEnd (decide (x'.t ≤ y.f)) (Sub.cons rfl (Sub.cons rfl (Sub.cons rfl (Sub.cons rfl (Sub.cons rfl (Sub.cons rfl (Sub.cons rfl (Sub.cons rfl (Sub.cons rfl (Sub.cons rfl (Sub.cons ?_ Sub.nil))))))))))) ⟨rfl, decide_eq_decide.2 ⟨fun hh => .inr (.inr hh), fun hh => ?_⟩⟩)
            · show some (Value.bool (decide ((y.f : Int) ≥ (x'.t : Int)))) = _
              rw [dge']
            · rcases hh with hh | hh | hh
              · exact absurd h1 hh
              · exact absurd hh h2
              · exact hh
        · refine RL.eqv (v' := .bool true) (congrArg _ (by rw [bne_nat']; exact decide_eq_true h1)) ?_
          repeat (first | refine RL.pure T_ok 1 rfl ?_ | refine RL.load T_ok rfl rfl rfl (hB7.cell _ rfl) rfl ?_ | refine RL.load T_ok rfl rfl rfl (hB9.cell _ rfl) rfl ?_)
          exact RL.nil (QN.cutEnd true (Sub.cons rfl (Sub.cons rfl (Sub.cons rfl (Sub.cons rfl (Sub.cons rfl (Sub.cons rfl (Sub.cons rfl (Sub.cons rfl (Sub.cons rfl (Sub.cons rfl (Sub.cons rfl (Sub.nil)))))))))))) ⟨rfl, (decide_eq_true (.inl h1)).symm⟩)
      rintro q mc ⟨rfl, hq⟩
      refine WP.cond rfl (fun hb => ?_) (fun hb => ?_)
      · rw [hb] at hq
        rw [hcut, if_pos (of_decide_eq_true hq.symm)] at hnx
        refine WP.exit ?_; repeat (first | with_reducible refine QN.then_exit ?_ | with_reducible refine QN.block_exit ?_ | with_reducible refine QN.block_far rfl ?_ | with_reducible refine QN.block_normal ?_ | with_reducible refine QN.next ?_); repeat (first | with_reducible refine WP.seq ?_ | with_reducible refine WP.block ?_ | with_reducible refine WP.region ?_)
        refine RL.pure T_ok 1 rfl ?_
        refine RL.eqv (v' := .int .i64 ((j + 1 : Nat) : Int)) (congrArg _ (by rw [wrap_i64_in _ (by omega) (by omega)]; rfl)) ?_
        refine RL.auto T_ok rfl ?_
        refine RL.nil (QN.round (j + 1, w6, S6) (Sub.cons rfl (Sub.cons rfl (Sub.cons rfl (Sub.cons rfl (Sub.cons rfl (Sub.cons rfl (Sub.cons rfl (Sub.cons rfl (Sub.cons rfl (Sub.nil)))))))))) ⟨by show j + 1 ≤ _; omega, ?_, ?_, h76, hN8⟩ (by show _ - (j + 1) < _ - j; omega))
        · show Blk _ b7 62 (rC ((B.take (j + 1)).foldl cutM (x, out)).1)
          rw [hnx]; exact hB7
        · show Ev.Own _ S6 62 3 w6 ((B.take (j + 1)).foldl cutM (x, out)).2.length (((B.take (j + 1)).foldl cutM (x, out)).2.flatMap rC)
          rw [hnx]; exact hO8
      · rw [hb] at hq
        rw [hcut, if_neg (of_decide_eq_false hq.symm)] at hnx
        refine WP.skip ?_; repeat (first | with_reducible refine QN.block_normal ?_ | with_reducible refine QN.next ?_); repeat (first | with_reducible refine WP.seq ?_ | with_reducible refine WP.block ?_ | with_reducible refine WP.region ?_)
        repeat (first | refine RL.pure T_ok 1 rfl ?_ | refine RL.load T_ok rfl rfl rfl (hB7.cell _ rfl) rfl ?_ | refine RL.load T_ok rfl rfl rfl (hB9.cell _ rfl) rfl ?_)
        refine RL.append1 T_ok [.tmp 51] hO8 (us := [rV ⟨x'.c, x'.f, y.f⟩]) (rC ⟨x'.c, x'.f, y.f⟩) rfl rfl rfl rfl rfl rfl rfl rfl rfl (by simp [rV, rC, Value.cells]) (by simp [rV, Value.cells]) (rC_one _) (by unfold maxLen; omega) (by show (_ + 1) * 24 ≤ _; omega) ?_
        intro v10 m10 S10 hO10 hE10 hF10
        refine ⟨_, rfl, ?_⟩
        have l9 := hB9.lt
        have l7' := hB7.lt
        have h9S : b9 ∉ S6 := fun hh => by have := hO6.lt _ hh; omega
        have hB7p := hB7.ext hE10 h76
        have hB9p := hB9.ext hE10 h9S
        have h710 : b7 ∉ S10 := hF10.far h76 l7'
        have hN10 : New m2 S10 m10 := ⟨hN8.1.trans hE10 (fun k hk => .inr (hN8.ge k hk)), hN8.2.trans hF10 hN8.1.size⟩
        refine RL.auto T_ok rfl ?_
        refine RL.nil ?_; repeat (first | with_reducible refine QN.block_normal ?_ | with_reducible refine QN.next ?_); repeat (first | with_reducible refine WP.seq ?_ | with_reducible refine WP.block ?_ | with_reducible refine WP.region ?_)
        repeat (first | refine RL.pure T_ok 1 rfl ?_ | refine RL.load T_ok rfl rfl rfl (hB7p.cell _ rfl) rfl ?_ | refine RL.load T_ok rfl rfl rfl (hB9p.cell _ rfl) rfl ?_)
        refine RL.store T_ok hB7p (i := 1) (v := .int .u64 y.t) (by simp [rC]) rfl rfl rfl rfl rfl rfl ?_
        intro m11 hC11
        have hE11 : Ext m2 [] m11 := hN10.1.trans hC11.ext (fun k hk => .inr (by have h9 : k = b7 := (by simpa using hk); omega))
        have hO11 := hO10.ext hC11.ext (fun k hk hh => h710 (by have h9 : k = b7 := (by simpa using hh); exact h9 ▸ hk))
        have hB11 : Blk m11 b7 62 (rC { x' with f := y.t }) := hC11.blk
        refine RL.nil ?_; repeat (first | with_reducible refine QN.block_normal ?_ | with_reducible refine QN.next ?_); repeat (first | with_reducible refine WP.seq ?_ | with_reducible refine WP.block ?_ | with_reducible refine WP.region ?_)
        refine RL.pure T_ok 1 rfl ?_
        refine RL.eqv (v' := .int .i64 ((j + 1 : Nat) : Int)) (congrArg _ (by rw [wrap_i64_in _ (by omega) (by omega)]; rfl)) ?_
        refine RL.auto T_ok rfl ?_
        refine RL.nil (QN.round (j + 1, v10, S10) (Sub.cons rfl (Sub.cons rfl (Sub.cons rfl (Sub.cons rfl (Sub.cons rfl (Sub.cons rfl (Sub.cons rfl (Sub.cons rfl (Sub.cons rfl (Sub.nil)))))))))) ⟨by show j + 1 ≤ _; omega, ?_, ?_, h710, ⟨hE11, hN10.2⟩⟩ (by show _ - (j + 1) < _ - j; omega))
        · show Blk _ b7 62 (rC ((B.take (j + 1)).foldl cutM (x, out)).1)
          rw [hnx]; exact hB11
        · show Ev.Own _ S10 62 3 v10 ((B.take (j + 1)).foldl cutM (x, out)).2.length (((B.take (j + 1)).foldl cutM (x, out)).2.flatMap rC)
          rw [hnx, List.length_append, ← rsC_app]
          simpa using hO11
    · replace hcj : j = B.length := by have := of_decide_eq_false hcj; simp only at this; omega
      subst hcj
      rw [List.take_length] at hB6 hO6 hlen6
      have hoM : outM B x out = (B.foldl cutM (x, out)).2 ++ [(B.foldl cutM (x, out)).1] := rfl
      generalize B.foldl cutM (x, out) = s at hB6 hO6 hlen6 hoM
      obtain ⟨x', o'⟩ := s
      simp only at hB6 hO6 hlen6 hoM
      refine WP.exit ?_; repeat (first | with_reducible refine QN.then_exit ?_ | with_reducible refine QN.block_exit ?_ | with_reducible refine QN.block_far rfl ?_ | with_reducible refine QN.block_normal ?_ | with_reducible refine QN.next ?_); repeat (first | with_reducible refine WP.seq ?_ | with_reducible refine WP.block ?_ | with_reducible refine WP.region ?_)
      refine RL.auto T_ok rfl ?_
      refine RL.loadAgg T_ok (rC x') rfl rfl rfl (fun j u hu => by rw [add_block]; exact hB6.cell _ (by simpa using hu)) rfl ?_
      refine RL.append1 T_ok [.tmp 59] hO6 (us := [rV x']) (rC x') rfl rfl rfl rfl rfl rfl rfl rfl rfl (by simp [rV, rC, Value.cells]) (by simp [rV, Value.cells]) (rC_one x') (by unfold maxLen; omega) (by show (_ + 1) * 24 ≤ _; omega) ?_
      intro v8 m8 S8 hO8 hE8 hF8
      refine ⟨_, rfl, ?_⟩
      refine RL.auto T_ok rfl ?_
      refine RL.nil ?_; repeat (first | with_reducible refine QN.block_normal ?_ | with_reducible refine QN.next ?_); repeat (first | with_reducible refine WP.seq ?_ | with_reducible refine WP.block ?_ | with_reducible refine WP.region ?_)
      refine RL.pure T_ok 1 rfl ?_
      refine RL.eqv (v' := .int .i64 ((i + 1 : Nat) : Int)) (congrArg _ (by rw [wrap_i64_in _ (by omega) (by omega)]; rfl)) ?_
      refine RL.auto T_ok rfl ?_
      have hN8 : New m2 S8 m8 := ⟨hN6.1.trans hE8 (fun k hk => .inr (hN6.ge k hk)), hN6.2.trans hF8 hN6.1.size⟩
      refine RL.nil (QN.round (i + 1, v8, S8) (Sub.cons rfl (Sub.cons rfl (Sub.cons rfl (Sub.cons rfl (Sub.cons rfl (Sub.nil)))))) ⟨by show i + 1 ≤ _; omega, ?_, hN8⟩ (by show _ - (i + 1) < _ - i; omega))
      show Ev.Own m8 S8 62 3 _ ((A.take (i + 1)).foldl (fun out x => outM B x out) []).length (((A.take (i + 1)).foldl (fun out x => outM B x out) []).flatMap rC)
      rw [hnext, hoM, List.length_append, ← rsC_app]
      simpa using hO8
  · replace hc : i = A.length := by have := of_decide_eq_false hc; simp only at this; omega
    subst hc
    rw [List.take_length] at hO3
    have hlen1 : (A.foldl (fun out x => outM B x out) []).length ≤ A.length * (B.length + 1) := by
      have h9 := minusO_len A B []
      simpa using h9
    have hRo : Rs m3 [] w (A.foldl (fun out x => outM B x out) []) := hO3.sl (by simp)
    refine WP.exit ?_; repeat (first | with_reducible refine QN.then_exit ?_ | with_reducible refine QN.block_exit ?_ | with_reducible refine QN.block_far rfl ?_ | with_reducible refine QN.block_normal ?_ | with_reducible refine QN.next ?_); repeat (first | with_reducible refine WP.seq ?_ | with_reducible refine WP.block ?_ | with_reducible refine WP.region ?_)
    refine RL.auto T_ok rfl ?_
    refine RL.call (fi := []) (ca := []) rfl rfl rfl rfl (clean_c m3 w _ hRo (by omega)) ?_
    rintro v9 m9 ⟨S9, hO9, hN9⟩
    refine ⟨_, rfl, ?_⟩
    refine RL.auto T_ok rfl ?_
    refine RL.nil ?_; repeat (first | with_reducible refine QN.block_normal ?_ | with_reducible refine QN.next ?_); repeat (first | with_reducible refine WP.seq ?_ | with_reducible refine WP.block ?_ | with_reducible refine WP.region ?_)
    refine WP.ret ?_; repeat (first | with_reducible refine QN.then_ret ?_ | with_reducible refine QN.block_ret ?_)
    have hE39 : Ext m [] m3 := hEm.trans hN3.1 (by simp)
    exact QN.ret1 rfl rfl ⟨_, rfl, S9, hO9, hE39.trans hN9.1 (by simp), hN9.2.trans' hE39⟩
end Go.Proofs.Ytmjpcaiehfimgaa
end

section
/- vector: At, Has, Within, Ranges, Meet, Join, Missing. -/
namespace Go.Ev
open Go.RowKit
/-- The number of rounds, as a numeral. -/
theorem RH.fix {P : Program} {ops : Array Oper} {Q : Exit → Act → World → Prop} {J : World → Prop} {fin : List Nat} {fuel : Nat} {listed : Array Bool} {n : Nat} {e : Env} {ds : List Deferred} {m : World} (f : Nat) (h : fuel = f) (hk : RH P ops Q J fin f listed n e ds m) : RH P ops Q J fin fuel listed n e ds m := h ▸ hk
end Go.Ev
namespace Go.Proofs.Ytmjpcaiehfimgaa
open Go.RowKit Go.Ev Go.Ids

theorem vat_c (m : World) (v : Value) (l : List Clk) (h : Cs m [] v l) (hl : l.length < 100000000) (cl : Nat) : FnR Try.prog 13 [v, .int .u64 cl] m fun r m' => r = .int .u64 (vat l cl) ∧ Ext m [] m' := by
  refine FnE.enter ⟨_, Try.func13, by kernel_rfl, by kernel_rfl⟩ Try.func13 rfl rfl ?_
  repeat (first | with_reducible refine WP.seq ?_ | with_reducible refine WP.block ?_ | with_reducible refine WP.region ?_)
  refine RL.auto T_ok rfl ?_
  refine RL.nil ?_; repeat (first | with_reducible refine QN.block_normal ?_ | with_reducible refine QN.next ?_); repeat (first | with_reducible refine WP.seq ?_ | with_reducible refine WP.block ?_ | with_reducible refine WP.region ?_)
  refine RL.auto T_ok rfl ?_
  refine RL.call (fi := []) (ca := []) rfl rfl rfl rfl (vclean_c m v l h hl) ?_
  rintro v1 m1 hM
  refine ⟨_, rfl, ?_⟩
  have hE1 := hM.ext
  have hR := hM.cs
  have hcan := vclean_canon l
  have hat := vclean_at l cl
  have hln := vclean_len l
  generalize vclean l = L at hM hR hcan hat hln
  obtain ⟨A, c, rfl, _, _⟩ := hR.shape
  refine RL.auto T_ok rfl ?_
  refine RL.nil ?_; repeat (first | with_reducible refine QN.block_normal ?_ | with_reducible refine QN.next ?_); repeat (first | with_reducible refine WP.seq ?_ | with_reducible refine WP.block ?_ | with_reducible refine WP.region ?_)
  refine (WP.loop (X := Nat) (fun i => [(1, .int .u64 cl), (8, .slice A L.length c), (9, .int .i64 L.length), (10, .int .i64 i)])
    (fun i m' => i ≤ L.length ∧ (∀ x ∈ L.take i, x.c ≠ cl) ∧ Ext m1 [] m') (fun i => L.length - i) 0
    (Sub.cons rfl (Sub.cons rfl (Sub.cons rfl (Sub.cons rfl Sub.nil)))) ⟨by simp, (by simp), Ext.refl _ _⟩ ?_)
  rintro i m2 ⟨hi, ht, hE⟩
  repeat (first | with_reducible refine WP.seq ?_ | with_reducible refine WP.block ?_ | with_reducible refine WP.region ?_)
  refine RL.auto T_ok rfl ?_
  refine RL.nil ?_; repeat (first | with_reducible refine QN.block_normal ?_ | with_reducible refine QN.next ?_); repeat (first | with_reducible refine WP.seq ?_ | with_reducible refine WP.block ?_ | with_reducible refine WP.region ?_)
  refine WP.cond rfl (fun hc => ?_) (fun hc => ?_)
  · replace hc : i < L.length := by have := of_decide_eq_true hc; omega
    obtain ⟨ad, rfl, hx⟩ := (hR.ext0 hE).cell i hc
    have hmem : L[i] ∈ L := List.getElem_mem _
    have htake : L.take (i + 1) = L.take i ++ [L[i]] := List.take_succ_eq_append_getElem hc
    generalize L[i] = x at hx hmem htake
    refine WP.skip ?_; repeat (first | with_reducible refine QN.block_normal ?_ | with_reducible refine QN.next ?_); repeat (first | with_reducible refine WP.seq ?_ | with_reducible refine WP.block ?_ | with_reducible refine WP.region ?_)
    refine RL.indexAddr (k := i) T_ok rfl rfl rfl rfl rfl rfl rfl hc rfl ?_
    refine RL.loadAgg T_ok (cC x) rfl rfl rfl hx rfl ?_
    refine RL.alloc T_ok rfl rfl (fun b3 m3 hb3 hC3 => ⟨_, rfl, ?_⟩)
    refine RL.storeAgg T_ok (b := b3) (i := 0) (vs := cC x) (cs := [.int .u64 0, .int .u64 0]) hC3.blk rfl rfl rfl rfl rfl (by simp) (by simp [cC, Value.oneCell']) rfl ?_
    intro m4 hC4
    have hE4 : Ext m2 [] m4 := (hC3.new (by omega)).trans hC4.ext (fun q hq => .inr (by have h9 : q = b3 := (by simpa using hq); omega))
    have hB4 : Blk m4 b3 60 (cC x) := hC4.blk
    clear hC3 hC4
    refine RL.nil ?_; repeat (first | with_reducible refine QN.block_normal ?_ | with_reducible refine QN.next ?_); repeat (first | with_reducible refine WP.seq ?_ | with_reducible refine WP.block ?_ | with_reducible refine WP.region ?_)
    refine RL.pure T_ok 1 rfl ?_
    refine RL.load T_ok rfl rfl rfl (hB4.cell 0 rfl) rfl ?_
    refine RL.pure T_ok 2 rfl ?_
    by_cases hxc : x.c = cl
    · refine RL.eqv (v' := .bool true) (congrArg _ (by rw [deq]; exact decide_eq_true hxc)) ?_
      refine RL.nil ?_; repeat (first | with_reducible refine QN.block_normal ?_ | with_reducible refine QN.next ?_); repeat (first | with_reducible refine WP.seq ?_ | with_reducible refine WP.block ?_ | with_reducible refine WP.region ?_)
      refine WP.condT rfl ?_
      repeat (first | with_reducible refine WP.seq ?_ | with_reducible refine WP.block ?_ | with_reducible refine WP.region ?_)
      refine RL.pure T_ok 1 rfl ?_
      refine RL.load T_ok rfl rfl rfl (hB4.cell 1 rfl) rfl ?_
      refine RL.auto T_ok rfl ?_
      refine RL.nil ?_; repeat (first | with_reducible refine QN.block_normal ?_ | with_reducible refine QN.next ?_); repeat (first | with_reducible refine WP.seq ?_ | with_reducible refine WP.block ?_ | with_reducible refine WP.region ?_)
      refine WP.ret ?_; repeat (first | with_reducible refine QN.then_ret ?_ | with_reducible refine QN.block_ret ?_)
      refine QN.ret1 rfl rfl ⟨_, rfl, ?_, (hE1.trans hE (by simp)).trans hE4 (by simp)⟩
      rw [← hat, ← hxc, hcan.at_mem hmem]
    · refine RL.eqv (v' := .bool false) (congrArg _ (by rw [deq]; exact decide_eq_false hxc)) ?_
      refine RL.nil ?_; repeat (first | with_reducible refine QN.block_normal ?_ | with_reducible refine QN.next ?_); repeat (first | with_reducible refine WP.seq ?_ | with_reducible refine WP.block ?_ | with_reducible refine WP.region ?_)
      refine WP.condF rfl ?_
      refine WP.skip ?_; repeat (first | with_reducible refine QN.block_normal ?_ | with_reducible refine QN.next ?_); repeat (first | with_reducible refine WP.seq ?_ | with_reducible refine WP.block ?_ | with_reducible refine WP.region ?_)
      refine RL.pure T_ok 1 rfl ?_
      refine RL.eqv (v' := .int .i64 ((i + 1 : Nat) : Int)) (congrArg _ (by rw [wrap_i64_in _ (by omega) (by omega)]; rfl)) ?_
      refine RL.auto T_ok rfl ?_
      refine RL.nil (QN.round (i + 1) (Sub.cons rfl (Sub.cons rfl (Sub.cons rfl (Sub.cons rfl Sub.nil)))) ⟨by omega, fun y hy => ?_, hE.trans hE4 (by simp)⟩ (by omega))
      rw [htake] at hy
      rcases List.mem_append.1 hy with hy | hy
      · exact ht y hy
      · have : y = x := by simpa using hy
        subst this; exact hxc
  · replace hc : i = L.length := by have := of_decide_eq_false hc; omega
    subst hc
    rw [List.take_length] at ht
    have h0 : vat L cl = 0 := vat_zero fun y hy => by rw [(hcan.1 y hy).at, if_neg (ht y hy)]
    rw [h0] at hat
    rw [← hat]
    refine WP.exit ?_; repeat (first | with_reducible refine QN.then_exit ?_ | with_reducible refine QN.block_exit ?_ | with_reducible refine QN.block_far rfl ?_ | with_reducible refine QN.block_normal ?_ | with_reducible refine QN.next ?_); repeat (first | with_reducible refine WP.seq ?_ | with_reducible refine WP.block ?_ | with_reducible refine WP.region ?_)
    refine RL.auto T_ok rfl ?_
    refine RL.nil ?_; repeat (first | with_reducible refine QN.block_normal ?_ | with_reducible refine QN.next ?_); repeat (first | with_reducible refine WP.seq ?_ | with_reducible refine WP.block ?_ | with_reducible refine WP.region ?_)
    refine WP.ret ?_; repeat (first | with_reducible refine QN.then_ret ?_ | with_reducible refine QN.block_ret ?_)
    exact QN.ret1 rfl rfl ⟨_, rfl, rfl, hE1.trans hE (by simp)⟩
theorem vhas_c (m : World) (v : Value) (l : List Clk) (h : Cs m [] v l) (hl : l.length < 100000000) (id : Idn) : FnR Try.prog 15 [v, iV id] m fun r m' => r = .bool (id.right && decide (id.k ≤ vat l id.c)) ∧ Ext m [] m' := by
  refine FnE.enter ⟨_, Try.func15, by kernel_rfl, by kernel_rfl⟩ Try.func15 rfl rfl ?_
  repeat (first | with_reducible refine WP.seq ?_ | with_reducible refine WP.block ?_ | with_reducible refine WP.region ?_)
  refine RL.box rfl rfl (fun b m1 hb hC => ⟨_, rfl, ?_⟩)
  have hB : Blk m1 b 25 (iC id) := hC.here
  have hE1 : Ext m [] m1 := hC.new (by omega)
  clear hC
  refine RL.auto T_ok rfl ?_
  refine RL.nil ?_; repeat (first | with_reducible refine QN.block_normal ?_ | with_reducible refine QN.next ?_)
  refine WP.seq ?_
  have hI : ∀ m', Ext m1 [] m' → ∀ j u, (iC id)[j]? = some u → m'.cell? ((⟨b, 0, none⟩ : Addr).add j) = some u := fun m' hE j u hu => by rw [add_block, Nat.zero_add]; exact (hB.ext hE (by simp)).cell _ hu
  refine WP.drawQ (fun m' => Ext m1 [] m') [] (by kernel_rfl) (Ext.refl _ _) (by repeat (first | with_reducible exact PanicOk.body | with_reducible refine PanicOk.then_ ?_ | with_reducible refine PanicOk.block_ ?_)) (fun hQ => ?_)
  refine RH.loadAgg T_ok hQ 0 (iC id) hI rfl (by kernel_rfl) rfl rfl rfl rfl ?_
  refine RH.only 1 rfl (by kernel_rfl) (fun _ => ?_)
  refine RL.call (fi := []) (ca := []) rfl rfl rfl rfl (rightI_c m1 id) ?_
  rintro _ m2 ⟨rfl, hE2⟩
  refine ⟨_, rfl, RL.nil (RH.cont hE2 ?_)⟩
  by_cases hr : id.right = true
  rotate_left
  · have hr' : id.right = false := by simpa using hr
    refine RH.fix 10 rfl ?_
    refine RH.eqv (v' := .bool false) (congrArg _ hr') ?_
    refine RH.pure T_ok hQ [2] (by kernel_rfl) rfl ?_
    refine RH.pure T_ok hQ [3] (by kernel_rfl) rfl ?_
    refine RH.pure T_ok hQ [4] (by kernel_rfl) rfl ?_
    refine RH.pure T_ok hQ [5] (by kernel_rfl) rfl ?_
    refine RH.pure T_ok hQ [6] (by kernel_rfl) rfl ?_
    refine RH.pure T_ok hQ [7] (by kernel_rfl) rfl ?_
    refine RH.pure T_ok hQ [8] (by kernel_rfl) rfl ?_
    refine RH.pure T_ok hQ [9] (by kernel_rfl) rfl ?_
    refine RH.pure T_ok hQ [10] (by kernel_rfl) rfl ?_
    refine RH.pure T_ok hQ [11] (by kernel_rfl) rfl ?_
    refine RH.done (by kernel_rfl) (fun _ => ?_)
    repeat (first | with_reducible refine QN.block_normal ?_ | with_reducible refine QN.next ?_)
    refine WP.ret ?_; repeat (first | with_reducible refine QN.then_ret ?_ | with_reducible refine QN.block_ret ?_)
    exact QN.ret1 rfl rfl ⟨_, rfl, by simp [hr'], hE1.trans hE2 (by simp)⟩
  · refine RH.fix 10 rfl ?_
    refine RH.eqv (v' := .bool true) (congrArg _ hr) ?_
    refine RH.pure T_ok hQ [2] (by kernel_rfl) rfl ?_
    refine RH.pure T_ok hQ [3] (by kernel_rfl) rfl ?_
    refine RH.load T_ok hQ 4 (fun m' hm' => (hB.ext hm' (by simp)).cell 1 rfl) rfl (by kernel_rfl) rfl rfl rfl rfl ?_
    refine RH.pure T_ok hQ [5] (by kernel_rfl) rfl ?_
    refine RH.pure T_ok hQ [6] (by kernel_rfl) rfl ?_
    refine RH.load T_ok hQ 7 (fun m' hm' => (hB.ext hm' (by simp)).cell 0 rfl) rfl (by kernel_rfl) rfl rfl rfl rfl ?_
    refine RH.only 8 rfl (by kernel_rfl) (fun _ => ?_)
    refine RL.call (fi := []) (ca := []) rfl rfl rfl rfl (vat_c m2 v l ((h.ext0 hE1).ext0 hE2) hl id.c) ?_
    rintro _ m3 ⟨rfl, hE3⟩
    replace hE3 := hE2.trans hE3 (by simp)
    refine ⟨_, rfl, RL.nil (RH.cont hE3 ?_)⟩
    refine RH.pure T_ok hQ [9] (by kernel_rfl) rfl ?_
    refine RH.eqv (v' := .bool (decide (id.k ≤ vat l id.c))) (congrArg _ (dle' _ _)) ?_
    refine RH.pure T_ok hQ [10] (by kernel_rfl) rfl ?_
    refine RH.pure T_ok hQ [11] (by kernel_rfl) rfl ?_
    refine RH.done (by kernel_rfl) (fun _ => ?_)
    repeat (first | with_reducible refine QN.block_normal ?_ | with_reducible refine QN.next ?_)
    refine WP.ret ?_; repeat (first | with_reducible refine QN.then_ret ?_ | with_reducible refine QN.block_ret ?_)
    exact QN.ret1 rfl rfl ⟨_, rfl, by simp [hr], hE1.trans hE3 (by simp)⟩
theorem indexK_c (m : World) (v : Value) (l : List Clk) (h : Cs m [] v l) (hl : l.length < 1000000000) (k : FuncId) (ca : List Value) (p : Clk → Bool) (hf : ∀ m1 x, Ext m [] m1 → FnR Try.prog k (cV x :: ca) m1 fun r m2 => r = .bool (p x) ∧ Ext m1 [] m2) :
    FnR Try.prog 61 [v, .func (.func k) #[] ca.toArray] m fun r m' => (∃ z : Int, r = .int .i64 z ∧ (0 ≤ z ↔ l.any p = true)) ∧ Ext m [] m' := by
  obtain ⟨A, c, rfl, _, _⟩ := h.shape
  refine FnE.enter ⟨_, Try.func61, by kernel_rfl, by kernel_rfl⟩ Try.func61 rfl rfl ?_
  repeat (first | with_reducible refine WP.seq ?_ | with_reducible refine WP.block ?_ | with_reducible refine WP.region ?_)
  refine RL.auto T_ok rfl ?_
  refine RL.nil ?_; repeat (first | with_reducible refine QN.block_normal ?_ | with_reducible refine QN.next ?_); repeat (first | with_reducible refine WP.seq ?_ | with_reducible refine WP.block ?_ | with_reducible refine WP.region ?_)
  refine RL.auto T_ok rfl ?_
  refine RL.nil ?_; repeat (first | with_reducible refine QN.block_normal ?_ | with_reducible refine QN.next ?_); repeat (first | with_reducible refine WP.seq ?_ | with_reducible refine WP.block ?_ | with_reducible refine WP.region ?_)
  refine WP.loop (X := Nat) (fun i => [(0, .slice A l.length c), (1, .func (.func k) #[] ca.toArray), (7, .int .i64 l.length), (8, .int .i64 i)]) (fun i m' => i ≤ l.length ∧ (l.take i).any p = false ∧ Ext m [] m') (fun i => l.length - i) 0
    (Sub.cons rfl (Sub.cons rfl (Sub.cons rfl (Sub.cons rfl Sub.nil)))) ⟨by simp, by simp, Ext.refl _ _⟩ ?_
  rintro i m1 ⟨hi, ht, hE⟩
  repeat (first | with_reducible refine WP.seq ?_ | with_reducible refine WP.block ?_ | with_reducible refine WP.region ?_)
  refine RL.auto T_ok rfl ?_
  refine RL.nil ?_; repeat (first | with_reducible refine QN.block_normal ?_ | with_reducible refine QN.next ?_); repeat (first | with_reducible refine WP.seq ?_ | with_reducible refine WP.block ?_ | with_reducible refine WP.region ?_)
  refine WP.cond rfl (fun hc => ?_) (fun hc => ?_)
  · have hc : i < l.length := by have := of_decide_eq_true hc; omega
    obtain ⟨ad, rfl, hx⟩ := (h.ext0 hE).cell i hc
    refine WP.skip ?_; repeat (first | with_reducible refine QN.block_normal ?_ | with_reducible refine QN.next ?_); repeat (first | with_reducible refine WP.seq ?_ | with_reducible refine WP.block ?_ | with_reducible refine WP.region ?_)
    refine RL.auto T_ok rfl ?_
    refine RL.nil ?_; repeat (first | with_reducible refine QN.block_normal ?_ | with_reducible refine QN.next ?_); repeat (first | with_reducible refine WP.seq ?_ | with_reducible refine WP.block ?_ | with_reducible refine WP.region ?_)
    refine RL.auto T_ok rfl ?_
    refine RL.indexAddr (k := i) T_ok rfl rfl rfl rfl rfl rfl rfl hc rfl ?_
    refine RL.loadAgg T_ok (cC l[i]) rfl rfl rfl hx rfl ?_
    refine RL.call (fi := []) (ca := ca) rfl rfl rfl rfl (hf m1 l[i] hE) ?_
    rintro _ m2 ⟨rfl, hE2⟩
    refine ⟨_, rfl, ?_⟩
    have hEm := hE.trans hE2 (by simp)
    refine RL.nil ?_; repeat (first | with_reducible refine QN.block_normal ?_ | with_reducible refine QN.next ?_); repeat (first | with_reducible refine WP.seq ?_ | with_reducible refine WP.block ?_ | with_reducible refine WP.region ?_)
    refine WP.cond rfl (fun hp => ?_) (fun hp => ?_)
    · repeat (first | with_reducible refine WP.seq ?_ | with_reducible refine WP.block ?_ | with_reducible refine WP.region ?_)
      refine RL.auto T_ok rfl ?_
      refine RL.nil ?_; repeat (first | with_reducible refine QN.block_normal ?_ | with_reducible refine QN.next ?_); repeat (first | with_reducible refine WP.seq ?_ | with_reducible refine WP.block ?_ | with_reducible refine WP.region ?_)
      refine WP.ret ?_; repeat (first | with_reducible refine QN.then_ret ?_ | with_reducible refine QN.block_ret ?_)
      refine QN.ret1 rfl rfl ⟨_, rfl, ⟨(i : Int), rfl, fun _ => ?_, fun _ => by omega⟩, hEm⟩
      exact List.any_eq_true.2 ⟨l[i], List.getElem_mem _, hp⟩
    · refine WP.skip ?_; repeat (first | with_reducible refine QN.block_normal ?_ | with_reducible refine QN.next ?_); repeat (first | with_reducible refine WP.seq ?_ | with_reducible refine WP.block ?_ | with_reducible refine WP.region ?_)
      refine RL.auto T_ok rfl ?_
      refine RL.nil (QN.round (i + 1) (Sub.cons rfl (Sub.cons rfl (Sub.cons rfl (Sub.cons ?_ Sub.nil)))) ⟨by omega, ?_, hEm⟩ (by omega))
      · show some (Value.int .i64 (IntKind.i64.wrap ((i : Int) + 1))) = some (Value.int .i64 ((i + 1 : Nat) : Int))
        rw [wrap_i64_in _ (by omega) (by omega)]; rfl
      · rw [List.take_succ_eq_append_getElem hc, List.any_append, ht]
        simp [hp]
  · have hc : i = l.length := by have := of_decide_eq_false hc; omega
    subst hc
    rw [List.take_length] at ht
    refine WP.exit ?_; repeat (first | with_reducible refine QN.then_exit ?_ | with_reducible refine QN.block_exit ?_ | with_reducible refine QN.block_far rfl ?_ | with_reducible refine QN.block_normal ?_ | with_reducible refine QN.next ?_); repeat (first | with_reducible refine WP.seq ?_ | with_reducible refine WP.block ?_ | with_reducible refine WP.region ?_)
    refine RL.auto T_ok rfl ?_
    refine RL.nil ?_; repeat (first | with_reducible refine QN.block_normal ?_ | with_reducible refine QN.next ?_); repeat (first | with_reducible refine WP.seq ?_ | with_reducible refine WP.block ?_ | with_reducible refine WP.region ?_)
    refine WP.ret ?_; repeat (first | with_reducible refine QN.then_ret ?_ | with_reducible refine QN.block_ret ?_)
    exact QN.ret1 rfl rfl ⟨_, rfl, ⟨-1, rfl, fun hh => by omega, fun hh => by rw [ht] at hh; cases hh⟩, hE⟩
theorem containsK_c (m : World) (v : Value) (l : List Clk) (h : Cs m [] v l) (hl : l.length < 1000000000) (k : FuncId) (ca : List Value) (p : Clk → Bool) (hf : ∀ m1 x, Ext m [] m1 → FnR Try.prog k (cV x :: ca) m1 fun r m2 => r = .bool (p x) ∧ Ext m1 [] m2) :
    FnR Try.prog 44 [v, .func (.func k) #[] ca.toArray] m fun r m' => r = .bool (l.any p) ∧ Ext m [] m' := by
  refine FnE.enter ⟨_, Try.func44, by kernel_rfl, by kernel_rfl⟩ Try.func44 rfl rfl ?_
  repeat (first | with_reducible refine WP.seq ?_ | with_reducible refine WP.block ?_ | with_reducible refine WP.region ?_)
  refine RL.auto T_ok rfl ?_
  refine RL.nil ?_; repeat (first | with_reducible refine QN.block_normal ?_ | with_reducible refine QN.next ?_); repeat (first | with_reducible refine WP.seq ?_ | with_reducible refine WP.block ?_ | with_reducible refine WP.region ?_)
  refine RL.auto T_ok rfl ?_
  refine RL.call (fi := []) (ca := []) rfl rfl rfl rfl (indexK_c m v l h hl k ca p hf) ?_
  rintro _ m1 ⟨⟨z, rfl, hz⟩, hE⟩
  refine ⟨_, rfl, ?_⟩
  refine RL.auto T_ok rfl ?_
  refine RL.nil ?_; repeat (first | with_reducible refine QN.block_normal ?_ | with_reducible refine QN.next ?_); repeat (first | with_reducible refine WP.seq ?_ | with_reducible refine WP.block ?_ | with_reducible refine WP.region ?_)
  refine WP.ret ?_; repeat (first | with_reducible refine QN.then_ret ?_ | with_reducible refine QN.block_ret ?_)
  refine QN.ret1 rfl rfl ⟨_, rfl, congrArg _ ?_, hE⟩
  cases hp : l.any p with
  | true => exact decide_eq_true (hz.2 hp)
  | false => exact decide_eq_false (fun h => by rw [hz.1 h] at hp; cases hp)
theorem within1_c (m : World) (x : Clk) (v : Value) (l : List Clk) (bv : Nat) (hb : Blk m bv 22 [v]) (h : Cs m [] v l) (hl : l.length < 100000000) : FnR Try.prog 45 [cV x, .pointer (some ⟨bv, 0, none⟩)] m fun r m' => r = .bool (decide (vat l x.c < x.k)) ∧ Ext m [] m' := by
  refine FnE.enter ⟨_, Try.func45, by kernel_rfl, by kernel_rfl⟩ Try.func45 rfl rfl ?_
  repeat (first | with_reducible refine WP.seq ?_ | with_reducible refine WP.block ?_ | with_reducible refine WP.region ?_)
  refine RL.box rfl rfl (fun b m1 hb1 hC => ⟨_, rfl, ?_⟩)
  have hB : Blk m1 b 60 (cC x) := hC.here
  have hE1 : Ext m [] m1 := hC.new (by omega)
  clear hC
  replace hb := hb.ext hE1 (by simp)
  refine RL.auto T_ok rfl ?_
  refine RL.nil ?_; repeat (first | with_reducible refine QN.block_normal ?_ | with_reducible refine QN.next ?_)
  refine WP.seq ?_
  refine WP.drawQ (fun m' => Ext m1 [] m') [] (by kernel_rfl) (Ext.refl _ _) (by repeat (first | with_reducible exact PanicOk.body | with_reducible refine PanicOk.then_ ?_ | with_reducible refine PanicOk.block_ ?_)) (fun hQ => ?_)
  refine RH.pure T_ok hQ [0] (by kernel_rfl) rfl ?_
  refine RH.load T_ok hQ 1 (fun m' hm' => (hB.ext hm' (by simp)).cell 1 rfl) rfl (by kernel_rfl) rfl rfl rfl rfl ?_
  refine RH.load T_ok hQ 2 (fun m' hm' => (hb.ext hm' (by simp)).cell 0 rfl) rfl (by kernel_rfl) rfl rfl rfl rfl ?_
  refine RH.pure T_ok hQ [3] (by kernel_rfl) rfl ?_
  refine RH.load T_ok hQ 4 (fun m' hm' => (hB.ext hm' (by simp)).cell 0 rfl) rfl (by kernel_rfl) rfl rfl rfl rfl ?_
  refine RH.only 5 rfl (by kernel_rfl) (fun _ => ?_)
  refine RL.call (fi := []) (ca := []) rfl rfl rfl rfl (vat_c m1 v l (h.ext0 hE1) hl x.c) ?_
  rintro _ m2 ⟨rfl, hE2⟩
  refine ⟨_, rfl, RL.nil (RH.cont hE2 ?_)⟩
  refine RH.pure T_ok hQ [6] (by kernel_rfl) rfl ?_
  refine RH.eqv (v' := .bool (decide (vat l x.c < x.k))) (congrArg _ (by rw [decide_eq_decide]; omega)) ?_
  refine RH.pure T_ok hQ [7] (by kernel_rfl) rfl ?_
  refine RH.done (by kernel_rfl) (fun _ => ?_)
  repeat (first | with_reducible refine QN.block_normal ?_ | with_reducible refine QN.next ?_)
  refine WP.ret ?_; repeat (first | with_reducible refine QN.then_ret ?_ | with_reducible refine QN.block_ret ?_)
  exact QN.ret1 rfl rfl ⟨_, rfl, rfl, hE1.trans hE2 (by simp)⟩
theorem vwithin_c (m : World) (v u : Value) (a b : List Clk) (h : Cs m [] v a) (h' : Cs m [] u b) (hla : a.length < 100000000) (hlb : b.length < 100000000) : FnR Try.prog 26 [v, u] m fun r m' => r = .bool (vwithin a b) ∧ Ext m [] m' := by
  obtain ⟨B, cB, rfl, _, _⟩ := h'.shape
  refine FnE.enter ⟨_, Try.func26, by kernel_rfl, by kernel_rfl⟩ Try.func26 rfl rfl ?_
  repeat (first | with_reducible refine WP.seq ?_ | with_reducible refine WP.block ?_ | with_reducible refine WP.region ?_)
  refine RL.box rfl rfl (fun bv m1 hb1 hC => ⟨_, rfl, ?_⟩)
  have hB : Blk m1 bv 22 [.slice B b.length cB] := hC.here
  have hE1 : Ext m [] m1 := hC.new (by omega)
  clear hC
  refine RL.auto T_ok rfl ?_
  refine RL.nil ?_; repeat (first | with_reducible refine QN.block_normal ?_ | with_reducible refine QN.next ?_); repeat (first | with_reducible refine WP.seq ?_ | with_reducible refine WP.block ?_ | with_reducible refine WP.region ?_)
  refine RL.auto T_ok rfl ?_
  refine RL.call (fi := []) (ca := []) rfl rfl rfl rfl (vclean_c m1 v a (h.ext0 hE1) hla) ?_
  rintro v2 m2 hM
  refine ⟨_, rfl, ?_⟩
  have hE2 := hE1.trans hM.ext (by simp)
  replace hB := hB.ext hM.ext (by simp)
  have hln := vclean_len a
  refine RL.auto T_ok rfl ?_
  refine RL.call (fi := []) (ca := []) rfl rfl rfl rfl (containsK_c m2 v2 (vclean a) hM.cs (by omega) 45 [.pointer (some ⟨bv, 0, none⟩)] (fun x => decide (vat b x.c < x.k)) (fun m3 x hE => within1_c m3 x _ b bv (hB.ext hE (by simp)) ((h'.ext0 hE2).ext0 hE) hlb)) ?_
  rintro _ m3 ⟨rfl, hE3⟩
  refine ⟨_, rfl, ?_⟩
  refine RL.auto T_ok rfl ?_
  refine RL.nil ?_; repeat (first | with_reducible refine QN.block_normal ?_ | with_reducible refine QN.next ?_); repeat (first | with_reducible refine WP.seq ?_ | with_reducible refine WP.block ?_ | with_reducible refine WP.region ?_)
  refine WP.ret ?_; repeat (first | with_reducible refine QN.then_ret ?_ | with_reducible refine QN.block_ret ?_)
  exact QN.ret1 rfl rfl ⟨_, rfl, rfl, hE2.trans hE3 (by simp)⟩
/-- What a vector knows, as a range. -/
def vrg (x : Clk) : Rng := ⟨x.c, 1, x.k + 1⟩
theorem vranges_c (m : World) (v : Value) (l : List Clk) (h : Cs m [] v l) (hl : l.length < 100000000) : FnR Try.prog 18 [v] m fun r m' => Made m r (vranges l) m' := by
  refine FnE.enter ⟨_, Try.func18, by kernel_rfl, by kernel_rfl⟩ Try.func18 rfl rfl ?_
  repeat (first | with_reducible refine WP.seq ?_ | with_reducible refine WP.block ?_ | with_reducible refine WP.region ?_)
  refine RL.auto T_ok rfl ?_
  refine RL.nil ?_; repeat (first | with_reducible refine QN.block_normal ?_ | with_reducible refine QN.next ?_); repeat (first | with_reducible refine WP.seq ?_ | with_reducible refine WP.block ?_ | with_reducible refine WP.region ?_)
  refine RL.auto T_ok rfl ?_
  refine RL.nil ?_; repeat (first | with_reducible refine QN.block_normal ?_ | with_reducible refine QN.next ?_); repeat (first | with_reducible refine WP.seq ?_ | with_reducible refine WP.block ?_ | with_reducible refine WP.region ?_)
  refine RL.auto T_ok rfl ?_
  refine RL.call (fi := []) (ca := []) rfl rfl rfl rfl (vclean_c m v l h hl) ?_
  rintro v1 m1 hM
  refine ⟨_, rfl, ?_⟩
  have hE1 := hM.ext
  have hR := hM.cs
  have hcan := vclean_canon l
  have hln := vclean_len l
  have hdef : vranges l = (vclean l).map vrg := rfl
  rw [hdef]
  generalize vclean l = L at hM hR hcan hln
  obtain ⟨A, c, rfl, _, _⟩ := hR.shape
  refine RL.auto T_ok rfl ?_
  refine RL.nil ?_; repeat (first | with_reducible refine QN.block_normal ?_ | with_reducible refine QN.next ?_); repeat (first | with_reducible refine WP.seq ?_ | with_reducible refine WP.block ?_ | with_reducible refine WP.region ?_)
  refine (WP.loop (X := Nat × Value × List Nat) (fun q => [(7, .slice A L.length c), (8, .int .i64 L.length), (3, q.2.1), (9, .int .i64 q.1)])
    (fun q m' => q.1 ≤ L.length ∧ Ev.Own m' q.2.2 62 3 q.2.1 ((L.take q.1).map vrg).length (((L.take q.1).map vrg).flatMap rC) ∧ New m1 q.2.2 m') (fun q => L.length - q.1) (0, .slice none 0 0, [])
    (Sub.cons rfl (Sub.cons rfl (Sub.cons rfl (Sub.cons rfl Sub.nil)))) ⟨by simp, Own.empty _ _ _ _, Ext.refl _ _, FpNew.nil _ _⟩ ?_)
  rintro ⟨i, w, S⟩ m2 ⟨hi, hO, hN⟩
  simp only at hi hO hN
  repeat (first | with_reducible refine WP.seq ?_ | with_reducible refine WP.block ?_ | with_reducible refine WP.region ?_)
  refine RL.auto T_ok rfl ?_
  refine RL.nil ?_; repeat (first | with_reducible refine QN.block_normal ?_ | with_reducible refine QN.next ?_); repeat (first | with_reducible refine WP.seq ?_ | with_reducible refine WP.block ?_ | with_reducible refine WP.region ?_)
  refine WP.cond rfl (fun hc => ?_) (fun hc => ?_)
  · replace hc : i < L.length := by have := of_decide_eq_true hc; simp only at this; omega
    obtain ⟨ad, rfl, hx⟩ := (hR.ext0 hN.1).cell i hc
    have hok := hcan.1 L[i] (List.getElem_mem _)
    have htake : (L.take (i + 1)).map vrg = (L.take i).map vrg ++ [vrg L[i]] := by rw [List.take_succ_eq_append_getElem hc, List.map_append]; rfl
    have hlm : ((L.take i).map vrg).length = i := by rw [List.length_map, List.length_take, Nat.min_eq_left hi]
    generalize L[i] = x at hx hok htake
    refine WP.skip ?_; repeat (first | with_reducible refine QN.block_normal ?_ | with_reducible refine QN.next ?_); repeat (first | with_reducible refine WP.seq ?_ | with_reducible refine WP.block ?_ | with_reducible refine WP.region ?_)
    refine RL.indexAddr (k := i) T_ok rfl rfl rfl rfl rfl rfl rfl hc rfl ?_
    refine RL.loadAgg T_ok (cC x) rfl rfl rfl hx rfl ?_
    refine RL.alloc T_ok rfl rfl (fun b3 m3 hb3 hC3 => ⟨_, rfl, ?_⟩)
    refine RL.storeAgg T_ok (b := b3) (i := 0) (vs := cC x) (cs := [.int .u64 0, .int .u64 0]) hC3.blk rfl rfl rfl rfl rfl (by simp) (by simp [cC, Value.oneCell']) rfl ?_
    intro m4 hC4
    have hE4 : Ext m2 [] m4 := (hC3.new (by omega)).trans hC4.ext (fun q hq => .inr (by have h9 : q = b3 := (by simpa using hq); omega))
    have hB4 : Blk m4 b3 60 (cC x) := hC4.blk
    clear hC3 hC4
    have hO4 := hO.ext hE4 (by simp)
    have hN4 : New m1 S m4 := ⟨hN.1.trans hE4 (by simp), hN.2⟩
    refine RL.nil ?_; repeat (first | with_reducible refine QN.block_normal ?_ | with_reducible refine QN.next ?_); repeat (first | with_reducible refine WP.seq ?_ | with_reducible refine WP.block ?_ | with_reducible refine WP.region ?_)
    refine RL.pure T_ok 2 rfl ?_
    refine RL.load T_ok rfl rfl rfl (hB4.cell 0 rfl) rfl ?_
    refine RL.pure T_ok 1 rfl ?_
    refine RL.load T_ok rfl rfl rfl (hB4.cell 1 rfl) rfl ?_
    refine RL.pure T_ok 1 rfl ?_
    refine RL.eqv (v' := .int .u64 ((x.k + 1 : Nat) : Int)) (congrArg _ (by have := hok.2.2.2; rw [wrap_u64_in _ (by omega) (by omega)]; rfl)) ?_
    refine RL.pure T_ok 1 rfl ?_
    refine RL.append1 T_ok [.tmp 19] hO4 (us := [rV (vrg x)]) (rC (vrg x)) rfl rfl rfl rfl rfl rfl rfl rfl rfl (by simp [rV, rC, Value.cells]) (by simp [rV, Value.cells]) (rC_one _) (by unfold maxLen; omega) (by show (_ + 1) * 24 ≤ _; omega) ?_
    intro v6 m6 S6 hO6 hE6 hF6
    refine ⟨_, rfl, ?_⟩
    have hN6 : New m1 S6 m6 := ⟨hN4.1.trans hE6 (fun k hk => .inr (hN4.ge k hk)), hN4.2.trans hF6 hN4.1.size⟩
    refine RL.auto T_ok rfl ?_
    refine RL.nil ?_; repeat (first | with_reducible refine QN.block_normal ?_ | with_reducible refine QN.next ?_); repeat (first | with_reducible refine WP.seq ?_ | with_reducible refine WP.block ?_ | with_reducible refine WP.region ?_)
    refine RL.pure T_ok 1 rfl ?_
    refine RL.eqv (v' := .int .i64 ((i + 1 : Nat) : Int)) (congrArg _ (by rw [wrap_i64_in _ (by omega) (by omega)]; rfl)) ?_
    refine RL.auto T_ok rfl ?_
    refine RL.nil (QN.round (i + 1, v6, S6) (Sub.cons rfl (Sub.cons rfl (Sub.cons rfl (Sub.cons rfl Sub.nil)))) ⟨by show i + 1 ≤ _; omega, ?_, hN6⟩ (by show _ - (i + 1) < _ - i; omega))
    show Ev.Own m6 S6 62 3 v6 ((L.take (i + 1)).map vrg).length (((L.take (i + 1)).map vrg).flatMap rC)
    rw [htake, List.length_append, ← rsC_app]
    simpa using hO6
  · replace hc : i = L.length := by have := of_decide_eq_false hc; simp only at this; omega
    subst hc
    rw [List.take_length] at hO
    refine WP.exit ?_; repeat (first | with_reducible refine QN.then_exit ?_ | with_reducible refine QN.block_exit ?_ | with_reducible refine QN.block_far rfl ?_ | with_reducible refine QN.block_normal ?_ | with_reducible refine QN.next ?_); repeat (first | with_reducible refine WP.seq ?_ | with_reducible refine WP.block ?_ | with_reducible refine WP.region ?_)
    refine RL.auto T_ok rfl ?_
    refine RL.nil ?_; repeat (first | with_reducible refine QN.block_normal ?_ | with_reducible refine QN.next ?_); repeat (first | with_reducible refine WP.seq ?_ | with_reducible refine WP.block ?_ | with_reducible refine WP.region ?_)
    refine WP.ret ?_; repeat (first | with_reducible refine QN.then_ret ?_ | with_reducible refine QN.block_ret ?_)
    exact QN.ret1 rfl rfl ⟨_, rfl, S, hO, hE1.trans hN.1 (by simp), hN.2.trans' hE1⟩
theorem vmeet_c (m : World) (v u : Value) (a b : List Clk) (h : Cs m [] v a) (h' : Cs m [] u b) (hla : a.length < 100000000) (hlb : b.length < 100000000) : FnR Try.prog 21 [v, u] m fun r m' => VMade m r (vmeet a b) m' := by
  obtain ⟨B, cB, rfl, _, _⟩ := h'.shape
  refine FnE.enter ⟨_, Try.func21, by kernel_rfl, by kernel_rfl⟩ Try.func21 rfl rfl ?_
  repeat (first | with_reducible refine WP.seq ?_ | with_reducible refine WP.block ?_ | with_reducible refine WP.region ?_)
  refine RL.auto T_ok rfl ?_
  refine RL.nil ?_; repeat (first | with_reducible refine QN.block_normal ?_ | with_reducible refine QN.next ?_); repeat (first | with_reducible refine WP.seq ?_ | with_reducible refine WP.block ?_ | with_reducible refine WP.region ?_)
  refine RL.auto T_ok rfl ?_
  refine RL.nil ?_; repeat (first | with_reducible refine QN.block_normal ?_ | with_reducible refine QN.next ?_); repeat (first | with_reducible refine WP.seq ?_ | with_reducible refine WP.block ?_ | with_reducible refine WP.region ?_)
  refine RL.auto T_ok rfl ?_
  refine RL.call (fi := []) (ca := []) rfl rfl rfl rfl (vclean_c m v a h hla) ?_
  rintro v1 m1 hM
  refine ⟨_, rfl, ?_⟩
  have hE1 := hM.ext
  have hR := hM.cs
  have hln := vclean_len a
  have hdef : vmeet a b = vclean ((vclean a).map fun x => (⟨x.c, min x.k (vat b x.c)⟩ : Clk)) := rfl
  rw [hdef]
  generalize vclean a = L at hM hR hln
  obtain ⟨A, c, rfl, _, _⟩ := hR.shape
  replace h' := h'.ext0 hE1
  obtain ⟨f, hf⟩ : ∃ f : Clk → Clk, f = fun x => (⟨x.c, min x.k (vat b x.c)⟩ : Clk) := ⟨_, rfl⟩
  rw [← hf]
  have hfx : ∀ x, f x = ⟨x.c, min x.k (vat b x.c)⟩ := fun x => by rw [hf]
  clear hf hM
  refine RL.auto T_ok rfl ?_
  refine RL.nil ?_; repeat (first | with_reducible refine QN.block_normal ?_ | with_reducible refine QN.next ?_); repeat (first | with_reducible refine WP.seq ?_ | with_reducible refine WP.block ?_ | with_reducible refine WP.region ?_)
  refine (WP.loop (X := Nat × Value × List Nat) (fun q => [(1, .slice B b.length cB), (9, .slice A L.length c), (10, .int .i64 L.length), (5, q.2.1), (11, .int .i64 q.1)])
    (fun q m' => q.1 ≤ L.length ∧ Ev.Own m' q.2.2 60 2 q.2.1 ((L.take q.1).map f).length (((L.take q.1).map f).flatMap cC) ∧ New m1 q.2.2 m') (fun q => L.length - q.1) (0, .slice none 0 0, [])
    (Sub.cons rfl (Sub.cons rfl (Sub.cons rfl (Sub.cons rfl (Sub.cons rfl Sub.nil))))) ⟨by simp, Own.empty _ _ _ _, Ext.refl _ _, FpNew.nil _ _⟩ ?_)
  rintro ⟨i, w, S⟩ m2 ⟨hi, hO, hN⟩
  simp only at hi hO hN
  repeat (first | with_reducible refine WP.seq ?_ | with_reducible refine WP.block ?_ | with_reducible refine WP.region ?_)
  refine RL.auto T_ok rfl ?_
  refine RL.nil ?_; repeat (first | with_reducible refine QN.block_normal ?_ | with_reducible refine QN.next ?_); repeat (first | with_reducible refine WP.seq ?_ | with_reducible refine WP.block ?_ | with_reducible refine WP.region ?_)
  refine WP.cond rfl (fun hc => ?_) (fun hc => ?_)
  · replace hc : i < L.length := by have := of_decide_eq_true hc; simp only at this; omega
    obtain ⟨ad, rfl, hx⟩ := (hR.ext0 hN.1).cell i hc
    have htake : (L.take (i + 1)).map f = (L.take i).map f ++ [f L[i]] := by rw [List.take_succ_eq_append_getElem hc, List.map_append]; rfl
    have hlm : ((L.take i).map f).length = i := by rw [List.length_map, List.length_take, Nat.min_eq_left hi]
    generalize L[i] = x at hx htake
    refine WP.skip ?_; repeat (first | with_reducible refine QN.block_normal ?_ | with_reducible refine QN.next ?_); repeat (first | with_reducible refine WP.seq ?_ | with_reducible refine WP.block ?_ | with_reducible refine WP.region ?_)
    refine RL.indexAddr (k := i) T_ok rfl rfl rfl rfl rfl rfl rfl hc rfl ?_
    refine RL.loadAgg T_ok (cC x) rfl rfl rfl hx rfl ?_
    refine RL.alloc T_ok rfl rfl (fun b3 m3 hb3 hC3 => ⟨_, rfl, ?_⟩)
    refine RL.storeAgg T_ok (b := b3) (i := 0) (vs := cC x) (cs := [.int .u64 0, .int .u64 0]) hC3.blk rfl rfl rfl rfl rfl (by simp) (by simp [cC, Value.oneCell']) rfl ?_
    intro m4 hC4
    have hE4 : Ext m2 [] m4 := (hC3.new (by omega)).trans hC4.ext (fun q hq => .inr (by have h9 : q = b3 := (by simpa using hq); omega))
    have hB4 : Blk m4 b3 60 (cC x) := hC4.blk
    clear hC3 hC4
    have hO4 := hO.ext hE4 (by simp)
    have hN4 : New m1 S m4 := ⟨hN.1.trans hE4 (by simp), hN.2⟩
    refine RL.nil ?_; repeat (first | with_reducible refine QN.block_normal ?_ | with_reducible refine QN.next ?_)
    have hB4c : ∀ m', Ext m4 [] m' → Blk m' b3 60 (cC x) := fun m' hE => hB4.ext hE (by simp)
    have hbS : b3 ∉ S := fun hh => by have := hO.lt _ hh; omega
    have hb4 := hB4.lt
    refine WP.drawQ (fun m' => Ext m1 [] m' ∧ Blk m' b3 60 (cC x)) [] (by kernel_rfl) ⟨hN4.1, hB4⟩ (by repeat (first | with_reducible exact PanicOk.body | with_reducible refine PanicOk.then_ ?_ | with_reducible refine PanicOk.block_ ?_)) (fun hQ => ?_)
    refine RH.pure T_ok hQ [0, 1] (by kernel_rfl) rfl ?_
    refine RH.load T_ok hQ 2 (fun m' hm' => hm'.2.cell 0 rfl) rfl (by kernel_rfl) rfl rfl rfl rfl ?_
    refine RH.pure T_ok hQ [3] (by kernel_rfl) rfl ?_
    refine RH.load T_ok hQ 4 (fun m' hm' => hm'.2.cell 1 rfl) rfl (by kernel_rfl) rfl rfl rfl rfl ?_
    refine RH.pure T_ok hQ [5, 6] (by kernel_rfl) rfl ?_
    refine RH.load T_ok hQ 7 (fun m' hm' => hm'.2.cell 0 rfl) rfl (by kernel_rfl) rfl rfl rfl rfl ?_
    refine RH.only 8 rfl (by kernel_rfl) (fun _ => ?_)
    refine RL.call (fi := []) (ca := []) rfl rfl rfl rfl (vat_c m4 _ b (h'.ext0 hN4.1) hlb x.c) ?_
    rintro _ m5 ⟨rfl, hE5⟩
    refine ⟨_, rfl, RL.nil (RH.cont ⟨hN4.1.trans hE5 (by simp), hB4c _ hE5⟩ ?_)⟩
    replace hO4 := hO4.ext hE5 (by simp)
    replace hN4 : New m1 S m5 := ⟨hN4.1.trans hE5 (by simp), hN4.2⟩
    refine RH.pure T_ok hQ [9] (by kernel_rfl) rfl ?_
    refine RH.eqv (v' := .int .u64 (min x.k (vat b x.c) : Nat)) (minK _ _) ?_
    refine RH.pure T_ok hQ [10] (by kernel_rfl) rfl ?_
    refine RH.eqv (v' := cV (f x)) (by rw [hfx]; rfl) ?_
    refine RH.only 11 rfl (by kernel_rfl) (fun _ => ?_)
    refine RL.buildSlice T_ok [.tmp 25] (us := [cV (f x)]) (cC (f x)) rfl rfl rfl rfl rfl rfl (by simp [cV, cC, Value.cells]) (by simp [cV, Value.cells]) rfl (fun b9 m9 hb9 hC9 => ⟨_, rfl, ?_⟩)
    have hE9 : Ext m5 [] m9 := hC9.new (by omega)
    have hN9 : New m1 S m9 := ⟨hN4.1.trans hE9 (by simp), hN4.2⟩
    have hE59 := hE5.trans hE9 (by simp)
    refine RL.nil (RH.cont ⟨hN9.1, hB4c _ hE59⟩ ?_)
    refine RH.only 12 rfl (by kernel_rfl) (fun _ => ?_)
    refine RL.append T_ok (hO4.ext hE9 (by simp)) (cC (f x)) (Src.of_blk (k := 1) (c := 1) hC9.blk rfl) rfl rfl rfl rfl rfl rfl (cC_one _) (by unfold maxLen; omega) (by show (_ + 1) * 16 ≤ _; omega) ?_
    intro v10 m10 S10 hO10 hE10 hF10
    have hN10 : New m1 S10 m10 := ⟨hN9.1.trans hE10 (fun k hk => .inr (hN9.ge k hk)), hN9.2.trans hF10 hN9.1.size⟩
    refine ⟨_, rfl, RL.nil (RH.cont ⟨hN10.1, (hB4c _ hE59).ext hE10 hbS⟩ ?_)⟩
    refine RH.pure T_ok hQ [13] (by kernel_rfl) rfl ?_
    refine RH.done (by kernel_rfl) (fun _ => ?_)
    repeat (first | with_reducible refine QN.block_normal ?_ | with_reducible refine QN.next ?_)
    repeat (first | with_reducible refine WP.seq ?_ | with_reducible refine WP.block ?_ | with_reducible refine WP.region ?_)
    refine RL.pure T_ok 1 rfl ?_
    refine RL.eqv (v' := .int .i64 ((i + 1 : Nat) : Int)) (congrArg _ (by rw [wrap_i64_in _ (by omega) (by omega)]; rfl)) ?_
    refine RL.auto T_ok rfl ?_
    refine RL.nil (QN.round (i + 1, v10, S10) (Sub.cons rfl (Sub.cons rfl (Sub.cons rfl (Sub.cons rfl (Sub.cons rfl Sub.nil))))) ⟨by show i + 1 ≤ _; omega, ?_, hN10⟩ (by show _ - (i + 1) < _ - i; omega))
    show Ev.Own m10 S10 60 2 v10 ((L.take (i + 1)).map f).length (((L.take (i + 1)).map f).flatMap cC)
    rw [htake, List.length_append, ← csC_app]
    simpa using hO10
  · replace hc : i = L.length := by have := of_decide_eq_false hc; simp only at this; omega
    subst hc
    rw [List.take_length] at hO
    have hlo : (L.map f).length = L.length := List.length_map _
    have hRo : Cs m2 [] w (L.map f) := hO.sl (by simp)
    have hE12 : Ext m [] m2 := hE1.trans hN.1 (by simp)
    refine WP.exit ?_; repeat (first | with_reducible refine QN.then_exit ?_ | with_reducible refine QN.block_exit ?_ | with_reducible refine QN.block_far rfl ?_ | with_reducible refine QN.block_normal ?_ | with_reducible refine QN.next ?_); repeat (first | with_reducible refine WP.seq ?_ | with_reducible refine WP.block ?_ | with_reducible refine WP.region ?_)
    refine RL.auto T_ok rfl ?_
    refine RL.call (fi := []) (ca := []) rfl rfl rfl rfl (vclean_c m2 w _ hRo (by omega)) ?_
    rintro v9 m9 ⟨S9, hO9, hN9⟩
    refine ⟨_, rfl, ?_⟩
    refine RL.auto T_ok rfl ?_
    refine RL.nil ?_; repeat (first | with_reducible refine QN.block_normal ?_ | with_reducible refine QN.next ?_); repeat (first | with_reducible refine WP.seq ?_ | with_reducible refine WP.block ?_ | with_reducible refine WP.region ?_)
    refine WP.ret ?_; repeat (first | with_reducible refine QN.then_ret ?_ | with_reducible refine QN.block_ret ?_)
    exact QN.ret1 rfl rfl ⟨_, rfl, S9, hO9, hE12.trans hN9.1 (by simp), hN9.2.trans' hE12⟩
theorem vjoin_c (m : World) (v u : Value) (a b : List Clk) (h : Cs m [] v a) (h' : Cs m [] u b) (hl : a.length + b.length < 100000000) : FnR Try.prog 20 [v, u] m fun r m' => VMade m r (vjoin a b) m' := by
  obtain ⟨A, c, rfl, _, _⟩ := h.shape
  obtain ⟨B, c', rfl, _, _⟩ := h'.shape
  refine FnE.enter ⟨_, Try.func20, by kernel_rfl, by kernel_rfl⟩ Try.func20 rfl rfl ?_
  repeat (first | with_reducible refine WP.seq ?_ | with_reducible refine WP.block ?_ | with_reducible refine WP.region ?_)
  refine RL.auto T_ok rfl ?_
  refine RL.nil ?_; repeat (first | with_reducible refine QN.block_normal ?_ | with_reducible refine QN.next ?_); repeat (first | with_reducible refine WP.seq ?_ | with_reducible refine WP.block ?_ | with_reducible refine WP.region ?_)
  refine RL.auto T_ok rfl ?_
  refine RL.buildSlice T_ok [.tmp 5, .tmp 6] (us := [.slice A a.length c, .slice B b.length c']) [.slice A a.length c, .slice B b.length c'] rfl rfl rfl rfl rfl rfl (by simp [Value.cells]) rfl rfl (fun b1 m1 hb1 hC1 => ⟨_, rfl, ?_⟩)
  have hE1 : Ext m [] m1 := hC1.new (by omega)
  have hS1 : Sl m1 [] 1 (.slice (some ⟨b1, 0, none⟩) 2 2) [.slice A a.length c, .slice B b.length c'] := Sl.of_blk (M := []) (n := 2) (c := 2) (sz := 1) hC1.blk (by simp) (by simp) (by omega) (by unfold maxLen; omega)
  refine RL.call (fi := []) (ca := []) rfl rfl rfl rfl (concat_clock m1 _ _ [a.flatMap cC, b.flatMap cC] [a.length, b.length] hS1 rfl rfl (fun i u xs k e1 e2 e3 => ?_) (fun xs hx => ?_) (by simp; omega) (by simp)) ?_
  · match i with
    | 0 =>
      simp only [List.getElem?_cons_zero, Option.some.injEq] at e1 e2 e3
      subst e1; subst e2; subst e3
      exact ⟨h.ext0 hE1, csC_len a⟩
    | 1 =>
      simp only [List.getElem?_cons_succ, List.getElem?_cons_zero, Option.some.injEq] at e1 e2 e3
      subst e1; subst e2; subst e3
      exact ⟨h'.ext0 hE1, csC_len b⟩
    | i + 2 => simp at e1
  · simp only [List.mem_cons, List.not_mem_nil, or_false] at hx
    rcases hx with rfl | rfl
    · exact csC_one a
    · exact csC_one b
  rintro v2 m2 ⟨S2, hO2, hN2⟩
  refine ⟨_, rfl, ?_⟩
  have hE2 := hE1.trans hN2.1 (by simp)
  have hR2 : Cs m2 [] v2 (a ++ b) := by
    have h9 := hO2.sl (M := []) (by simp)
    have e9 : [a.flatMap cC, b.flatMap cC].flatten = (a ++ b).flatMap cC := by simp
    rw [e9] at h9
    exact h9
  refine RL.call (fi := []) (ca := []) rfl rfl rfl rfl (vclean_c m2 _ _ hR2 (by rw [List.length_append]; omega)) ?_
  rintro v3 m3 hM3
  refine ⟨_, rfl, ?_⟩
  refine RL.auto T_ok rfl ?_
  refine RL.nil ?_; repeat (first | with_reducible refine QN.block_normal ?_ | with_reducible refine QN.next ?_); repeat (first | with_reducible refine WP.seq ?_ | with_reducible refine WP.block ?_ | with_reducible refine WP.region ?_)
  refine WP.ret ?_; repeat (first | with_reducible refine QN.then_ret ?_ | with_reducible refine QN.block_ret ?_)
  exact QN.ret1 rfl rfl ⟨_, rfl, hM3.from_ hE2⟩
theorem vmissing_c (m : World) (v u : Value) (a b : List Clk) (h : Cs m [] v a) (h' : Cs m [] u b) (hla : a.length < 100000000) (hlb : b.length < 100000000) (hl : b.length * (a.length + 1) < 100000000) : FnR Try.prog 22 [v, u] m fun r m' => Made m r (vmissing a b) m' := by
  refine FnE.enter ⟨_, Try.func22, by kernel_rfl, by kernel_rfl⟩ Try.func22 rfl rfl ?_
  repeat (first | with_reducible refine WP.seq ?_ | with_reducible refine WP.block ?_ | with_reducible refine WP.region ?_)
  refine RL.auto T_ok rfl ?_
  refine RL.nil ?_; repeat (first | with_reducible refine QN.block_normal ?_ | with_reducible refine QN.next ?_); repeat (first | with_reducible refine WP.seq ?_ | with_reducible refine WP.block ?_ | with_reducible refine WP.region ?_)
  refine RL.auto T_ok rfl ?_
  refine RL.call (fi := []) (ca := []) rfl rfl rfl rfl (vranges_c m u b h' hlb) ?_
  rintro v1 m1 hM1
  refine ⟨_, rfl, ?_⟩
  refine RL.auto T_ok rfl ?_
  refine RL.call (fi := []) (ca := []) rfl rfl rfl rfl (vranges_c m1 v a (h.ext0 hM1.ext) hla) ?_
  rintro v2 m2 hM2
  refine ⟨_, rfl, ?_⟩
  have l1 := vranges_len a
  have l2 := vranges_len b
  have hE2 := hM1.ext.trans hM2.ext (by simp)
  refine RL.call (fi := []) (ca := []) rfl rfl rfl rfl (minus_c m2 _ _ _ _ (hM1.rs.ext0 hM2.ext) hM2.rs (by omega) (by omega) (Nat.lt_of_le_of_lt (Nat.mul_le_mul l2 (Nat.succ_le_succ l1)) hl)) ?_
  rintro v3 m3 hM3
  refine ⟨_, rfl, ?_⟩
  refine RL.auto T_ok rfl ?_
  refine RL.nil ?_; repeat (first | with_reducible refine QN.block_normal ?_ | with_reducible refine QN.next ?_); repeat (first | with_reducible refine WP.seq ?_ | with_reducible refine WP.block ?_ | with_reducible refine WP.region ?_)
  refine WP.ret ?_; repeat (first | with_reducible refine QN.then_ret ?_ | with_reducible refine QN.block_ret ?_)
  exact QN.ret1 rfl rfl ⟨_, rfl, hM3.from_ hE2⟩
end Go.Proofs.Ytmjpcaiehfimgaa
end

section
/- Join, Meet, and the reference's. -/
namespace Go.Proofs.Ytmjpcaiehfimgaa
open Go.RowKit Go.Ev Go.Ids

theorem meetAt (A B : List Rng) (i j : Nat) (hi : i < A.length) (hj : j < B.length) : (A.take i).flatMap (fun x => B.flatMap (both x)) ++ (B.take (j + 1)).flatMap (both A[i]) = ((A.take i).flatMap (fun x => B.flatMap (both x)) ++ (B.take j).flatMap (both A[i])) ++ both A[i] B[j] := by
  rw [List.take_succ_eq_append_getElem hj, List.flatMap_append, List.append_assoc]; simp
theorem meetAt_len (A B : List Rng) (i j : Nat) (hi : i < A.length) (hj : j ≤ B.length) : ((A.take i).flatMap (fun x => B.flatMap (both x)) ++ (B.take j).flatMap (both A[i])).length ≤ A.length * B.length := by
  have h1 := meetO_len (A.take i) B
  have h2 := boths_len A[i] (B.take j)
  have h3 : (i + 1) * B.length ≤ A.length * B.length := Nat.mul_le_mul_right _ hi
  unfold meetO at h1
  rw [List.length_take, Nat.min_eq_left (by omega)] at h1 h2
  rw [Nat.succ_mul] at h3
  rw [List.length_append]
  omega
theorem meetAt_next (A B : List Rng) (i : Nat) (hi : i < A.length) : (A.take (i + 1)).flatMap (fun x => B.flatMap (both x)) = (A.take i).flatMap (fun x => B.flatMap (both x)) ++ (B.take B.length).flatMap (both A[i]) := by
  rw [List.take_succ_eq_append_getElem hi, List.flatMap_append, List.take_length]; simp
theorem bothV (x y : Rng) : Value.agg #[.int .u64 x.c, .int .u64 (if (x.f : Int) < y.f then (y.f : Int) else x.f), .int .u64 (if (y.t : Int) < x.t then (y.t : Int) else x.t)] = rV ⟨x.c, max x.f y.f, min x.t y.t⟩ := by
  have h1 : (if (x.f : Int) < y.f then (y.f : Int) else x.f) = ((max x.f y.f : Nat) : Int) := by split <;> omega
  have h2 : (if (y.t : Int) < x.t then (y.t : Int) else x.t) = ((min x.t y.t : Nat) : Int) := by split <;> omega
  rw [h1, h2]; rfl
end Go.Proofs.Ytmjpcaiehfimgaa
end

section
/- The reference's Meet and Minus. -/
namespace Go.Proofs.Ytmjpcaiehfimgaa
open Go.RowKit Go.Ev Go.Ids

theorem minusAt_len (a B : List Rng) (k : Nat) (hB : B.length ≤ k) (j : Nat) : (minus a (B.take j)).length ≤ a.length * (k + 1) := by
  refine Nat.le_trans (minus_len _ _) (Nat.mul_le_mul_left _ (Nat.succ_le_succ ?_))
  exact Nat.le_trans (List.length_take_le' _ _) hB
theorem refminus_c (m : World) (v u : Value) (a b : List Rng) (h : Rs m [] v a) (h' : Rs m [] u b) (hla : a.length < 500000000) (hlb : b.length < 500000000) (hl : a.length * (b.length + 1) < 100000000) :
    FnR Try.prog 43 [v, u] m fun r m' => Made m r (minus a b) m' := by
  refine FnE.enter ⟨_, Try.func43, by kernel_rfl, by kernel_rfl⟩ Try.func43 rfl rfl ?_
  repeat (first | with_reducible refine WP.seq ?_ | with_reducible refine WP.block ?_ | with_reducible refine WP.region ?_)
  refine RL.auto T_ok rfl ?_
  refine RL.nil ?_; repeat (first | with_reducible refine QN.block_normal ?_ | with_reducible refine QN.next ?_); repeat (first | with_reducible refine WP.seq ?_ | with_reducible refine WP.block ?_ | with_reducible refine WP.region ?_)
  refine RL.auto T_ok rfl ?_
  refine RL.call (fi := []) (ca := []) rfl rfl rfl rfl (refclean_c m v a h hla) ?_
  rintro v2 m1 ⟨S2, hO2, hN1⟩
  refine ⟨_, rfl, ?_⟩
  refine RL.auto T_ok rfl ?_
  refine RL.nil ?_; repeat (first | with_reducible refine QN.block_normal ?_ | with_reducible refine QN.next ?_); repeat (first | with_reducible refine WP.seq ?_ | with_reducible refine WP.block ?_ | with_reducible refine WP.region ?_)
  refine RL.auto T_ok rfl ?_
  refine RL.call (fi := []) (ca := []) rfl rfl rfl rfl (refclean_c m1 u b (h'.ext0 hN1.1) hlb) ?_
  rintro v1 m2 ⟨S1, hO12, hN2⟩
  refine ⟨_, rfl, ?_⟩
  have hO2' : Ev.Own m2 S2 62 3 v2 (clean a).length ((clean a).flatMap rC) := hO2.ext hN2.1 (by simp)
  have hMade0 : Made m v2 (minus a ((clean b).take 0)) m2 := by
    rw [List.take_zero, minus_nil]
    exact ⟨S2, hO2', hN1.1.trans hN2.1 (by simp), hN1.2⟩
  have hEm : Ext m [] m2 := hMade0.ext
  have hBl := clean_len b
  have hstep := fun i h => minus_take a b i h
  have hlast : minus a ((clean b).take (clean b).length) = minus a b := by rw [List.take_length, minus_clean]
  have hBr := (clean_canon b).1
  have hLl := fun j => minusAt_len a (clean b) b.length hBl j
  rw [← hlast]
  generalize clean b = B at hO12 hBl hstep hBr hMade0 hLl ⊢
  obtain ⟨A1, c1, rfl, _⟩ := hO12.shape
  have hRB : Rs m2 [] (.slice A1 B.length c1) B := hO12.sl (by simp)
  clear hO2 hO2' hO12 hN1 hN2 hlast
  refine RL.auto T_ok rfl ?_
  refine RL.nil ?_; repeat (first | with_reducible refine QN.block_normal ?_ | with_reducible refine QN.next ?_); repeat (first | with_reducible refine WP.seq ?_ | with_reducible refine WP.block ?_ | with_reducible refine WP.region ?_)
  refine RL.auto T_ok rfl ?_
  refine RL.nil ?_; repeat (first | with_reducible refine QN.block_normal ?_ | with_reducible refine QN.next ?_); repeat (first | with_reducible refine WP.seq ?_ | with_reducible refine WP.block ?_ | with_reducible refine WP.region ?_)
  refine (WP.loop (X := Nat × Value) (fun x => [(1, .slice A1 B.length c1), (5, x.2), (6, .int .i64 x.1)])
    (fun x m' => x.1 ≤ B.length ∧ Made m x.2 (minus a (B.take x.1)) m' ∧ Ext m2 [] m') (fun x => B.length - x.1) (0, v2)
    (Sub.cons rfl (Sub.cons rfl (Sub.cons rfl (Sub.nil)))) ⟨by simp, hMade0, Ext.refl _ _⟩ ?_)
  rintro ⟨j, v5⟩ m3 ⟨hj, hM3, hE3⟩
  simp only at hj hM3
  repeat (first | with_reducible refine WP.seq ?_ | with_reducible refine WP.block ?_ | with_reducible refine WP.region ?_)
  refine RL.auto T_ok rfl ?_
  refine RL.nil ?_; repeat (first | with_reducible refine QN.block_normal ?_ | with_reducible refine QN.next ?_); repeat (first | with_reducible refine WP.seq ?_ | with_reducible refine WP.block ?_ | with_reducible refine WP.region ?_)
  refine WP.cond rfl (fun hc => ?_) (fun hc => ?_)
  · replace hc : j < B.length := by have := of_decide_eq_true hc; simp only at this; omega
    obtain ⟨ae, rfl, _⟩ := hRB.cell j hc
    obtain ⟨y, hye⟩ : ∃ y, B[j] = y := ⟨_, rfl⟩
    have hy : ∀ m', Ext m2 [] m' → ∀ q u, (rC y)[q]? = some u → m'.cell? ((ae.add (j * 3)).add q) = some u := fun m' hE => by
      obtain ⟨ad', h1, h2⟩ := (hRB.ext0 hE).cell j hc
      injection h1 with h1
      subst h1
      rw [hye] at h2; exact h2
    have hst := hstep j hc
    have hLj := hLl j
    rw [hye] at hst
    generalize hLg : minus a (B.take j) = L at hM3 hLj hst
    have hE3m := hM3.ext
    have hRL := hM3.rs
    obtain ⟨AL, cL, rfl, _, _⟩ := hRL.shape
    refine WP.skip ?_; repeat (first | with_reducible refine QN.block_normal ?_ | with_reducible refine QN.next ?_); repeat (first | with_reducible refine WP.seq ?_ | with_reducible refine WP.block ?_ | with_reducible refine WP.region ?_)
    refine RL.auto T_ok rfl ?_
    refine RL.nil ?_; repeat (first | with_reducible refine QN.block_normal ?_ | with_reducible refine QN.next ?_); repeat (first | with_reducible refine WP.seq ?_ | with_reducible refine WP.block ?_ | with_reducible refine WP.region ?_)
    refine RL.auto T_ok rfl ?_
    refine RL.nil ?_; repeat (first | with_reducible refine QN.block_normal ?_ | with_reducible refine QN.next ?_); repeat (first | with_reducible refine WP.seq ?_ | with_reducible refine WP.block ?_ | with_reducible refine WP.region ?_)
    refine (WP.loop (X := Nat × Value × List Nat) (fun x => [(1, .slice (some ae) B.length c1), (5, .slice AL L.length cL), (6, .int .i64 j), (7, x.2.1), (8, .int .i64 x.1)])
      (fun q m' => q.1 ≤ L.length ∧ Ev.Own m' q.2.2 62 3 q.2.1 ((L.take q.1).flatMap (splitM y)).length (((L.take q.1).flatMap (splitM y)).flatMap rC) ∧ New m3 q.2.2 m') (fun x => L.length - x.1) (0, .slice none 0 0, [])
      (Sub.cons rfl (Sub.cons rfl (Sub.cons rfl (Sub.cons rfl (Sub.cons rfl (Sub.nil)))))) ⟨by simp, Own.empty _ _ _ _, Ext.refl _ _, FpNew.nil _ _⟩ ?_)
    rintro ⟨i, w6, S6⟩ m6 ⟨hi, hO6, hN6⟩
    simp only at hi hO6 hN6
    repeat (first | with_reducible refine WP.seq ?_ | with_reducible refine WP.block ?_ | with_reducible refine WP.region ?_)
    refine RL.auto T_ok rfl ?_
    refine RL.nil ?_; repeat (first | with_reducible refine QN.block_normal ?_ | with_reducible refine QN.next ?_); repeat (first | with_reducible refine WP.seq ?_ | with_reducible refine WP.block ?_ | with_reducible refine WP.region ?_)
    refine WP.cond rfl (fun hci => ?_) (fun hci => ?_)
    · replace hci : i < L.length := by have := of_decide_eq_true hci; simp only at this; omega
      obtain ⟨ad, rfl, hx⟩ := (hRL.ext0 hN6.1).cell i hci
      obtain ⟨x, hxe⟩ : ∃ x, L[i] = x := ⟨_, rfl⟩
      have hnx : (L.take (i + 1)).flatMap (splitM y) = (L.take i).flatMap (splitM y) ++ splitM y x := by
        rw [List.take_succ_eq_append_getElem hci, List.flatMap_append, hxe]; simp
      have hln := splits_len y (L.take i)
      rw [List.length_take, Nat.min_eq_left hi] at hln
      rw [hxe] at hx
      generalize (L.take i).flatMap (splitM y) = o' at hO6 hln hnx
      refine WP.skip ?_; repeat (first | with_reducible refine QN.block_normal ?_ | with_reducible refine QN.next ?_); repeat (first | with_reducible refine WP.seq ?_ | with_reducible refine WP.block ?_ | with_reducible refine WP.region ?_)
      refine RL.auto T_ok rfl ?_
      refine RL.indexAddr (k := i) T_ok rfl rfl rfl rfl rfl rfl rfl hci rfl ?_
      refine RL.loadAgg T_ok (rC x) rfl rfl rfl hx rfl ?_
      refine RL.alloc T_ok rfl rfl (fun b9 m7 hb9 hC7 => ⟨_, rfl, ?_⟩)
      refine RL.storeAgg T_ok (b := b9) (i := 0) (vs := rC x) (cs := [.int .u64 0, .int .u64 0, .int .u64 0]) hC7.blk rfl rfl rfl rfl rfl (by simp) (by simp [rC, Value.oneCell']) rfl ?_
      intro m8 hC8
      have hE8 : Ext m6 [] m8 := (hC7.new (by omega)).trans hC8.ext (fun q hq => .inr (by have h9 : q = b9 := (by simpa using hq); omega))
      have hB9 : Blk m8 b9 62 (rC x) := hC8.blk
      have hO8 := hO6.ext hE8 (by simp)
      have hN8 : New m3 S6 m8 := ⟨hN6.1.trans hE8 (by simp), hN6.2⟩
      have h9S : b9 ∉ S6 := fun hh => by have := hO6.lt _ hh; omega
      have hE28 : Ext m2 [] m8 := hE3.trans hN8.1 (by simp)
      have hJ : Blk m8 b9 62 (rC x) ∧ Ext m2 [] m8 := ⟨hB9, hE28⟩
      refine RL.nil ?_; repeat (first | with_reducible refine QN.block_normal ?_ | with_reducible refine QN.next ?_)
      refine WP.seq ?_
      refine WP.cut (X := Bool) (fun q => [(1, .slice (some ae) B.length c1), (5, .slice (some ad) L.length cL), (6, .int .i64 j), (7, w6), (8, .int .i64 i), (9, .pointer (some ⟨b9, 0, none⟩)), (57, .bool q)])
        (fun q m' => m' = m8 ∧ q = decide (x.c ≠ y.c ∨ y.t ≤ x.f ∨ x.t ≤ y.f)) ?_ ?_
      · refine WP.drawQ (fun m' => m' = m8) [] (by kernel_rfl) rfl (by repeat (first | with_reducible exact PanicOk.body | with_reducible refine PanicOk.then_ ?_ | with_reducible refine PanicOk.block_ ?_)) (fun hQ => ?_)
        refine RH.pure T_ok hQ [0] (by kernel_rfl) rfl ?_
        refine RH.load T_ok hQ 1 (fun m' hm' => by rw [hm']; exact hB9.cell 0 rfl) rfl (by kernel_rfl) rfl rfl rfl rfl ?_
        refine RH.pure T_ok hQ [2, 3] (by kernel_rfl) rfl ?_
        refine RH.indexAddr T_ok hQ 4 (k := j) rfl (by kernel_rfl) rfl rfl rfl rfl rfl rfl rfl hc rfl ?_
        refine RH.pure T_ok hQ [5] (by kernel_rfl) rfl ?_
        refine RH.load T_ok hQ 6 (fun m' hm' => by rw [hm']; exact hy _ hE28 0 _ rfl) rfl (by kernel_rfl) rfl rfl rfl rfl ?_
        refine RH.pure T_ok hQ [7] (by kernel_rfl) rfl ?_
        by_cases h1 : x.c = y.c
        · refine RH.eqv (v' := .bool false) (congrArg _ (by rw [bne_nat']; exact decide_eq_false (fun hh => hh h1))) ?_
          refine RH.pure T_ok hQ [8, 9, 10] (by kernel_rfl) rfl ?_
          refine RH.indexAddr T_ok hQ 11 (k := j) rfl (by kernel_rfl) rfl rfl rfl rfl rfl rfl rfl hc rfl ?_
          refine RH.pure T_ok hQ [12] (by kernel_rfl) rfl ?_
          refine RH.load T_ok hQ 13 (fun m' hm' => by rw [hm']; exact hy _ hE28 2 _ rfl) rfl (by kernel_rfl) rfl rfl rfl rfl ?_
          refine RH.pure T_ok hQ [14] (by kernel_rfl) rfl ?_
          refine RH.load T_ok hQ 15 (fun m' hm' => by rw [hm']; exact hB9.cell 1 rfl) rfl (by kernel_rfl) rfl rfl rfl rfl ?_
          refine RH.pure T_ok hQ [16] (by kernel_rfl) rfl ?_
          by_cases h2 : y.t ≤ x.f
          · refine RH.eqv (v' := .bool true) (congrArg _ (by rw [dle']; exact decide_eq_true h2)) ?_
            refine RH.pure T_ok hQ [17, 18, 19, 20, 21, 22, 23, 24, 25, 26, 27] (by kernel_rfl) rfl ?_
            refine RH.done (by kernel_rfl) (fun _ => ?_)
            exact QN.cutEnd true (Sub.cons rfl (Sub.cons rfl (Sub.cons rfl (Sub.cons rfl (Sub.cons rfl (Sub.cons rfl (Sub.cons rfl (Sub.nil)))))))) ⟨rfl, (decide_eq_true (.inr (.inl h2))).symm⟩
          · refine RH.eqv (v' := .bool false) (congrArg _ (by rw [dle']; exact decide_eq_false h2)) ?_
            refine RH.pure T_ok hQ [17, 18, 19] (by kernel_rfl) rfl ?_
            refine RH.load T_ok hQ 20 (fun m' hm' => by rw [hm']; exact hB9.cell 2 rfl) rfl (by kernel_rfl) rfl rfl rfl rfl ?_
            refine RH.pure T_ok hQ [21, 22] (by kernel_rfl) rfl ?_
            refine RH.indexAddr T_ok hQ 23 (k := j) rfl (by kernel_rfl) rfl rfl rfl rfl rfl rfl rfl hc rfl ?_
            refine RH.pure T_ok hQ [24] (by kernel_rfl) rfl ?_
            refine RH.load T_ok hQ 25 (fun m' hm' => by rw [hm']; exact hy _ hE28 1 _ rfl) rfl (by kernel_rfl) rfl rfl rfl rfl ?_
            refine RH.pure T_ok hQ [26, 27] (by kernel_rfl) rfl ?_
            refine RH.done (by kernel_rfl) (fun _ => ?_)
            refine QN.cutEnd (decide (x.t ≤ y.f)) (Sub.cons rfl (Sub.cons rfl (Sub.cons rfl (Sub.cons rfl (Sub.cons rfl (Sub.cons rfl (Sub.cons ?_ Sub.nil))))))) ⟨rfl, decide_eq_decide.2 ⟨fun hh => .inr (.inr hh), fun hh => ?_⟩⟩
            · show some (Value.bool (decide ((x.t : Int) ≤ (y.f : Int)))) = _
              rw [dle']
            · rcases hh with hh | hh | hh
              · exact absurd h1 hh
              · exact absurd hh h2
              · exact hh
        · refine RH.eqv (v' := .bool true) (congrArg _ (by rw [bne_nat']; exact decide_eq_true h1)) ?_
          refine RH.pure T_ok hQ [8, 9, 10, 11, 12, 13, 14, 15, 16, 17, 18, 19, 20, 21, 22, 23, 24, 25, 26, 27] (by kernel_rfl) rfl ?_
          refine RH.done (by kernel_rfl) (fun _ => ?_)
          exact QN.cutEnd true (Sub.cons rfl (Sub.cons rfl (Sub.cons rfl (Sub.cons rfl (Sub.cons rfl (Sub.cons rfl (Sub.cons rfl (Sub.nil)))))))) ⟨rfl, (decide_eq_true (.inl h1)).symm⟩
      rintro q mc ⟨rfl, hq⟩
      refine WP.cond rfl (fun hb => ?_) (fun hb => ?_)
      · rw [hb] at hq
        have hsp : splitM y x = [x] := if_pos (of_decide_eq_true hq.symm)
        rw [hsp] at hnx
        repeat (first | with_reducible refine WP.seq ?_ | with_reducible refine WP.block ?_ | with_reducible refine WP.region ?_)
        refine RL.auto T_ok rfl ?_
        refine RL.loadAgg T_ok (rC x) rfl rfl rfl (fun j u hu => by rw [add_block]; exact hB9.cell _ (by simpa using hu)) rfl ?_
        refine RL.append1 T_ok [.tmp 59] hO8 (us := [rV x]) (rC x) rfl rfl rfl rfl rfl rfl rfl rfl rfl (by simp [rV, rC, Value.cells]) (by simp [rV, Value.cells]) (rC_one x) (by unfold maxLen; omega) (by show (_ + 1) * 24 ≤ _; omega) ?_
        intro v10 m10 S10 hO10 hE10 hF10
        refine ⟨_, rfl, ?_⟩
        have hN10 : New m3 S10 m10 := ⟨hN8.1.trans hE10 (fun k hk => .inr (hN8.ge k hk)), hN8.2.trans hF10 hN8.1.size⟩
        refine RL.auto T_ok rfl ?_
        refine RL.nil ?_; repeat (first | with_reducible refine QN.block_normal ?_ | with_reducible refine QN.next ?_); repeat (first | with_reducible refine WP.seq ?_ | with_reducible refine WP.block ?_ | with_reducible refine WP.region ?_)
        refine WP.exit ?_; repeat (first | with_reducible refine QN.then_exit ?_ | with_reducible refine QN.block_exit ?_ | with_reducible refine QN.block_far rfl ?_ | with_reducible refine QN.block_normal ?_ | with_reducible refine QN.next ?_); repeat (first | with_reducible refine WP.seq ?_ | with_reducible refine WP.block ?_ | with_reducible refine WP.region ?_)
        refine RL.pure T_ok 2 rfl ?_
        refine RL.eqv (v' := .int .i64 ((i + 1 : Nat) : Int)) (congrArg _ (by rw [wrap_i64_in _ (by omega) (by omega)]; rfl)) ?_
        refine RL.auto T_ok rfl ?_
        refine RL.nil (QN.round (i + 1, v10, S10) (Sub.cons rfl (Sub.cons rfl (Sub.cons rfl (Sub.cons rfl (Sub.cons rfl (Sub.nil)))))) ⟨by show i + 1 ≤ _; omega, ?_, hN10⟩ (by show _ - (i + 1) < _ - i; omega))
        show Ev.Own m10 S10 62 3 v10 ((L.take (i + 1)).flatMap (splitM y)).length (((L.take (i + 1)).flatMap (splitM y)).flatMap rC)
        rw [hnx, List.length_append, ← rsC_app]
        simpa using hO10
      · rw [hb] at hq
        have hsp : splitM y x = [⟨x.c, x.f, y.f⟩, ⟨x.c, y.t, x.t⟩] := if_neg (of_decide_eq_false hq.symm)
        rw [hsp] at hnx
        refine WP.skip ?_; repeat (first | with_reducible refine QN.block_normal ?_ | with_reducible refine QN.next ?_)
        refine WP.drawQ (fun m' => Blk m' b9 62 (rC x) ∧ Ext m2 [] m') [] (by kernel_rfl) hJ (by repeat (first | with_reducible exact PanicOk.body | with_reducible refine PanicOk.then_ ?_ | with_reducible refine PanicOk.block_ ?_)) (fun hQ => ?_)
        refine RH.pure T_ok hQ [0, 1] (by kernel_rfl) rfl ?_
        refine RH.load T_ok hQ 2 (fun m' hm' => hm'.1.cell 0 rfl) rfl (by kernel_rfl) rfl rfl rfl rfl ?_
        refine RH.pure T_ok hQ [3] (by kernel_rfl) rfl ?_
        refine RH.load T_ok hQ 4 (fun m' hm' => hm'.1.cell 1 rfl) rfl (by kernel_rfl) rfl rfl rfl rfl ?_
        refine RH.pure T_ok hQ [5, 6] (by kernel_rfl) rfl ?_
        refine RH.indexAddr T_ok hQ 7 (k := j) rfl (by kernel_rfl) rfl rfl rfl rfl rfl rfl rfl hc rfl ?_
        refine RH.pure T_ok hQ [8] (by kernel_rfl) rfl ?_
        refine RH.load T_ok hQ 9 (fun m' hm' => hy m' hm'.2 1 _ rfl) rfl (by kernel_rfl) rfl rfl rfl rfl ?_
        refine RH.pure T_ok hQ [10, 11] (by kernel_rfl) rfl ?_
        refine RH.load T_ok hQ 12 (fun m' hm' => hm'.1.cell 0 rfl) rfl (by kernel_rfl) rfl rfl rfl rfl ?_
        refine RH.pure T_ok hQ [13, 14] (by kernel_rfl) rfl ?_
        refine RH.indexAddr T_ok hQ 15 (k := j) rfl (by kernel_rfl) rfl rfl rfl rfl rfl rfl rfl hc rfl ?_
        refine RH.pure T_ok hQ [16] (by kernel_rfl) rfl ?_
        refine RH.load T_ok hQ 17 (fun m' hm' => hy m' hm'.2 2 _ rfl) rfl (by kernel_rfl) rfl rfl rfl rfl ?_
        refine RH.pure T_ok hQ [18] (by kernel_rfl) rfl ?_
        refine RH.load T_ok hQ 19 (fun m' hm' => hm'.1.cell 2 rfl) rfl (by kernel_rfl) rfl rfl rfl rfl ?_
        refine RH.pure T_ok hQ [20] (by kernel_rfl) rfl ?_
        refine RH.only 21 rfl (by kernel_rfl) (fun _ => ?_)
        refine RL.buildSlice T_ok [.tmp 72, .tmp 82] (us := [rV ⟨x.c, x.f, y.f⟩, rV ⟨x.c, y.t, x.t⟩]) (([⟨x.c, x.f, y.f⟩, ⟨x.c, y.t, x.t⟩] : List Rng).flatMap rC) rfl rfl rfl rfl rfl rfl (by simp [rV, rC, Value.cells]) (by simp [rV, Value.cells]) rfl (fun b11 m11 hb11 hC11 => ⟨_, rfl, ?_⟩)
        have hE11 : Ext mc [] m11 := hC11.new (by omega)
        have hN11 : New m3 S6 m11 := ⟨hN8.1.trans hE11 (by simp), hN8.2⟩
        have hB11 := hB9.ext hE11 (by simp)
        refine RL.nil (RH.cont ⟨hB11, hE3.trans hN11.1 (by simp)⟩ ?_)
        refine RH.only 22 rfl (by kernel_rfl) (fun _ => ?_)
        refine RL.append T_ok (hO8.ext hE11 (by simp)) (([⟨x.c, x.f, y.f⟩, ⟨x.c, y.t, x.t⟩] : List Rng).flatMap rC) (Src.of_blk (k := 2) (c := 2) hC11.blk rfl) rfl rfl rfl rfl rfl rfl (rsC_one _) (by unfold maxLen; omega) (by show (_ + 2) * 24 ≤ _; omega) ?_
        intro v10 m10 S10 hO10 hE10 hF10
        have hN10 : New m3 S10 m10 := ⟨hN11.1.trans hE10 (fun k hk => .inr (hN11.ge k hk)), hN11.2.trans hF10 hN11.1.size⟩
        refine ⟨_, rfl, RL.nil (RH.cont ⟨hB11.ext hE10 h9S, hE3.trans hN10.1 (by simp)⟩ ?_)⟩
        refine RH.pure T_ok hQ [23] (by kernel_rfl) rfl ?_
        refine RH.done (by kernel_rfl) (fun _ => ?_)
        repeat (first | with_reducible refine QN.block_normal ?_ | with_reducible refine QN.next ?_)
        repeat (first | with_reducible refine WP.seq ?_ | with_reducible refine WP.block ?_ | with_reducible refine WP.region ?_)
        refine RL.pure T_ok 2 rfl ?_
        refine RL.eqv (v' := .int .i64 ((i + 1 : Nat) : Int)) (congrArg _ (by rw [wrap_i64_in _ (by omega) (by omega)]; rfl)) ?_
        refine RL.auto T_ok rfl ?_
        refine RL.nil (QN.round (i + 1, v10, S10) (Sub.cons rfl (Sub.cons rfl (Sub.cons rfl (Sub.cons rfl (Sub.cons rfl (Sub.nil)))))) ⟨by show i + 1 ≤ _; omega, ?_, hN10⟩ (by show _ - (i + 1) < _ - i; omega))
        show Ev.Own m10 S10 62 3 v10 ((L.take (i + 1)).flatMap (splitM y)).length (((L.take (i + 1)).flatMap (splitM y)).flatMap rC)
        rw [hnx, List.length_append, ← rsC_app]
        exact hO10
    · replace hci : i = L.length := by have := of_decide_eq_false hci; simp only at this; omega
      subst hci
      rw [List.take_length] at hO6
      have hln := splits_len y L
      have hRn : Rs m6 [] w6 (L.flatMap (splitM y)) := hO6.sl (by simp)
      refine WP.exit ?_; repeat (first | with_reducible refine QN.then_exit ?_ | with_reducible refine QN.block_exit ?_ | with_reducible refine QN.block_far rfl ?_ | with_reducible refine QN.block_normal ?_ | with_reducible refine QN.next ?_); repeat (first | with_reducible refine WP.seq ?_ | with_reducible refine WP.block ?_ | with_reducible refine WP.region ?_)
      refine RL.auto T_ok rfl ?_
      refine RL.call (fi := []) (ca := []) rfl rfl rfl rfl (refclean_c m6 w6 _ hRn (by omega)) ?_
      rintro v9 m9 ⟨S9, hO9, hN9⟩
      refine ⟨_, rfl, ?_⟩
      have hE36 : Ext m [] m6 := hE3m.trans hN6.1 (by simp)
      have hE26 : Ext m2 [] m6 := hE3.trans hN6.1 (by simp)
      refine RL.auto T_ok rfl ?_
      refine RL.nil ?_; repeat (first | with_reducible refine QN.block_normal ?_ | with_reducible refine QN.next ?_); repeat (first | with_reducible refine WP.seq ?_ | with_reducible refine WP.block ?_ | with_reducible refine WP.region ?_)
      refine RL.pure T_ok 2 rfl ?_
      refine RL.eqv (v' := .int .i64 ((j + 1 : Nat) : Int)) (congrArg _ (by rw [wrap_i64_in _ (by omega) (by omega)]; rfl)) ?_
      refine RL.auto T_ok rfl ?_
      refine RL.nil (QN.round (j + 1, v9) (Sub.cons rfl (Sub.cons rfl (Sub.cons rfl (Sub.nil)))) ⟨by show j + 1 ≤ _; omega, ?_, hE26.trans hN9.1 (by simp)⟩ (by show _ - (j + 1) < _ - j; omega))
      show Made m v9 (minus a (B.take (j + 1))) m9
      rw [← hst]
      exact ⟨S9, hO9, hE36.trans hN9.1 (by simp), hN9.2.trans' hE36⟩
  · replace hc : j = B.length := by have := of_decide_eq_false hc; simp only at this; omega
    subst hc
    refine WP.exit ?_; repeat (first | with_reducible refine QN.then_exit ?_ | with_reducible refine QN.block_exit ?_ | with_reducible refine QN.block_far rfl ?_ | with_reducible refine QN.block_normal ?_ | with_reducible refine QN.next ?_); repeat (first | with_reducible refine WP.seq ?_ | with_reducible refine WP.block ?_ | with_reducible refine WP.region ?_)
    refine RL.auto T_ok rfl ?_
    refine RL.nil ?_; repeat (first | with_reducible refine QN.block_normal ?_ | with_reducible refine QN.next ?_); repeat (first | with_reducible refine WP.seq ?_ | with_reducible refine WP.block ?_ | with_reducible refine WP.region ?_)
    refine WP.ret ?_; repeat (first | with_reducible refine QN.then_ret ?_ | with_reducible refine QN.block_ret ?_)
    exact QN.ret1 rfl rfl ⟨_, rfl, hM3⟩
end Go.Proofs.Ytmjpcaiehfimgaa
end

section
/- quireref7: At, Clean, Ranges, Join, Meet, Missing, Within. -/
namespace Go.Proofs.Ytmjpcaiehfimgaa
open Go.RowKit Go.Ev Go.Ids

theorem at_iff (x : Clk) (cl : Nat) : x.at cl = if (decide (x.c = cl) && (decide (1 ≤ cl) && decide (cl ≤ 9007199254740991))) = true then min x.k 9007199254740991 else 0 := by
  unfold Clk.at
  simp only [Bool.and_eq_true, decide_eq_true_eq]
theorem vat_take (l : List Clk) (i : Nat) (h : i < l.length) (cl : Nat) : vat (l.take (i + 1)) cl = max (vat (l.take i) cl) (l[i].at cl) := by
  rw [List.take_succ_eq_append_getElem h, vat_append]; simp [vat]
theorem refvat_c (m : World) (v : Value) (l : List Clk) (h : Cs m [] v l) (hl : l.length < 1000000000) (cl : Nat) : FnR Try.prog 14 [v, .int .u64 cl] m fun r m' => r = .int .u64 (vat l cl) ∧ m' = m := by
  obtain ⟨A, c, rfl, _, _⟩ := h.shape
  refine FnE.enter ⟨_, Try.func14, by kernel_rfl, by kernel_rfl⟩ Try.func14 rfl rfl ?_
  repeat (first | with_reducible refine WP.seq ?_ | with_reducible refine WP.block ?_ | with_reducible refine WP.region ?_)
  refine RL.auto T_ok rfl ?_
  refine RL.nil ?_; repeat (first | with_reducible refine QN.block_normal ?_ | with_reducible refine QN.next ?_); repeat (first | with_reducible refine WP.seq ?_ | with_reducible refine WP.block ?_ | with_reducible refine WP.region ?_)
  refine RL.auto T_ok rfl ?_
  refine RL.nil ?_; repeat (first | with_reducible refine QN.block_normal ?_ | with_reducible refine QN.next ?_); repeat (first | with_reducible refine WP.seq ?_ | with_reducible refine WP.block ?_ | with_reducible refine WP.region ?_)
  refine RL.auto T_ok rfl ?_
  refine RL.nil ?_; repeat (first | with_reducible refine QN.block_normal ?_ | with_reducible refine QN.next ?_); repeat (first | with_reducible refine WP.seq ?_ | with_reducible refine WP.block ?_ | with_reducible refine WP.region ?_)
  refine (WP.loop (X := Nat) (fun i => [(0, .slice A l.length c), (1, .int .u64 cl), (5, .int .u64 (vat (l.take i) cl)), (6, .int .i64 i)])
    (fun i m' => i ≤ l.length ∧ m' = m) (fun i => l.length - i) 0
    (Sub.cons rfl (Sub.cons rfl (Sub.cons rfl (Sub.cons rfl Sub.nil)))) ⟨by simp, rfl⟩ ?_)
  rintro i m1 ⟨hi, hm1⟩
  subst hm1
  repeat (first | with_reducible refine WP.seq ?_ | with_reducible refine WP.block ?_ | with_reducible refine WP.region ?_)
  refine RL.auto T_ok rfl ?_
  refine RL.nil ?_; repeat (first | with_reducible refine QN.block_normal ?_ | with_reducible refine QN.next ?_); repeat (first | with_reducible refine WP.seq ?_ | with_reducible refine WP.block ?_ | with_reducible refine WP.region ?_)
  refine WP.cond rfl (fun hc => ?_) (fun hc => ?_)
  · replace hc : i < l.length := by have := of_decide_eq_true hc; omega
    obtain ⟨ad, rfl, hx⟩ := h.cell i hc
    have hnx := vat_take l i hc cl
    generalize l[i] = x at hx hnx
    rw [at_iff] at hnx
    refine WP.skip ?_; repeat (first | with_reducible refine QN.block_normal ?_ | with_reducible refine QN.next ?_)
    refine WP.seq ?_
    refine WP.block ?_
    refine WP.cut (X := Bool) (fun q => [(0, .slice (some ad) l.length c), (1, .int .u64 cl), (5, .int .u64 (vat (l.take i) cl)), (6, .int .i64 i), (27, .bool q)]) (fun q m' => m' = m1 ∧ q = (decide (x.c = cl) && (decide (1 ≤ cl) && decide (cl ≤ 9007199254740991)))) ?_ ?_
    · refine WP.region ?_
      refine RL.pure T_ok 2 rfl ?_
      refine RL.indexAddr (k := i) T_ok rfl rfl rfl rfl rfl rfl rfl hc rfl ?_
      refine RL.pure T_ok 1 rfl ?_
      refine RL.load T_ok rfl rfl rfl (hx 0 _ rfl) rfl ?_
      refine RL.pure T_ok 2 rfl ?_
      refine RL.eqv (v' := .bool (decide (x.c = cl))) (congrArg _ (deq _ _)) ?_
      by_cases h1 : x.c = cl
      · refine RL.eqv (v' := .bool true) (congrArg _ (decide_eq_true h1)) ?_
        refine RL.pure T_ok 3 rfl ?_
        refine RL.eqv (v' := .bool (decide (1 ≤ cl))) (congrArg _ (by rw [decide_eq_decide]; omega)) ?_
        by_cases h2 : 1 ≤ cl
        · refine RL.eqv (v' := .bool true) (congrArg _ (decide_eq_true h2)) ?_
          refine RL.pure T_ok 4 rfl ?_
          refine RL.eqv (v' := .bool (decide (cl ≤ 9007199254740991))) (congrArg _ (by rw [decide_eq_decide]; omega)) ?_
          refine RL.auto T_ok rfl ?_
          exact RL.nil (QN.cutEnd (decide (cl ≤ 9007199254740991)) (Sub.cons rfl (Sub.cons rfl (Sub.cons rfl (Sub.cons rfl (Sub.cons rfl Sub.nil))))) ⟨rfl, by simp [h1, h2]⟩)
        · refine RL.eqv (v' := .bool false) (congrArg _ (decide_eq_false h2)) ?_
          refine RL.auto T_ok rfl ?_
          exact RL.nil (QN.cutEnd false (Sub.cons rfl (Sub.cons rfl (Sub.cons rfl (Sub.cons rfl (Sub.cons rfl Sub.nil))))) ⟨rfl, by simp [h1, h2]⟩)
      · refine RL.eqv (v' := .bool false) (congrArg _ (decide_eq_false h1)) ?_
        refine RL.auto T_ok rfl ?_
        exact RL.nil (QN.cutEnd false (Sub.cons rfl (Sub.cons rfl (Sub.cons rfl (Sub.cons rfl (Sub.cons rfl Sub.nil))))) ⟨rfl, by simp [h1]⟩)
    rintro q mc ⟨rfl, hq⟩
    rw [← hq] at hnx
    refine WP.cond rfl (fun hqt => ?_) (fun hqf => ?_)
    · rw [if_pos hqt] at hnx
      repeat (first | with_reducible refine WP.seq ?_ | with_reducible refine WP.block ?_ | with_reducible refine WP.region ?_)
      refine RL.pure T_ok 3 rfl ?_
      refine RL.indexAddr (k := i) T_ok rfl rfl rfl rfl rfl rfl rfl hc rfl ?_
      refine RL.pure T_ok 1 rfl ?_
      refine RL.load T_ok rfl rfl rfl (hx 1 _ rfl) rfl ?_
      refine RL.pure T_ok 1 rfl ?_
      refine RL.eqv (v' := .int .u64 (min x.k 9007199254740991 : Nat)) (minK x.k 9007199254740991) ?_
      refine RL.pure T_ok 1 rfl ?_
      refine RL.eqv (v' := .int .u64 (vat (l.take (i + 1)) cl : Nat)) (by rw [hnx]; exact maxK _ _) ?_
      refine RL.auto T_ok rfl ?_
      refine RL.nil ?_; repeat (first | with_reducible refine QN.block_normal ?_ | with_reducible refine QN.next ?_); repeat (first | with_reducible refine WP.seq ?_ | with_reducible refine WP.block ?_ | with_reducible refine WP.region ?_)
      refine RL.pure T_ok 2 rfl ?_
      refine RL.eqv (v' := .int .i64 ((i + 1 : Nat) : Int)) (congrArg _ (by rw [wrap_i64_in _ (by omega) (by omega)]; rfl)) ?_
      refine RL.auto T_ok rfl ?_
      exact RL.nil (QN.round (i + 1) (Sub.cons rfl (Sub.cons rfl (Sub.cons rfl (Sub.cons rfl Sub.nil)))) ⟨by omega, rfl⟩ (by omega))
    · rw [hqf, if_neg (by simp), Nat.max_zero] at hnx
      refine WP.skip ?_
      repeat (first | with_reducible refine QN.block_normal ?_ | with_reducible refine QN.next ?_)
      repeat (first | with_reducible refine WP.seq ?_ | with_reducible refine WP.block ?_ | with_reducible refine WP.region ?_)
      refine RL.pure T_ok 2 rfl ?_
      refine RL.eqv (v' := .int .i64 ((i + 1 : Nat) : Int)) (congrArg _ (by rw [wrap_i64_in _ (by omega) (by omega)]; rfl)) ?_
      refine RL.auto T_ok rfl ?_
      exact RL.nil (QN.round (i + 1) (Sub.cons rfl (Sub.cons rfl (Sub.cons (by rw [hnx]; rfl) (Sub.cons rfl Sub.nil)))) ⟨by omega, rfl⟩ (by omega))
  · replace hc : i = l.length := by have := of_decide_eq_false hc; omega
    subst hc
    rw [List.take_length]
    refine WP.exit ?_; repeat (first | with_reducible refine QN.then_exit ?_ | with_reducible refine QN.block_exit ?_ | with_reducible refine QN.block_far rfl ?_ | with_reducible refine QN.block_normal ?_ | with_reducible refine QN.next ?_); repeat (first | with_reducible refine WP.seq ?_ | with_reducible refine WP.block ?_ | with_reducible refine WP.region ?_)
    refine RL.auto T_ok rfl ?_
    refine RL.nil ?_; repeat (first | with_reducible refine QN.block_normal ?_ | with_reducible refine QN.next ?_); repeat (first | with_reducible refine WP.seq ?_ | with_reducible refine WP.block ?_ | with_reducible refine WP.region ?_)
    refine WP.ret ?_; repeat (first | with_reducible refine QN.then_ret ?_ | with_reducible refine QN.block_ret ?_)
    exact QN.ret1 rfl rfl ⟨_, rfl, rfl, rfl⟩
/-- What stands between two. -/
structure RV (l : List Clk) (i : Nat) (L : List Clk) : Prop where
  canon : VCanon L
  told : ∀ c, vat L c = if ∃ x ∈ l.take i, x.c = c then vat l c else 0
  len : L.length ≤ i
theorem RV.start (l : List Clk) : RV l 0 [] := ⟨VCanon.nil, fun c => by rw [if_neg (by simp)]; rfl, Nat.le_refl _⟩
theorem take_ex (l : List Clk) (i : Nat) (h : i < l.length) (c : Nat) : (∃ x ∈ l.take (i + 1), x.c = c) ↔ (∃ x ∈ l.take i, x.c = c) ∨ l[i].c = c := by
  rw [List.take_succ_eq_append_getElem h]
  constructor
  · rintro ⟨x, hx, h1⟩
    rcases List.mem_append.1 hx with hx | hx
    · exact .inl ⟨x, hx, h1⟩
    · have : x = l[i] := by simpa using hx
      subst this; exact .inr h1
  · rintro (⟨x, hx, h1⟩ | h1)
    · exact ⟨x, List.mem_append_left _ hx, h1⟩
    · exact ⟨l[i], List.mem_append_right _ (by simp), h1⟩
theorem RV.skip {l : List Clk} {i : Nat} {L : List Clk} (h : RV l i L) (hi : i < l.length) (hs : vat l l[i].c = 0 ∨ ∃ y ∈ L, y.c = l[i].c) : RV l (i + 1) L := by
  refine ⟨h.canon, fun c => ?_, by have := h.len; omega⟩
  rw [h.told]
  by_cases h1 : ∃ x ∈ l.take i, x.c = c
  · rw [if_pos h1, if_pos ((take_ex l i hi c).2 (.inl h1))]
  · rw [if_neg h1]
    by_cases h2 : l[i].c = c
    · rw [if_pos ((take_ex l i hi c).2 (.inr h2))]
      rcases hs with hs | ⟨y, hy, hs⟩
      · rw [← h2, hs]
      · have h3 := h.canon.at_mem hy
        rw [hs, h2, h.told, if_neg h1] at h3
        have := (h.canon.1 y hy).2.2.1; omega
    · rw [if_neg (fun hh => ((take_ex l i hi c).1 hh).elim h1 h2)]
theorem RV.put {l : List Clk} {i at_ : Nat} {L : List Clk} (h : RV l i L) (hi : i < l.length) (h0 : vat l l[i].c ≠ 0) (ha : at_ ≤ L.length) (h1 : ∀ j (hj : j < L.length), j < at_ → L[j].c < l[i].c) (h2 : ∀ j (hj : j < L.length), at_ ≤ j → l[i].c < L[j].c) :
    RV l (i + 1) (L.take at_ ++ ⟨l[i].c, vat l l[i].c⟩ :: L.drop at_) := by
  generalize hx : l[i].c = c0 at *
  have hok : Clk.ok ⟨c0, vat l c0⟩ := by
    obtain ⟨x, _, _, g1, g2, _⟩ := vat_mem h0
    exact ⟨g1, g2, by simp only; omega, vat_le l c0⟩
  have f1 : ∀ a ∈ L.take at_, a.c < c0 := fun a hm => by
    obtain ⟨j, hj, rfl⟩ := List.mem_iff_getElem.1 hm
    rw [List.getElem_take]
    rw [List.length_take] at hj
    exact h1 j (by omega) (by omega)
  have f2 : ∀ a ∈ L.drop at_, c0 < a.c := fun a hm => by
    obtain ⟨j, hj, rfl⟩ := List.mem_iff_getElem.1 hm
    rw [List.length_drop] at hj
    rw [List.getElem_drop]
    exact h2 _ (by omega) (by omega)
  have hsplit : (L.take at_ ++ L.drop at_).Pairwise fun x y => x.c < y.c := by rw [List.take_append_drop]; exact h.canon.2
  rw [List.pairwise_append] at hsplit
  have hmem : ∀ a ∈ L.take at_ ++ L.drop at_, a ∈ L := fun a hm => by rwa [List.take_append_drop] at hm
  refine ⟨⟨fun y hy => ?_, ?_⟩, fun c => ?_, ?_⟩
  · rcases List.mem_append.1 hy with hy | hy
    · exact h.canon.1 y (List.mem_of_mem_take hy)
    · rcases List.mem_cons.1 hy with rfl | hy
      · exact hok
      · exact h.canon.1 y (List.mem_of_mem_drop hy)
  · rw [List.pairwise_append]
    refine ⟨hsplit.1, List.pairwise_cons.2 ⟨f2, hsplit.2.1⟩, fun a hm b hb => ?_⟩
    rcases List.mem_cons.1 hb with rfl | hb
    · exact f1 a hm
    · exact hsplit.2.2 a hm b hb
  · have e : vat (L.take at_ ++ ⟨c0, vat l c0⟩ :: L.drop at_) c = max (vat L c) (Clk.at ⟨c0, vat l c0⟩ c) := by
      have := vat_append (L.take at_) (L.drop at_) c
      rw [List.take_append_drop] at this
      rw [vat_append, this]
      simp only [vat]; omega
    rw [e, hok.at, h.told]
    simp only
    by_cases g : c0 = c
    · subst g
      rw [if_pos rfl, if_pos ((take_ex l i hi c0).2 (.inr hx))]
      split <;> omega
    · rw [if_neg g]
      by_cases g1 : ∃ x ∈ l.take i, x.c = c
      · rw [if_pos g1, if_pos ((take_ex l i hi c).2 (.inl g1))]; omega
      · rw [if_neg g1, if_neg (fun hh => ((take_ex l i hi c).1 hh).elim g1 (fun g2 => g (by rw [← hx]; exact g2)))]; rfl
  · have := h.len
    simp; omega
theorem RV.done {l L : List Clk} (h : RV l l.length L) : L = vclean l := vclean_eq h.canon fun c => by
  rw [h.told, List.take_length]
  by_cases g : ∃ x ∈ l, x.c = c
  · rw [if_pos g]
  · rw [if_neg g]
    by_cases h0 : vat l c = 0
    · exact h0.symm
    · obtain ⟨x, hx, h1, _⟩ := vat_mem h0
      exact absurd ⟨x, hx, h1⟩ g
theorem zipK_take (d : List Clk) (w : Clk) (k : Nat) (h : k ≤ d.length) : (d.take k ++ [w] ++ d.drop k).take k = d.take k := by
  rw [List.append_assoc, List.take_append_of_le_length (by simp; omega), List.take_take, Nat.min_self]
theorem zipK_drop (d : List Clk) (w : Clk) (k : Nat) (h : k ≤ d.length) : (d.take k ++ [w] ++ d.drop k).drop (k + 1) = d.drop k := by
  rw [List.drop_append, List.drop_of_length_le (by simp; omega), List.nil_append]
  simp [Nat.min_eq_left h]
theorem zipK_set (d : List Clk) (w x : Clk) (k : Nat) (h : k ≤ d.length) : (d.take k ++ [w] ++ d.drop k).set k x = d.take k ++ [x] ++ d.drop k := by
  rw [List.append_assoc, List.set_append_right _ _ (by rw [List.length_take]; omega), List.length_take, Nat.min_eq_left h, Nat.sub_self]
  simp
theorem zipK_shift (d : List Clk) (q : Nat) (h : q < d.length) : d.take (q + 1) ++ [d[q]] ++ d.drop (q + 1) = d.take q ++ [d[q]] ++ d.drop q := by
  rw [List.take_succ_eq_append_getElem h, List.drop_eq_getElem_cons h]; simp
theorem zipK_get (d : List Clk) (w : Clk) (q : Nat) (h : q < d.length) (h' : q < (d.take (q + 1) ++ [w] ++ d.drop (q + 1)).length) : (d.take (q + 1) ++ [w] ++ d.drop (q + 1))[q] = d[q] := by
  rw [List.getElem_append_left (by simp; omega), List.getElem_append_left (by simp; omega), List.getElem_take]
set_option maxHeartbeats 1000000 in
theorem refvclean_c (m : World) (v : Value) (l : List Clk) (h : Cs m [] v l) (hl : l.length < 100000000) : FnR Try.prog 12 [v] m fun r m' => VMade m r (vclean l) m' := by
  obtain ⟨A, c, rfl, _, _⟩ := h.shape
  refine FnE.enter ⟨_, Try.func12, by kernel_rfl, by kernel_rfl⟩ Try.func12 rfl rfl ?_
  repeat (first | with_reducible refine WP.seq ?_ | with_reducible refine WP.block ?_ | with_reducible refine WP.region ?_)
  refine RL.auto T_ok rfl ?_
  refine RL.nil ?_; repeat (first | with_reducible refine QN.block_normal ?_ | with_reducible refine QN.next ?_); repeat (first | with_reducible refine WP.seq ?_ | with_reducible refine WP.block ?_ | with_reducible refine WP.region ?_)
  refine RL.auto T_ok rfl ?_
  refine RL.nil ?_; repeat (first | with_reducible refine QN.block_normal ?_ | with_reducible refine QN.next ?_); repeat (first | with_reducible refine WP.seq ?_ | with_reducible refine WP.block ?_ | with_reducible refine WP.region ?_)
  refine RL.auto T_ok rfl ?_
  refine RL.nil ?_; repeat (first | with_reducible refine QN.block_normal ?_ | with_reducible refine QN.next ?_); repeat (first | with_reducible refine WP.seq ?_ | with_reducible refine WP.block ?_ | with_reducible refine WP.region ?_)
  refine (WP.loop (X := Nat × Value × List Nat × List Clk) (fun x => [(0, .slice A l.length c), (3, x.2.1), (4, .int .i64 x.1)])
    (fun x m' => x.1 ≤ l.length ∧ RV l x.1 x.2.2.2 ∧ Ev.Own m' x.2.2.1 60 2 x.2.1 x.2.2.2.length (x.2.2.2.flatMap cC) ∧ New m x.2.2.1 m') (fun x => l.length - x.1) (0, .slice none 0 0, [], [])
    (Sub.cons rfl (Sub.cons rfl (Sub.cons rfl Sub.nil))) ⟨by simp, RV.start l, Own.empty _ _ _ _, Ext.refl _ _, FpNew.nil _ _⟩ ?_)
  rintro ⟨i, u, S, d⟩ m1 ⟨hi, hd, hO, hN⟩
  simp only at hi hd hO hN
  obtain ⟨Au, cu, rfl, _⟩ := hO.shape
  have hdl := hd.len
  repeat (first | with_reducible refine WP.seq ?_ | with_reducible refine WP.block ?_ | with_reducible refine WP.region ?_)
  refine RL.auto T_ok rfl ?_
  refine RL.nil ?_; repeat (first | with_reducible refine QN.block_normal ?_ | with_reducible refine QN.next ?_); repeat (first | with_reducible refine WP.seq ?_ | with_reducible refine WP.block ?_ | with_reducible refine WP.region ?_)
  refine WP.cond rfl (fun hc => ?_) (fun hc => ?_)
  · replace hc : i < l.length := by have := of_decide_eq_true hc; simp only at this; omega
    have hh1 := h.ext0 hN.1
    obtain ⟨ad, rfl, hx⟩ := hh1.cell i hc
    have hskip := hd.skip hc
    have hput := fun at_ h0 ha h1 h2 => hd.put (at_ := at_) hc h0 ha h1 h2
    have hxE : ∀ m', Ext m [] m' → ∀ j w, (cC l[i])[j]? = some w → m'.cell? ((ad.add (i * 2)).add j) = some w := fun m' hE => by
      obtain ⟨ad', h1, h2⟩ := (h.ext0 hE).cell i hc
      injection h1 with h1
      subst h1
      exact h2
    generalize l[i] = x at hx hskip hput hxE
    have hRd : Cs m1 [] (.slice Au d.length cu) d := hO.sl (by simp)
    refine WP.skip ?_; repeat (first | with_reducible refine QN.block_normal ?_ | with_reducible refine QN.next ?_); repeat (first | with_reducible refine WP.seq ?_ | with_reducible refine WP.block ?_ | with_reducible refine WP.region ?_)
    refine RL.auto T_ok rfl ?_
    refine RL.nil ?_; repeat (first | with_reducible refine QN.block_normal ?_ | with_reducible refine QN.next ?_)
    refine WP.cut (X := Nat) (fun a => [(0, .slice (some ad) l.length c), (3, .slice Au d.length cu), (4, .int .i64 i), (5, .int .i64 a)])
      (fun a m' => m' = m1 ∧ a ≤ d.length ∧ (∀ j (h : j < d.length), j < a → d[j].c < x.c) ∧ ∀ h : a < d.length, x.c ≤ d[a].c) ?_ ?_
    · refine WP.block ?_
      refine (WP.loop (X := Nat) (fun a => [(0, .slice (some ad) l.length c), (3, .slice Au d.length cu), (4, .int .i64 i), (5, .int .i64 a)])
        (fun a m' => m' = m1 ∧ a ≤ d.length ∧ (∀ j (h : j < d.length), j < a → d[j].c < x.c)) (fun a => d.length - a) 0
        (Sub.cons rfl (Sub.cons rfl (Sub.cons rfl (Sub.cons rfl Sub.nil)))) ⟨rfl, by simp, (fun j _ hj => absurd hj (by omega))⟩ ?_)
      rintro a mL ⟨rfl, ha, hlt⟩
      refine WP.seq ?_
      refine WP.seq ?_
      refine WP.drawQ (fun m' => m' = mL) [] (by kernel_rfl) rfl (by repeat (first | with_reducible exact PanicOk.body | with_reducible refine PanicOk.then_ ?_ | with_reducible refine PanicOk.block_ ?_)) (fun hQ => ?_)
      refine RH.pure T_ok hQ [0, 1, 2, 3] (by kernel_rfl) rfl ?_
      by_cases hc1 : a < d.length
      rotate_left
      · refine RH.eqv (v' := .bool false) (congrArg _ (decide_eq_false (by omega))) ?_
        refine RH.pure T_ok hQ [4, 5, 6, 7, 8, 9, 10, 11, 12, 13, 14, 15, 16] (by kernel_rfl) rfl ?_
        refine RH.done (by kernel_rfl) (fun _ => ?_)
        repeat (first | with_reducible refine QN.block_normal ?_ | with_reducible refine QN.next ?_)
        refine WP.condF rfl ?_
        refine WP.exit ?_
        repeat (first | with_reducible refine QN.then_exit ?_ | with_reducible refine QN.block_exit ?_ | with_reducible refine QN.block_normal ?_)
        exact QN.cutEnd a (Sub.cons rfl (Sub.cons rfl (Sub.cons rfl (Sub.cons rfl Sub.nil)))) ⟨rfl, ha, hlt, fun h => absurd h hc1⟩
      obtain ⟨adu, rfl, hy⟩ := hRd.cell a hc1
      refine RH.eqv (v' := .bool true) (congrArg _ (decide_eq_true (by omega))) ?_
      refine RH.pure T_ok hQ [4, 5, 6] (by kernel_rfl) rfl ?_
      refine RH.indexAddr T_ok hQ 7 (k := a) rfl (by kernel_rfl) rfl rfl rfl rfl rfl rfl rfl hc1 rfl ?_
      refine RH.pure T_ok hQ [8] (by kernel_rfl) rfl ?_
      refine RH.load T_ok hQ 9 (fun m' hm' => by rw [hm']; exact hy 0 _ rfl) rfl (by kernel_rfl) rfl rfl rfl rfl ?_
      refine RH.pure T_ok hQ [10, 11] (by kernel_rfl) rfl ?_
      refine RH.indexAddr T_ok hQ 12 (k := i) rfl (by kernel_rfl) rfl rfl rfl rfl rfl rfl rfl hc rfl ?_
      refine RH.pure T_ok hQ [13] (by kernel_rfl) rfl ?_
      refine RH.load T_ok hQ 14 (fun m' hm' => by rw [hm']; exact hx 0 _ rfl) rfl (by kernel_rfl) rfl rfl rfl rfl ?_
      refine RH.pure T_ok hQ [15] (by kernel_rfl) rfl ?_
      by_cases hc2 : d[a].c < x.c
      · refine RH.eqv (v' := .bool true) (congrArg _ (by rw [dlt]; exact decide_eq_true hc2)) ?_
        refine RH.pure T_ok hQ [16] (by kernel_rfl) rfl ?_
        refine RH.done (by kernel_rfl) (fun _ => ?_)
        repeat (first | with_reducible refine QN.block_normal ?_ | with_reducible refine QN.next ?_)
        refine WP.condT rfl ?_
        refine WP.skip ?_; repeat (first | with_reducible refine QN.block_normal ?_ | with_reducible refine QN.next ?_); repeat (first | with_reducible refine WP.seq ?_ | with_reducible refine WP.block ?_ | with_reducible refine WP.region ?_)
        refine RL.pure T_ok 2 rfl ?_
        refine RL.eqv (v' := .int .i64 ((a + 1 : Nat) : Int)) (congrArg _ (by rw [wrap_i64_in _ (by omega) (by omega)]; rfl)) ?_
        refine RL.auto T_ok rfl ?_
        refine RL.nil ?_
        repeat (first | with_reducible refine QN.block_normal ?_ | with_reducible refine QN.next ?_)
        refine QN.round (a + 1) (Sub.cons rfl (Sub.cons rfl (Sub.cons rfl (Sub.cons rfl Sub.nil)))) ⟨rfl, hc1, fun j hj hja => ?_⟩ (by omega)
        by_cases hj2 : j = a
        · subst hj2; exact hc2
        · exact hlt j hj (by omega)
      · refine RH.eqv (v' := .bool false) (congrArg _ (by rw [dlt]; exact decide_eq_false hc2)) ?_
        refine RH.pure T_ok hQ [16] (by kernel_rfl) rfl ?_
        refine RH.done (by kernel_rfl) (fun _ => ?_)
        repeat (first | with_reducible refine QN.block_normal ?_ | with_reducible refine QN.next ?_)
        refine WP.condF rfl ?_
        refine WP.exit ?_
        repeat (first | with_reducible refine QN.then_exit ?_ | with_reducible refine QN.block_exit ?_ | with_reducible refine QN.block_normal ?_)
        exact QN.cutEnd a (Sub.cons rfl (Sub.cons rfl (Sub.cons rfl (Sub.cons rfl Sub.nil)))) ⟨rfl, ha, hlt, fun _ => by omega⟩
    rintro a mL ⟨rfl, ha, hlt, hge⟩
    refine WP.seq ?_
    refine WP.cut (X := Bool) (fun q => [(0, .slice (some ad) l.length c), (3, .slice Au d.length cu), (4, .int .i64 i), (5, .int .i64 a), (58, .bool q)])
      (fun q m' => m' = mL ∧ (q = true → vat l x.c = 0 ∨ ∃ y ∈ d, y.c = x.c) ∧ (q = false → vat l x.c ≠ 0 ∧ ∀ j (h : j < d.length), a ≤ j → x.c < d[j].c)) ?_ ?_
    · refine WP.drawQ (fun m' => m' = mL) [] (by kernel_rfl) rfl (by repeat (first | with_reducible exact PanicOk.body | with_reducible refine PanicOk.then_ ?_ | with_reducible refine PanicOk.block_ ?_)) (fun hQ => ?_)
      refine RH.pure T_ok hQ [0, 1, 2] (by kernel_rfl) rfl ?_
      refine RH.indexAddr T_ok hQ 3 (k := i) rfl (by kernel_rfl) rfl rfl rfl rfl rfl rfl rfl hc rfl ?_
      refine RH.pure T_ok hQ [4] (by kernel_rfl) rfl ?_
      refine RH.load T_ok hQ 5 (fun m' hm' => by rw [hm']; exact hx 0 _ rfl) rfl (by kernel_rfl) rfl rfl rfl rfl ?_
      refine RH.only 6 rfl (by kernel_rfl) (fun _ => ?_)
      refine RL.call (fi := []) (ca := []) rfl rfl rfl rfl (refvat_c mL _ l hh1 (by omega) x.c) ?_
      rintro _ mM ⟨rfl, hmM⟩
      subst hmM
      refine ⟨_, rfl, RL.nil (RH.cont rfl ?_)⟩
      refine RH.pure T_ok hQ [7] (by kernel_rfl) rfl ?_
      by_cases h0 : vat l x.c = 0
      · refine RH.eqv (v' := .bool true) (congrArg _ (by rw [h0]; rfl)) ?_
        refine RH.pure T_ok hQ [8, 9, 10, 11, 12, 13, 14, 15, 16, 17, 18, 19, 20, 21, 22, 23, 24, 25, 26] (by kernel_rfl) rfl ?_
        refine RH.done (by kernel_rfl) (fun _ => ?_)
        exact QN.cutEnd true (Sub.cons rfl (Sub.cons rfl (Sub.cons rfl (Sub.cons rfl (Sub.cons rfl Sub.nil))))) ⟨rfl, (fun _ => .inl h0), (fun hh => by cases hh)⟩
      refine RH.eqv (v' := .bool false) (congrArg _ (by rw [beq_eq_false_iff_ne]; omega)) ?_
      refine RH.pure T_ok hQ [8, 9, 10, 11, 12] (by kernel_rfl) rfl ?_
      by_cases hc1 : a < d.length
      rotate_left
      · refine RH.eqv (v' := .bool false) (congrArg _ (decide_eq_false (by omega))) ?_
        refine RH.pure T_ok hQ [13, 14, 15, 16, 17, 18, 19, 20, 21, 22, 23, 24, 25, 26] (by kernel_rfl) rfl ?_
        refine RH.done (by kernel_rfl) (fun _ => ?_)
        exact QN.cutEnd false (Sub.cons rfl (Sub.cons rfl (Sub.cons rfl (Sub.cons rfl (Sub.cons rfl Sub.nil))))) ⟨rfl, (fun hh => by cases hh), fun _ => ⟨h0, fun j hj hja => absurd hj (by omega)⟩⟩
      obtain ⟨adu, rfl, hy⟩ := hRd.cell a hc1
      have hge1 := hge hc1
      refine RH.eqv (v' := .bool true) (congrArg _ (decide_eq_true (by omega))) ?_
      refine RH.pure T_ok hQ [13, 14, 15] (by kernel_rfl) rfl ?_
      refine RH.indexAddr T_ok hQ 16 (k := a) rfl (by kernel_rfl) rfl rfl rfl rfl rfl rfl rfl hc1 rfl ?_
      refine RH.pure T_ok hQ [17] (by kernel_rfl) rfl ?_
      refine RH.load T_ok hQ 18 (fun m' hm' => by rw [hm']; exact hy 0 _ rfl) rfl (by kernel_rfl) rfl rfl rfl rfl ?_
      refine RH.pure T_ok hQ [19, 20] (by kernel_rfl) rfl ?_
      refine RH.indexAddr T_ok hQ 21 (k := i) rfl (by kernel_rfl) rfl rfl rfl rfl rfl rfl rfl hc rfl ?_
      refine RH.pure T_ok hQ [22] (by kernel_rfl) rfl ?_
      refine RH.load T_ok hQ 23 (fun m' hm' => by rw [hm']; exact hx 0 _ rfl) rfl (by kernel_rfl) rfl rfl rfl rfl ?_
      refine RH.pure T_ok hQ [24] (by kernel_rfl) rfl ?_
      refine RH.eqv (v' := .bool (decide (d[a].c = x.c))) (congrArg _ (deq _ _)) ?_
      refine RH.pure T_ok hQ [25, 26] (by kernel_rfl) rfl ?_
      refine RH.done (by kernel_rfl) (fun _ => ?_)
      refine QN.cutEnd (decide (d[a].c = x.c)) (Sub.cons rfl (Sub.cons rfl (Sub.cons rfl (Sub.cons rfl (Sub.cons rfl Sub.nil))))) ⟨rfl, (fun hh => .inr ⟨d[a], List.getElem_mem _, of_decide_eq_true hh⟩), fun hh => ⟨h0, fun j hj hja => ?_⟩⟩
      have hne := of_decide_eq_false hh
      rcases Nat.lt_or_eq_of_le hja with h9 | h9
      · have := List.pairwise_iff_getElem.1 hd.canon.2 a j hc1 hj h9
        omega
      · subst h9; omega
    rintro q mM ⟨rfl, hqt, hqf⟩
    refine WP.cond rfl (fun hq => ?_) (fun hq => ?_)
    · have hnx := hskip (hqt hq)
      refine WP.exit ?_; repeat (first | with_reducible refine QN.then_exit ?_ | with_reducible refine QN.block_exit ?_ | with_reducible refine QN.block_far rfl ?_ | with_reducible refine QN.block_normal ?_ | with_reducible refine QN.next ?_); repeat (first | with_reducible refine WP.seq ?_ | with_reducible refine WP.block ?_ | with_reducible refine WP.region ?_)
      refine RL.pure T_ok 2 rfl ?_
      refine RL.eqv (v' := .int .i64 ((i + 1 : Nat) : Int)) (congrArg _ (by rw [wrap_i64_in _ (by omega) (by omega)]; rfl)) ?_
      refine RL.auto T_ok rfl ?_
      exact RL.nil (QN.round (i + 1, .slice Au d.length cu, S, d) (Sub.cons rfl (Sub.cons rfl (Sub.cons rfl Sub.nil))) ⟨by show i + 1 ≤ _; omega, hnx, hO, hN⟩ (by show _ - (i + 1) < _ - i; omega))
    obtain ⟨h0, hgt⟩ := hqf hq
    have hnx := hput a h0 ha hlt hgt
    refine WP.skip ?_; repeat (first | with_reducible refine QN.block_normal ?_ | with_reducible refine QN.next ?_); repeat (first | with_reducible refine WP.seq ?_ | with_reducible refine WP.block ?_ | with_reducible refine WP.region ?_)
    refine RL.pure T_ok 2 rfl ?_
    refine RL.append1 T_ok [.tmp 60] hO (us := [cV ⟨0, 0⟩]) (cC ⟨0, 0⟩) rfl rfl rfl rfl rfl rfl rfl rfl rfl (by simp [cV, cC, Value.cells]) (by simp [cV, Value.cells]) (cC_one _) (by unfold maxLen; omega) (by show (_ + 1) * 16 ≤ _; omega) ?_
    intro v4 m4 S4 hO4 hE4 hF4
    refine ⟨_, rfl, ?_⟩
    have hN4 : New m S4 m4 := ⟨hN.1.trans hE4 (fun k hk => .inr (hN.ge k hk)), hN.2.trans hF4 hN.1.size⟩
    obtain ⟨A4, c4, rfl, _⟩ := hO4.shape
    refine RL.auto T_ok rfl ?_
    refine RL.nil ?_; repeat (first | with_reducible refine QN.block_normal ?_ | with_reducible refine QN.next ?_); repeat (first | with_reducible refine WP.seq ?_ | with_reducible refine WP.block ?_ | with_reducible refine WP.region ?_)
    refine RL.pure T_ok 3 rfl ?_
    refine RL.eqv (v' := .int .i64 (d.length : Int)) (congrArg _ (by rw [wrap_i64_in _ (by omega) (by omega)]; omega)) ?_
    refine RL.auto T_ok rfl ?_
    refine RL.nil ?_; repeat (first | with_reducible refine QN.block_normal ?_ | with_reducible refine QN.next ?_); repeat (first | with_reducible refine WP.seq ?_ | with_reducible refine WP.block ?_ | with_reducible refine WP.region ?_)
    refine (WP.loop (X := Nat × Clk) (fun q => [(0, .slice (some ad) l.length c), (3, .slice A4 (d.length + 1) c4), (4, .int .i64 i), (5, .int .i64 a), (6, .int .i64 q.1)])
      (fun q m' => a ≤ q.1 ∧ q.1 ≤ d.length ∧ Ev.Own m' S4 60 2 (.slice A4 (d.length + 1) c4) (d.length + 1) ((d.take q.1 ++ [q.2] ++ d.drop q.1).flatMap cC) ∧ New m S4 m') (fun q => q.1) (d.length, ⟨0, 0⟩)
      (Sub.cons rfl (Sub.cons rfl (Sub.cons rfl (Sub.cons rfl (Sub.cons rfl Sub.nil))))) ⟨ha, Nat.le_refl _, by simpa using hO4, hN4⟩ ?_)
    rintro ⟨k, w⟩ m5 ⟨k1, k2, hO5, hN5⟩
    simp only at k1 k2 hO5
    have hzl : (d.take k ++ [w] ++ d.drop k).length = d.length + 1 := by simp; omega
    repeat (first | with_reducible refine WP.seq ?_ | with_reducible refine WP.block ?_ | with_reducible refine WP.region ?_)
    refine RL.auto T_ok rfl ?_
    refine RL.nil ?_; repeat (first | with_reducible refine QN.block_normal ?_ | with_reducible refine QN.next ?_); repeat (first | with_reducible refine WP.seq ?_ | with_reducible refine WP.block ?_ | with_reducible refine WP.region ?_)
    refine WP.cond rfl (fun hck => ?_) (fun hck => ?_)
    · replace hck : a < k := by have := of_decide_eq_true hck; simp only at this; omega
      obtain ⟨q, rfl⟩ : ∃ q, k = q + 1 := ⟨k - 1, by omega⟩
      have hRz : Cs m5 [] (.slice A4 (d.length + 1) c4) (d.take (q + 1) ++ [w] ++ d.drop (q + 1)) := hO5.sl (by simp)
      obtain ⟨ad5, rfl, hy⟩ := hRz.cell q (by simp; omega)
      rw [zipK_get d w q (by omega)] at hy
      obtain ⟨g, cap, cur, hv5, hB5, rfl, hj5, hset⟩ := hO5.putK (j := (q + 1) * 2) (k := 2) (by omega) (by omega)
      injection hv5 with hv5 hv5'
      injection hv5 with hv5
      subst hv5
      refine WP.skip ?_; repeat (first | with_reducible refine QN.block_normal ?_ | with_reducible refine QN.next ?_); repeat (first | with_reducible refine WP.seq ?_ | with_reducible refine WP.block ?_ | with_reducible refine WP.region ?_)
      refine RL.pure T_ok 5 rfl ?_
      refine RL.eqv (v' := .int .i64 (q : Int)) (congrArg _ (by rw [wrap_i64_in _ (by omega) (by omega)]; omega)) ?_
      refine RL.indexAddr (k := q) T_ok rfl rfl rfl rfl rfl rfl rfl (by omega) rfl ?_
      refine RL.loadAgg T_ok (cC d[q]) rfl rfl rfl hy rfl ?_
      refine RL.indexAddr (k := q + 1) T_ok rfl rfl rfl rfl rfl rfl rfl (by omega) rfl ?_
      refine RL.eqv (v' := .pointer (some ⟨g, (q + 1) * 2, none⟩)) (congrArg (fun q => Value.pointer (some q)) (by rw [add_block]; show (⟨g, 0 + (q + 1) * 2, none⟩ : Addr) = _; rw [Nat.zero_add])) ?_
      refine RL.storeAgg T_ok (b := g) (i := (q + 1) * 2) (vs := cC d[q]) hB5 rfl rfl rfl rfl rfl hj5 (cC_one _) rfl ?_
      intro m6 hC6
      have hO6 := hset m6 (cC d[q]) rfl hC6
      rw [csC_set _ (q + 1) _ (by rw [hzl]; omega), zipK_set d w _ (q + 1) k2, zipK_shift d q (by omega)] at hO6
      refine RL.nil ?_; repeat (first | with_reducible refine QN.block_normal ?_ | with_reducible refine QN.next ?_); repeat (first | with_reducible refine WP.seq ?_ | with_reducible refine WP.block ?_ | with_reducible refine WP.region ?_)
      refine RL.pure T_ok 2 rfl ?_
      refine RL.eqv (v' := .int .i64 (q : Int)) (congrArg _ (by rw [wrap_i64_in _ (by omega) (by omega)]; omega)) ?_
      refine RL.auto T_ok rfl ?_
      exact RL.nil (QN.round (q, d[q]) (Sub.cons rfl (Sub.cons rfl (Sub.cons rfl (Sub.cons rfl (Sub.cons rfl Sub.nil))))) ⟨by show a ≤ q; omega, by show q ≤ _; omega, hO6, ⟨hN5.1.trans hC6.ext (fun k hk => .inr (hN5.ge k hk)), hN5.2⟩⟩ (by show q < q + 1; omega))
    · replace hck : k = a := by have := of_decide_eq_false hck; simp only at this; omega
      subst hck
      obtain ⟨g, cap, cur, hv5, hB5, rfl, hj5, hset⟩ := hO5.putK (j := k * 2) (k := 2) (by omega) (by omega)
      injection hv5 with hv5 hv5'
      subst hv5
      have hx5 := hxE m5 hN5.1
      refine WP.exit ?_
      repeat (first | with_reducible refine QN.then_exit ?_ | with_reducible refine QN.block_exit ?_ | with_reducible refine QN.block_far rfl ?_ | with_reducible refine QN.block_normal ?_ | with_reducible refine QN.next ?_)
      refine WP.drawQ (fun m' => m' = m5) [16] (by kernel_rfl) rfl (by repeat (first | with_reducible exact PanicOk.body | with_reducible refine PanicOk.then_ ?_ | with_reducible refine PanicOk.block_ ?_)) (fun hQ => ?_)
      refine RH.pure T_ok hQ [0, 1, 2, 3] (by kernel_rfl) rfl ?_
      refine RH.indexAddr T_ok hQ 4 (k := i) rfl (by kernel_rfl) rfl rfl rfl rfl rfl rfl rfl hc rfl ?_
      refine RH.pure T_ok hQ [5] (by kernel_rfl) rfl ?_
      refine RH.load T_ok hQ 6 (fun m' hm' => by rw [hm']; exact hx5 0 _ rfl) rfl (by kernel_rfl) rfl rfl rfl rfl ?_
      refine RH.pure T_ok hQ [7, 8, 9] (by kernel_rfl) rfl ?_
      refine RH.indexAddr T_ok hQ 10 (k := i) rfl (by kernel_rfl) rfl rfl rfl rfl rfl rfl rfl hc rfl ?_
      refine RH.pure T_ok hQ [11] (by kernel_rfl) rfl ?_
      refine RH.load T_ok hQ 12 (fun m' hm' => by rw [hm']; exact hx5 0 _ rfl) rfl (by kernel_rfl) rfl rfl rfl rfl ?_
      refine RH.only 13 rfl (by kernel_rfl) (fun _ => ?_)
      refine RL.call (fi := []) (ca := []) rfl rfl rfl rfl (refvat_c m5 _ l (h.ext0 hN5.1) (by omega) x.c) ?_
      rintro _ mM ⟨rfl, hmM⟩
      subst hmM
      refine ⟨_, rfl, RL.nil (RH.cont rfl ?_)⟩
      refine RH.pure T_ok hQ [14] (by kernel_rfl) rfl ?_
      refine RH.eqv (v' := cV ⟨x.c, vat l x.c⟩) rfl ?_
      refine RH.indexAddr T_ok hQ 15 (k := k) rfl (by kernel_rfl) rfl rfl rfl rfl rfl rfl rfl (by omega) rfl ?_
      refine RH.eqv (v' := .pointer (some ⟨g, k * 2, none⟩)) (congrArg (fun q => Value.pointer (some q)) (by rw [add_block, Nat.zero_add])) ?_
      refine RH.only 16 rfl (by kernel_rfl) (fun _ => ?_)
      refine RL.storeAgg T_ok (b := g) (i := k * 2) (vs := cC ⟨x.c, vat l x.c⟩) hB5 rfl rfl rfl rfl rfl hj5 (cC_one _) rfl ?_
      intro m6 hC6
      have hO6 := hset m6 (cC ⟨x.c, vat l x.c⟩) rfl hC6
      rw [csC_set _ k _ (by rw [hzl]; omega), zipK_set d w _ k k2] at hO6
      have hlen6 : (d.take k ++ ⟨x.c, vat l x.c⟩ :: d.drop k).length = d.length + 1 := by simp; omega
      refine RL.nil (RF.cont (by kernel_rfl) ?_)
      refine RF.done (by kernel_rfl) ?_
      repeat (first | with_reducible refine QN.block_normal ?_ | with_reducible refine QN.next ?_)
      repeat (first | with_reducible refine WP.seq ?_ | with_reducible refine WP.block ?_ | with_reducible refine WP.region ?_)
      refine RL.pure T_ok 2 rfl ?_
      refine RL.eqv (v' := .int .i64 ((i + 1 : Nat) : Int)) (congrArg _ (by rw [wrap_i64_in _ (by omega) (by omega)]; rfl)) ?_
      refine RL.auto T_ok rfl ?_
      refine RL.nil (QN.round (i + 1, .slice (some ⟨g, 0, none⟩) (d.length + 1) c4, [g], d.take k ++ ⟨x.c, vat l x.c⟩ :: d.drop k) (Sub.cons rfl (Sub.cons rfl (Sub.cons rfl Sub.nil))) ⟨by show i + 1 ≤ _; omega, hnx, ?_, ⟨hN5.1.trans hC6.ext (fun k hk => .inr (hN5.ge k hk)), hN5.2⟩⟩ (by show _ - (i + 1) < _ - i; omega))
      show Ev.Own m6 [g] 60 2 _ (d.take k ++ ⟨x.c, vat l x.c⟩ :: d.drop k).length _
      rw [hlen6]
      simpa using hO6
  · replace hc : i = l.length := by have := of_decide_eq_false hc; simp only at this; omega
    subst hc
    have he := hd.done
    subst he
    refine WP.exit ?_; repeat (first | with_reducible refine QN.then_exit ?_ | with_reducible refine QN.block_exit ?_ | with_reducible refine QN.block_far rfl ?_ | with_reducible refine QN.block_normal ?_ | with_reducible refine QN.next ?_); repeat (first | with_reducible refine WP.seq ?_ | with_reducible refine WP.block ?_ | with_reducible refine WP.region ?_)
    refine RL.auto T_ok rfl ?_
    refine RL.nil ?_; repeat (first | with_reducible refine QN.block_normal ?_ | with_reducible refine QN.next ?_); repeat (first | with_reducible refine WP.seq ?_ | with_reducible refine WP.block ?_ | with_reducible refine WP.region ?_)
    refine WP.ret ?_; repeat (first | with_reducible refine QN.then_ret ?_ | with_reducible refine QN.block_ret ?_)
    exact QN.ret1 rfl rfl ⟨_, rfl, S, hO, hN⟩
end Go.Proofs.Ytmjpcaiehfimgaa
end

section
/- quireref7: Ranges, Join, Meet, Missing, Within; what every row of vectors asks first; clocks that came in. -/
namespace Go.Proofs.Ytmjpcaiehfimgaa
open Go.RowKit Go.Ev Go.Ids

theorem refvranges_c (m : World) (v : Value) (l : List Clk) (h : Cs m [] v l) (hl : l.length < 100000000) : FnR Try.prog 19 [v] m fun r m' => Made m r (vranges l) m' := by
  refine FnE.enter ⟨_, Try.func19, by kernel_rfl, by kernel_rfl⟩ Try.func19 rfl rfl ?_
  repeat (first | with_reducible refine WP.seq ?_ | with_reducible refine WP.block ?_ | with_reducible refine WP.region ?_)
  refine RL.auto T_ok rfl ?_
  refine RL.nil ?_; repeat (first | with_reducible refine QN.block_normal ?_ | with_reducible refine QN.next ?_); repeat (first | with_reducible refine WP.seq ?_ | with_reducible refine WP.block ?_ | with_reducible refine WP.region ?_)
  refine RL.auto T_ok rfl ?_
  refine RL.nil ?_; repeat (first | with_reducible refine QN.block_normal ?_ | with_reducible refine QN.next ?_); repeat (first | with_reducible refine WP.seq ?_ | with_reducible refine WP.block ?_ | with_reducible refine WP.region ?_)
  refine RL.auto T_ok rfl ?_
  refine RL.call (fi := []) (ca := []) rfl rfl rfl rfl (refvclean_c m v l h hl) ?_
  rintro v1 m1 hM
  refine ⟨_, rfl, ?_⟩
  have hE1 := hM.ext
  have hR := hM.cs
  have hcan := vclean_canon l
  have hln := vclean_len l
  have hdef : vranges l = (vclean l).map vrg := rfl
  rw [hdef]
  generalize vclean l = L at hM hR hcan hln
  obtain ⟨A, c, rfl, _, _⟩ := hR.shape
  refine RL.auto T_ok rfl ?_
  refine RL.nil ?_; repeat (first | with_reducible refine QN.block_normal ?_ | with_reducible refine QN.next ?_); repeat (first | with_reducible refine WP.seq ?_ | with_reducible refine WP.block ?_ | with_reducible refine WP.region ?_)
  refine RL.auto T_ok rfl ?_
  refine RL.nil ?_; repeat (first | with_reducible refine QN.block_normal ?_ | with_reducible refine QN.next ?_); repeat (first | with_reducible refine WP.seq ?_ | with_reducible refine WP.block ?_ | with_reducible refine WP.region ?_)
  refine (WP.loop (X := Nat × Value × List Nat) (fun q => [(0, .slice A L.length c), (3, q.2.1), (4, .int .i64 q.1)])
    (fun q m' => q.1 ≤ L.length ∧ Ev.Own m' q.2.2 62 3 q.2.1 ((L.take q.1).map vrg).length (((L.take q.1).map vrg).flatMap rC) ∧ New m1 q.2.2 m') (fun q => L.length - q.1) (0, .slice none 0 0, [])
    (Sub.cons rfl (Sub.cons rfl (Sub.cons rfl Sub.nil))) ⟨by simp, Own.empty _ _ _ _, Ext.refl _ _, FpNew.nil _ _⟩ ?_)
  rintro ⟨i, w, S⟩ m2 ⟨hi, hO, hN⟩
  simp only at hi hO hN
  repeat (first | with_reducible refine WP.seq ?_ | with_reducible refine WP.block ?_ | with_reducible refine WP.region ?_)
  refine RL.auto T_ok rfl ?_
  refine RL.nil ?_; repeat (first | with_reducible refine QN.block_normal ?_ | with_reducible refine QN.next ?_); repeat (first | with_reducible refine WP.seq ?_ | with_reducible refine WP.block ?_ | with_reducible refine WP.region ?_)
  refine WP.cond rfl (fun hc => ?_) (fun hc => ?_)
  · replace hc : i < L.length := by have := of_decide_eq_true hc; simp only at this; omega
    obtain ⟨ad, rfl, _⟩ := hR.cell i hc
    have hx : ∀ m', Ext m1 [] m' → ∀ j w, (cC L[i])[j]? = some w → m'.cell? ((ad.add (i * 2)).add j) = some w := fun m' hE => by
      obtain ⟨ad', h1, h2⟩ := (hR.ext0 hE).cell i hc
      injection h1 with h1
      subst h1
      exact h2
    have hok := hcan.1 L[i] (List.getElem_mem _)
    have htake : (L.take (i + 1)).map vrg = (L.take i).map vrg ++ [vrg L[i]] := by rw [List.take_succ_eq_append_getElem hc, List.map_append]; rfl
    have hlm : ((L.take i).map vrg).length = i := by rw [List.length_map, List.length_take, Nat.min_eq_left hi]
    generalize L[i] = x at hx hok htake
    refine WP.skip ?_; repeat (first | with_reducible refine QN.block_normal ?_ | with_reducible refine QN.next ?_)
    refine WP.seq ?_
    refine WP.block ?_
    refine WP.drawQ (fun m' => Ext m1 [] m') [] (by kernel_rfl) hN.1 (by repeat (first | with_reducible exact PanicOk.body | with_reducible refine PanicOk.then_ ?_ | with_reducible refine PanicOk.block_ ?_)) (fun hQ => ?_)
    refine RH.pure T_ok hQ [0, 1, 2] (by kernel_rfl) rfl ?_
    refine RH.indexAddr T_ok hQ 3 (k := i) rfl (by kernel_rfl) rfl rfl rfl rfl rfl rfl rfl hc rfl ?_
    refine RH.pure T_ok hQ [4] (by kernel_rfl) rfl ?_
    refine RH.load T_ok hQ 5 (fun m' hm' => hx m' hm' 0 _ rfl) rfl (by kernel_rfl) rfl rfl rfl rfl ?_
    refine RH.pure T_ok hQ [6, 7] (by kernel_rfl) rfl ?_
    refine RH.indexAddr T_ok hQ 8 (k := i) rfl (by kernel_rfl) rfl rfl rfl rfl rfl rfl rfl hc rfl ?_
    refine RH.pure T_ok hQ [9] (by kernel_rfl) rfl ?_
    refine RH.load T_ok hQ 10 (fun m' hm' => hx m' hm' 1 _ rfl) rfl (by kernel_rfl) rfl rfl rfl rfl ?_
    refine RH.pure T_ok hQ [11] (by kernel_rfl) rfl ?_
    refine RH.eqv (v' := .int .u64 ((x.k + 1 : Nat) : Int)) (congrArg _ (by have := hok.2.2.2; rw [wrap_u64_in _ (by omega) (by omega)]; rfl)) ?_
    refine RH.pure T_ok hQ [12] (by kernel_rfl) rfl ?_
    refine RH.eqv (v' := rV (vrg x)) rfl ?_
    refine RH.only 13 rfl (by kernel_rfl) (fun _ => ?_)
    refine RL.buildSlice T_ok [.tmp 25] (us := [rV (vrg x)]) (rC (vrg x)) rfl rfl rfl rfl rfl rfl (by simp [rV, rC, Value.cells]) (by simp [rV, Value.cells]) rfl (fun b9 m9 hb9 hC9 => ⟨_, rfl, ?_⟩)
    have hE9 : Ext m2 [] m9 := hC9.new (by omega)
    have hN9 : New m1 S m9 := ⟨hN.1.trans hE9 (by simp), hN.2⟩
    refine RL.nil (RH.cont hN9.1 ?_)
    refine RH.only 14 rfl (by kernel_rfl) (fun _ => ?_)
    refine RL.append T_ok (hO.ext hE9 (by simp)) (rC (vrg x)) (Src.of_blk (k := 1) (c := 1) hC9.blk rfl) rfl rfl rfl rfl rfl rfl (rC_one _) (by unfold maxLen; omega) (by show (_ + 1) * 24 ≤ _; omega) ?_
    intro v10 m10 S10 hO10 hE10 hF10
    have hN10 : New m1 S10 m10 := ⟨hN9.1.trans hE10 (fun k hk => .inr (hN9.ge k hk)), hN9.2.trans hF10 hN9.1.size⟩
    refine ⟨_, rfl, RL.nil (RH.cont hN10.1 ?_)⟩
    refine RH.pure T_ok hQ [15] (by kernel_rfl) rfl ?_
    refine RH.done (by kernel_rfl) (fun _ => ?_)
    repeat (first | with_reducible refine QN.block_normal ?_ | with_reducible refine QN.next ?_)
    repeat (first | with_reducible refine WP.seq ?_ | with_reducible refine WP.block ?_ | with_reducible refine WP.region ?_)
    refine RL.pure T_ok 2 rfl ?_
    refine RL.eqv (v' := .int .i64 ((i + 1 : Nat) : Int)) (congrArg _ (by rw [wrap_i64_in _ (by omega) (by omega)]; rfl)) ?_
    refine RL.auto T_ok rfl ?_
    refine RL.nil (QN.round (i + 1, v10, S10) (Sub.cons rfl (Sub.cons rfl (Sub.cons rfl Sub.nil))) ⟨by show i + 1 ≤ _; omega, ?_, hN10⟩ (by show _ - (i + 1) < _ - i; omega))
    show Ev.Own m10 S10 62 3 v10 ((L.take (i + 1)).map vrg).length (((L.take (i + 1)).map vrg).flatMap rC)
    rw [htake, List.length_append, ← rsC_app]
    simpa using hO10
  · replace hc : i = L.length := by have := of_decide_eq_false hc; simp only at this; omega
    subst hc
    rw [List.take_length] at hO
    refine WP.exit ?_; repeat (first | with_reducible refine QN.then_exit ?_ | with_reducible refine QN.block_exit ?_ | with_reducible refine QN.block_far rfl ?_ | with_reducible refine QN.block_normal ?_ | with_reducible refine QN.next ?_); repeat (first | with_reducible refine WP.seq ?_ | with_reducible refine WP.block ?_ | with_reducible refine WP.region ?_)
    refine RL.auto T_ok rfl ?_
    refine RL.nil ?_; repeat (first | with_reducible refine QN.block_normal ?_ | with_reducible refine QN.next ?_); repeat (first | with_reducible refine WP.seq ?_ | with_reducible refine WP.block ?_ | with_reducible refine WP.region ?_)
    refine WP.ret ?_; repeat (first | with_reducible refine QN.then_ret ?_ | with_reducible refine QN.block_ret ?_)
    exact QN.ret1 rfl rfl ⟨_, rfl, S, hO, hE1.trans hN.1 (by simp), hN.2.trans' hE1⟩
theorem refvmeet_c (m : World) (v u : Value) (a b : List Clk) (h : Cs m [] v a) (h' : Cs m [] u b) (hla : a.length < 100000000) (hlb : b.length < 100000000) : FnR Try.prog 24 [v, u] m fun r m' => VMade m r (vmeet a b) m' := by
  obtain ⟨B, cB, rfl, _, _⟩ := h'.shape
  refine FnE.enter ⟨_, Try.func24, by kernel_rfl, by kernel_rfl⟩ Try.func24 rfl rfl ?_
  repeat (first | with_reducible refine WP.seq ?_ | with_reducible refine WP.block ?_ | with_reducible refine WP.region ?_)
  refine RL.auto T_ok rfl ?_
  refine RL.nil ?_; repeat (first | with_reducible refine QN.block_normal ?_ | with_reducible refine QN.next ?_); repeat (first | with_reducible refine WP.seq ?_ | with_reducible refine WP.block ?_ | with_reducible refine WP.region ?_)
  refine RL.auto T_ok rfl ?_
  refine RL.nil ?_; repeat (first | with_reducible refine QN.block_normal ?_ | with_reducible refine QN.next ?_); repeat (first | with_reducible refine WP.seq ?_ | with_reducible refine WP.block ?_ | with_reducible refine WP.region ?_)
  refine RL.auto T_ok rfl ?_
  refine RL.call (fi := []) (ca := []) rfl rfl rfl rfl (refvclean_c m v a h hla) ?_
  rintro v1 m1 hM
  refine ⟨_, rfl, ?_⟩
  have hE1 := hM.ext
  have hR := hM.cs
  have hln := vclean_len a
  have hdef : vmeet a b = vclean ((vclean a).map fun x => (⟨x.c, min x.k (vat b x.c)⟩ : Clk)) := rfl
  rw [hdef]
  generalize vclean a = L at hM hR hln
  obtain ⟨A, c, rfl, _, _⟩ := hR.shape
  replace h' := h'.ext0 hE1
  obtain ⟨f, hf⟩ : ∃ f : Clk → Clk, f = fun x => (⟨x.c, min x.k (vat b x.c)⟩ : Clk) := ⟨_, rfl⟩
  rw [← hf]
  have hfx : ∀ x, f x = ⟨x.c, min x.k (vat b x.c)⟩ := fun x => by rw [hf]
  clear hf hM
  refine RL.auto T_ok rfl ?_
  refine RL.nil ?_; repeat (first | with_reducible refine QN.block_normal ?_ | with_reducible refine QN.next ?_); repeat (first | with_reducible refine WP.seq ?_ | with_reducible refine WP.block ?_ | with_reducible refine WP.region ?_)
  refine RL.auto T_ok rfl ?_
  refine RL.nil ?_; repeat (first | with_reducible refine QN.block_normal ?_ | with_reducible refine QN.next ?_); repeat (first | with_reducible refine WP.seq ?_ | with_reducible refine WP.block ?_ | with_reducible refine WP.region ?_)
  refine (WP.loop (X := Nat × Value × List Nat) (fun q => [(1, .slice B b.length cB), (0, .slice A L.length c), (5, q.2.1), (6, .int .i64 q.1)])
    (fun q m' => q.1 ≤ L.length ∧ Ev.Own m' q.2.2 60 2 q.2.1 ((L.take q.1).map f).length (((L.take q.1).map f).flatMap cC) ∧ New m1 q.2.2 m') (fun q => L.length - q.1) (0, .slice none 0 0, [])
    (Sub.cons rfl (Sub.cons rfl (Sub.cons rfl (Sub.cons rfl Sub.nil)))) ⟨by simp, Own.empty _ _ _ _, Ext.refl _ _, FpNew.nil _ _⟩ ?_)
  rintro ⟨i, w, S⟩ m2 ⟨hi, hO, hN⟩
  simp only at hi hO hN
  repeat (first | with_reducible refine WP.seq ?_ | with_reducible refine WP.block ?_ | with_reducible refine WP.region ?_)
  refine RL.auto T_ok rfl ?_
  refine RL.nil ?_; repeat (first | with_reducible refine QN.block_normal ?_ | with_reducible refine QN.next ?_); repeat (first | with_reducible refine WP.seq ?_ | with_reducible refine WP.block ?_ | with_reducible refine WP.region ?_)
  refine WP.cond rfl (fun hc => ?_) (fun hc => ?_)
  · replace hc : i < L.length := by have := of_decide_eq_true hc; simp only at this; omega
    obtain ⟨ad, rfl, _⟩ := hR.cell i hc
    have hx : ∀ m', Ext m1 [] m' → ∀ j w, (cC L[i])[j]? = some w → m'.cell? ((ad.add (i * 2)).add j) = some w := fun m' hE => by
      obtain ⟨ad', h1, h2⟩ := (hR.ext0 hE).cell i hc
      injection h1 with h1
      subst h1
      exact h2
    have htake : (L.take (i + 1)).map f = (L.take i).map f ++ [f L[i]] := by rw [List.take_succ_eq_append_getElem hc, List.map_append]; rfl
    have hlm : ((L.take i).map f).length = i := by rw [List.length_map, List.length_take, Nat.min_eq_left hi]
    generalize L[i] = x at hx htake
    refine WP.skip ?_; repeat (first | with_reducible refine QN.block_normal ?_ | with_reducible refine QN.next ?_)
    refine WP.seq ?_
    refine WP.block ?_
    refine WP.drawQ (fun m' => Ext m1 [] m') [] (by kernel_rfl) hN.1 (by repeat (first | with_reducible exact PanicOk.body | with_reducible refine PanicOk.then_ ?_ | with_reducible refine PanicOk.block_ ?_)) (fun hQ => ?_)
    refine RH.pure T_ok hQ [0, 1, 2] (by kernel_rfl) rfl ?_
    refine RH.indexAddr T_ok hQ 3 (k := i) rfl (by kernel_rfl) rfl rfl rfl rfl rfl rfl rfl hc rfl ?_
    refine RH.pure T_ok hQ [4] (by kernel_rfl) rfl ?_
    refine RH.load T_ok hQ 5 (fun m' hm' => hx m' hm' 0 _ rfl) rfl (by kernel_rfl) rfl rfl rfl rfl ?_
    refine RH.pure T_ok hQ [6, 7] (by kernel_rfl) rfl ?_
    refine RH.indexAddr T_ok hQ 8 (k := i) rfl (by kernel_rfl) rfl rfl rfl rfl rfl rfl rfl hc rfl ?_
    refine RH.pure T_ok hQ [9] (by kernel_rfl) rfl ?_
    refine RH.load T_ok hQ 10 (fun m' hm' => hx m' hm' 1 _ rfl) rfl (by kernel_rfl) rfl rfl rfl rfl ?_
    refine RH.pure T_ok hQ [11, 12, 13] (by kernel_rfl) rfl ?_
    refine RH.indexAddr T_ok hQ 14 (k := i) rfl (by kernel_rfl) rfl rfl rfl rfl rfl rfl rfl hc rfl ?_
    refine RH.pure T_ok hQ [15] (by kernel_rfl) rfl ?_
    refine RH.load T_ok hQ 16 (fun m' hm' => hx m' hm' 0 _ rfl) rfl (by kernel_rfl) rfl rfl rfl rfl ?_
    refine RH.only 17 rfl (by kernel_rfl) (fun _ => ?_)
    refine RL.call (fi := []) (ca := []) rfl rfl rfl rfl (refvat_c m2 _ b (h'.ext0 hN.1) (by omega) x.c) ?_
    rintro _ mM ⟨rfl, hmM⟩
    subst hmM
    refine ⟨_, rfl, RL.nil (RH.cont hN.1 ?_)⟩
    refine RH.pure T_ok hQ [18] (by kernel_rfl) rfl ?_
    refine RH.eqv (v' := .int .u64 (min x.k (vat b x.c) : Nat)) (minK _ _) ?_
    refine RH.pure T_ok hQ [19] (by kernel_rfl) rfl ?_
    refine RH.eqv (v' := cV (f x)) (by rw [hfx]; rfl) ?_
    refine RH.only 20 rfl (by kernel_rfl) (fun _ => ?_)
    refine RL.buildSlice T_ok [.tmp 34] (us := [cV (f x)]) (cC (f x)) rfl rfl rfl rfl rfl rfl (by simp [cV, cC, Value.cells]) (by simp [cV, Value.cells]) rfl (fun b9 m9 hb9 hC9 => ⟨_, rfl, ?_⟩)
    have hE9 : Ext mM [] m9 := hC9.new (by omega)
    have hN9 : New m1 S m9 := ⟨hN.1.trans hE9 (by simp), hN.2⟩
    refine RL.nil (RH.cont hN9.1 ?_)
    refine RH.only 21 rfl (by kernel_rfl) (fun _ => ?_)
    refine RL.append T_ok (hO.ext hE9 (by simp)) (cC (f x)) (Src.of_blk (k := 1) (c := 1) hC9.blk rfl) rfl rfl rfl rfl rfl rfl (cC_one _) (by unfold maxLen; omega) (by show (_ + 1) * 16 ≤ _; omega) ?_
    intro v10 m10 S10 hO10 hE10 hF10
    have hN10 : New m1 S10 m10 := ⟨hN9.1.trans hE10 (fun k hk => .inr (hN9.ge k hk)), hN9.2.trans hF10 hN9.1.size⟩
    refine ⟨_, rfl, RL.nil (RH.cont hN10.1 ?_)⟩
    refine RH.pure T_ok hQ [22] (by kernel_rfl) rfl ?_
    refine RH.done (by kernel_rfl) (fun _ => ?_)
    repeat (first | with_reducible refine QN.block_normal ?_ | with_reducible refine QN.next ?_)
    repeat (first | with_reducible refine WP.seq ?_ | with_reducible refine WP.block ?_ | with_reducible refine WP.region ?_)
    refine RL.pure T_ok 2 rfl ?_
    refine RL.eqv (v' := .int .i64 ((i + 1 : Nat) : Int)) (congrArg _ (by rw [wrap_i64_in _ (by omega) (by omega)]; rfl)) ?_
    refine RL.auto T_ok rfl ?_
    refine RL.nil (QN.round (i + 1, v10, S10) (Sub.cons rfl (Sub.cons rfl (Sub.cons rfl (Sub.cons rfl Sub.nil)))) ⟨by show i + 1 ≤ _; omega, ?_, hN10⟩ (by show _ - (i + 1) < _ - i; omega))
    show Ev.Own m10 S10 60 2 v10 ((L.take (i + 1)).map f).length (((L.take (i + 1)).map f).flatMap cC)
    rw [htake, List.length_append, ← csC_app]
    simpa using hO10
  · replace hc : i = L.length := by have := of_decide_eq_false hc; simp only at this; omega
    subst hc
    rw [List.take_length] at hO
    have hlo : (L.map f).length = L.length := List.length_map _
    have hRo : Cs m2 [] w (L.map f) := hO.sl (by simp)
    have hE12 : Ext m [] m2 := hE1.trans hN.1 (by simp)
    refine WP.exit ?_; repeat (first | with_reducible refine QN.then_exit ?_ | with_reducible refine QN.block_exit ?_ | with_reducible refine QN.block_far rfl ?_ | with_reducible refine QN.block_normal ?_ | with_reducible refine QN.next ?_); repeat (first | with_reducible refine WP.seq ?_ | with_reducible refine WP.block ?_ | with_reducible refine WP.region ?_)
    refine RL.auto T_ok rfl ?_
    refine RL.call (fi := []) (ca := []) rfl rfl rfl rfl (refvclean_c m2 w _ hRo (by omega)) ?_
    rintro v9 m9 ⟨S9, hO9, hN9⟩
    refine ⟨_, rfl, ?_⟩
    refine RL.auto T_ok rfl ?_
    refine RL.nil ?_; repeat (first | with_reducible refine QN.block_normal ?_ | with_reducible refine QN.next ?_); repeat (first | with_reducible refine WP.seq ?_ | with_reducible refine WP.block ?_ | with_reducible refine WP.region ?_)
    refine WP.ret ?_; repeat (first | with_reducible refine QN.then_ret ?_ | with_reducible refine QN.block_ret ?_)
    exact QN.ret1 rfl rfl ⟨_, rfl, S9, hO9, hE12.trans hN9.1 (by simp), hN9.2.trans' hE12⟩
theorem refvjoin_c (m : World) (v u : Value) (a b : List Clk) (h : Cs m [] v a) (h' : Cs m [] u b) (hl : a.length + b.length < 100000000) : FnR Try.prog 23 [v, u] m fun r m' => VMade m r (vjoin a b) m' := by
  obtain ⟨A, c, rfl, _, _⟩ := h.shape
  obtain ⟨B, c', rfl, _, _⟩ := h'.shape
  refine FnE.enter ⟨_, Try.func23, by kernel_rfl, by kernel_rfl⟩ Try.func23 rfl rfl ?_
  repeat (first | with_reducible refine WP.seq ?_ | with_reducible refine WP.block ?_ | with_reducible refine WP.region ?_)
  refine RL.auto T_ok rfl ?_
  refine RL.nil ?_; repeat (first | with_reducible refine QN.block_normal ?_ | with_reducible refine QN.next ?_); repeat (first | with_reducible refine WP.seq ?_ | with_reducible refine WP.block ?_ | with_reducible refine WP.region ?_)
  refine RL.auto T_ok rfl ?_
  have hSa : Sl m [] 2 (.slice A a.length c) (a.flatMap cC) := h
  refine RL.append T_ok (Own.empty _ _ _ _) (a.flatMap cC) (Src.of_sl hSa) rfl rfl rfl rfl rfl (csC_len a) (csC_one a) (by unfold maxLen; omega) (by show (0 + _) * 16 ≤ _; omega) ?_
  intro v1 m1 S1 hO1 hE1 hF1
  refine ⟨_, rfl, ?_⟩
  have hSb : Sl m1 [] 2 (.slice B b.length c') (b.flatMap cC) := h'.ext0 hE1
  have hN1 : New m S1 m1 := ⟨hE1, hF1⟩
  refine RL.auto T_ok rfl ?_
  refine RL.append T_ok hO1 (b.flatMap cC) (Src.of_sl hSb) rfl rfl rfl rfl rfl (csC_len b) (csC_one b) (by unfold maxLen; omega) (by show (0 + _ + _) * 16 ≤ _; omega) ?_
  intro v2 m2 S2 hO2 hE2 hF2
  refine ⟨_, rfl, ?_⟩
  have hE12 : Ext m [] m2 := hE1.trans hE2 (fun k hk => .inr (hN1.ge k hk))
  have hR2 : Cs m2 [] v2 (a ++ b) := by
    have h9 := hO2.sl (M := []) (by simp)
    rw [List.nil_append, csC_app] at h9
    exact h9
  refine RL.call (fi := []) (ca := []) rfl rfl rfl rfl (refvclean_c m2 _ _ hR2 (by rw [List.length_append]; omega)) ?_
  rintro v3 m3 hM3
  refine ⟨_, rfl, ?_⟩
  refine RL.auto T_ok rfl ?_
  refine RL.nil ?_; repeat (first | with_reducible refine QN.block_normal ?_ | with_reducible refine QN.next ?_); repeat (first | with_reducible refine WP.seq ?_ | with_reducible refine WP.block ?_ | with_reducible refine WP.region ?_)
  refine WP.ret ?_; repeat (first | with_reducible refine QN.then_ret ?_ | with_reducible refine QN.block_ret ?_)
  exact QN.ret1 rfl rfl ⟨_, rfl, hM3.from_ hE12⟩
theorem refvmissing_c (m : World) (v u : Value) (a b : List Clk) (h : Cs m [] v a) (h' : Cs m [] u b) (hla : a.length < 100000000) (hlb : b.length < 100000000) (hl : b.length * (a.length + 1) < 100000000) : FnR Try.prog 25 [v, u] m fun r m' => Made m r (vmissing a b) m' := by
  refine FnE.enter ⟨_, Try.func25, by kernel_rfl, by kernel_rfl⟩ Try.func25 rfl rfl ?_
  repeat (first | with_reducible refine WP.seq ?_ | with_reducible refine WP.block ?_ | with_reducible refine WP.region ?_)
  refine RL.auto T_ok rfl ?_
  refine RL.nil ?_; repeat (first | with_reducible refine QN.block_normal ?_ | with_reducible refine QN.next ?_); repeat (first | with_reducible refine WP.seq ?_ | with_reducible refine WP.block ?_ | with_reducible refine WP.region ?_)
  refine RL.auto T_ok rfl ?_
  refine RL.call (fi := []) (ca := []) rfl rfl rfl rfl (refvranges_c m u b h' hlb) ?_
  rintro v1 m1 hM1
  refine ⟨_, rfl, ?_⟩
  refine RL.auto T_ok rfl ?_
  refine RL.call (fi := []) (ca := []) rfl rfl rfl rfl (refvranges_c m1 v a (h.ext0 hM1.ext) hla) ?_
  rintro v2 m2 hM2
  refine ⟨_, rfl, ?_⟩
  have l1 := vranges_len a
  have l2 := vranges_len b
  have hE2 := hM1.ext.trans hM2.ext (by simp)
  refine RL.call (fi := []) (ca := []) rfl rfl rfl rfl (refminus_c m2 _ _ _ _ (hM1.rs.ext0 hM2.ext) hM2.rs (by omega) (by omega) (Nat.lt_of_le_of_lt (Nat.mul_le_mul l2 (Nat.succ_le_succ l1)) hl)) ?_
  rintro v3 m3 hM3
  refine ⟨_, rfl, ?_⟩
  refine RL.auto T_ok rfl ?_
  refine RL.nil ?_; repeat (first | with_reducible refine QN.block_normal ?_ | with_reducible refine QN.next ?_); repeat (first | with_reducible refine WP.seq ?_ | with_reducible refine WP.block ?_ | with_reducible refine WP.region ?_)
  refine WP.ret ?_; repeat (first | with_reducible refine QN.then_ret ?_ | with_reducible refine QN.block_ret ?_)
  exact QN.ret1 rfl rfl ⟨_, rfl, hM3.from_ hE2⟩
theorem any_take {p : Clk → Bool} {L : List Clk} {i : Nat} (h : i < L.length) : (L.take (i + 1)).any p = ((L.take i).any p || p L[i]) := by
  rw [List.take_succ_eq_append_getElem h, List.any_append]; simp
theorem refvwithin_c (m : World) (v u : Value) (a b : List Clk) (h : Cs m [] v a) (h' : Cs m [] u b) (hla : a.length < 100000000) (hlb : b.length < 100000000) : FnR Try.prog 27 [v, u] m fun r m' => r = .bool (vwithin a b) ∧ Ext m [] m' := by
  obtain ⟨B, cB, rfl, _, _⟩ := h'.shape
  refine FnE.enter ⟨_, Try.func27, by kernel_rfl, by kernel_rfl⟩ Try.func27 rfl rfl ?_
  repeat (first | with_reducible refine WP.seq ?_ | with_reducible refine WP.block ?_ | with_reducible refine WP.region ?_)
  refine RL.auto T_ok rfl ?_
  refine RL.nil ?_; repeat (first | with_reducible refine QN.block_normal ?_ | with_reducible refine QN.next ?_); repeat (first | with_reducible refine WP.seq ?_ | with_reducible refine WP.block ?_ | with_reducible refine WP.region ?_)
  refine RL.auto T_ok rfl ?_
  refine RL.call (fi := []) (ca := []) rfl rfl rfl rfl (refvclean_c m v a h hla) ?_
  rintro v1 m1 hM
  refine ⟨_, rfl, ?_⟩
  have hE1 := hM.ext
  have hR := hM.cs
  have hln := vclean_len a
  have hdef : vwithin a b = !(vclean a).any fun x => decide (vat b x.c < x.k) := rfl
  rw [hdef]
  generalize vclean a = L at hM hR hln
  obtain ⟨A, c, rfl, _, _⟩ := hR.shape
  replace h' := h'.ext0 hE1
  clear hM
  refine RL.auto T_ok rfl ?_
  refine RL.nil ?_; repeat (first | with_reducible refine QN.block_normal ?_ | with_reducible refine QN.next ?_); repeat (first | with_reducible refine WP.seq ?_ | with_reducible refine WP.block ?_ | with_reducible refine WP.region ?_)
  refine RL.auto T_ok rfl ?_
  refine RL.nil ?_; repeat (first | with_reducible refine QN.block_normal ?_ | with_reducible refine QN.next ?_); repeat (first | with_reducible refine WP.seq ?_ | with_reducible refine WP.block ?_ | with_reducible refine WP.region ?_)
  refine (WP.loop (X := Nat) (fun i => [(1, .slice B b.length cB), (0, .slice A L.length c), (5, .int .i64 i)])
    (fun i m' => i ≤ L.length ∧ m' = m1 ∧ ((L.take i).any fun x => decide (vat b x.c < x.k)) = false) (fun i => L.length - i) 0
    (Sub.cons rfl (Sub.cons rfl (Sub.cons rfl Sub.nil))) ⟨by simp, rfl, by simp⟩ ?_)
  rintro i m2 ⟨hi, hm2, hany⟩
  subst hm2
  repeat (first | with_reducible refine WP.seq ?_ | with_reducible refine WP.block ?_ | with_reducible refine WP.region ?_)
  refine RL.auto T_ok rfl ?_
  refine RL.nil ?_; repeat (first | with_reducible refine QN.block_normal ?_ | with_reducible refine QN.next ?_); repeat (first | with_reducible refine WP.seq ?_ | with_reducible refine WP.block ?_ | with_reducible refine WP.region ?_)
  refine WP.cond rfl (fun hc => ?_) (fun hc => ?_)
  · replace hc : i < L.length := by have := of_decide_eq_true hc; omega
    obtain ⟨ad, rfl, hx⟩ := hR.cell i hc
    have hnx := any_take (p := fun x => decide (vat b x.c < x.k)) hc
    rw [hany, Bool.false_or] at hnx
    have hmem : L[i] ∈ L := List.getElem_mem _
    generalize L[i] = x at hx hnx hmem
    refine WP.skip ?_; repeat (first | with_reducible refine QN.block_normal ?_ | with_reducible refine QN.next ?_)
    refine WP.seq ?_
    refine WP.block ?_
    refine WP.seq ?_
    refine WP.drawQ (fun m' => m' = m2) [] (by kernel_rfl) rfl (by repeat (first | with_reducible exact PanicOk.body | with_reducible refine PanicOk.then_ ?_ | with_reducible refine PanicOk.block_ ?_)) (fun hQ => ?_)
    refine RH.pure T_ok hQ [0, 1, 2] (by kernel_rfl) rfl ?_
    refine RH.indexAddr T_ok hQ 3 (k := i) rfl (by kernel_rfl) rfl rfl rfl rfl rfl rfl rfl hc rfl ?_
    refine RH.pure T_ok hQ [4] (by kernel_rfl) rfl ?_
    refine RH.load T_ok hQ 5 (fun m' hm' => by rw [hm']; exact hx 0 _ rfl) rfl (by kernel_rfl) rfl rfl rfl rfl ?_
    refine RH.pure T_ok hQ [7, 8] (by kernel_rfl) rfl ?_
    refine RH.indexAddr T_ok hQ 9 (k := i) rfl (by kernel_rfl) rfl rfl rfl rfl rfl rfl rfl hc rfl ?_
    refine RH.pure T_ok hQ [10] (by kernel_rfl) rfl ?_
    refine RH.load T_ok hQ 11 (fun m' hm' => by rw [hm']; exact hx 1 _ rfl) rfl (by kernel_rfl) rfl rfl rfl rfl ?_
    refine RH.only 6 rfl (by kernel_rfl) (fun _ => ?_)
    refine RL.call (fi := []) (ca := []) rfl rfl rfl rfl (refvat_c m2 _ b h' (by omega) x.c) ?_
    rintro _ mM ⟨rfl, hmM⟩
    subst hmM
    refine ⟨_, rfl, RL.nil (RH.cont rfl ?_)⟩
    refine RH.pure T_ok hQ [12] (by kernel_rfl) rfl ?_
    refine RH.eqv (v' := .bool (decide (vat b x.c < x.k))) (congrArg _ (dlt _ _)) ?_
    refine RH.done (by kernel_rfl) (fun _ => ?_)
    repeat (first | with_reducible refine QN.block_normal ?_ | with_reducible refine QN.next ?_)
    refine WP.cond rfl (fun hp => ?_) (fun hp => ?_)
    · repeat (first | with_reducible refine WP.seq ?_ | with_reducible refine WP.block ?_ | with_reducible refine WP.region ?_)
      refine RL.auto T_ok rfl ?_
      refine RL.nil ?_; repeat (first | with_reducible refine QN.block_normal ?_ | with_reducible refine QN.next ?_); repeat (first | with_reducible refine WP.seq ?_ | with_reducible refine WP.block ?_ | with_reducible refine WP.region ?_)
      refine WP.ret ?_; repeat (first | with_reducible refine QN.then_ret ?_ | with_reducible refine QN.block_ret ?_)
      refine QN.ret1 rfl rfl ⟨_, rfl, congrArg _ ?_, hE1⟩
      rw [eq_comm, Bool.not_eq_false']
      exact List.any_eq_true.2 ⟨x, hmem, hp⟩
    · refine WP.skip ?_; repeat (first | with_reducible refine QN.block_normal ?_ | with_reducible refine QN.next ?_); repeat (first | with_reducible refine WP.seq ?_ | with_reducible refine WP.block ?_ | with_reducible refine WP.region ?_)
      refine RL.pure T_ok 2 rfl ?_
      refine RL.eqv (v' := .int .i64 ((i + 1 : Nat) : Int)) (congrArg _ (by rw [wrap_i64_in _ (by omega) (by omega)]; rfl)) ?_
      refine RL.auto T_ok rfl ?_
      exact RL.nil (QN.round (i + 1) (Sub.cons rfl (Sub.cons rfl (Sub.cons rfl Sub.nil))) ⟨by omega, rfl, by rw [hnx]; exact hp⟩ (by omega))
  · replace hc : i = L.length := by have := of_decide_eq_false hc; omega
    subst hc
    rw [List.take_length] at hany
    refine WP.exit ?_; repeat (first | with_reducible refine QN.then_exit ?_ | with_reducible refine QN.block_exit ?_ | with_reducible refine QN.block_far rfl ?_ | with_reducible refine QN.block_normal ?_ | with_reducible refine QN.next ?_); repeat (first | with_reducible refine WP.seq ?_ | with_reducible refine WP.block ?_ | with_reducible refine WP.region ?_)
    refine RL.auto T_ok rfl ?_
    refine RL.nil ?_; repeat (first | with_reducible refine QN.block_normal ?_ | with_reducible refine QN.next ?_); repeat (first | with_reducible refine WP.seq ?_ | with_reducible refine WP.block ?_ | with_reducible refine WP.region ?_)
    refine WP.ret ?_; repeat (first | with_reducible refine QN.then_ret ?_ | with_reducible refine QN.block_ret ?_)
    exact QN.ret1 rfl rfl ⟨_, rfl, by rw [hany]; rfl, hE1⟩
theorem rs_of_chg' {m m' : World} {b : Nat} (l : List Rng) (hC : Chg m b (.cells (l.flatMap rC).toArray 62 (0, 0)) m') (hn : l.length ≤ maxLen) : Rs m' [] (.slice (some ⟨b, 0, none⟩) l.length l.length) l := by
  have h := Sl.of_blk (M := []) (n := l.length) (c := l.length) (sz := 3) hC.blk (by simp) (by rw [rsC_len]; exact Nat.le_refl _) (Nat.le_refl _) hn
  rw [← rsC_len, List.take_length] at h
  exact h
theorem vknown_c (m : World) : FnR Try.prog 8 [] m fun r m' => r = .bool true ∧ Ext m [] m' := by
  refine FnE.enter ⟨_, Try.func8, by kernel_rfl, by kernel_rfl⟩ Try.func8 rfl rfl ?_
  repeat (first | with_reducible refine WP.seq ?_ | with_reducible refine WP.block ?_ | with_reducible refine WP.region ?_)
  refine RL.auto T_ok rfl ?_
  refine RL.nil ?_; repeat (first | with_reducible refine QN.block_normal ?_ | with_reducible refine QN.next ?_); repeat (first | with_reducible refine WP.seq ?_ | with_reducible refine WP.block ?_ | with_reducible refine WP.region ?_)
  refine RL.pure T_ok 1 rfl ?_
  refine RL.buildSlice T_ok [.tmp 4] (us := [cV ⟨1, 3⟩]) (([⟨1, 3⟩] : List Clk).flatMap cC) rfl rfl rfl rfl rfl rfl (by simp [cV, cC, Value.cells]) rfl rfl (fun b1 m1 hb1 hC1 => ⟨_, rfl, ?_⟩)
  have hE1 : Ext m [] m1 := hC1.new (by omega)
  have ha := cs_of_chg ([⟨1, 3⟩] : List Clk) hC1 (by unfold maxLen; simp)
  clear hC1
  refine RL.pure T_ok 2 rfl ?_
  refine RL.buildSlice T_ok [.tmp 6, .tmp 7] (us := [cV ⟨2, 1⟩, cV ⟨1, 5⟩]) (([⟨2, 1⟩, ⟨1, 5⟩] : List Clk).flatMap cC) rfl rfl rfl rfl rfl rfl (by simp [cV, cC, Value.cells]) rfl rfl (fun b2 m2 hb2 hC2 => ⟨_, rfl, ?_⟩)
  have hE2' : Ext m1 [] m2 := hC2.new (by omega)
  have hb := cs_of_chg ([⟨2, 1⟩, ⟨1, 5⟩] : List Clk) hC2 (by unfold maxLen; simp)
  clear hC2
  replace ha := ha.ext0 hE2'
  have hE2 := hE1.trans hE2' (by simp)
  clear hE2' hE1
  refine RL.auto T_ok rfl ?_
  refine RL.nil ?_; repeat (first | with_reducible refine QN.block_normal ?_ | with_reducible refine QN.next ?_); repeat (first | with_reducible refine WP.seq ?_ | with_reducible refine WP.block ?_ | with_reducible refine WP.region ?_)
  refine RL.auto T_ok rfl ?_
  refine RL.call (fi := []) (ca := []) rfl rfl rfl rfl (vmissing_c m2 _ _ _ _ ha hb (by simp) (by simp) (by simp)) ?_
  rintro v3 m3 hM3
  refine ⟨_, rfl, ?_⟩
  rw [show vmissing [⟨1, 3⟩] [⟨2, 1⟩, ⟨1, 5⟩] = [⟨1, 4, 6⟩, ⟨2, 1, 2⟩] from by decide] at hM3
  have hE3 := hE2.trans hM3.ext (by simp)
  replace ha := ha.ext0 hM3.ext
  replace hb := hb.ext0 hM3.ext
  have hR3 := hM3.rs
  clear hM3
  refine RL.auto T_ok rfl ?_
  refine RL.nil ?_; repeat (first | with_reducible refine QN.block_normal ?_ | with_reducible refine QN.next ?_); repeat (first | with_reducible refine WP.seq ?_ | with_reducible refine WP.block ?_ | with_reducible refine WP.region ?_)
  refine RL.auto T_ok rfl ?_
  refine RL.buildSlice T_ok [.tmp 13, .tmp 14] (us := [rV ⟨1, 4, 6⟩, rV ⟨2, 1, 2⟩]) (([⟨1, 4, 6⟩, ⟨2, 1, 2⟩] : List Rng).flatMap rC) rfl rfl rfl rfl rfl rfl (by simp [rV, rC, Value.cells]) rfl rfl (fun b4 m4 hb4 hC4 => ⟨_, rfl, ?_⟩)
  have hE4' : Ext m3 [] m4 := hC4.new (by omega)
  have hR4 := rs_of_chg' ([⟨1, 4, 6⟩, ⟨2, 1, 2⟩] : List Rng) hC4 (by unfold maxLen; simp)
  clear hC4
  replace ha := ha.ext0 hE4'
  replace hb := hb.ext0 hE4'
  replace hR3 := hR3.ext0 hE4'
  have hE4 := hE3.trans hE4' (by simp)
  refine RL.call (fi := []) (ca := []) rfl rfl rfl rfl (ranges_c m4 _ _ _ _ hR3 hR4 (by simp)) ?_
  rintro _ m5 ⟨rfl, h5⟩
  subst h5
  refine ⟨_, rfl, ?_⟩
  refine RL.eqv (v' := .bool true) (congrArg _ (by decide)) ?_
  refine RL.auto T_ok rfl ?_
  refine RL.call (fi := []) (ca := []) rfl rfl rfl rfl (vat_c m5 _ _ hb (by simp) 1) ?_
  rintro _ m6 ⟨rfl, hE6⟩
  refine ⟨_, rfl, ?_⟩
  refine RL.eqv (v' := .int .u64 5) (congrArg _ (by decide)) ?_
  replace ha := ha.ext0 hE6
  replace hb := hb.ext0 hE6
  replace hE6 := hE4.trans hE6 (by simp)
  refine RL.auto T_ok rfl ?_
  refine RL.call (fi := []) (ca := []) rfl rfl rfl rfl (vwithin_c m6 _ _ _ _ ha hb (by simp) (by simp)) ?_
  rintro _ m7 ⟨rfl, hE7⟩
  refine ⟨_, rfl, ?_⟩
  refine RL.eqv (v' := .bool true) (congrArg _ (by decide)) ?_
  replace ha := ha.ext0 hE7
  replace hb := hb.ext0 hE7
  replace hE7 := hE6.trans hE7 (by simp)
  refine RL.auto T_ok rfl ?_
  refine RL.call (fi := []) (ca := []) rfl rfl rfl rfl (vwithin_c m7 _ _ _ _ hb ha (by simp) (by simp)) ?_
  rintro _ m8 ⟨rfl, hE8⟩
  refine ⟨_, rfl, ?_⟩
  refine RL.eqv (v' := .bool false) (congrArg _ (by decide)) ?_
  replace ha := ha.ext0 hE8
  replace hb := hb.ext0 hE8
  replace hE8 := hE7.trans hE8 (by simp)
  refine RL.auto T_ok rfl ?_
  refine RL.call (fi := []) (ca := []) rfl rfl rfl rfl (vhas_c m8 _ _ hb (by simp) ⟨2, 1⟩) ?_
  rintro _ m9 ⟨rfl, hE9⟩
  refine ⟨_, rfl, ?_⟩
  refine RL.eqv (v' := .bool true) (congrArg _ (by decide)) ?_
  replace ha := ha.ext0 hE9
  replace hb := hb.ext0 hE9
  replace hE9 := hE8.trans hE9 (by simp)
  refine RL.auto T_ok rfl ?_
  refine RL.call (fi := []) (ca := []) rfl rfl rfl rfl (vhas_c m9 _ _ hb (by simp) ⟨2, 2⟩) ?_
  rintro _ m10 ⟨rfl, hE10⟩
  refine ⟨_, rfl, ?_⟩
  refine RL.eqv (v' := .bool false) (congrArg _ (by decide)) ?_
  replace ha := ha.ext0 hE10
  replace hb := hb.ext0 hE10
  replace hE10 := hE9.trans hE10 (by simp)
  refine RL.auto T_ok rfl ?_
  refine RL.call (fi := []) (ca := []) rfl rfl rfl rfl (vjoin_c m10 _ _ _ _ ha hb (by simp)) ?_
  rintro v11 m11 hM11
  refine ⟨_, rfl, ?_⟩
  rw [show vjoin [⟨1, 3⟩] [⟨2, 1⟩, ⟨1, 5⟩] = [⟨1, 5⟩, ⟨2, 1⟩] from by decide] at hM11
  obtain ⟨A11, c11, rfl, _, _⟩ := hM11.cs.shape
  replace ha := ha.ext0 hM11.ext
  replace hb := hb.ext0 hM11.ext
  have hE11 := hE10.trans hM11.ext (by simp)
  refine RL.auto T_ok rfl ?_
  refine RL.call (fi := []) (ca := []) rfl rfl rfl rfl (vmeet_c m11 _ _ _ _ ha hb (by simp) (by simp)) ?_
  rintro v12 m12 hM12
  refine ⟨_, rfl, ?_⟩
  rw [show vmeet [⟨1, 3⟩] [⟨2, 1⟩, ⟨1, 5⟩] = [⟨1, 3⟩] from by decide] at hM12
  obtain ⟨A12, c12, rfl, _, _⟩ := hM12.cs.shape
  refine RL.auto T_ok rfl ?_
  refine RL.nil ?_; repeat (first | with_reducible refine QN.block_normal ?_ | with_reducible refine QN.next ?_); repeat (first | with_reducible refine WP.seq ?_ | with_reducible refine WP.block ?_ | with_reducible refine WP.region ?_)
  refine WP.ret ?_; repeat (first | with_reducible refine QN.then_ret ?_ | with_reducible refine QN.block_ret ?_)
  exact QN.ret1 rfl rfl ⟨_, rfl, rfl, hE11.trans hM12.ext (by simp)⟩
end Go.Proofs.Ytmjpcaiehfimgaa
end

section
/- Clocks and ids that came in. -/
namespace Go.Proofs.Ytmjpcaiehfimgaa
open Go.ChangeShapes Go.WideShapes Go.ChangeAt Go.RowKit Go.Ev Go.Ids

theorem vu64_el {H : Type} {enc : TypeId × Value → H} {W : World} {sp : Nat → Bool} {hd : Bool} {base : Nat} (cs : List Value) (n : Nat) (y : DataW H × List MemPlace) (hy : DataW.trod enc Try.prog W base sp hd n 23 cs = some y) : ∃ k : Nat, cs = [Value.int .u64 k] := by
  obtain ⟨z, rfl, _, hw⟩ := DataW.trod_int (und 23 rfl rfl) hy
  have hz := int_wf hw (lo := 0) (hi := 18446744073709551615) (by decide) (by decide)
  exact ⟨z.toNat, by rw [Int.toNat_of_nonneg hz.1]⟩
theorem clock_el {H : Type} {enc : TypeId × Value → H} {W : World} {sp : Nat → Bool} {hd : Bool} {base : Nat} (cs : List Value) (n : Nat) (y : DataW H × List MemPlace) (hl : cs.length = 2) (hy : DataW.trod enc Try.prog W base sp hd n 60 cs = some y) : ∃ x : Clk, cs = cC x ∧ True := by
  obtain ⟨n1, ds, _, _, hf⟩ := open_stru (und 60 rfl rfl) hy
  obtain ⟨y0, h0, _⟩ := hf 0 _ _ _ rfl
  obtain ⟨y1, h1, _⟩ := hf 1 _ _ _ rfl
  obtain ⟨k0, e0⟩ := vu64_el _ _ _ h0
  obtain ⟨k1, e1⟩ := vu64_el _ _ _ h1
  match cs, hl with
  | [a, b], _ =>
    simp at e0 e1
    subst e0; subst e1
    exact ⟨⟨k0, k1⟩, rfl, trivial⟩
set_option maxRecDepth 100000 in
theorem open_cs {H : Type} {enc : TypeId × Value → H} {W : World} {b0 : Nat} {r : Reach} {v : Value} {d : DataW H} {ps : List MemPlace}
    (hok : Value.okWide Try.prog W r b0 22 v) (hfit : Fit Try.prog 22 d) (h : DataW.Trod enc Try.prog W 0 (fun _ => true) true 22 v d ps) : ∃ l, Cs W [] v l := by
  obtain ⟨fuel, h⟩ := h
  obtain ⟨u, l, hcs, hS, _⟩ := open_sl (α := Clk) cC (fun _ => True) (und 22 rfl rfl) (cellsOf 60 rfl rfl) hfit (fun cs n y hl hy _ => clock_el cs n y hl hy) h
  have := cells_toList_one hcs (okWide_slice (und 22 rfl rfl) hok)
  subst this
  exact ⟨l, hS⟩
set_option maxRecDepth 100000 in
theorem vopen_id {H : Type} {enc : TypeId × Value → H} {W : World} {v : Value} {d : DataW H} {ps : List MemPlace}
    (h : DataW.Trod enc Try.prog W 0 (fun _ => true) true 25 v d ps) : ∃ x, v = iV x := by
  obtain ⟨fuel, h⟩ := h
  obtain ⟨n1, ds, _, hl, hf⟩ := open_stru (und 25 rfl rfl) h
  rw [cellsOf 25 rfl (k := 2) rfl] at hl
  obtain ⟨y0, h0, _⟩ := hf 0 _ _ _ rfl
  obtain ⟨y1, h1, _⟩ := hf 1 _ _ _ rfl
  obtain ⟨k0, e0⟩ := vu64_el _ _ _ h0
  obtain ⟨k1, e1⟩ := vu64_el _ _ _ h1
  have key : v.cells.toList = [.int .u64 k0, .int .u64 k1] := by
    generalize v.cells.toList = cs at hl e0 e1
    match cs, hl with
    | [a, b], _ =>
      simp at e0 e1
      subst e0; subst e1
      rfl
  have hv : ∃ c, v = .agg c := by
    cases v
    case agg c => exact ⟨c, rfl⟩
    all_goals (simp [Value.cells] at key)
  obtain ⟨c, rfl⟩ := hv
  refine ⟨⟨k0, k1⟩, congrArg Value.agg ?_⟩
  have : c.toList = [.int .u64 k0, .int .u64 k1] := key
  apply Array.ext'
  rw [this]
  rfl
end Go.Proofs.Ytmjpcaiehfimgaa
end

section
/- Vectors read: the program's way, the reference's. -/
namespace Go.Proofs.Ytmjpcaiehfimgaa
open Go.RowKit Go.Ev Go.Ids

theorem qfail_c (m : World) (M : List Nat) (b : Nat) (l : List UInt8) (e k : Int) (h : QAt m M b l e) (hbM : b ∈ M) :
    FnR Try.prog 50 [.pointer (some ⟨b, 0, none⟩), .int .i64 k] m fun v m' => v = .tuple #[] ∧ QAt m' M b l (if e = 0 then k else e) ∧ Ext m [b] m' := by
  obtain ⟨v, hB, hS⟩ := h
  refine FnE.enter ⟨_, Try.func50, by kernel_rfl, by kernel_rfl⟩ Try.func50 rfl rfl ?_
  repeat (first | with_reducible refine WP.seq ?_ | with_reducible refine WP.block ?_ | with_reducible refine WP.region ?_)
  refine RL.auto T_ok rfl ?_
  refine RL.load T_ok rfl rfl rfl (hB.cell 1 rfl) rfl ?_
  refine RL.auto T_ok rfl ?_
  refine RL.nil ?_; repeat (first | with_reducible refine QN.block_normal ?_ | with_reducible refine QN.next ?_); repeat (first | with_reducible refine WP.seq ?_ | with_reducible refine WP.block ?_ | with_reducible refine WP.region ?_)
  refine WP.cond rfl (fun hc => ?_) (fun hc => ?_)
  · have he : e = 0 := by simpa using hc
    subst he
    repeat (first | with_reducible refine WP.seq ?_ | with_reducible refine WP.block ?_ | with_reducible refine WP.region ?_)
    refine RL.auto T_ok rfl ?_
    refine RL.store T_ok hB (i := 1) (v := .int .i64 k) (by simp) rfl rfl rfl rfl rfl rfl ?_
    intro m1 hC
    refine RL.nil (QN.end0 rfl ⟨_, rfl, rfl, ⟨v, hC.blk, Sl.ext hS (hC.ext.mono (by simp [hbM])) (fun _ hk => .inl hk) (by omega)⟩, hC.ext⟩)
  · have he : ¬ e = 0 := by simpa using hc
    refine WP.skip (QN.end0 rfl ⟨_, rfl, rfl, ?_, Ext.refl _ _⟩)
    rw [if_neg he]; exact ⟨v, hB, hS⟩
/-- What stands between two clocks that are read. -/
structure RdI (At : World → List Nat → Nat → List UInt8 → Int → Prop) (tot : List Clk × List UInt8 × Int) (m : World) (M : List Nat) (b n last : Nat) (ov : Value) (S : List Nat) (out : List Clk) (l : List UInt8) (e : Int) (m' : World) : Prop where
  rest : vrdL n last out (l, e) = tot
  room : out.length + n ≤ 16384
  l64 : last < 18446744073709551616
  lmax : e = 0 → last ≤ 9007199254740991
  own : Ev.Own m' S 60 2 ov out.length (out.flatMap cC)
  at_ : At m' (S ++ M) b l e
  ext : Ext m [b] m'
  fp : FpNew m [] S
/-- What a vector's reading leaves. -/
def VRPost (At : World → List Nat → Nat → List UInt8 → Int → Prop) (m : World) (M : List Nat) (b : Nat) (t : List Clk × List UInt8 × Int) (r : Value) (m' : World) : Prop :=
  ∃ S', Ev.Own m' S' 60 2 r t.1.length (t.1.flatMap cC) ∧ At m' (S' ++ M) b t.2.1 t.2.2 ∧ Ext m [b] m' ∧ FpNew m [] S'
theorem err_badIf (p : Bool) (s : List UInt8 × Int) : badIf p s = (s.1, if s.2 = 0 ∧ p = true then 11 else s.2) := by
  unfold badIf
  split <;> rfl
set_option maxRecDepth 10000 in
set_option maxHeartbeats 1000000 in
theorem vread_c (m : World) (M : List Nat) (b : Nat) (l : List UInt8) (e : Int) (h : RAt m M b l e) (hbM : b ∈ M) :
    FnR Try.prog 29 [.pointer (some ⟨b, 0, none⟩)] m fun r m' => VRPost RAt m M b (vrd (l, e)) r m' := by
  have hblt := h.lt
  refine FnE.enter ⟨_, Try.func29, by kernel_rfl, by kernel_rfl⟩ Try.func29 rfl rfl ?_
  repeat (first | with_reducible refine WP.seq ?_ | with_reducible refine WP.block ?_ | with_reducible refine WP.region ?_)
  refine RL.auto T_ok rfl ?_
  refine RL.nil ?_; repeat (first | with_reducible refine QN.block_normal ?_ | with_reducible refine QN.next ?_); repeat (first | with_reducible refine WP.seq ?_ | with_reducible refine WP.block ?_ | with_reducible refine WP.region ?_)
  have hr0 : gR 0 e l (rdU 16384 0 0 l) = rdN 16384 (l, e) := rfl
  have hle0 := rdN_le 16384 (l, e)
  have hvrd : vrd (l, e) = (if (vrdL (rdN 16384 (l, e)).1 0 [] (rdN 16384 (l, e)).2).2.2 = 0 then (vrdL (rdN 16384 (l, e)).1 0 [] (rdN 16384 (l, e)).2).1 else [], (vrdL (rdN 16384 (l, e)).1 0 [] (rdN 16384 (l, e)).2).2) := rfl
  rw [hvrd]
  generalize rdN 16384 (l, e) = r0 at hr0 hle0 ⊢
  obtain ⟨n0, l0, e0⟩ := r0
  simp only at hle0 ⊢
  clear hvrd
  obtain ⟨tot, htot⟩ : ∃ tot, vrdL n0 0 [] (l0, e0) = tot := ⟨_, rfl⟩
  rw [htot]
  refine RL.auto T_ok rfl ?_
  refine RL.nil ?_; repeat (first | with_reducible refine QN.block_normal ?_ | with_reducible refine QN.next ?_); repeat (first | with_reducible refine WP.seq ?_ | with_reducible refine WP.block ?_ | with_reducible refine WP.region ?_)
  refine RL.auto T_ok rfl ?_
  refine RL.nil ?_; repeat (first | with_reducible refine QN.block_normal ?_ | with_reducible refine QN.next ?_)
  refine WP.cut (X := Value × List Nat) (fun q => [(0, .pointer (some ⟨b, 0, none⟩)), (3, q.1)])
    (fun q m' => Ev.Own m' q.2 60 2 q.1 tot.1.length (tot.1.flatMap cC) ∧ RAt m' (q.2 ++ M) b tot.2.1 tot.2.2 ∧ Ext m [b] m' ∧ FpNew m [] q.2) ?_ ?_
  · repeat (first | with_reducible refine WP.seq ?_ | with_reducible refine WP.block ?_ | with_reducible refine WP.region ?_)
    refine RL.auto T_ok rfl ?_
    refine RL.call (fi := []) (ca := []) rfl rfl rfl rfl (ruint_c m M b l e h hbM 16384) ?_
    rintro _ m1 ⟨rfl, hR1, hE1⟩
    refine ⟨_, rfl, ?_⟩
    rw [hr0] at hR1 ⊢
    simp only at hR1 ⊢
    refine RL.auto T_ok rfl ?_
    refine RL.nil ?_; repeat (first | with_reducible refine QN.block_normal ?_ | with_reducible refine QN.next ?_)
    refine WP.block ?_
    refine (WP.loop (X := Nat × Nat × Value × List Nat × List Clk × List UInt8 × Int) (fun q => [(0, .pointer (some ⟨b, 0, none⟩)), (3, q.2.2.1), (4, .int .u64 q.2.1), (5, .int .u64 q.1)])
      (fun q m' => RdI RAt tot m M b q.1 q.2.1 q.2.2.1 q.2.2.2.1 q.2.2.2.2.1 q.2.2.2.2.2.1 q.2.2.2.2.2.2 m') (fun q => q.1) (n0, 0, .slice none 0 0, [], [], l0, e0)
      (Sub.cons rfl (Sub.cons rfl (Sub.cons rfl (Sub.cons rfl Sub.nil)))) ⟨htot, by show 0 + n0 ≤ 16384; omega, by show 0 < 18446744073709551616; omega, (fun _ => by show 0 ≤ _; omega), Own.empty _ _ _ _, hR1, hE1, FpNew.nil _ _⟩ ?_)
    rintro ⟨n1, last, ov, S, out, l1, e1⟩ m2 hI
    simp only at hI
    obtain ⟨hrest, hroom, hl64, hlmax, hO, hR, hE, hF⟩ := hI
    have hbS : b ∉ S := fun hh => by
      rcases hF b hh with h9 | h9
      · cases h9
      · omega
    have hbSM : b ∈ S ++ M := List.mem_append_right _ hbM
    repeat (first | with_reducible refine WP.seq ?_ | with_reducible refine WP.block ?_ | with_reducible refine WP.region ?_)
    refine RL.pure T_ok 2 rfl ?_
    by_cases hn : n1 = 0
    · subst hn
      refine RL.eqv (v' := .bool false) (congrArg _ (by simp)) ?_
      refine RL.auto T_ok rfl ?_
      refine RL.nil ?_; repeat (first | with_reducible refine QN.block_normal ?_ | with_reducible refine QN.next ?_)
      refine WP.condF rfl ?_
      refine WP.exit ?_
      repeat (first | with_reducible refine QN.then_exit ?_ | with_reducible refine QN.block_exit ?_ | with_reducible refine QN.block_normal ?_)
      have ht : tot = (out, l1, e1) := hrest.symm
      subst ht
      exact QN.cutEnd (ov, S) (Sub.cons rfl (Sub.cons rfl Sub.nil)) ⟨hO, hR, hE, hF⟩
    obtain ⟨n, rfl⟩ : ∃ n, n1 = n + 1 := ⟨n1 - 1, by omega⟩
    refine RL.eqv (v' := .bool true) (congrArg _ (decide_eq_true (by simp only; omega))) ?_
    refine RL.auto T_ok rfl ?_
    refine RL.call (fi := []) (ca := []) rfl rfl rfl rfl (err_c m2 (S ++ M) b _ _ hR) ?_
    rintro _ mE ⟨rfl, hmE⟩
    subst hmE
    refine ⟨_, rfl, ?_⟩
    refine RL.pure T_ok 1 rfl ?_
    by_cases he : e1 = 0
    rotate_left
    · refine RL.eqv (v' := .bool false) (congrArg _ (by rw [beq_eq_false_iff_ne]; exact he)) ?_
      refine RL.auto T_ok rfl ?_
      refine RL.nil ?_; repeat (first | with_reducible refine QN.block_normal ?_ | with_reducible refine QN.next ?_)
      refine WP.condF rfl ?_
      refine WP.exit ?_
      repeat (first | with_reducible refine QN.then_exit ?_ | with_reducible refine QN.block_exit ?_ | with_reducible refine QN.block_normal ?_)
      have ht : tot = (out, l1, e1) := by rw [← hrest]; exact vrdL_off he
      subst ht
      exact QN.cutEnd (ov, S) (Sub.cons rfl (Sub.cons rfl Sub.nil)) ⟨hO, hR, hE, hF⟩
    subst he
    rw [vrdL_step rfl] at hrest
    have hlm := hlmax rfl
    refine RL.eqv (v' := .bool true) (congrArg _ (by rfl)) ?_
    refine RL.auto T_ok rfl ?_
    refine RL.nil ?_; repeat (first | with_reducible refine QN.block_normal ?_ | with_reducible refine QN.next ?_)
    refine WP.condT rfl ?_
    refine WP.skip ?_; repeat (first | with_reducible refine QN.block_normal ?_ | with_reducible refine QN.next ?_); repeat (first | with_reducible refine WP.seq ?_ | with_reducible refine WP.block ?_ | with_reducible refine WP.region ?_)
    refine RL.auto T_ok rfl ?_
    refine RL.call (fi := []) (ca := []) rfl rfl rfl rfl (ruint_c mE (S ++ M) b l1 0 hR hbSM 18446744073709551615) ?_
    rintro _ m3 ⟨rfl, hR3, hE3⟩
    refine ⟨_, rfl, ?_⟩
    have hr1 : gR 0 (0 : Int) l1 (rdU 18446744073709551615 0 0 l1) = rdN 18446744073709551615 (l1, 0) := rfl
    have hm1 := rdN_le 18446744073709551615 (l1, 0)
    rw [hr1] at hR3 ⊢
    generalize rdN 18446744073709551615 (l1, (0 : Int)) = r1 at hrest hR3 hm1 ⊢
    obtain ⟨more, l3, e3⟩ := r1
    simp only at hrest hR3 hm1 ⊢
    have hO3 := hO.ext hE3 (fun k hk hh => hbS (by have h9 : k = b := (by simpa using hh); exact h9 ▸ hk))
    replace hE3 := hE.trans hE3 (fun k hk => .inl hk)
    clear hO hR hE
    refine RL.auto T_ok rfl ?_
    refine RL.nil ?_; repeat (first | with_reducible refine QN.block_normal ?_ | with_reducible refine QN.next ?_)
    refine WP.cut (X := Unit) (fun _ => [(0, .pointer (some ⟨b, 0, none⟩)), (3, ov), (4, .int .u64 last), (5, .int .u64 ((n + 1 : Nat) : Int)), (6, .int .u64 more)]) (fun _ m' => RAt m' (S ++ M) b (badIf (wrongStep last more) (l3, e3)).1 (badIf (wrongStep last more) (l3, e3)).2 ∧ Ext m3 [b] m') ?_ ?_
    · refine WP.cut (X := Bool) (fun q => [(0, .pointer (some ⟨b, 0, none⟩)), (3, ov), (4, .int .u64 last), (5, .int .u64 ((n + 1 : Nat) : Int)), (6, .int .u64 more), (33, .bool q)]) (fun q m' => m' = m3 ∧ q = (decide (e3 = 0) && wrongStep last more)) ?_ ?_
      · refine WP.region ?_
        refine RL.auto T_ok rfl ?_
        refine RL.call (fi := []) (ca := []) rfl rfl rfl rfl (err_c m3 (S ++ M) b _ _ hR3) ?_
        rintro _ mE ⟨rfl, hmE⟩
        subst hmE
        refine ⟨_, rfl, ?_⟩
        refine RL.pure T_ok 1 rfl ?_
        by_cases he3 : e3 = 0
        rotate_left
        · refine RL.eqv (v' := .bool false) (congrArg _ (by rw [beq_eq_false_iff_ne]; exact he3)) ?_
          refine RL.auto T_ok rfl ?_
          exact RL.nil (QN.cutEnd false (Sub.cons rfl (Sub.cons rfl (Sub.cons rfl (Sub.cons rfl (Sub.cons rfl (Sub.cons rfl Sub.nil)))))) ⟨rfl, by simp [he3]⟩)
        refine RL.eqv (v' := .bool true) (congrArg _ (by rw [beq_iff_eq]; exact he3)) ?_
        refine RL.pure T_ok 3 rfl ?_
        by_cases hmz : more = 0
        · refine RL.eqv (v' := .bool true) (congrArg _ (by rw [hmz]; rfl)) ?_
          refine RL.auto T_ok rfl ?_
          exact RL.nil (QN.cutEnd true (Sub.cons rfl (Sub.cons rfl (Sub.cons rfl (Sub.cons rfl (Sub.cons rfl (Sub.cons rfl Sub.nil)))))) ⟨rfl, by simp [he3, wrongStep, hmz]⟩)
        refine RL.eqv (v' := .bool false) (congrArg _ (by rw [beq_eq_false_iff_ne]; omega)) ?_
        refine RL.pure T_ok 4 rfl ?_
        refine RL.eqv (v' := .int .u64 ((9007199254740991 - last : Nat) : Int)) (congrArg _ (by rw [wrap_u64_in _ (by omega) (by omega)]; omega)) ?_
        refine RL.pure T_ok 1 rfl ?_
        refine RL.eqv (v' := .bool (decide (9007199254740991 - last < more))) (congrArg _ (by rw [decide_eq_decide]; omega)) ?_
        refine RL.auto T_ok rfl ?_
        exact RL.nil (QN.cutEnd (decide (9007199254740991 - last < more)) (Sub.cons rfl (Sub.cons rfl (Sub.cons rfl (Sub.cons rfl (Sub.cons rfl (Sub.cons rfl Sub.nil)))))) ⟨rfl, by simp [he3, wrongStep, hmz]⟩)
      rintro q mq ⟨rfl, hq⟩
      refine WP.cond rfl (fun hp => ?_) (fun hp => ?_)
      · rw [hp] at hq
        have hq2 := hq.symm
        rw [Bool.and_eq_true, decide_eq_true_eq] at hq2
        rw [badIf_yes (s := (l3, e3)) ⟨hq2.1, hq2.2⟩]
        repeat (first | with_reducible refine WP.seq ?_ | with_reducible refine WP.block ?_ | with_reducible refine WP.region ?_)
        refine RL.auto T_ok rfl ?_
        refine RL.call (fi := []) (ca := []) rfl rfl rfl rfl (bad_c mq (S ++ M) b l3 e3 11 hR3 hbSM) ?_
        rintro _ m4 ⟨rfl, hR4, hE4⟩
        refine ⟨_, rfl, ?_⟩
        rw [if_pos hq2.1] at hR4
        exact RL.nil (QN.cutEnd () (Sub.cons rfl (Sub.cons rfl (Sub.cons rfl (Sub.cons rfl (Sub.cons rfl Sub.nil))))) ⟨hR4, hE4⟩)
      · rw [hp] at hq
        rw [badIf_no (s := (l3, e3)) (fun hh => by rw [hh.2, decide_eq_true hh.1] at hq; cases hq)]
        refine WP.skip ?_
        exact QN.cutEnd () (Sub.cons rfl (Sub.cons rfl (Sub.cons rfl (Sub.cons rfl (Sub.cons rfl Sub.nil))))) ⟨hR3, Ext.refl _ _⟩
    rintro _ m4 ⟨hR4, hE4⟩
    have hok := @badIf_ok (wrongStep last more) (l3, e3)
    have hO4 := hO3.ext hE4 (fun k hk hh => hbS (by have h9 : k = b := (by simpa using hh); exact h9 ▸ hk))
    replace hE4 := hE3.trans hE4 (fun k hk => .inl hk)
    clear hR3 hO3 hE3
    generalize badIf (wrongStep last more) (l3, e3) = s1 at hrest hR4 hok
    obtain ⟨l4, e4⟩ := s1
    simp only at hR4 hok
    repeat (first | with_reducible refine WP.seq ?_ | with_reducible refine WP.block ?_ | with_reducible refine WP.region ?_)
    refine RL.auto T_ok rfl ?_
    refine RL.call (fi := []) (ca := []) rfl rfl rfl rfl (ruint_c m4 (S ++ M) b l4 e4 hR4 hbSM 9007199254740991) ?_
    rintro _ m5 ⟨rfl, hR5, hE5⟩
    refine ⟨_, rfl, ?_⟩
    have hr2 : gR 0 e4 l4 (rdU 9007199254740991 0 0 l4) = rdN 9007199254740991 (l4, e4) := rfl
    have hm2 := rdN_le 9007199254740991 (l4, e4)
    have herr : e4 ≠ 0 → (rdN 9007199254740991 (l4, e4)).2.2 = e4 := fun hh => by
      have : rdN 9007199254740991 (l4, e4) = (0, l4, e4) := gR_off hh
      rw [this]
    rw [hr2] at hR5 ⊢
    generalize rdN 9007199254740991 (l4, e4) = r2 at hrest hR5 hm2 herr ⊢
    obtain ⟨ck, l5, e5⟩ := r2
    simp only at hrest hR5 hm2 herr ⊢
    have hO5 := hO4.ext hE5 (fun k hk hh => hbS (by have h9 : k = b := (by simpa using hh); exact h9 ▸ hk))
    replace hE5 := hE4.trans hE5 (fun k hk => .inl hk)
    clear hR4 hO4 hE4
    refine RL.auto T_ok rfl ?_
    refine RL.nil ?_; repeat (first | with_reducible refine QN.block_normal ?_ | with_reducible refine QN.next ?_)
    refine WP.cut (X := Unit) (fun _ => [(0, .pointer (some ⟨b, 0, none⟩)), (3, ov), (4, .int .u64 last), (5, .int .u64 ((n + 1 : Nat) : Int)), (6, .int .u64 more), (7, .int .u64 ck)]) (fun _ m' => RAt m' (S ++ M) b (badIf (decide (ck = 0)) (l5, e5)).1 (badIf (decide (ck = 0)) (l5, e5)).2 ∧ Ext m5 [b] m') ?_ ?_
    · refine WP.cut (X := Bool) (fun q => [(0, .pointer (some ⟨b, 0, none⟩)), (3, ov), (4, .int .u64 last), (5, .int .u64 ((n + 1 : Nat) : Int)), (6, .int .u64 more), (7, .int .u64 ck), (44, .bool q)]) (fun q m' => m' = m5 ∧ q = (decide (e5 = 0) && decide (ck = 0))) ?_ ?_
      · refine WP.region ?_
        refine RL.auto T_ok rfl ?_
        refine RL.call (fi := []) (ca := []) rfl rfl rfl rfl (err_c m5 (S ++ M) b _ _ hR5) ?_
        rintro _ mE ⟨rfl, hmE⟩
        subst hmE
        refine ⟨_, rfl, ?_⟩
        refine RL.pure T_ok 1 rfl ?_
        by_cases he5 : e5 = 0
        rotate_left
        · refine RL.eqv (v' := .bool false) (congrArg _ (by rw [beq_eq_false_iff_ne]; exact he5)) ?_
          refine RL.auto T_ok rfl ?_
          exact RL.nil (QN.cutEnd false (Sub.cons rfl (Sub.cons rfl (Sub.cons rfl (Sub.cons rfl (Sub.cons rfl (Sub.cons rfl (Sub.cons rfl Sub.nil))))))) ⟨rfl, by simp [he5]⟩)
        refine RL.eqv (v' := .bool true) (congrArg _ (by rw [beq_iff_eq]; exact he5)) ?_
        refine RL.pure T_ok 3 rfl ?_
        refine RL.eqv (v' := .bool (decide (ck = 0))) (congrArg _ (deq ck 0)) ?_
        refine RL.auto T_ok rfl ?_
        exact RL.nil (QN.cutEnd (decide (ck = 0)) (Sub.cons rfl (Sub.cons rfl (Sub.cons rfl (Sub.cons rfl (Sub.cons rfl (Sub.cons rfl (Sub.cons rfl Sub.nil))))))) ⟨rfl, by simp [he5]⟩)
      rintro q mq ⟨rfl, hq⟩
      refine WP.cond rfl (fun hp => ?_) (fun hp => ?_)
      · rw [hp] at hq
        have hq2 := hq.symm
        rw [Bool.and_eq_true, decide_eq_true_eq] at hq2
        rw [badIf_yes (s := (l5, e5)) ⟨hq2.1, hq2.2⟩]
        repeat (first | with_reducible refine WP.seq ?_ | with_reducible refine WP.block ?_ | with_reducible refine WP.region ?_)
        refine RL.auto T_ok rfl ?_
        refine RL.call (fi := []) (ca := []) rfl rfl rfl rfl (bad_c mq (S ++ M) b l5 e5 11 hR5 hbSM) ?_
        rintro _ m6 ⟨rfl, hR6, hE6⟩
        refine ⟨_, rfl, ?_⟩
        rw [if_pos hq2.1] at hR6
        exact RL.nil (QN.cutEnd () (Sub.cons rfl (Sub.cons rfl (Sub.cons rfl (Sub.cons rfl (Sub.cons rfl (Sub.cons rfl Sub.nil)))))) ⟨hR6, hE6⟩)
      · rw [hp] at hq
        rw [badIf_no (s := (l5, e5)) (fun hh => by rw [hh.2, decide_eq_true hh.1] at hq; cases hq)]
        refine WP.skip ?_
        exact QN.cutEnd () (Sub.cons rfl (Sub.cons rfl (Sub.cons rfl (Sub.cons rfl (Sub.cons rfl (Sub.cons rfl Sub.nil)))))) ⟨hR5, Ext.refl _ _⟩
    rintro _ m6 ⟨hR6, hE6⟩
    have hok2 := @badIf_ok (decide (ck = 0)) (l5, e5)
    have hO6 := hO5.ext hE6 (fun k hk hh => hbS (by have h9 : k = b := (by simpa using hh); exact h9 ▸ hk))
    replace hE6 := hE5.trans hE6 (fun k hk => .inl hk)
    clear hR5 hO5 hE5
    generalize badIf (decide (ck = 0)) (l5, e5) = s2 at hrest hR6 hok2
    obtain ⟨l6, e6⟩ := s2
    simp only at hR6 hok2
    have hlast : e6 = 0 → (last + more) % 18446744073709551616 ≤ 9007199254740991 := fun h6 => by
      have h5 := (hok2 h6).1
      have h4 : e4 = 0 := by
        by_cases hh : e4 = 0
        · exact hh
        · have := herr hh; omega
      have h3 := (hok h4).2
      have h3 := of_decide_eq_false h3
      omega
    have hl64' : (last + more) % 18446744073709551616 < 18446744073709551616 := Nat.mod_lt _ (by omega)
    repeat (first | with_reducible refine WP.seq ?_ | with_reducible refine WP.block ?_ | with_reducible refine WP.region ?_)
    refine RL.pure T_ok 3 rfl ?_
    refine RL.eqv (v' := .int .u64 (((last + more) % 18446744073709551616 : Nat) : Int)) (congrArg _ (by rw [wrap_u64]; omega)) ?_
    generalize (last + more) % 18446744073709551616 = last2 at hrest hlast hl64' ⊢
    refine RL.auto T_ok rfl ?_
    refine RL.nil ?_; repeat (first | with_reducible refine QN.block_normal ?_ | with_reducible refine QN.next ?_); repeat (first | with_reducible refine WP.seq ?_ | with_reducible refine WP.block ?_ | with_reducible refine WP.region ?_)
    refine RL.pure T_ok 4 rfl ?_
    refine RL.append1 T_ok [.tmp 53] hO6 (us := [cV ⟨last2, ck⟩]) (cC ⟨last2, ck⟩) rfl rfl rfl rfl rfl rfl rfl rfl rfl (by simp [cV, cC, Value.cells]) (by simp [cV, Value.cells]) (cC_one _) (by unfold maxLen; omega) (by show (_ + 1) * 16 ≤ _; omega) ?_
    intro v7 m7 S7 hO7 hE7 hF7
    refine ⟨_, rfl, ?_⟩
    have hge : ∀ k ∈ S, m.heap.size ≤ k := fun k hk => by
      rcases hF k hk with h9 | h9
      · cases h9
      · exact h9
    have hR7 : RAt m7 (S7 ++ M) b l6 e6 := hR6.ext hE7 hbS (fun k hk _ => List.mem_append_left _ hk) (fun k hk => by
      rcases List.mem_append.1 hk with h9 | h9
      · rcases hF7 k h9 with h8 | h8
        · exact .inl (List.mem_append_left _ h8)
        · exact .inr h8
      · exact .inl (List.mem_append_right _ h9))
    have hE7' := hE6.trans hE7 (fun k hk => .inr (hge k hk))
    have hF7' : FpNew m [] S7 := fun k hk => by
      rcases hF7 k hk with h8 | h8
      · exact .inr (hge k h8)
      · exact .inr (Nat.le_trans hE6.size h8)
    refine RL.auto T_ok rfl ?_
    refine RL.nil ?_; repeat (first | with_reducible refine QN.block_normal ?_ | with_reducible refine QN.next ?_); repeat (first | with_reducible refine WP.seq ?_ | with_reducible refine WP.block ?_ | with_reducible refine WP.region ?_)
    refine RL.pure T_ok 2 rfl ?_
    refine RL.eqv (v' := .int .u64 ((n : Nat) : Int)) (congrArg _ (by rw [wrap_u64_in _ (by omega) (by omega)]; omega)) ?_
    refine RL.auto T_ok rfl ?_
    refine RL.nil (QN.round (n, last2, v7, S7, out ++ [⟨last2, ck⟩], l6, e6) (Sub.cons rfl (Sub.cons rfl (Sub.cons rfl (Sub.cons rfl Sub.nil)))) ⟨hrest, by simp; omega, hl64', hlast, ?_, hR7, hE7', hF7'⟩ (by show n < n + 1; omega))
    rw [List.length_append, ← csC_app]
    simpa using hO7
  rintro ⟨ov, S⟩ m2 ⟨hO, hR, hE, hF⟩
  simp only at hO hR hF
  have hbS : b ∉ S := fun hh => by
    rcases hF b hh with h9 | h9
    · cases h9
    · omega
  obtain ⟨out, l2, e2⟩ := tot
  simp only at hO hR ⊢
  repeat (first | with_reducible refine WP.seq ?_ | with_reducible refine WP.block ?_ | with_reducible refine WP.region ?_)
  refine RL.auto T_ok rfl ?_
  refine RL.call (fi := []) (ca := []) rfl rfl rfl rfl (err_c m2 (S ++ M) b _ _ hR) ?_
  rintro _ mE ⟨rfl, hmE⟩
  subst hmE
  refine ⟨_, rfl, ?_⟩
  refine RL.pure T_ok 1 rfl ?_
  by_cases he : e2 = 0
  · refine RL.eqv (v' := .bool false) (congrArg _ (by simp [he])) ?_
    rw [if_pos he]
    refine RL.nil ?_; repeat (first | with_reducible refine QN.block_normal ?_ | with_reducible refine QN.next ?_); repeat (first | with_reducible refine WP.seq ?_ | with_reducible refine WP.block ?_ | with_reducible refine WP.region ?_)
    refine WP.condF rfl ?_
    refine WP.skip ?_; repeat (first | with_reducible refine QN.block_normal ?_ | with_reducible refine QN.next ?_); repeat (first | with_reducible refine WP.seq ?_ | with_reducible refine WP.block ?_ | with_reducible refine WP.region ?_)
    refine RL.auto T_ok rfl ?_
    refine RL.nil ?_; repeat (first | with_reducible refine QN.block_normal ?_ | with_reducible refine QN.next ?_); repeat (first | with_reducible refine WP.seq ?_ | with_reducible refine WP.block ?_ | with_reducible refine WP.region ?_)
    refine WP.ret ?_; repeat (first | with_reducible refine QN.then_ret ?_ | with_reducible refine QN.block_ret ?_)
    exact QN.ret1 rfl rfl ⟨_, rfl, S, hO, hR, hE, hF⟩
  · refine RL.eqv (v' := .bool true) (congrArg _ (by simp [he])) ?_
    rw [if_neg he]
    refine RL.nil ?_; repeat (first | with_reducible refine QN.block_normal ?_ | with_reducible refine QN.next ?_); repeat (first | with_reducible refine WP.seq ?_ | with_reducible refine WP.block ?_ | with_reducible refine WP.region ?_)
    refine WP.condT rfl ?_
    repeat (first | with_reducible refine WP.seq ?_ | with_reducible refine WP.block ?_ | with_reducible refine WP.region ?_)
    refine RL.auto T_ok rfl ?_
    refine RL.nil ?_; repeat (first | with_reducible refine QN.block_normal ?_ | with_reducible refine QN.next ?_); repeat (first | with_reducible refine WP.seq ?_ | with_reducible refine WP.block ?_ | with_reducible refine WP.region ?_)
    refine WP.ret ?_; repeat (first | with_reducible refine QN.then_ret ?_ | with_reducible refine QN.block_ret ?_)
    exact QN.ret1 rfl rfl ⟨_, rfl, [], Own.empty _ _ _ _, hR.ext (Ext.refl _ []) (by simp) (by simp) (fun k hk => .inl (List.mem_append_right _ (by simpa using hk))), hE, FpNew.nil _ _⟩
set_option maxRecDepth 10000 in
set_option maxHeartbeats 1000000 in
theorem refvread_c (m : World) (M : List Nat) (b : Nat) (l : List UInt8) (e : Int) (h : QAt m M b l e) (hbM : b ∈ M) :
    FnR Try.prog 30 [.pointer (some ⟨b, 0, none⟩)] m fun r m' => VRPost QAt m M b (vrd (l, e)) r m' := by
  have hblt := h.lt
  refine FnE.enter ⟨_, Try.func30, by kernel_rfl, by kernel_rfl⟩ Try.func30 rfl rfl ?_
  repeat (first | with_reducible refine WP.seq ?_ | with_reducible refine WP.block ?_ | with_reducible refine WP.region ?_)
  refine RL.auto T_ok rfl ?_
  refine RL.nil ?_; repeat (first | with_reducible refine QN.block_normal ?_ | with_reducible refine QN.next ?_); repeat (first | with_reducible refine WP.seq ?_ | with_reducible refine WP.block ?_ | with_reducible refine WP.region ?_)
  have hr0 : gR 0 e l (rdU 16384 0 0 l) = rdN 16384 (l, e) := rfl
  have hle0 := rdN_le 16384 (l, e)
  have hvrd : vrd (l, e) = (if (vrdL (rdN 16384 (l, e)).1 0 [] (rdN 16384 (l, e)).2).2.2 = 0 then (vrdL (rdN 16384 (l, e)).1 0 [] (rdN 16384 (l, e)).2).1 else [], (vrdL (rdN 16384 (l, e)).1 0 [] (rdN 16384 (l, e)).2).2) := rfl
  rw [hvrd]
  generalize rdN 16384 (l, e) = r0 at hr0 hle0 ⊢
  obtain ⟨n0, l0, e0⟩ := r0
  simp only at hle0 ⊢
  clear hvrd
  obtain ⟨tot, htot⟩ : ∃ tot, vrdL n0 0 [] (l0, e0) = tot := ⟨_, rfl⟩
  rw [htot]
  refine RL.auto T_ok rfl ?_
  refine RL.call (fi := []) (ca := []) rfl rfl rfl rfl (quint_c m M b l e h hbM 16384) ?_
  rintro _ m1 ⟨rfl, hR1, hE1⟩
  refine ⟨_, rfl, ?_⟩
  rw [hr0] at hR1 ⊢
  simp only at hR1 ⊢
  refine RL.auto T_ok rfl ?_
  refine RL.nil ?_; repeat (first | with_reducible refine QN.block_normal ?_ | with_reducible refine QN.next ?_); repeat (first | with_reducible refine WP.seq ?_ | with_reducible refine WP.block ?_ | with_reducible refine WP.region ?_)
  refine RL.auto T_ok rfl ?_
  refine RL.nil ?_; repeat (first | with_reducible refine QN.block_normal ?_ | with_reducible refine QN.next ?_); repeat (first | with_reducible refine WP.seq ?_ | with_reducible refine WP.block ?_ | with_reducible refine WP.region ?_)
  refine RL.auto T_ok rfl ?_
  refine RL.nil ?_; repeat (first | with_reducible refine QN.block_normal ?_ | with_reducible refine QN.next ?_)
  refine WP.cut (X := Value × List Nat) (fun q => [(0, .pointer (some ⟨b, 0, none⟩)), (4, q.1)])
    (fun q m' => Ev.Own m' q.2 60 2 q.1 tot.1.length (tot.1.flatMap cC) ∧ QAt m' (q.2 ++ M) b tot.2.1 tot.2.2 ∧ Ext m [b] m' ∧ FpNew m [] q.2) ?_ ?_
  · skip
    refine WP.block ?_
    refine (WP.loop (X := Nat × Nat × Value × List Nat × List Clk × List UInt8 × Int) (fun q => [(0, .pointer (some ⟨b, 0, none⟩)), (4, q.2.2.1), (5, .int .u64 q.2.1), (3, .int .u64 q.1)])
      (fun q m' => RdI QAt tot m M b q.1 q.2.1 q.2.2.1 q.2.2.2.1 q.2.2.2.2.1 q.2.2.2.2.2.1 q.2.2.2.2.2.2 m') (fun q => q.1) (n0, 0, .slice none 0 0, [], [], l0, e0)
      (Sub.cons rfl (Sub.cons rfl (Sub.cons rfl (Sub.cons rfl Sub.nil)))) ⟨htot, by show 0 + n0 ≤ 16384; omega, by show 0 < 18446744073709551616; omega, (fun _ => by show 0 ≤ _; omega), Own.empty _ _ _ _, hR1, hE1, FpNew.nil _ _⟩ ?_)
    rintro ⟨n1, last, ov, S, out, l1, e1⟩ m2 hI
    simp only at hI
    obtain ⟨hrest, hroom, hl64, hlmax, hO, hR, hE, hF⟩ := hI
    have hbS : b ∉ S := fun hh => by
      rcases hF b hh with h9 | h9
      · cases h9
      · omega
    have hbSM : b ∈ S ++ M := List.mem_append_right _ hbM
    repeat (first | with_reducible refine WP.seq ?_ | with_reducible refine WP.block ?_ | with_reducible refine WP.region ?_)
    refine RL.pure T_ok 2 rfl ?_
    by_cases hn : n1 = 0
    · subst hn
      refine RL.eqv (v' := .bool false) (congrArg _ (by simp)) ?_
      refine RL.auto T_ok rfl ?_
      refine RL.nil ?_; repeat (first | with_reducible refine QN.block_normal ?_ | with_reducible refine QN.next ?_)
      refine WP.condF rfl ?_
      refine WP.exit ?_
      repeat (first | with_reducible refine QN.then_exit ?_ | with_reducible refine QN.block_exit ?_ | with_reducible refine QN.block_normal ?_)
      have ht : tot = (out, l1, e1) := hrest.symm
      subst ht
      exact QN.cutEnd (ov, S) (Sub.cons rfl (Sub.cons rfl Sub.nil)) ⟨hO, hR, hE, hF⟩
    obtain ⟨n, rfl⟩ : ∃ n, n1 = n + 1 := ⟨n1 - 1, by omega⟩
    refine RL.eqv (v' := .bool true) (congrArg _ (decide_eq_true (by simp only; omega))) ?_
    have hRc := hR
    obtain ⟨vq, hBq, hSq⟩ := hRc
    refine RL.auto T_ok rfl ?_
    refine RL.load T_ok rfl rfl rfl (hBq.cell 1 rfl) rfl ?_
    refine RL.pure T_ok 1 rfl ?_
    by_cases he : e1 = 0
    rotate_left
    · refine RL.eqv (v' := .bool false) (congrArg _ (by rw [beq_eq_false_iff_ne]; exact he)) ?_
      refine RL.auto T_ok rfl ?_
      refine RL.nil ?_; repeat (first | with_reducible refine QN.block_normal ?_ | with_reducible refine QN.next ?_)
      refine WP.condF rfl ?_
      refine WP.exit ?_
      repeat (first | with_reducible refine QN.then_exit ?_ | with_reducible refine QN.block_exit ?_ | with_reducible refine QN.block_normal ?_)
      have ht : tot = (out, l1, e1) := by rw [← hrest]; exact vrdL_off he
      subst ht
      exact QN.cutEnd (ov, S) (Sub.cons rfl (Sub.cons rfl Sub.nil)) ⟨hO, hR, hE, hF⟩
    subst he
    rw [vrdL_step rfl] at hrest
    have hlm := hlmax rfl
    refine RL.eqv (v' := .bool true) (congrArg _ (by rfl)) ?_
    refine RL.auto T_ok rfl ?_
    refine RL.nil ?_; repeat (first | with_reducible refine QN.block_normal ?_ | with_reducible refine QN.next ?_)
    refine WP.condT rfl ?_
    refine WP.skip ?_; repeat (first | with_reducible refine QN.block_normal ?_ | with_reducible refine QN.next ?_); repeat (first | with_reducible refine WP.seq ?_ | with_reducible refine WP.block ?_ | with_reducible refine WP.region ?_)
    refine RL.auto T_ok rfl ?_
    refine RL.call (fi := []) (ca := []) rfl rfl rfl rfl (quint_c m2 (S ++ M) b l1 0 hR hbSM 18446744073709551615) ?_
    rintro _ m3 ⟨rfl, hR3, hE3⟩
    refine ⟨_, rfl, ?_⟩
    have hr1 : gR 0 (0 : Int) l1 (rdU 18446744073709551615 0 0 l1) = rdN 18446744073709551615 (l1, 0) := rfl
    have hm1 := rdN_le 18446744073709551615 (l1, 0)
    rw [hr1] at hR3 ⊢
    generalize rdN 18446744073709551615 (l1, (0 : Int)) = r1 at hrest hR3 hm1 ⊢
    obtain ⟨more, l3, e3⟩ := r1
    simp only at hrest hR3 hm1 ⊢
    have hO3 := hO.ext hE3 (fun k hk hh => hbS (by have h9 : k = b := (by simpa using hh); exact h9 ▸ hk))
    replace hE3 := hE.trans hE3 (fun k hk => .inl hk)
    clear hO hR hE
    refine RL.auto T_ok rfl ?_
    refine RL.nil ?_; repeat (first | with_reducible refine QN.block_normal ?_ | with_reducible refine QN.next ?_)
    refine WP.cut (X := Unit) (fun _ => [(0, .pointer (some ⟨b, 0, none⟩)), (4, ov), (5, .int .u64 last), (3, .int .u64 ((n + 1 : Nat) : Int)), (6, .int .u64 more)]) (fun _ m' => QAt m' (S ++ M) b (badIf (wrongStep last more) (l3, e3)).1 (badIf (wrongStep last more) (l3, e3)).2 ∧ Ext m3 [b] m') ?_ ?_
    · refine WP.cut (X := Bool) (fun q => [(0, .pointer (some ⟨b, 0, none⟩)), (4, ov), (5, .int .u64 last), (3, .int .u64 ((n + 1 : Nat) : Int)), (6, .int .u64 more), (37, .bool q)]) (fun q m' => m' = m3 ∧ q = (decide (e3 = 0) && wrongStep last more)) ?_ ?_
      · refine WP.region ?_
        have hRc := hR3
        obtain ⟨vq, hBq, hSq⟩ := hRc
        refine RL.auto T_ok rfl ?_
        refine RL.load T_ok rfl rfl rfl (hBq.cell 1 rfl) rfl ?_
        refine RL.pure T_ok 1 rfl ?_
        by_cases he3 : e3 = 0
        rotate_left
        · refine RL.eqv (v' := .bool false) (congrArg _ (by rw [beq_eq_false_iff_ne]; exact he3)) ?_
          refine RL.auto T_ok rfl ?_
          exact RL.nil (QN.cutEnd false (Sub.cons rfl (Sub.cons rfl (Sub.cons rfl (Sub.cons rfl (Sub.cons rfl (Sub.cons rfl Sub.nil)))))) ⟨rfl, by simp [he3]⟩)
        refine RL.eqv (v' := .bool true) (congrArg _ (by rw [beq_iff_eq]; exact he3)) ?_
        refine RL.pure T_ok 3 rfl ?_
        by_cases hmz : more = 0
        · refine RL.eqv (v' := .bool true) (congrArg _ (by rw [hmz]; rfl)) ?_
          refine RL.auto T_ok rfl ?_
          exact RL.nil (QN.cutEnd true (Sub.cons rfl (Sub.cons rfl (Sub.cons rfl (Sub.cons rfl (Sub.cons rfl (Sub.cons rfl Sub.nil)))))) ⟨rfl, by simp [he3, wrongStep, hmz]⟩)
        refine RL.eqv (v' := .bool false) (congrArg _ (by rw [beq_eq_false_iff_ne]; omega)) ?_
        refine RL.pure T_ok 4 rfl ?_
        refine RL.eqv (v' := .int .u64 ((9007199254740991 - last : Nat) : Int)) (congrArg _ (by rw [wrap_u64_in _ (by omega) (by omega)]; omega)) ?_
        refine RL.pure T_ok 1 rfl ?_
        refine RL.eqv (v' := .bool (decide (9007199254740991 - last < more))) (congrArg _ (by rw [decide_eq_decide]; omega)) ?_
        refine RL.auto T_ok rfl ?_
        exact RL.nil (QN.cutEnd (decide (9007199254740991 - last < more)) (Sub.cons rfl (Sub.cons rfl (Sub.cons rfl (Sub.cons rfl (Sub.cons rfl (Sub.cons rfl Sub.nil)))))) ⟨rfl, by simp [he3, wrongStep, hmz]⟩)
      rintro q mq ⟨rfl, hq⟩
      refine WP.cond rfl (fun hp => ?_) (fun hp => ?_)
      · rw [hp] at hq
        have hq2 := hq.symm
        rw [Bool.and_eq_true, decide_eq_true_eq] at hq2
        rw [badIf_yes (s := (l3, e3)) ⟨hq2.1, hq2.2⟩]
        repeat (first | with_reducible refine WP.seq ?_ | with_reducible refine WP.block ?_ | with_reducible refine WP.region ?_)
        refine RL.auto T_ok rfl ?_
        refine RL.call (fi := []) (ca := []) rfl rfl rfl rfl (qfail_c mq (S ++ M) b l3 e3 11 hR3 hbSM) ?_
        rintro _ m4 ⟨rfl, hR4, hE4⟩
        refine ⟨_, rfl, ?_⟩
        rw [if_pos hq2.1] at hR4
        exact RL.nil (QN.cutEnd () (Sub.cons rfl (Sub.cons rfl (Sub.cons rfl (Sub.cons rfl (Sub.cons rfl Sub.nil))))) ⟨hR4, hE4⟩)
      · rw [hp] at hq
        rw [badIf_no (s := (l3, e3)) (fun hh => by rw [hh.2, decide_eq_true hh.1] at hq; cases hq)]
        refine WP.skip ?_
        exact QN.cutEnd () (Sub.cons rfl (Sub.cons rfl (Sub.cons rfl (Sub.cons rfl (Sub.cons rfl Sub.nil))))) ⟨hR3, Ext.refl _ _⟩
    rintro _ m4 ⟨hR4, hE4⟩
    have hok := @badIf_ok (wrongStep last more) (l3, e3)
    have hO4 := hO3.ext hE4 (fun k hk hh => hbS (by have h9 : k = b := (by simpa using hh); exact h9 ▸ hk))
    replace hE4 := hE3.trans hE4 (fun k hk => .inl hk)
    clear hR3 hO3 hE3
    generalize badIf (wrongStep last more) (l3, e3) = s1 at hrest hR4 hok
    obtain ⟨l4, e4⟩ := s1
    simp only at hR4 hok
    repeat (first | with_reducible refine WP.seq ?_ | with_reducible refine WP.block ?_ | with_reducible refine WP.region ?_)
    refine RL.auto T_ok rfl ?_
    refine RL.call (fi := []) (ca := []) rfl rfl rfl rfl (quint_c m4 (S ++ M) b l4 e4 hR4 hbSM 9007199254740991) ?_
    rintro _ m5 ⟨rfl, hR5, hE5⟩
    refine ⟨_, rfl, ?_⟩
    have hr2 : gR 0 e4 l4 (rdU 9007199254740991 0 0 l4) = rdN 9007199254740991 (l4, e4) := rfl
    have hm2 := rdN_le 9007199254740991 (l4, e4)
    have herr : e4 ≠ 0 → (rdN 9007199254740991 (l4, e4)).2.2 = e4 := fun hh => by
      have : rdN 9007199254740991 (l4, e4) = (0, l4, e4) := gR_off hh
      rw [this]
    rw [hr2] at hR5 ⊢
    generalize rdN 9007199254740991 (l4, e4) = r2 at hrest hR5 hm2 herr ⊢
    obtain ⟨ck, l5, e5⟩ := r2
    simp only at hrest hR5 hm2 herr ⊢
    have hO5 := hO4.ext hE5 (fun k hk hh => hbS (by have h9 : k = b := (by simpa using hh); exact h9 ▸ hk))
    replace hE5 := hE4.trans hE5 (fun k hk => .inl hk)
    clear hR4 hO4 hE4
    refine RL.auto T_ok rfl ?_
    refine RL.nil ?_; repeat (first | with_reducible refine QN.block_normal ?_ | with_reducible refine QN.next ?_)
    refine WP.cut (X := Unit) (fun _ => [(0, .pointer (some ⟨b, 0, none⟩)), (4, ov), (5, .int .u64 last), (3, .int .u64 ((n + 1 : Nat) : Int)), (6, .int .u64 more), (7, .int .u64 ck)]) (fun _ m' => QAt m' (S ++ M) b (badIf (decide (ck = 0)) (l5, e5)).1 (badIf (decide (ck = 0)) (l5, e5)).2 ∧ Ext m5 [b] m') ?_ ?_
    · refine WP.cut (X := Bool) (fun q => [(0, .pointer (some ⟨b, 0, none⟩)), (4, ov), (5, .int .u64 last), (3, .int .u64 ((n + 1 : Nat) : Int)), (6, .int .u64 more), (7, .int .u64 ck), (50, .bool q)]) (fun q m' => m' = m5 ∧ q = (decide (e5 = 0) && decide (ck = 0))) ?_ ?_
      · refine WP.region ?_
        have hRc := hR5
        obtain ⟨vq, hBq, hSq⟩ := hRc
        refine RL.auto T_ok rfl ?_
        refine RL.load T_ok rfl rfl rfl (hBq.cell 1 rfl) rfl ?_
        refine RL.pure T_ok 1 rfl ?_
        by_cases he5 : e5 = 0
        rotate_left
        · refine RL.eqv (v' := .bool false) (congrArg _ (by rw [beq_eq_false_iff_ne]; exact he5)) ?_
          refine RL.auto T_ok rfl ?_
          exact RL.nil (QN.cutEnd false (Sub.cons rfl (Sub.cons rfl (Sub.cons rfl (Sub.cons rfl (Sub.cons rfl (Sub.cons rfl (Sub.cons rfl Sub.nil))))))) ⟨rfl, by simp [he5]⟩)
        refine RL.eqv (v' := .bool true) (congrArg _ (by rw [beq_iff_eq]; exact he5)) ?_
        refine RL.pure T_ok 3 rfl ?_
        refine RL.eqv (v' := .bool (decide (ck = 0))) (congrArg _ (deq ck 0)) ?_
        refine RL.auto T_ok rfl ?_
        exact RL.nil (QN.cutEnd (decide (ck = 0)) (Sub.cons rfl (Sub.cons rfl (Sub.cons rfl (Sub.cons rfl (Sub.cons rfl (Sub.cons rfl (Sub.cons rfl Sub.nil))))))) ⟨rfl, by simp [he5]⟩)
      rintro q mq ⟨rfl, hq⟩
      refine WP.cond rfl (fun hp => ?_) (fun hp => ?_)
      · rw [hp] at hq
        have hq2 := hq.symm
        rw [Bool.and_eq_true, decide_eq_true_eq] at hq2
        rw [badIf_yes (s := (l5, e5)) ⟨hq2.1, hq2.2⟩]
        repeat (first | with_reducible refine WP.seq ?_ | with_reducible refine WP.block ?_ | with_reducible refine WP.region ?_)
        refine RL.auto T_ok rfl ?_
        refine RL.call (fi := []) (ca := []) rfl rfl rfl rfl (qfail_c mq (S ++ M) b l5 e5 11 hR5 hbSM) ?_
        rintro _ m6 ⟨rfl, hR6, hE6⟩
        refine ⟨_, rfl, ?_⟩
        rw [if_pos hq2.1] at hR6
        exact RL.nil (QN.cutEnd () (Sub.cons rfl (Sub.cons rfl (Sub.cons rfl (Sub.cons rfl (Sub.cons rfl (Sub.cons rfl Sub.nil)))))) ⟨hR6, hE6⟩)
      · rw [hp] at hq
        rw [badIf_no (s := (l5, e5)) (fun hh => by rw [hh.2, decide_eq_true hh.1] at hq; cases hq)]
        refine WP.skip ?_
        exact QN.cutEnd () (Sub.cons rfl (Sub.cons rfl (Sub.cons rfl (Sub.cons rfl (Sub.cons rfl (Sub.cons rfl Sub.nil)))))) ⟨hR5, Ext.refl _ _⟩
    rintro _ m6 ⟨hR6, hE6⟩
    have hok2 := @badIf_ok (decide (ck = 0)) (l5, e5)
    have hO6 := hO5.ext hE6 (fun k hk hh => hbS (by have h9 : k = b := (by simpa using hh); exact h9 ▸ hk))
    replace hE6 := hE5.trans hE6 (fun k hk => .inl hk)
    clear hR5 hO5 hE5
    generalize badIf (decide (ck = 0)) (l5, e5) = s2 at hrest hR6 hok2
    obtain ⟨l6, e6⟩ := s2
    simp only at hR6 hok2
    have hlast : e6 = 0 → (last + more) % 18446744073709551616 ≤ 9007199254740991 := fun h6 => by
      have h5 := (hok2 h6).1
      have h4 : e4 = 0 := by
        by_cases hh : e4 = 0
        · exact hh
        · have := herr hh; omega
      have h3 := (hok h4).2
      have h3 := of_decide_eq_false h3
      omega
    have hl64' : (last + more) % 18446744073709551616 < 18446744073709551616 := Nat.mod_lt _ (by omega)
    repeat (first | with_reducible refine WP.seq ?_ | with_reducible refine WP.block ?_ | with_reducible refine WP.region ?_)
    refine RL.pure T_ok 3 rfl ?_
    refine RL.eqv (v' := .int .u64 (((last + more) % 18446744073709551616 : Nat) : Int)) (congrArg _ (by rw [wrap_u64]; omega)) ?_
    generalize (last + more) % 18446744073709551616 = last2 at hrest hlast hl64' ⊢
    refine RL.auto T_ok rfl ?_
    refine RL.nil ?_; repeat (first | with_reducible refine QN.block_normal ?_ | with_reducible refine QN.next ?_); repeat (first | with_reducible refine WP.seq ?_ | with_reducible refine WP.block ?_ | with_reducible refine WP.region ?_)
    refine RL.pure T_ok 4 rfl ?_
    refine RL.append1 T_ok [.tmp 59] hO6 (us := [cV ⟨last2, ck⟩]) (cC ⟨last2, ck⟩) rfl rfl rfl rfl rfl rfl rfl rfl rfl (by simp [cV, cC, Value.cells]) (by simp [cV, Value.cells]) (cC_one _) (by unfold maxLen; omega) (by show (_ + 1) * 16 ≤ _; omega) ?_
    intro v7 m7 S7 hO7 hE7 hF7
    refine ⟨_, rfl, ?_⟩
    have hge : ∀ k ∈ S, m.heap.size ≤ k := fun k hk => by
      rcases hF k hk with h9 | h9
      · cases h9
      · exact h9
    have hR7 : QAt m7 (S7 ++ M) b l6 e6 := hR6.ext hE7 hbS (fun k hk _ => List.mem_append_left _ hk) (fun k hk => by
      rcases List.mem_append.1 hk with h9 | h9
      · rcases hF7 k h9 with h8 | h8
        · exact .inl (List.mem_append_left _ h8)
        · exact .inr h8
      · exact .inl (List.mem_append_right _ h9))
    have hE7' := hE6.trans hE7 (fun k hk => .inr (hge k hk))
    have hF7' : FpNew m [] S7 := fun k hk => by
      rcases hF7 k hk with h8 | h8
      · exact .inr (hge k h8)
      · exact .inr (Nat.le_trans hE6.size h8)
    refine RL.auto T_ok rfl ?_
    refine RL.nil ?_; repeat (first | with_reducible refine QN.block_normal ?_ | with_reducible refine QN.next ?_); repeat (first | with_reducible refine WP.seq ?_ | with_reducible refine WP.block ?_ | with_reducible refine WP.region ?_)
    refine RL.pure T_ok 2 rfl ?_
    refine RL.eqv (v' := .int .u64 ((n : Nat) : Int)) (congrArg _ (by rw [wrap_u64_in _ (by omega) (by omega)]; omega)) ?_
    refine RL.auto T_ok rfl ?_
    refine RL.nil (QN.round (n, last2, v7, S7, out ++ [⟨last2, ck⟩], l6, e6) (Sub.cons rfl (Sub.cons rfl (Sub.cons rfl (Sub.cons rfl Sub.nil)))) ⟨hrest, by simp; omega, hl64', hlast, ?_, hR7, hE7', hF7'⟩ (by show n < n + 1; omega))
    rw [List.length_append, ← csC_app]
    simpa using hO7
  rintro ⟨ov, S⟩ m2 ⟨hO, hR, hE, hF⟩
  simp only at hO hR hF
  have hbS : b ∉ S := fun hh => by
    rcases hF b hh with h9 | h9
    · cases h9
    · omega
  obtain ⟨out, l2, e2⟩ := tot
  simp only at hO hR ⊢
  repeat (first | with_reducible refine WP.seq ?_ | with_reducible refine WP.block ?_ | with_reducible refine WP.region ?_)
  have hRc := hR
  obtain ⟨vq, hBq, hSq⟩ := hRc
  refine RL.auto T_ok rfl ?_
  refine RL.load T_ok rfl rfl rfl (hBq.cell 1 rfl) rfl ?_
  refine RL.pure T_ok 1 rfl ?_
  by_cases he : e2 = 0
  · refine RL.eqv (v' := .bool false) (congrArg _ (by simp [he])) ?_
    rw [if_pos he]
    refine RL.nil ?_; repeat (first | with_reducible refine QN.block_normal ?_ | with_reducible refine QN.next ?_); repeat (first | with_reducible refine WP.seq ?_ | with_reducible refine WP.block ?_ | with_reducible refine WP.region ?_)
    refine WP.condF rfl ?_
    refine WP.skip ?_; repeat (first | with_reducible refine QN.block_normal ?_ | with_reducible refine QN.next ?_); repeat (first | with_reducible refine WP.seq ?_ | with_reducible refine WP.block ?_ | with_reducible refine WP.region ?_)
    refine RL.auto T_ok rfl ?_
    refine RL.nil ?_; repeat (first | with_reducible refine QN.block_normal ?_ | with_reducible refine QN.next ?_); repeat (first | with_reducible refine WP.seq ?_ | with_reducible refine WP.block ?_ | with_reducible refine WP.region ?_)
    refine WP.ret ?_; repeat (first | with_reducible refine QN.then_ret ?_ | with_reducible refine QN.block_ret ?_)
    exact QN.ret1 rfl rfl ⟨_, rfl, S, hO, hR, hE, hF⟩
  · refine RL.eqv (v' := .bool true) (congrArg _ (by simp [he])) ?_
    rw [if_neg he]
    refine RL.nil ?_; repeat (first | with_reducible refine QN.block_normal ?_ | with_reducible refine QN.next ?_); repeat (first | with_reducible refine WP.seq ?_ | with_reducible refine WP.block ?_ | with_reducible refine WP.region ?_)
    refine WP.condT rfl ?_
    repeat (first | with_reducible refine WP.seq ?_ | with_reducible refine WP.block ?_ | with_reducible refine WP.region ?_)
    refine RL.auto T_ok rfl ?_
    refine RL.nil ?_; repeat (first | with_reducible refine QN.block_normal ?_ | with_reducible refine QN.next ?_); repeat (first | with_reducible refine WP.seq ?_ | with_reducible refine WP.block ?_ | with_reducible refine WP.region ?_)
    refine WP.ret ?_; repeat (first | with_reducible refine QN.then_ret ?_ | with_reducible refine QN.block_ret ?_)
    exact QN.ret1 rfl rfl ⟨_, rfl, [], Own.empty _ _ _ _, hR.ext (Ext.refl _ []) (by simp) (by simp) (fun k hk => .inl (List.mem_append_right _ (by simpa using hk))), hE, FpNew.nil _ _⟩
end Go.Proofs.Ytmjpcaiehfimgaa
end

section
/- Vectors written: the program's way, the reference's. -/
namespace Go.Proofs.Ytmjpcaiehfimgaa
open Go.RowKit Go.Ev Go.Ids

/-- The client of the last one. -/
def lastc (L : List Clk) (i : Nat) : Nat := (L.take i).getLast?.elim 0 Clk.c
theorem lastc_succ (L : List Clk) (i : Nat) (h : i < L.length) : lastc L (i + 1) = L[i].c := by
  unfold lastc
  rw [List.take_succ_eq_append_getElem h, List.getLast?_concat]
  rfl
theorem lastc_lt {L : List Clk} (hL : VCanon L) (i : Nat) (h : i < L.length) : lastc L i < L[i].c := by
  cases i with
  | zero =>
    have := (hL.1 L[0] (List.getElem_mem _)).1
    have e : lastc L 0 = 0 := by simp [lastc]
    rw [e]; omega
  | succ i =>
    rw [lastc_succ L i (by omega)]
    exact List.pairwise_iff_getElem.1 hL.2 i (i + 1) (by omega) h (by omega)
/-- The bytes till the place i. -/
def encA (L : List Clk) (i : Nat) : List UInt8 := encU L.length ++ encL 0 (L.take i)
theorem encA_zero (L : List Clk) : encA L 0 = encU L.length := by simp [encA, encL]
theorem encA_all (L : List Clk) : encA L L.length = encV L := by simp [encA, encV]
theorem encA_succ (L : List Clk) (i : Nat) (h : i < L.length) : encA L (i + 1) = encA L i ++ encU (L[i].c - lastc L i) ++ encU L[i].k := by
  unfold encA lastc
  rw [List.take_succ_eq_append_getElem h, encL_snoc]
  simp
theorem encA_len {L : List Clk} (hL : VCanon L) (hl : L.length < 1000000) (i : Nat) : (encA L i).length ≤ 20 * L.length + 10 := by
  unfold encA
  have h1 := encU_len10 (n := L.length) (by omega)
  have h2 := encL_len 0 (L.take i) (fun x hx => hL.1 x (List.mem_of_mem_take hx))
  have h3 := List.length_take_le i L
  have h4 : (L.take i).length ≤ L.length := List.length_take_le' _ _
  rw [List.length_append]; omega
theorem vwrite_c (m : World) (b : Nat) (S : List Nat) (bs : List UInt8) (v : Value) (l : List Clk) (hW : WAt m b S bs) (h : Cs m [] v l) (hl : l.length < 1000000) (hbs : bs.length < 100000000) :
    FnR Try.prog 33 [.pointer (some ⟨b, 0, none⟩), v] m (WPost m b S (bs ++ encV (vclean l))) := by
  refine FnE.enter ⟨_, Try.func33, by kernel_rfl, by kernel_rfl⟩ Try.func33 rfl rfl ?_
  repeat (first | with_reducible refine WP.seq ?_ | with_reducible refine WP.block ?_ | with_reducible refine WP.region ?_)
  refine RL.auto T_ok rfl ?_
  refine RL.call (fi := []) (ca := []) rfl rfl rfl rfl (vclean_c m v l h (by omega)) ?_
  rintro v1 m1 ⟨S1, hO1, hN1⟩
  refine ⟨_, rfl, ?_⟩
  have hcan := vclean_canon l
  have hln := vclean_len l
  generalize vclean l = L at hO1 hcan hln ⊢
  obtain ⟨A, c, rfl, _⟩ := hO1.shape
  have hW1 := hW.ext hN1.1 (by simp)
  have hC1 : Cs m1 S (.slice A L.length c) L := hO1.sl (fun k hk hh => by
    have h1 := hN1.ge k hk
    have h2 := hW.lt k hh
    omega)
  have hlt := hW.lt
  clear hW hO1
  refine RL.auto T_ok rfl ?_
  refine RL.nil ?_; repeat (first | with_reducible refine QN.block_normal ?_ | with_reducible refine QN.next ?_); repeat (first | with_reducible refine WP.seq ?_ | with_reducible refine WP.block ?_ | with_reducible refine WP.region ?_)
  refine RL.pure T_ok 3 rfl ?_
  refine RL.pure T_ok 1 rfl ?_
  refine RL.eqv (v' := .int .u64 (L.length : Nat)) (congrArg _ (by rw [wrap_u64_in _ (by omega) (by omega)])) ?_
  refine RL.call (fi := []) (ca := []) rfl rfl rfl rfl (wuint m1 L.length (by omega) b S bs hW1 (by omega)) ?_
  rintro _ m2 ⟨rfl, S2, hW2, hE2, hF2⟩
  refine ⟨_, rfl, ?_⟩
  have hC2 : Cs m2 S2 (.slice A L.length c) L := Sl.ext hC1 hE2 hF2 (by omega)
  have hE02 : Ext m S m2 := (hN1.1.mono (by simp)).trans hE2 (fun k hk => .inl hk)
  have hF02 : FpNew m S S2 := fun k hk => by
    rcases hF2 k hk with h9 | h9
    · exact .inl h9
    · exact .inr (Nat.le_trans hN1.1.size h9)
  rw [← encA_zero L] at hW2
  clear hW1 hC1 hE2 hF2
  refine RL.nil ?_; repeat (first | with_reducible refine QN.block_normal ?_ | with_reducible refine QN.next ?_); repeat (first | with_reducible refine WP.seq ?_ | with_reducible refine WP.block ?_ | with_reducible refine WP.region ?_)
  refine RL.auto T_ok rfl ?_
  refine RL.nil ?_; repeat (first | with_reducible refine QN.block_normal ?_ | with_reducible refine QN.next ?_); repeat (first | with_reducible refine WP.seq ?_ | with_reducible refine WP.block ?_ | with_reducible refine WP.region ?_)
  refine RL.auto T_ok rfl ?_
  refine RL.nil ?_; repeat (first | with_reducible refine QN.block_normal ?_ | with_reducible refine QN.next ?_); repeat (first | with_reducible refine WP.seq ?_ | with_reducible refine WP.block ?_ | with_reducible refine WP.region ?_)
  refine (WP.loop (X := Nat × List Nat) (fun q => [(0, .pointer (some ⟨b, 0, none⟩)), (4, .int .u64 (lastc L q.1)), (14, .slice A L.length c), (15, .int .i64 L.length), (16, .int .i64 q.1)])
    (fun q m' => q.1 ≤ L.length ∧ WAt m' b q.2 (bs ++ encA L q.1) ∧ Cs m' q.2 (.slice A L.length c) L ∧ Ext m S m' ∧ FpNew m S q.2) (fun q => L.length - q.1) (0, S2)
    (Sub.cons rfl (Sub.cons rfl (Sub.cons rfl (Sub.cons rfl (Sub.cons rfl Sub.nil))))) ⟨by simp, hW2, hC2, hE02, hF02⟩ ?_)
  clear hW2 hC2 hE02 hF02
  rintro ⟨i, S3⟩ m3 ⟨hi, hW, hC, hE, hF⟩
  simp only at hi hW hC hF
  repeat (first | with_reducible refine WP.seq ?_ | with_reducible refine WP.block ?_ | with_reducible refine WP.region ?_)
  refine RL.auto T_ok rfl ?_
  refine RL.nil ?_; repeat (first | with_reducible refine QN.block_normal ?_ | with_reducible refine QN.next ?_); repeat (first | with_reducible refine WP.seq ?_ | with_reducible refine WP.block ?_ | with_reducible refine WP.region ?_)
  refine WP.cond rfl (fun hc => ?_) (fun hc => ?_)
  · replace hc : i < L.length := by have := of_decide_eq_true hc; simp only at this; omega
    obtain ⟨ad, rfl, hx⟩ := hC.cell i hc
    have hok := hcan.1 L[i] (List.getElem_mem _)
    have hlast := lastc_lt hcan i hc
    have hsucc := lastc_succ L i hc
    have henc := encA_succ L i hc
    have hlen := encA_len hcan (by omega) i
    generalize L[i] = x at hx hok hlast hsucc henc
    have hc1 := hok.2.1
    have hc2 := hok.2.2.2
    have hu1 := encU_len10 (n := x.c - lastc L i) (by omega)
    have hltS := hW.lt
    refine WP.skip ?_; repeat (first | with_reducible refine QN.block_normal ?_ | with_reducible refine QN.next ?_); repeat (first | with_reducible refine WP.seq ?_ | with_reducible refine WP.block ?_ | with_reducible refine WP.region ?_)
    refine RL.indexAddr (k := i) T_ok rfl rfl rfl rfl rfl rfl rfl hc rfl ?_
    refine RL.loadAgg T_ok (cC x) rfl rfl rfl hx rfl ?_
    refine RL.alloc T_ok rfl rfl (fun b3 m4 hb3 hC3 => ⟨_, rfl, ?_⟩)
    refine RL.storeAgg T_ok (b := b3) (i := 0) (vs := cC x) (cs := [.int .u64 0, .int .u64 0]) hC3.blk rfl rfl rfl rfl rfl (by simp) (by simp [cC, Value.oneCell']) rfl ?_
    intro m5 hC4
    have hE5 : Ext m3 [] m5 := (hC3.new (by omega)).trans hC4.ext (fun q hq => .inr (by have h9 : q = b3 := (by simpa using hq); omega))
    have hB5 : Blk m5 b3 60 (cC x) := hC4.blk
    have hbS : b3 ∉ S3 := fun hh => by have := hltS _ hh; omega
    have hW5 := hW.ext hE5 (by simp)
    have hC5 : Cs m5 S3 (.slice (some ad) L.length c) L := Sl.ext hC (hE5.mono (by simp)) (fun k hk => .inl hk) (by omega)
    clear hC3 hC4 hW hC
    refine RL.nil ?_; repeat (first | with_reducible refine QN.block_normal ?_ | with_reducible refine QN.next ?_); repeat (first | with_reducible refine WP.seq ?_ | with_reducible refine WP.block ?_ | with_reducible refine WP.region ?_)
    refine RL.pure T_ok 2 rfl ?_
    refine RL.load T_ok rfl rfl rfl (hB5.cell 0 rfl) rfl ?_
    refine RL.pure T_ok 2 rfl ?_
    refine RL.eqv (v' := .int .u64 ((x.c - lastc L i : Nat) : Int)) (congrArg _ (by rw [wrap_u64_in _ (by simp only; omega) (by simp only; omega)]; simp only; omega)) ?_
    refine RL.call (fi := []) (ca := []) rfl rfl rfl rfl (wuint m5 (x.c - lastc L i) (by omega) b S3 (bs ++ encA L i) hW5 (by rw [List.length_append]; omega)) ?_
    rintro _ m6 ⟨rfl, S6, hW6, hE6, hF6⟩
    refine ⟨_, rfl, ?_⟩
    have hB6 := hB5.ext hE6 hbS
    have hbS6 : b3 ∉ S6 := hF6.far hbS hB5.lt
    have hC6 : Cs m6 S6 (.slice (some ad) L.length c) L := Sl.ext hC5 hE6 hF6 (by omega)
    refine RL.nil ?_; repeat (first | with_reducible refine QN.block_normal ?_ | with_reducible refine QN.next ?_); repeat (first | with_reducible refine WP.seq ?_ | with_reducible refine WP.block ?_ | with_reducible refine WP.region ?_)
    refine RL.pure T_ok 2 rfl ?_
    refine RL.load T_ok rfl rfl rfl (hB6.cell 1 rfl) rfl ?_
    refine RL.call (fi := []) (ca := []) rfl rfl rfl rfl (wuint m6 x.k (by omega) b S6 (bs ++ encA L i ++ encU (x.c - lastc L i)) hW6 (by rw [List.length_append, List.length_append]; omega)) ?_
    rintro _ m7 ⟨rfl, S7, hW7, hE7, hF7⟩
    refine ⟨_, rfl, ?_⟩
    have hB7 := hB6.ext hE7 hbS6
    have hC7 : Cs m7 S7 (.slice (some ad) L.length c) L := Sl.ext hC6 hE7 hF7 (by omega)
    refine RL.nil ?_; repeat (first | with_reducible refine QN.block_normal ?_ | with_reducible refine QN.next ?_); repeat (first | with_reducible refine WP.seq ?_ | with_reducible refine WP.block ?_ | with_reducible refine WP.region ?_)
    refine RL.pure T_ok 1 rfl ?_
    refine RL.load T_ok rfl rfl rfl (hB7.cell 0 rfl) rfl ?_
    refine RL.auto T_ok rfl ?_
    refine RL.nil ?_; repeat (first | with_reducible refine QN.block_normal ?_ | with_reducible refine QN.next ?_); repeat (first | with_reducible refine WP.seq ?_ | with_reducible refine WP.block ?_ | with_reducible refine WP.region ?_)
    refine RL.pure T_ok 1 rfl ?_
    refine RL.eqv (v' := .int .i64 ((i + 1 : Nat) : Int)) (congrArg _ (by rw [wrap_i64_in _ (by omega) (by omega)]; rfl)) ?_
    refine RL.auto T_ok rfl ?_
    have hF37 : FpNew m3 S3 S7 := fun k hk => by
      rcases hF7 k hk with h9 | h9
      · rcases hF6 k h9 with h8 | h8
        · exact .inl h8
        · exact .inr (Nat.le_trans hE5.size h8)
      · exact .inr (Nat.le_trans hE5.size (Nat.le_trans hE6.size h9))
    have hE37 : Ext m3 S3 m7 := ((hE5.mono (by simp)).trans hE6 (fun k hk => .inl hk)).trans hE7 (fun k hk => by
      rcases hF6 k hk with h9 | h9
      · exact .inl h9
      · exact .inr (Nat.le_trans hE5.size h9))
    refine RL.nil (QN.round (i + 1, S7) (Sub.cons rfl (Sub.cons (by rw [hsucc]; rfl) (Sub.cons rfl (Sub.cons rfl (Sub.cons rfl Sub.nil))))) ⟨by show i + 1 ≤ _; omega, ?_, hC7, hE.trans hE37 (fun k hk => hF k hk), hF.trans hF37 hE.size⟩ (by show _ - (i + 1) < _ - i; omega))
    show WAt m7 b S7 (bs ++ encA L (i + 1))
    rw [henc, ← List.append_assoc, ← List.append_assoc]
    exact hW7
  · replace hc : i = L.length := by have := of_decide_eq_false hc; simp only at this; omega
    subst hc
    rw [encA_all] at hW
    refine WP.exit ?_
    repeat (first | with_reducible refine QN.then_exit ?_ | with_reducible refine QN.block_exit ?_ | with_reducible refine QN.block_far rfl ?_ | with_reducible refine QN.block_normal ?_ | with_reducible refine QN.next ?_)
    exact QN.end0 rfl ⟨_, rfl, rfl, S3, hW, hE, hF⟩
theorem refvwrite_c (m : World) (S : List Nat) (u : Value) (bs : List UInt8) (v : Value) (l : List Clk) (hO : Ev.Own m S 5 1 u bs.length (u8s bs)) (h : Cs m [] v l) (hl : l.length < 1000000) (hbs : bs.length < 100000000) :
    FnR Try.prog 36 [u, v] m (OPost m S (bs ++ encV (vclean l))) := by
  refine FnE.enter ⟨_, Try.func36, by kernel_rfl, by kernel_rfl⟩ Try.func36 rfl rfl ?_
  repeat (first | with_reducible refine WP.seq ?_ | with_reducible refine WP.block ?_ | with_reducible refine WP.region ?_)
  refine RL.auto T_ok rfl ?_
  refine RL.nil ?_; repeat (first | with_reducible refine QN.block_normal ?_ | with_reducible refine QN.next ?_); repeat (first | with_reducible refine WP.seq ?_ | with_reducible refine WP.block ?_ | with_reducible refine WP.region ?_)
  refine RL.auto T_ok rfl ?_
  refine RL.call (fi := []) (ca := []) rfl rfl rfl rfl (refvclean_c m v l h (by omega)) ?_
  rintro v1 m1 ⟨S1, hO1, hN1⟩
  refine ⟨_, rfl, ?_⟩
  have hcan := vclean_canon l
  have hln := vclean_len l
  generalize vclean l = L at hO1 hcan hln ⊢
  obtain ⟨A, c, rfl, _⟩ := hO1.shape
  have hOb1 := hO.ext hN1.1 (by simp)
  have hC1 : Cs m1 S (.slice A L.length c) L := hO1.sl (fun k hk hh => by
    have h1 := hN1.ge k hk
    have h2 := hO.lt k hh
    omega)
  clear hO1
  refine RL.auto T_ok rfl ?_
  refine RL.nil ?_; repeat (first | with_reducible refine QN.block_normal ?_ | with_reducible refine QN.next ?_); repeat (first | with_reducible refine WP.seq ?_ | with_reducible refine WP.block ?_ | with_reducible refine WP.region ?_)
  refine RL.pure T_ok 3 rfl ?_
  refine RL.pure T_ok 1 rfl ?_
  refine RL.eqv (v' := .int .u64 (L.length : Nat)) (congrArg _ (by rw [wrap_u64_in _ (by omega) (by omega)])) ?_
  refine RL.call (fi := []) (ca := []) rfl rfl rfl rfl (refuint_c m1 L.length (by omega) S u bs hOb1 (by omega)) ?_
  rintro u2 m2 ⟨S2, hO2, hE2, hF2⟩
  refine ⟨_, rfl, ?_⟩
  have hC2 : Cs m2 S2 (.slice A L.length c) L := Sl.ext hC1 hE2 hF2 (by omega)
  have hE02 : Ext m S m2 := (hN1.1.mono (by simp)).trans hE2 (fun k hk => .inl hk)
  have hF02 : FpNew m S S2 := fun k hk => by
    rcases hF2 k hk with h9 | h9
    · exact .inl h9
    · exact .inr (Nat.le_trans hN1.1.size h9)
  rw [← encA_zero L] at hO2
  clear hOb1 hC1 hE2 hF2
  refine RL.auto T_ok rfl ?_
  refine RL.nil ?_; repeat (first | with_reducible refine QN.block_normal ?_ | with_reducible refine QN.next ?_); repeat (first | with_reducible refine WP.seq ?_ | with_reducible refine WP.block ?_ | with_reducible refine WP.region ?_)
  refine RL.auto T_ok rfl ?_
  refine RL.nil ?_; repeat (first | with_reducible refine QN.block_normal ?_ | with_reducible refine QN.next ?_); repeat (first | with_reducible refine WP.seq ?_ | with_reducible refine WP.block ?_ | with_reducible refine WP.region ?_)
  refine RL.auto T_ok rfl ?_
  refine RL.nil ?_; repeat (first | with_reducible refine QN.block_normal ?_ | with_reducible refine QN.next ?_); repeat (first | with_reducible refine WP.seq ?_ | with_reducible refine WP.block ?_ | with_reducible refine WP.region ?_)
  refine (WP.loop (X := Nat × Value × List Nat) (fun q => [(0, q.2.1), (1, .slice A L.length c), (5, .int .u64 (lastc L q.1)), (6, .int .i64 q.1)])
    (fun q m' => q.1 ≤ L.length ∧ Ev.Own m' q.2.2 5 1 q.2.1 (bs ++ encA L q.1).length (u8s (bs ++ encA L q.1)) ∧ Cs m' q.2.2 (.slice A L.length c) L ∧ Ext m S m' ∧ FpNew m S q.2.2) (fun q => L.length - q.1) (0, u2, S2)
    (Sub.cons rfl (Sub.cons rfl (Sub.cons rfl (Sub.cons rfl Sub.nil)))) ⟨by simp, hO2, hC2, hE02, hF02⟩ ?_)
  clear hO2 hC2 hE02 hF02 hO
  rintro ⟨i, u3, S3⟩ m3 ⟨hi, hO, hC, hE, hF⟩
  simp only at hi hO hC hF
  repeat (first | with_reducible refine WP.seq ?_ | with_reducible refine WP.block ?_ | with_reducible refine WP.region ?_)
  refine RL.auto T_ok rfl ?_
  refine RL.nil ?_; repeat (first | with_reducible refine QN.block_normal ?_ | with_reducible refine QN.next ?_); repeat (first | with_reducible refine WP.seq ?_ | with_reducible refine WP.block ?_ | with_reducible refine WP.region ?_)
  refine WP.cond rfl (fun hc => ?_) (fun hc => ?_)
  · replace hc : i < L.length := by have := of_decide_eq_true hc; simp only at this; omega
    obtain ⟨ad, rfl, _⟩ := hC.cell i hc
    have hx : ∀ {m' S'}, Cs m' S' (.slice (some ad) L.length c) L → ∀ j w, (cC L[i])[j]? = some w → m'.cell? ((ad.add (i * 2)).add j) = some w := fun hs => cS_at hs i hc
    have hok := hcan.1 L[i] (List.getElem_mem _)
    have hlast := lastc_lt hcan i hc
    have hsucc := lastc_succ L i hc
    have henc := encA_succ L i hc
    have hlen := encA_len hcan (by omega) i
    generalize L[i] = x at hx hok hlast hsucc henc
    have hc1 := hok.2.1
    have hc2 := hok.2.2.2
    have hu1 := encU_len10 (n := x.c - lastc L i) (by omega)
    refine WP.skip ?_; repeat (first | with_reducible refine QN.block_normal ?_ | with_reducible refine QN.next ?_)
    refine WP.seq ?_
    refine WP.block ?_
    refine WP.seq ?_
    refine WP.drawQ (fun m' => Cs m' [] (.slice (some ad) L.length c) L) [] (by kernel_rfl) (Sl.less hC (by simp) (by omega)) (by repeat (first | with_reducible exact PanicOk.body | with_reducible refine PanicOk.then_ ?_ | with_reducible refine PanicOk.block_ ?_)) (fun hQ => ?_)
    refine RH.pure T_ok hQ [0, 1, 2] (by kernel_rfl) rfl ?_
    refine RH.indexAddr T_ok hQ 3 (k := i) rfl (by kernel_rfl) rfl rfl rfl rfl rfl rfl rfl hc rfl ?_
    refine RH.pure T_ok hQ [4] (by kernel_rfl) rfl ?_
    refine RH.load T_ok hQ 5 (fun m' hm' => hx hm' 0 _ rfl) rfl (by kernel_rfl) rfl rfl rfl rfl ?_
    refine RH.pure T_ok hQ [6, 7] (by kernel_rfl) rfl ?_
    refine RH.eqv (v' := .int .u64 ((x.c - lastc L i : Nat) : Int)) (congrArg _ (by rw [wrap_u64_in _ (by simp only; omega) (by simp only; omega)]; simp only; omega)) ?_
    refine RH.pure T_ok hQ [9, 10] (by kernel_rfl) rfl ?_
    refine RH.indexAddr T_ok hQ 11 (k := i) rfl (by kernel_rfl) rfl rfl rfl rfl rfl rfl rfl hc rfl ?_
    refine RH.pure T_ok hQ [12] (by kernel_rfl) rfl ?_
    refine RH.load T_ok hQ 13 (fun m' hm' => hx hm' 1 _ rfl) rfl (by kernel_rfl) rfl rfl rfl rfl ?_
    refine RH.only 8 rfl (by kernel_rfl) (fun _ => ?_)
    refine RL.call (fi := []) (ca := []) rfl rfl rfl rfl (refuint_c m3 (x.c - lastc L i) (by omega) S3 u3 (bs ++ encA L i) hO (by rw [List.length_append]; omega)) ?_
    rintro u6 m6 ⟨S6, hO6, hE6, hF6⟩
    have hC6 : Cs m6 S6 (.slice (some ad) L.length c) L := Sl.ext hC hE6 hF6 (by omega)
    refine ⟨_, rfl, RL.nil (RH.cont (Sl.less hC6 (by simp) (by omega)) ?_)⟩
    refine RH.only 14 rfl (by kernel_rfl) (fun _ => ?_)
    refine RL.call (fi := []) (ca := []) rfl rfl rfl rfl (refuint_c m6 x.k (by omega) S6 u6 (bs ++ encA L i ++ encU (x.c - lastc L i)) hO6 (by rw [List.length_append, List.length_append]; omega)) ?_
    rintro u7 m7 ⟨S7, hO7, hE7, hF7⟩
    have hC7 : Cs m7 S7 (.slice (some ad) L.length c) L := Sl.ext hC6 hE7 hF7 (by omega)
    refine ⟨_, rfl, RL.nil (RH.cont (Sl.less hC7 (by simp) (by omega)) ?_)⟩
    refine RH.pure T_ok hQ [15] (by kernel_rfl) rfl ?_
    refine RH.done (by kernel_rfl) (fun _ => ?_)
    repeat (first | with_reducible refine QN.block_normal ?_ | with_reducible refine QN.next ?_)
    repeat (first | with_reducible refine WP.seq ?_ | with_reducible refine WP.block ?_ | with_reducible refine WP.region ?_)
    refine RL.pure T_ok 2 rfl ?_
    refine RL.indexAddr (k := i) T_ok rfl rfl rfl rfl rfl rfl rfl hc rfl ?_
    refine RL.pure T_ok 1 rfl ?_
    refine RL.load T_ok rfl rfl rfl (hx hC7 0 _ rfl) rfl ?_
    refine RL.auto T_ok rfl ?_
    refine RL.nil ?_; repeat (first | with_reducible refine QN.block_normal ?_ | with_reducible refine QN.next ?_); repeat (first | with_reducible refine WP.seq ?_ | with_reducible refine WP.block ?_ | with_reducible refine WP.region ?_)
    refine RL.pure T_ok 2 rfl ?_
    refine RL.eqv (v' := .int .i64 ((i + 1 : Nat) : Int)) (congrArg _ (by rw [wrap_i64_in _ (by omega) (by omega)]; rfl)) ?_
    refine RL.auto T_ok rfl ?_
    have hF37 : FpNew m3 S3 S7 := hF6.trans hF7 hE6.size
    have hE37 : Ext m3 S3 m7 := hE6.trans hE7 (fun k hk => hF6 k hk)
    refine RL.nil (QN.round (i + 1, u7, S7) (Sub.cons rfl (Sub.cons rfl (Sub.cons (by rw [hsucc]; rfl) (Sub.cons rfl Sub.nil)))) ⟨by show i + 1 ≤ _; omega, ?_, hC7, hE.trans hE37 (fun k hk => hF k hk), hF.trans hF37 hE.size⟩ (by show _ - (i + 1) < _ - i; omega))
    show Ev.Own m7 S7 5 1 u7 (bs ++ encA L (i + 1)).length (u8s (bs ++ encA L (i + 1)))
    rw [henc, ← List.append_assoc, ← List.append_assoc]
    exact hO7
  · replace hc : i = L.length := by have := of_decide_eq_false hc; simp only at this; omega
    subst hc
    rw [encA_all] at hO
    refine WP.exit ?_; repeat (first | with_reducible refine QN.then_exit ?_ | with_reducible refine QN.block_exit ?_ | with_reducible refine QN.block_far rfl ?_ | with_reducible refine QN.block_normal ?_ | with_reducible refine QN.next ?_); repeat (first | with_reducible refine WP.seq ?_ | with_reducible refine WP.block ?_ | with_reducible refine WP.region ?_)
    refine RL.auto T_ok rfl ?_
    refine RL.nil ?_; repeat (first | with_reducible refine QN.block_normal ?_ | with_reducible refine QN.next ?_); repeat (first | with_reducible refine WP.seq ?_ | with_reducible refine WP.block ?_ | with_reducible refine WP.region ?_)
    refine WP.ret ?_; repeat (first | with_reducible refine QN.then_ret ?_ | with_reducible refine QN.block_ret ?_)
    exact QN.ret1 rfl rfl ⟨_, rfl, S3, hO, hE, hF⟩
end Go.Proofs.Ytmjpcaiehfimgaa
end
