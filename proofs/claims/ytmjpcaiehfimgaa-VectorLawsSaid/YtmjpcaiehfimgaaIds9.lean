/- Minus. -/
import Derived.Test.YtmjpcaiehfimgaaIds8
import Derived.Test.YtmjpcaiehfimgaaIdsQ
namespace Go.Proofs.Ytmjpcaiehfimgaa
open Go.RowKit Go.Ev Go.Ids

theorem dle' (a b : Nat) : decide ((a : Int) ≤ (b : Int)) = decide (a ≤ b) := by rw [decide_eq_decide]; omega
theorem dge' (a b : Nat) : decide ((a : Int) ≥ (b : Int)) = decide (b ≤ a) := by rw [decide_eq_decide]; omega
/-- A set that a call made. -/
def Made (m : World) (r : Value) (l : List Rng) (m' : World) : Prop := ∃ S', Ev.Own m' S' 62 3 r l.length (l.flatMap rC) ∧ New m S' m'
theorem Made.ext {m m' : World} {r : Value} {l : List Rng} (h : Made m r l m') : Ext m [] m' := by obtain ⟨_, _, h⟩ := h; exact h.1
theorem Made.rs {m m' : World} {r : Value} {l : List Rng} (h : Made m r l m') : Rs m' [] r l := by obtain ⟨_, h, _⟩ := h; exact h.sl (by simp)
theorem Made.from_ {m0 m m' : World} {r : Value} {l : List Rng} (h : Made m r l m') (hE : Ext m0 [] m) : Made m0 r l m' := by
  obtain ⟨S, h1, h2, h3⟩ := h
  exact ⟨S, h1, hE.trans h2 (by simp), h3.trans' hE⟩
theorem minus_c (m : World) (v u : Value) (a b : List Rng) (h : Rs m [] v a) (h' : Rs m [] u b) (hla : a.length < 500000000) (hlb : b.length < 500000000) (hl : a.length * (b.length + 1) < 100000000) :
    FnR Try.prog 42 [v, u] m fun r m' => Made m r (minus a b) m' := by
  refine FnE.enter ⟨_, Try.func42, by kernel_rfl, by kernel_rfl⟩ Try.func42 rfl rfl ?_
  repeat (first | with_reducible refine WP.seq ?_ | with_reducible refine WP.block ?_ | with_reducible refine WP.region ?_)
  refine RL.auto T_ok rfl ?_
  refine RL.nil ?_; repeat (first | with_reducible refine QN.block_normal ?_ | with_reducible refine QN.next ?_); repeat (first | with_reducible refine WP.seq ?_ | with_reducible refine WP.block ?_ | with_reducible refine WP.region ?_)
  refine RL.auto T_ok rfl ?_
  refine RL.nil ?_; repeat (first | with_reducible refine QN.block_normal ?_ | with_reducible refine QN.next ?_); repeat (first | with_reducible refine WP.seq ?_ | with_reducible refine WP.block ?_ | with_reducible refine WP.region ?_)
  refine RL.auto T_ok rfl ?_
  refine RL.call (fi := []) (ca := []) rfl rfl rfl rfl (clean_c m u b h' hlb) ?_
  rintro v1 m1 ⟨S1, hO1, hN1⟩
  refine ⟨_, rfl, ?_⟩
  refine RL.auto T_ok rfl ?_
  refine RL.nil ?_; repeat (first | with_reducible refine QN.block_normal ?_ | with_reducible refine QN.next ?_); repeat (first | with_reducible refine WP.seq ?_ | with_reducible refine WP.block ?_ | with_reducible refine WP.region ?_)
  refine RL.auto T_ok rfl ?_
  refine RL.call (fi := []) (ca := []) rfl rfl rfl rfl (clean_c m1 v a (h.ext0 hN1.1) hla) ?_
  rintro v2 m2 ⟨S2, hO2, hN2⟩
  refine ⟨_, rfl, ?_⟩
  have hO12 := hO1.ext hN2.1 (by simp)
  have hEm : Ext m [] m2 := hN1.1.trans hN2.1 (by simp)
  have hAl := clean_len a
  have hBl := clean_len b
  have hml : (clean a).length * ((clean b).length + 1) ≤ a.length * (b.length + 1) := Nat.mul_le_mul hAl (Nat.succ_le_succ hBl)
  have hdef : minus a b = clean ((clean a).foldl (fun out x => outM (clean b) x out) []) := rfl
  rw [hdef]
  generalize clean a = A at hO2 hAl hml ⊢
  generalize clean b = B at hO12 hBl hml ⊢
  clear hdef hO1
  obtain ⟨A2, c2, rfl, _⟩ := hO2.shape
  obtain ⟨A1, c1, rfl, _⟩ := hO12.shape
  have hRA : Rs m2 [] (.slice A2 A.length c2) A := hO2.sl (by simp)
  have hRB : Rs m2 [] (.slice A1 B.length c1) B := hO12.sl (by simp)
  clear hO2 hO12 hN1 hN2
  refine RL.auto T_ok rfl ?_
  refine RL.nil ?_; repeat (first | with_reducible refine QN.block_normal ?_ | with_reducible refine QN.next ?_); repeat (first | with_reducible refine WP.seq ?_ | with_reducible refine WP.block ?_ | with_reducible refine WP.region ?_)
  refine (WP.loop (X := Nat × Value × List Nat) (fun x => [(13, .slice A2 A.length c2), (14, .int .i64 A.length), (1, .slice A1 B.length c1), (5, x.2.1), (15, .int .i64 x.1)])
    (fun x m' => x.1 ≤ A.length ∧ Ev.Own m' x.2.2 62 3 x.2.1 ((A.take x.1).foldl (fun out x => outM B x out) []).length (((A.take x.1).foldl (fun out x => outM B x out) []).flatMap rC) ∧ New m2 x.2.2 m') (fun x => A.length - x.1) (0, .slice none 0 0, [])
    (Sub.cons rfl (Sub.cons rfl (Sub.cons rfl (Sub.cons rfl (Sub.cons rfl Sub.nil))))) ⟨by simp, Own.empty _ _ _ _, Ext.refl _ _, FpNew.nil _ _⟩ ?_)
  rintro ⟨i, w, S⟩ m3 ⟨hi, hO3, hN3⟩
  simp only at hi hO3 hN3
  repeat (first | with_reducible refine WP.seq ?_ | with_reducible refine WP.block ?_ | with_reducible refine WP.region ?_)
  refine RL.auto T_ok rfl ?_
  refine RL.nil ?_; repeat (first | with_reducible refine QN.block_normal ?_ | with_reducible refine QN.next ?_); repeat (first | with_reducible refine WP.seq ?_ | with_reducible refine WP.block ?_ | with_reducible refine WP.region ?_)
  refine WP.cond rfl (fun hc => ?_) (fun hc => ?_)
  · replace hc : i < A.length := by have := of_decide_eq_true hc; simp only at this; omega
    obtain ⟨ad, rfl, hx⟩ := (hRA.ext0 hN3.1).cell i hc
    have hnext : (A.take (i + 1)).foldl (fun out x => outM B x out) [] = outM B A[i] ((A.take i).foldl (fun out x => outM B x out) []) := by rw [List.take_succ_eq_append_getElem hc, List.foldl_append]; rfl
    have hlen1 : ((A.take i).foldl (fun out x => outM B x out) []).length ≤ i * (B.length + 1) := by
      have h9 := minusO_len (A.take i) B []
      rw [List.length_take, Nat.min_eq_left hi] at h9
      simpa using h9
    have hlen2 : i * (B.length + 1) + (B.length + 1) ≤ A.length * (B.length + 1) := by
      have h9 : (i + 1) * (B.length + 1) ≤ A.length * (B.length + 1) := Nat.mul_le_mul_right _ hc
      rw [Nat.succ_mul] at h9; exact h9
    generalize (A.take i).foldl (fun out x => outM B x out) [] = out at hO3 hnext hlen1
    obtain ⟨x, hxe⟩ : ∃ x, A[i] = x := ⟨_, rfl⟩
    rw [hxe] at hx hnext
    refine WP.skip ?_; repeat (first | with_reducible refine QN.block_normal ?_ | with_reducible refine QN.next ?_); repeat (first | with_reducible refine WP.seq ?_ | with_reducible refine WP.block ?_ | with_reducible refine WP.region ?_)
    refine RL.indexAddr (k := i) T_ok rfl rfl rfl rfl rfl rfl rfl hc rfl ?_
    refine RL.loadAgg T_ok (rC x) rfl rfl rfl hx rfl ?_
    refine RL.alloc T_ok rfl rfl (fun b7 m4 hb7 hC4 => ⟨_, rfl, ?_⟩)
    refine RL.storeAgg T_ok (b := b7) (i := 0) (vs := rC x) (cs := [.int .u64 0, .int .u64 0, .int .u64 0]) hC4.blk rfl rfl rfl rfl rfl (by simp) (by simp [rC, Value.oneCell']) rfl ?_
    intro m5 hC5
    have hE5 : Ext m3 [] m5 := (hC4.new (by omega)).trans hC5.ext (fun q hq => .inr (by have h9 : q = b7 := (by simpa using hq); omega))
    have hB5 : Blk m5 b7 62 (rC x) := hC5.blk
    have hO5 := hO3.ext hE5 (by simp)
    have h7S : b7 ∉ S := fun hh => by have := hO3.lt _ hh; omega
    have h7m : m2.heap.size ≤ b7 := by have := hN3.1.size; omega
    have hN5 : New m2 S m5 := ⟨hN3.1.trans hE5 (by simp), hN3.2⟩
    refine RL.nil ?_; repeat (first | with_reducible refine QN.block_normal ?_ | with_reducible refine QN.next ?_); repeat (first | with_reducible refine WP.seq ?_ | with_reducible refine WP.block ?_ | with_reducible refine WP.region ?_)
    refine RL.auto T_ok rfl ?_
    refine RL.nil ?_; repeat (first | with_reducible refine QN.block_normal ?_ | with_reducible refine QN.next ?_); repeat (first | with_reducible refine WP.seq ?_ | with_reducible refine WP.block ?_ | with_reducible refine WP.region ?_)
    refine (WP.loop (X := Nat × Value × List Nat) (fun x => [(13, .slice (some ad) A.length c2), (14, .int .i64 A.length), (1, .slice A1 B.length c1), (15, .int .i64 i), (7, .pointer (some ⟨b7, 0, none⟩)), (19, .slice A1 B.length c1), (20, .int .i64 B.length), (5, x.2.1), (21, .int .i64 x.1)])
      (fun q m' => q.1 ≤ B.length ∧ Blk m' b7 62 (rC ((B.take q.1).foldl cutM (x, out)).1) ∧ Ev.Own m' q.2.2 62 3 q.2.1 ((B.take q.1).foldl cutM (x, out)).2.length (((B.take q.1).foldl cutM (x, out)).2.flatMap rC) ∧ b7 ∉ q.2.2 ∧ New m2 q.2.2 m') (fun x => B.length - x.1) (0, w, S)
      (Sub.cons rfl (Sub.cons rfl (Sub.cons rfl (Sub.cons rfl (Sub.cons rfl (Sub.cons rfl (Sub.cons rfl (Sub.cons rfl (Sub.cons rfl Sub.nil))))))))) ⟨by simp, hB5, hO5, h7S, hN5⟩ ?_)
    rintro ⟨j, w6, S6⟩ m6 ⟨hj, hB6, hO6, h76, hN6⟩
    simp only at hj hB6 hO6 h76 hN6
    have hlen6 : ((B.take j).foldl cutM (x, out)).2.length ≤ out.length + j := by
      have h9 := cutM_len (B.take j) (x, out)
      rw [List.length_take, Nat.min_eq_left hj] at h9
      exact h9
    repeat (first | with_reducible refine WP.seq ?_ | with_reducible refine WP.block ?_ | with_reducible refine WP.region ?_)
    refine RL.auto T_ok rfl ?_
    refine RL.nil ?_; repeat (first | with_reducible refine QN.block_normal ?_ | with_reducible refine QN.next ?_); repeat (first | with_reducible refine WP.seq ?_ | with_reducible refine WP.block ?_ | with_reducible refine WP.region ?_)
    refine WP.cond rfl (fun hcj => ?_) (fun hcj => ?_)
    · replace hcj : j < B.length := by have := of_decide_eq_true hcj; simp only at this; omega
      obtain ⟨ae, rfl, hy⟩ := (hRB.ext0 hN6.1).cell j hcj
      obtain ⟨y, hye⟩ : ∃ y, B[j] = y := ⟨_, rfl⟩
      have hnx : (B.take (j + 1)).foldl cutM (x, out) = cutM ((B.take j).foldl cutM (x, out)) y := by rw [List.take_succ_eq_append_getElem hcj, List.foldl_append, hye]; rfl
      rw [hye] at hy
      generalize (B.take j).foldl cutM (x, out) = s at hB6 hO6 hlen6 hnx
      obtain ⟨x', o'⟩ := s
      simp only at hB6 hO6 hlen6
      have hcut : cutM (x', o') y = if x'.c ≠ y.c ∨ y.t ≤ x'.f ∨ x'.t ≤ y.f then (x', o') else ({ x' with f := y.t }, o' ++ [⟨x'.c, x'.f, y.f⟩]) := rfl
      refine WP.skip ?_; repeat (first | with_reducible refine QN.block_normal ?_ | with_reducible refine QN.next ?_); repeat (first | with_reducible refine WP.seq ?_ | with_reducible refine WP.block ?_ | with_reducible refine WP.region ?_)
      refine RL.indexAddr (k := j) T_ok rfl rfl rfl rfl rfl rfl rfl hcj rfl ?_
      refine RL.loadAgg T_ok (rC y) rfl rfl rfl hy rfl ?_
      refine RL.alloc T_ok rfl rfl (fun b9 m7 hb9 hC7 => ⟨_, rfl, ?_⟩)
      refine RL.storeAgg T_ok (b := b9) (i := 0) (vs := rC y) (cs := [.int .u64 0, .int .u64 0, .int .u64 0]) hC7.blk rfl rfl rfl rfl rfl (by simp) (by simp [rC, Value.oneCell']) rfl ?_
      intro m8 hC8
      have hE8 : Ext m6 [] m8 := (hC7.new (by omega)).trans hC8.ext (fun q hq => .inr (by have h9 : q = b9 := (by simpa using hq); omega))
      have hB9 : Blk m8 b9 62 (rC y) := hC8.blk
      have hB7 := hB6.ext hE8 (by simp)
      have hO8 := hO6.ext hE8 (by simp)
      have hN8 : New m2 S6 m8 := ⟨hN6.1.trans hE8 (by simp), hN6.2⟩
      have l7 := hB6.lt
      have hE8m : Ext m2 [] m8 := hN8.1
      refine RL.nil ?_; repeat (first | with_reducible refine QN.block_normal ?_ | with_reducible refine QN.next ?_)
      refine WP.seq ?_
      refine WP.cut (X := Bool) (fun q => [(13, .slice (some ad) A.length c2), (14, .int .i64 A.length), (1, .slice (some ae) B.length c1), (15, .int .i64 i), (7, .pointer (some ⟨b7, 0, none⟩)), (19, .slice (some ae) B.length c1), (20, .int .i64 B.length), (5, w6), (21, .int .i64 j), (9, .pointer (some ⟨b9, 0, none⟩)), (43, .bool q)]) (fun q m' => m' = m8 ∧ q = decide (x'.c ≠ y.c ∨ y.t ≤ x'.f ∨ x'.t ≤ y.f)) ?_ ?_
      · refine WP.region ?_
        repeat (first | refine RL.pure T_ok 1 rfl ?_ | refine RL.load T_ok rfl rfl rfl (hB7.cell _ rfl) rfl ?_ | refine RL.load T_ok rfl rfl rfl (hB9.cell _ rfl) rfl ?_)
        by_cases h1 : x'.c = y.c
        · refine RL.eqv (v' := .bool false) (congrArg _ (by rw [bne_nat']; exact decide_eq_false (fun hh => hh h1))) ?_
          repeat (first | refine RL.pure T_ok 1 rfl ?_ | refine RL.load T_ok rfl rfl rfl (hB7.cell _ rfl) rfl ?_ | refine RL.load T_ok rfl rfl rfl (hB9.cell _ rfl) rfl ?_)
          by_cases h2 : y.t ≤ x'.f
          · refine RL.eqv (v' := .bool true) (congrArg _ (by rw [dle']; exact decide_eq_true h2)) ?_
            repeat (first | refine RL.pure T_ok 1 rfl ?_ | refine RL.load T_ok rfl rfl rfl (hB7.cell _ rfl) rfl ?_ | refine RL.load T_ok rfl rfl rfl (hB9.cell _ rfl) rfl ?_)
            exact RL.nil (QN.cutEnd true (Sub.cons rfl (Sub.cons rfl (Sub.cons rfl (Sub.cons rfl (Sub.cons rfl (Sub.cons rfl (Sub.cons rfl (Sub.cons rfl (Sub.cons rfl (Sub.cons rfl (Sub.cons rfl (Sub.nil)))))))))))) ⟨rfl, (decide_eq_true (.inr (.inl h2))).symm⟩)
          · refine RL.eqv (v' := .bool false) (congrArg _ (by rw [dle']; exact decide_eq_false h2)) ?_
            repeat (first | refine RL.pure T_ok 1 rfl ?_ | refine RL.load T_ok rfl rfl rfl (hB7.cell _ rfl) rfl ?_ | refine RL.load T_ok rfl rfl rfl (hB9.cell _ rfl) rfl ?_)
            refine RL.nil (QN.cutEnd (decide (x'.t ≤ y.f)) (Sub.cons rfl (Sub.cons rfl (Sub.cons rfl (Sub.cons rfl (Sub.cons rfl (Sub.cons rfl (Sub.cons rfl (Sub.cons rfl (Sub.cons rfl (Sub.cons rfl (Sub.cons ?_ Sub.nil))))))))))) ⟨rfl, decide_eq_decide.2 ⟨fun hh => .inr (.inr hh), fun hh => ?_⟩⟩)
            · show some (Value.bool (decide ((y.f : Int) ≥ (x'.t : Int)))) = _
              rw [dge']
            · rcases hh with hh | hh | hh
              · exact absurd h1 hh
              · exact absurd hh h2
              · exact hh
        · refine RL.eqv (v' := .bool true) (congrArg _ (by rw [bne_nat']; exact decide_eq_true h1)) ?_
          repeat (first | refine RL.pure T_ok 1 rfl ?_ | refine RL.load T_ok rfl rfl rfl (hB7.cell _ rfl) rfl ?_ | refine RL.load T_ok rfl rfl rfl (hB9.cell _ rfl) rfl ?_)
          exact RL.nil (QN.cutEnd true (Sub.cons rfl (Sub.cons rfl (Sub.cons rfl (Sub.cons rfl (Sub.cons rfl (Sub.cons rfl (Sub.cons rfl (Sub.cons rfl (Sub.cons rfl (Sub.cons rfl (Sub.cons rfl (Sub.nil)))))))))))) ⟨rfl, (decide_eq_true (.inl h1)).symm⟩)
      rintro q mc ⟨rfl, hq⟩
      refine WP.cond rfl (fun hb => ?_) (fun hb => ?_)
      · rw [hb] at hq
        rw [hcut, if_pos (of_decide_eq_true hq.symm)] at hnx
        refine WP.exit ?_; repeat (first | with_reducible refine QN.then_exit ?_ | with_reducible refine QN.block_exit ?_ | with_reducible refine QN.block_far rfl ?_ | with_reducible refine QN.block_normal ?_ | with_reducible refine QN.next ?_); repeat (first | with_reducible refine WP.seq ?_ | with_reducible refine WP.block ?_ | with_reducible refine WP.region ?_)
        refine RL.pure T_ok 1 rfl ?_
        refine RL.eqv (v' := .int .i64 ((j + 1 : Nat) : Int)) (congrArg _ (by rw [wrap_i64_in _ (by omega) (by omega)]; rfl)) ?_
        refine RL.auto T_ok rfl ?_
        refine RL.nil (QN.round (j + 1, w6, S6) (Sub.cons rfl (Sub.cons rfl (Sub.cons rfl (Sub.cons rfl (Sub.cons rfl (Sub.cons rfl (Sub.cons rfl (Sub.cons rfl (Sub.cons rfl (Sub.nil)))))))))) ⟨by show j + 1 ≤ _; omega, ?_, ?_, h76, hN8⟩ (by show _ - (j + 1) < _ - j; omega))
        · show Blk _ b7 62 (rC ((B.take (j + 1)).foldl cutM (x, out)).1)
          rw [hnx]; exact hB7
        · show Ev.Own _ S6 62 3 w6 ((B.take (j + 1)).foldl cutM (x, out)).2.length (((B.take (j + 1)).foldl cutM (x, out)).2.flatMap rC)
          rw [hnx]; exact hO8
      · rw [hb] at hq
        rw [hcut, if_neg (of_decide_eq_false hq.symm)] at hnx
        refine WP.skip ?_; repeat (first | with_reducible refine QN.block_normal ?_ | with_reducible refine QN.next ?_); repeat (first | with_reducible refine WP.seq ?_ | with_reducible refine WP.block ?_ | with_reducible refine WP.region ?_)
        repeat (first | refine RL.pure T_ok 1 rfl ?_ | refine RL.load T_ok rfl rfl rfl (hB7.cell _ rfl) rfl ?_ | refine RL.load T_ok rfl rfl rfl (hB9.cell _ rfl) rfl ?_)
        refine RL.append1 T_ok [.tmp 51] hO8 (us := [rV ⟨x'.c, x'.f, y.f⟩]) (rC ⟨x'.c, x'.f, y.f⟩) rfl rfl rfl rfl rfl rfl rfl rfl rfl (by simp [rV, rC, Value.cells]) (by simp [rV, Value.cells]) (rC_one _) (by unfold maxLen; omega) (by show (_ + 1) * 24 ≤ _; omega) ?_
        intro v10 m10 S10 hO10 hE10 hF10
        refine ⟨_, rfl, ?_⟩
        have l9 := hB9.lt
        have l7' := hB7.lt
        have h9S : b9 ∉ S6 := fun hh => by have := hO6.lt _ hh; omega
        have hB7p := hB7.ext hE10 h76
        have hB9p := hB9.ext hE10 h9S
        have h710 : b7 ∉ S10 := hF10.far h76 l7'
        have hN10 : New m2 S10 m10 := ⟨hN8.1.trans hE10 (fun k hk => .inr (hN8.ge k hk)), hN8.2.trans hF10 hN8.1.size⟩
        refine RL.auto T_ok rfl ?_
        refine RL.nil ?_; repeat (first | with_reducible refine QN.block_normal ?_ | with_reducible refine QN.next ?_); repeat (first | with_reducible refine WP.seq ?_ | with_reducible refine WP.block ?_ | with_reducible refine WP.region ?_)
        repeat (first | refine RL.pure T_ok 1 rfl ?_ | refine RL.load T_ok rfl rfl rfl (hB7p.cell _ rfl) rfl ?_ | refine RL.load T_ok rfl rfl rfl (hB9p.cell _ rfl) rfl ?_)
        refine RL.store T_ok hB7p (i := 1) (v := .int .u64 y.t) (by simp [rC]) rfl rfl rfl rfl rfl rfl ?_
        intro m11 hC11
        have hE11 : Ext m2 [] m11 := hN10.1.trans hC11.ext (fun k hk => .inr (by have h9 : k = b7 := (by simpa using hk); omega))
        have hO11 := hO10.ext hC11.ext (fun k hk hh => h710 (by have h9 : k = b7 := (by simpa using hh); exact h9 ▸ hk))
        have hB11 : Blk m11 b7 62 (rC { x' with f := y.t }) := hC11.blk
        refine RL.nil ?_; repeat (first | with_reducible refine QN.block_normal ?_ | with_reducible refine QN.next ?_); repeat (first | with_reducible refine WP.seq ?_ | with_reducible refine WP.block ?_ | with_reducible refine WP.region ?_)
        refine RL.pure T_ok 1 rfl ?_
        refine RL.eqv (v' := .int .i64 ((j + 1 : Nat) : Int)) (congrArg _ (by rw [wrap_i64_in _ (by omega) (by omega)]; rfl)) ?_
        refine RL.auto T_ok rfl ?_
        refine RL.nil (QN.round (j + 1, v10, S10) (Sub.cons rfl (Sub.cons rfl (Sub.cons rfl (Sub.cons rfl (Sub.cons rfl (Sub.cons rfl (Sub.cons rfl (Sub.cons rfl (Sub.cons rfl (Sub.nil)))))))))) ⟨by show j + 1 ≤ _; omega, ?_, ?_, h710, ⟨hE11, hN10.2⟩⟩ (by show _ - (j + 1) < _ - j; omega))
        · show Blk _ b7 62 (rC ((B.take (j + 1)).foldl cutM (x, out)).1)
          rw [hnx]; exact hB11
        · show Ev.Own _ S10 62 3 v10 ((B.take (j + 1)).foldl cutM (x, out)).2.length (((B.take (j + 1)).foldl cutM (x, out)).2.flatMap rC)
          rw [hnx, List.length_append, ← rsC_app]
          simpa using hO11
    · replace hcj : j = B.length := by have := of_decide_eq_false hcj; simp only at this; omega
      subst hcj
      rw [List.take_length] at hB6 hO6 hlen6
      have hoM : outM B x out = (B.foldl cutM (x, out)).2 ++ [(B.foldl cutM (x, out)).1] := rfl
      generalize B.foldl cutM (x, out) = s at hB6 hO6 hlen6 hoM
      obtain ⟨x', o'⟩ := s
      simp only at hB6 hO6 hlen6 hoM
      refine WP.exit ?_; repeat (first | with_reducible refine QN.then_exit ?_ | with_reducible refine QN.block_exit ?_ | with_reducible refine QN.block_far rfl ?_ | with_reducible refine QN.block_normal ?_ | with_reducible refine QN.next ?_); repeat (first | with_reducible refine WP.seq ?_ | with_reducible refine WP.block ?_ | with_reducible refine WP.region ?_)
      refine RL.auto T_ok rfl ?_
      refine RL.loadAgg T_ok (rC x') rfl rfl rfl (fun j u hu => by rw [add_block]; exact hB6.cell _ (by simpa using hu)) rfl ?_
      refine RL.append1 T_ok [.tmp 59] hO6 (us := [rV x']) (rC x') rfl rfl rfl rfl rfl rfl rfl rfl rfl (by simp [rV, rC, Value.cells]) (by simp [rV, Value.cells]) (rC_one x') (by unfold maxLen; omega) (by show (_ + 1) * 24 ≤ _; omega) ?_
      intro v8 m8 S8 hO8 hE8 hF8
      refine ⟨_, rfl, ?_⟩
      refine RL.auto T_ok rfl ?_
      refine RL.nil ?_; repeat (first | with_reducible refine QN.block_normal ?_ | with_reducible refine QN.next ?_); repeat (first | with_reducible refine WP.seq ?_ | with_reducible refine WP.block ?_ | with_reducible refine WP.region ?_)
      refine RL.pure T_ok 1 rfl ?_
      refine RL.eqv (v' := .int .i64 ((i + 1 : Nat) : Int)) (congrArg _ (by rw [wrap_i64_in _ (by omega) (by omega)]; rfl)) ?_
      refine RL.auto T_ok rfl ?_
      have hN8 : New m2 S8 m8 := ⟨hN6.1.trans hE8 (fun k hk => .inr (hN6.ge k hk)), hN6.2.trans hF8 hN6.1.size⟩
      refine RL.nil (QN.round (i + 1, v8, S8) (Sub.cons rfl (Sub.cons rfl (Sub.cons rfl (Sub.cons rfl (Sub.cons rfl (Sub.nil)))))) ⟨by show i + 1 ≤ _; omega, ?_, hN8⟩ (by show _ - (i + 1) < _ - i; omega))
      show Ev.Own m8 S8 62 3 _ ((A.take (i + 1)).foldl (fun out x => outM B x out) []).length (((A.take (i + 1)).foldl (fun out x => outM B x out) []).flatMap rC)
      rw [hnext, hoM, List.length_append, ← rsC_app]
      simpa using hO8
  · replace hc : i = A.length := by have := of_decide_eq_false hc; simp only at this; omega
    subst hc
    rw [List.take_length] at hO3
    have hlen1 : (A.foldl (fun out x => outM B x out) []).length ≤ A.length * (B.length + 1) := by
      have h9 := minusO_len A B []
      simpa using h9
    have hRo : Rs m3 [] w (A.foldl (fun out x => outM B x out) []) := hO3.sl (by simp)
    refine WP.exit ?_; repeat (first | with_reducible refine QN.then_exit ?_ | with_reducible refine QN.block_exit ?_ | with_reducible refine QN.block_far rfl ?_ | with_reducible refine QN.block_normal ?_ | with_reducible refine QN.next ?_); repeat (first | with_reducible refine WP.seq ?_ | with_reducible refine WP.block ?_ | with_reducible refine WP.region ?_)
    refine RL.auto T_ok rfl ?_
    refine RL.call (fi := []) (ca := []) rfl rfl rfl rfl (clean_c m3 w _ hRo (by omega)) ?_
    rintro v9 m9 ⟨S9, hO9, hN9⟩
    refine ⟨_, rfl, ?_⟩
    refine RL.auto T_ok rfl ?_
    refine RL.nil ?_; repeat (first | with_reducible refine QN.block_normal ?_ | with_reducible refine QN.next ?_); repeat (first | with_reducible refine WP.seq ?_ | with_reducible refine WP.block ?_ | with_reducible refine WP.region ?_)
    refine WP.ret ?_; repeat (first | with_reducible refine QN.then_ret ?_ | with_reducible refine QN.block_ret ?_)
    have hE39 : Ext m [] m3 := hEm.trans hN3.1 (by simp)
    exact QN.ret1 rfl rfl ⟨_, rfl, S9, hO9, hE39.trans hN9.1 (by simp), hN9.2.trans' hE39⟩
end Go.Proofs.Ytmjpcaiehfimgaa
