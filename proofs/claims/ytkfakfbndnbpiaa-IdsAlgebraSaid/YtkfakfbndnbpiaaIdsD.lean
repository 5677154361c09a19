/- Join, Meet, and the reference's. -/
import Derived.Test.YtkfakfbndnbpiaaIds9
import Derived.Test.YtkfakfbndnbpiaaSlRange
namespace Go.Proofs.Ytkfakfbndnbpiaa
open Go.RowKit Go.Ev Go.Ids

theorem join_c (m : World) (v u : Value) (a b : List Rng) (h : Rs m [] v a) (h' : Rs m [] u b) (hl : a.length + b.length < 100000000) :
    FnR Try.prog 37 [v, u] m fun r m' => Made m r (join a b) m' := by
  obtain ⟨A, c, rfl, _, _⟩ := h.shape
  obtain ⟨B, c', rfl, _, _⟩ := h'.shape
  refine FnE.enter ⟨_, Try.func37, by kernel_rfl, by kernel_rfl⟩ Try.func37 rfl rfl ?_
  repeat (first | with_reducible refine WP.seq ?_ | with_reducible refine WP.block ?_ | with_reducible refine WP.region ?_)
  refine RL.auto T_ok rfl ?_
  refine RL.nil ?_; repeat (first | with_reducible refine QN.block_normal ?_ | with_reducible refine QN.next ?_); repeat (first | with_reducible refine WP.seq ?_ | with_reducible refine WP.block ?_ | with_reducible refine WP.region ?_)
  refine RL.auto T_ok rfl ?_
  refine RL.buildSlice T_ok [.tmp 5, .tmp 6] (us := [.slice A a.length c, .slice B b.length c']) [.slice A a.length c, .slice B b.length c'] rfl rfl rfl rfl rfl rfl (by simp [Value.cells]) rfl rfl (fun b1 m1 hb1 hC1 => ⟨_, rfl, ?_⟩)
  have hE1 : Ext m [] m1 := hC1.new (by omega)
  have hS1 : Sl m1 [] 1 (.slice (some ⟨b1, 0, none⟩) 2 2) [.slice A a.length c, .slice B b.length c'] := Sl.of_blk (M := []) (n := 2) (c := 2) (sz := 1) hC1.blk (by simp) (by simp) (by omega) (by unfold maxLen; omega)
  refine RL.call (fi := []) (ca := []) rfl rfl rfl rfl (concat_range m1 _ _ [a.flatMap rC, b.flatMap rC] [a.length, b.length] hS1 rfl rfl (fun i u xs k e1 e2 e3 => ?_) (fun xs hx => ?_) (by simp; omega) (by simp)) ?_
  · match i with
    | 0 =>
      simp only [List.getElem?_cons_zero, Option.some.injEq] at e1 e2 e3
      subst e1; subst e2; subst e3
      exact ⟨h.ext0 hE1, rsC_len a⟩
    | 1 =>
      simp only [List.getElem?_cons_succ, List.getElem?_cons_zero, Option.some.injEq] at e1 e2 e3
      subst e1; subst e2; subst e3
      exact ⟨h'.ext0 hE1, rsC_len b⟩
    | i + 2 => simp at e1
  · simp only [List.mem_cons, List.not_mem_nil, or_false] at hx
    rcases hx with rfl | rfl
    · exact rsC_one a
    · exact rsC_one b
  rintro v2 m2 ⟨S2, hO2, hN2⟩
  refine ⟨_, rfl, ?_⟩
  have hE2 := hE1.trans hN2.1 (by simp)
  have hR2 : Rs m2 [] v2 (a ++ b) := by
    have h9 := hO2.sl (M := []) (by simp)
    have e9 : [a.flatMap rC, b.flatMap rC].flatten = (a ++ b).flatMap rC := by simp
    rw [e9] at h9
    exact h9
  refine RL.call (fi := []) (ca := []) rfl rfl rfl rfl (clean_c m2 _ _ hR2 (by rw [List.length_append]; omega)) ?_
  rintro v3 m3 ⟨S3, hO3, hN3⟩
  refine ⟨_, rfl, ?_⟩
  refine RL.auto T_ok rfl ?_
  refine RL.nil ?_; repeat (first | with_reducible refine QN.block_normal ?_ | with_reducible refine QN.next ?_); repeat (first | with_reducible refine WP.seq ?_ | with_reducible refine WP.block ?_ | with_reducible refine WP.region ?_)
  refine WP.ret ?_; repeat (first | with_reducible refine QN.then_ret ?_ | with_reducible refine QN.block_ret ?_)
  exact QN.ret1 rfl rfl ⟨_, rfl, S3, hO3, hE2.trans hN3.1 (by simp), hN3.2.trans' hE2⟩
theorem refjoin_c (m : World) (v u : Value) (a b : List Rng) (h : Rs m [] v a) (h' : Rs m [] u b) (hl : a.length + b.length < 100000000) :
    FnR Try.prog 40 [v, u] m fun r m' => Made m r (join a b) m' := by
  obtain ⟨A, c, rfl, _, _⟩ := h.shape
  obtain ⟨B, c', rfl, _, _⟩ := h'.shape
  refine FnE.enter ⟨_, Try.func40, by kernel_rfl, by kernel_rfl⟩ Try.func40 rfl rfl ?_
  repeat (first | with_reducible refine WP.seq ?_ | with_reducible refine WP.block ?_ | with_reducible refine WP.region ?_)
  refine RL.auto T_ok rfl ?_
  refine RL.nil ?_; repeat (first | with_reducible refine QN.block_normal ?_ | with_reducible refine QN.next ?_); repeat (first | with_reducible refine WP.seq ?_ | with_reducible refine WP.block ?_ | with_reducible refine WP.region ?_)
  refine RL.auto T_ok rfl ?_
  have hSa : Sl m [] 3 (.slice A a.length c) (a.flatMap rC) := h
  refine RL.append T_ok (Own.empty _ _ _ _) (a.flatMap rC) (Src.of_sl hSa) rfl rfl rfl rfl rfl (rsC_len a) (rsC_one a) (by unfold maxLen; omega) (by show (0 + _) * 24 ≤ _; omega) ?_
  intro v1 m1 S1 hO1 hE1 hF1
  refine ⟨_, rfl, ?_⟩
  have hSb : Sl m1 [] 3 (.slice B b.length c') (b.flatMap rC) := h'.ext0 hE1
  have hN1 : New m S1 m1 := ⟨hE1, hF1⟩
  refine RL.auto T_ok rfl ?_
  refine RL.append T_ok hO1 (b.flatMap rC) (Src.of_sl hSb) rfl rfl rfl rfl rfl (rsC_len b) (rsC_one b) (by unfold maxLen; omega) (by show (0 + _ + _) * 24 ≤ _; omega) ?_
  intro v2 m2 S2 hO2 hE2 hF2
  refine ⟨_, rfl, ?_⟩
  have hE12 : Ext m [] m2 := hE1.trans hE2 (fun k hk => .inr (hN1.ge k hk))
  have hR2 : Rs m2 [] v2 (a ++ b) := by
    have h9 := hO2.sl (M := []) (by simp)
    rw [List.nil_append, rsC_app] at h9
    exact h9
  refine RL.call (fi := []) (ca := []) rfl rfl rfl rfl (refclean_c m2 _ _ hR2 (by rw [List.length_append]; omega)) ?_
  rintro v3 m3 ⟨S3, hO3, hN3⟩
  refine ⟨_, rfl, ?_⟩
  refine RL.auto T_ok rfl ?_
  refine RL.nil ?_; repeat (first | with_reducible refine QN.block_normal ?_ | with_reducible refine QN.next ?_); repeat (first | with_reducible refine WP.seq ?_ | with_reducible refine WP.block ?_ | with_reducible refine WP.region ?_)
  refine WP.ret ?_; repeat (first | with_reducible refine QN.then_ret ?_ | with_reducible refine QN.block_ret ?_)
  exact QN.ret1 rfl rfl ⟨_, rfl, S3, hO3, hE12.trans hN3.1 (by simp), hN3.2.trans' hE12⟩
theorem meetAt (A B : List Rng) (i j : Nat) (hi : i < A.length) (hj : j < B.length) : (A.take i).flatMap (fun x => B.flatMap (both x)) ++ (B.take (j + 1)).flatMap (both A[i]) = ((A.take i).flatMap (fun x => B.flatMap (both x)) ++ (B.take j).flatMap (both A[i])) ++ both A[i] B[j] := by
  rw [List.take_succ_eq_append_getElem hj, List.flatMap_append, List.append_assoc]; simp
theorem meetAt_len (A B : List Rng) (i j : Nat) (hi : i < A.length) (hj : j ≤ B.length) : ((A.take i).flatMap (fun x => B.flatMap (both x)) ++ (B.take j).flatMap (both A[i])).length ≤ A.length * B.length := by
  have h1 := meetO_len (A.take i) B
  have h2 := boths_len A[i] (B.take j)
  have h3 : (i + 1) * B.length ≤ A.length * B.length := Nat.mul_le_mul_right _ hi
  unfold meetO at h1
  rw [List.length_take, Nat.min_eq_left (by omega)] at h1 h2
  rw [Nat.succ_mul] at h3
  rw [List.length_append]
  omega
theorem meetAt_next (A B : List Rng) (i : Nat) (hi : i < A.length) : (A.take (i + 1)).flatMap (fun x => B.flatMap (both x)) = (A.take i).flatMap (fun x => B.flatMap (both x)) ++ (B.take B.length).flatMap (both A[i]) := by
  rw [List.take_succ_eq_append_getElem hi, List.flatMap_append, List.take_length]; simp
theorem bothV (x y : Rng) : Value.agg #[.int .u64 x.c, .int .u64 (if (x.f : Int) < y.f then (y.f : Int) else x.f), .int .u64 (if (y.t : Int) < x.t then (y.t : Int) else x.t)] = rV ⟨x.c, max x.f y.f, min x.t y.t⟩ := by
  have h1 : (if (x.f : Int) < y.f then (y.f : Int) else x.f) = ((max x.f y.f : Nat) : Int) := by split <;> omega
  have h2 : (if (y.t : Int) < x.t then (y.t : Int) else x.t) = ((min x.t y.t : Nat) : Int) := by split <;> omega
  rw [h1, h2]; rfl
theorem meet_c (m : World) (v u : Value) (a b : List Rng) (h : Rs m [] v a) (h' : Rs m [] u b) (hla : a.length < 500000000) (hlb : b.length < 500000000) (hl : a.length * b.length < 100000000) :
    FnR Try.prog 38 [v, u] m fun r m' => Made m r (meet a b) m' := by
  refine FnE.enter ⟨_, Try.func38, by kernel_rfl, by kernel_rfl⟩ Try.func38 rfl rfl ?_
  repeat (first | with_reducible refine WP.seq ?_ | with_reducible refine WP.block ?_ | with_reducible refine WP.region ?_)
  refine RL.auto T_ok rfl ?_
  refine RL.nil ?_; repeat (first | with_reducible refine QN.block_normal ?_ | with_reducible refine QN.next ?_); repeat (first | with_reducible refine WP.seq ?_ | with_reducible refine WP.block ?_ | with_reducible refine WP.region ?_)
  refine RL.auto T_ok rfl ?_
  refine RL.nil ?_; repeat (first | with_reducible refine QN.block_normal ?_ | with_reducible refine QN.next ?_); repeat (first | with_reducible refine WP.seq ?_ | with_reducible refine WP.block ?_ | with_reducible refine WP.region ?_)
  refine RL.auto T_ok rfl ?_
  refine RL.call (fi := []) (ca := []) rfl rfl rfl rfl (clean_c m u b h' hlb) ?_
  rintro v1 m1 ⟨S1, hO1, hN1⟩
  refine ⟨_, rfl, ?_⟩
  refine RL.auto T_ok rfl ?_
  refine RL.nil ?_; repeat (first | with_reducible refine QN.block_normal ?_ | with_reducible refine QN.next ?_); repeat (first | with_reducible refine WP.seq ?_ | with_reducible refine WP.block ?_ | with_reducible refine WP.region ?_)
  refine RL.auto T_ok rfl ?_
  refine RL.call (fi := []) (ca := []) rfl rfl rfl rfl (clean_c m1 v a (h.ext0 hN1.1) hla) ?_
  rintro v2 m2 ⟨S2, hO2, hN2⟩
  refine ⟨_, rfl, ?_⟩
  have hO12 := hO1.ext hN2.1 (by simp)
  have hEm : Ext m [] m2 := hN1.1.trans hN2.1 (by simp)
  have hAl := clean_len a
  have hBl := clean_len b
  have hml : (clean a).length * (clean b).length ≤ a.length * b.length := Nat.mul_le_mul hAl hBl
  have hdef : meet a b = clean (meetO (clean a) (clean b)) := rfl
  rw [hdef]
  generalize clean a = A at hO2 hAl hml ⊢
  generalize clean b = B at hO12 hBl hml ⊢
  clear hdef hO1
  obtain ⟨A2, c2, rfl, _⟩ := hO2.shape
  obtain ⟨A1, c1, rfl, _⟩ := hO12.shape
  have hRA : Rs m2 [] (.slice A2 A.length c2) A := hO2.sl (by simp)
  have hRB : Rs m2 [] (.slice A1 B.length c1) B := hO12.sl (by simp)
  clear hO2 hO12 hN1 hN2
  refine RL.auto T_ok rfl ?_
  refine RL.nil ?_; repeat (first | with_reducible refine QN.block_normal ?_ | with_reducible refine QN.next ?_); repeat (first | with_reducible refine WP.seq ?_ | with_reducible refine WP.block ?_ | with_reducible refine WP.region ?_)
  refine (WP.loop (X := Nat × Value × List Nat) (fun x => [(13, .slice A2 A.length c2), (14, .int .i64 A.length), (1, .slice A1 B.length c1), (5, x.2.1), (15, .int .i64 x.1)])
    (fun x m' => x.1 ≤ A.length ∧ Ev.Own m' x.2.2 84 3 x.2.1 ((A.take x.1).flatMap (fun x => B.flatMap (both x))).length (((A.take x.1).flatMap (fun x => B.flatMap (both x))).flatMap rC) ∧ New m2 x.2.2 m') (fun x => A.length - x.1) (0, .slice none 0 0, [])
    (Sub.cons rfl (Sub.cons rfl (Sub.cons rfl (Sub.cons rfl (Sub.cons rfl (Sub.nil)))))) ⟨by simp, Own.empty _ _ _ _, Ext.refl _ _, FpNew.nil _ _⟩ ?_)
  rintro ⟨i, w, S⟩ m3 ⟨hi, hO3, hN3⟩
  simp only at hi hO3 hN3
  repeat (first | with_reducible refine WP.seq ?_ | with_reducible refine WP.block ?_ | with_reducible refine WP.region ?_)
  refine RL.auto T_ok rfl ?_
  refine RL.nil ?_; repeat (first | with_reducible refine QN.block_normal ?_ | with_reducible refine QN.next ?_); repeat (first | with_reducible refine WP.seq ?_ | with_reducible refine WP.block ?_ | with_reducible refine WP.region ?_)
  refine WP.cond rfl (fun hc => ?_) (fun hc => ?_)
  · replace hc : i < A.length := by have := of_decide_eq_true hc; simp only at this; omega
    obtain ⟨ad, rfl, hx⟩ := (hRA.ext0 hN3.1).cell i hc
    have hnext := meetAt_next A B i hc
    have hat := fun j hj => meetAt A B i j hc hj
    have hatl := fun j hj => meetAt_len A B i j hc hj
    generalize (A.take i).flatMap (fun x => B.flatMap (both x)) = out at hO3 hnext hat hatl
    obtain ⟨x, hxe⟩ : ∃ x, A[i] = x := ⟨_, rfl⟩
    rw [hxe] at hx hnext
    simp only [hxe] at hat hatl
    refine WP.skip ?_; repeat (first | with_reducible refine QN.block_normal ?_ | with_reducible refine QN.next ?_); repeat (first | with_reducible refine WP.seq ?_ | with_reducible refine WP.block ?_ | with_reducible refine WP.region ?_)
    refine RL.indexAddr (k := i) T_ok rfl rfl rfl rfl rfl rfl rfl hc rfl ?_
    refine RL.loadAgg T_ok (rC x) rfl rfl rfl hx rfl ?_
    refine RL.alloc T_ok rfl rfl (fun b7 m4 hb7 hCm4 => ⟨_, rfl, ?_⟩)
    refine RL.storeAgg T_ok (b := b7) (i := 0) (vs := rC x) (cs := [.int .u64 0, .int .u64 0, .int .u64 0]) hCm4.blk rfl rfl rfl rfl rfl (by simp) (by simp [rC, Value.oneCell']) rfl ?_
    intro m5 hCm5
    have hEm5 : Ext m3 [] m5 := (hCm4.new (by omega)).trans hCm5.ext (fun q hq => .inr (by have h9 : q = b7 := (by simpa using hq); omega))
    have hBb7 : Blk m5 b7 84 (rC x) := hCm5.blk
    have hO5 := hO3.ext hEm5 (by simp)
    have h7S : b7 ∉ S := fun hh => by have := hO3.lt _ hh; omega
    have h7m : m2.heap.size ≤ b7 := by have := hN3.1.size; omega
    have hN5 : New m2 S m5 := ⟨hN3.1.trans hEm5 (by simp), hN3.2⟩
    refine RL.nil ?_; repeat (first | with_reducible refine QN.block_normal ?_ | with_reducible refine QN.next ?_); repeat (first | with_reducible refine WP.seq ?_ | with_reducible refine WP.block ?_ | with_reducible refine WP.region ?_)
    refine RL.auto T_ok rfl ?_
    refine RL.nil ?_; repeat (first | with_reducible refine QN.block_normal ?_ | with_reducible refine QN.next ?_); repeat (first | with_reducible refine WP.seq ?_ | with_reducible refine WP.block ?_ | with_reducible refine WP.region ?_)
    refine (WP.loop (X := Nat × Value × List Nat) (fun x => [(13, .slice (some ad) A.length c2), (14, .int .i64 A.length), (1, .slice A1 B.length c1), (15, .int .i64 i), (7, .pointer (some ⟨b7, 0, none⟩)), (19, .slice A1 B.length c1), (20, .int .i64 B.length), (5, x.2.1), (21, .int .i64 x.1)])
      (fun q m' => q.1 ≤ B.length ∧ Blk m' b7 84 (rC x) ∧ Ev.Own m' q.2.2 84 3 q.2.1 (out ++ (B.take q.1).flatMap (both x)).length ((out ++ (B.take q.1).flatMap (both x)).flatMap rC) ∧ b7 ∉ q.2.2 ∧ New m2 q.2.2 m') (fun x => B.length - x.1) (0, w, S)
      (Sub.cons rfl (Sub.cons rfl (Sub.cons rfl (Sub.cons rfl (Sub.cons rfl (Sub.cons rfl (Sub.cons rfl (Sub.cons rfl (Sub.cons rfl (Sub.nil)))))))))) ⟨by simp, hBb7, by simpa using hO5, h7S, hN5⟩ ?_)
    rintro ⟨j, w6, S6⟩ m6 ⟨hj, hB6, hO6, h76, hN6⟩
    simp only at hj hB6 hO6 h76 hN6
    repeat (first | with_reducible refine WP.seq ?_ | with_reducible refine WP.block ?_ | with_reducible refine WP.region ?_)
    refine RL.auto T_ok rfl ?_
    refine RL.nil ?_; repeat (first | with_reducible refine QN.block_normal ?_ | with_reducible refine QN.next ?_); repeat (first | with_reducible refine WP.seq ?_ | with_reducible refine WP.block ?_ | with_reducible refine WP.region ?_)
    refine WP.cond rfl (fun hcj => ?_) (fun hcj => ?_)
    · replace hcj : j < B.length := by have := of_decide_eq_true hcj; simp only at this; omega
      obtain ⟨ae, rfl, hy⟩ := (hRB.ext0 hN6.1).cell j hcj
      obtain ⟨y, hye⟩ : ∃ y, B[j] = y := ⟨_, rfl⟩
      have hnx := hat j hcj
      have hln := hatl j hj
      have hln2 := hatl (j + 1) hcj
      rw [hnx, hye] at hln2
      rw [hye] at hy hnx
      generalize out ++ (B.take j).flatMap (both x) = o' at hO6 hln hln2 hnx
      refine WP.skip ?_; repeat (first | with_reducible refine QN.block_normal ?_ | with_reducible refine QN.next ?_); repeat (first | with_reducible refine WP.seq ?_ | with_reducible refine WP.block ?_ | with_reducible refine WP.region ?_)
      refine RL.indexAddr (k := j) T_ok rfl rfl rfl rfl rfl rfl rfl hcj rfl ?_
      refine RL.loadAgg T_ok (rC y) rfl rfl rfl hy rfl ?_
      refine RL.alloc T_ok rfl rfl (fun b9 m7 hb9 hCm7 => ⟨_, rfl, ?_⟩)
      refine RL.storeAgg T_ok (b := b9) (i := 0) (vs := rC y) (cs := [.int .u64 0, .int .u64 0, .int .u64 0]) hCm7.blk rfl rfl rfl rfl rfl (by simp) (by simp [rC, Value.oneCell']) rfl ?_
      intro m8 hCm8
      have hEm8 : Ext m6 [] m8 := (hCm7.new (by omega)).trans hCm8.ext (fun q hq => .inr (by have h9 : q = b9 := (by simpa using hq); omega))
      have hBb9 : Blk m8 b9 84 (rC y) := hCm8.blk
      have hB7 := hB6.ext hEm8 (by simp)
      have hO8 := hO6.ext hEm8 (by simp)
      have hN8 : New m2 S6 m8 := ⟨hN6.1.trans hEm8 (by simp), hN6.2⟩
      have l7 := hB6.lt
      refine RL.nil ?_; repeat (first | with_reducible refine QN.block_normal ?_ | with_reducible refine QN.next ?_); repeat (first | with_reducible refine WP.seq ?_ | with_reducible refine WP.block ?_ | with_reducible refine WP.region ?_)
      repeat (first | refine RL.pure T_ok 1 rfl ?_ | refine RL.load T_ok rfl rfl rfl (hB7.cell _ rfl) rfl ?_ | refine RL.load T_ok rfl rfl rfl (hBb9.cell _ rfl) rfl ?_)
      by_cases h1 : x.c = y.c
      · have hb : both x y = [⟨x.c, max x.f y.f, min x.t y.t⟩] := if_pos h1
        rw [hb] at hnx hln2
        refine RL.eqv (v' := .bool true) (congrArg _ (by rw [deq]; exact decide_eq_true h1)) ?_
        refine RL.nil ?_; repeat (first | with_reducible refine QN.block_normal ?_ | with_reducible refine QN.next ?_); repeat (first | with_reducible refine WP.seq ?_ | with_reducible refine WP.block ?_ | with_reducible refine WP.region ?_)
        refine WP.condT rfl ?_
        repeat (first | with_reducible refine WP.seq ?_ | with_reducible refine WP.block ?_ | with_reducible refine WP.region ?_)
        repeat (first | refine RL.pure T_ok 1 rfl ?_ | refine RL.load T_ok rfl rfl rfl (hB7.cell _ rfl) rfl ?_ | refine RL.load T_ok rfl rfl rfl (hBb9.cell _ rfl) rfl ?_)
        refine RL.eqv (v' := rV ⟨x.c, max x.f y.f, min x.t y.t⟩) (bothV x y) ?_
        refine RL.append1 T_ok [.tmp 43] hO8 (us := [rV ⟨x.c, max x.f y.f, min x.t y.t⟩]) (rC ⟨x.c, max x.f y.f, min x.t y.t⟩) rfl rfl rfl rfl rfl rfl rfl rfl rfl (by simp [rV, rC, Value.cells]) (by simp [rV, Value.cells]) (rC_one _) (by unfold maxLen; omega) (by show (_ + 1) * 24 ≤ _; omega) ?_
        intro v10 m10 S10 hO10 hE10 hF10
        refine ⟨_, rfl, ?_⟩
        have h710 : b7 ∉ S10 := hF10.far h76 hB7.lt
        have hN10 : New m2 S10 m10 := ⟨hN8.1.trans hE10 (fun k hk => .inr (hN8.ge k hk)), hN8.2.trans hF10 hN8.1.size⟩
        refine RL.auto T_ok rfl ?_
        refine RL.nil ?_; repeat (first | with_reducible refine QN.block_normal ?_ | with_reducible refine QN.next ?_); repeat (first | with_reducible refine WP.seq ?_ | with_reducible refine WP.block ?_ | with_reducible refine WP.region ?_)
        refine RL.pure T_ok 1 rfl ?_
        refine RL.eqv (v' := .int .i64 ((j + 1 : Nat) : Int)) (congrArg _ (by rw [wrap_i64_in _ (by omega) (by omega)]; rfl)) ?_
        refine RL.auto T_ok rfl ?_
        refine RL.nil (QN.round (j + 1, v10, S10) (Sub.cons rfl (Sub.cons rfl (Sub.cons rfl (Sub.cons rfl (Sub.cons rfl (Sub.cons rfl (Sub.cons rfl (Sub.cons rfl (Sub.cons rfl (Sub.nil)))))))))) ⟨by show j + 1 ≤ _; omega, hB7.ext hE10 h76, ?_, h710, hN10⟩ (by show _ - (j + 1) < _ - j; omega))
        show Ev.Own m10 S10 84 3 v10 (out ++ (B.take (j + 1)).flatMap (both x)).length ((out ++ (B.take (j + 1)).flatMap (both x)).flatMap rC)
        rw [hnx, List.length_append, ← rsC_app]
        simpa using hO10
      · have hb : both x y = [] := if_neg h1
        rw [hb, List.append_nil] at hnx
        refine RL.eqv (v' := .bool false) (congrArg _ (by rw [deq]; exact decide_eq_false h1)) ?_
        refine RL.nil ?_; repeat (first | with_reducible refine QN.block_normal ?_ | with_reducible refine QN.next ?_); repeat (first | with_reducible refine WP.seq ?_ | with_reducible refine WP.block ?_ | with_reducible refine WP.region ?_)
        refine WP.condF rfl ?_
        refine WP.skip ?_; repeat (first | with_reducible refine QN.block_normal ?_ | with_reducible refine QN.next ?_); repeat (first | with_reducible refine WP.seq ?_ | with_reducible refine WP.block ?_ | with_reducible refine WP.region ?_)
        refine RL.pure T_ok 1 rfl ?_
        refine RL.eqv (v' := .int .i64 ((j + 1 : Nat) : Int)) (congrArg _ (by rw [wrap_i64_in _ (by omega) (by omega)]; rfl)) ?_
        refine RL.auto T_ok rfl ?_
        refine RL.nil (QN.round (j + 1, w6, S6) (Sub.cons rfl (Sub.cons rfl (Sub.cons rfl (Sub.cons rfl (Sub.cons rfl (Sub.cons rfl (Sub.cons rfl (Sub.cons rfl (Sub.cons rfl (Sub.nil)))))))))) ⟨by show j + 1 ≤ _; omega, hB7, ?_, h76, hN8⟩ (by show _ - (j + 1) < _ - j; omega))
        show Ev.Own m8 S6 84 3 w6 (out ++ (B.take (j + 1)).flatMap (both x)).length ((out ++ (B.take (j + 1)).flatMap (both x)).flatMap rC)
        rw [hnx]; exact hO8
    · replace hcj : j = B.length := by have := of_decide_eq_false hcj; simp only at this; omega
      subst hcj
      refine WP.exit ?_; repeat (first | with_reducible refine QN.then_exit ?_ | with_reducible refine QN.block_exit ?_ | with_reducible refine QN.block_far rfl ?_ | with_reducible refine QN.block_normal ?_ | with_reducible refine QN.next ?_); repeat (first | with_reducible refine WP.seq ?_ | with_reducible refine WP.block ?_ | with_reducible refine WP.region ?_)
      refine RL.pure T_ok 1 rfl ?_
      refine RL.eqv (v' := .int .i64 ((i + 1 : Nat) : Int)) (congrArg _ (by rw [wrap_i64_in _ (by omega) (by omega)]; rfl)) ?_
      refine RL.auto T_ok rfl ?_
      refine RL.nil (QN.round (i + 1, w6, S6) (Sub.cons rfl (Sub.cons rfl (Sub.cons rfl (Sub.cons rfl (Sub.cons rfl (Sub.nil)))))) ⟨by show i + 1 ≤ _; omega, ?_, hN6⟩ (by show _ - (i + 1) < _ - i; omega))
      show Ev.Own m6 S6 84 3 _ ((A.take (i + 1)).flatMap (fun x => B.flatMap (both x))).length (((A.take (i + 1)).flatMap (fun x => B.flatMap (both x))).flatMap rC)
      rw [hnext]
      exact hO6
  · replace hc : i = A.length := by have := of_decide_eq_false hc; simp only at this; omega
    subst hc
    rw [List.take_length] at hO3
    have hlen1 := meetO_len A B
    have hRo : Rs m3 [] w (meetO A B) := hO3.sl (by simp)
    refine WP.exit ?_; repeat (first | with_reducible refine QN.then_exit ?_ | with_reducible refine QN.block_exit ?_ | with_reducible refine QN.block_far rfl ?_ | with_reducible refine QN.block_normal ?_ | with_reducible refine QN.next ?_); repeat (first | with_reducible refine WP.seq ?_ | with_reducible refine WP.block ?_ | with_reducible refine WP.region ?_)
    refine RL.auto T_ok rfl ?_
    refine RL.call (fi := []) (ca := []) rfl rfl rfl rfl (clean_c m3 w _ hRo (by omega)) ?_
    rintro v9 m9 ⟨S9, hO9, hN9⟩
    refine ⟨_, rfl, ?_⟩
    refine RL.auto T_ok rfl ?_
    refine RL.nil ?_; repeat (first | with_reducible refine QN.block_normal ?_ | with_reducible refine QN.next ?_); repeat (first | with_reducible refine WP.seq ?_ | with_reducible refine WP.block ?_ | with_reducible refine WP.region ?_)
    refine WP.ret ?_; repeat (first | with_reducible refine QN.then_ret ?_ | with_reducible refine QN.block_ret ?_)
    have hE39 : Ext m [] m3 := hEm.trans hN3.1 (by simp)
    exact QN.ret1 rfl rfl ⟨_, rfl, S9, hO9, hE39.trans hN9.1 (by simp), hN9.2.trans' hE39⟩
end Go.Proofs.Ytkfakfbndnbpiaa
