/- JoinTurns. -/
import Derived.Test.YtkfakfbndnbpiaaIdsU
import Derived.Test.YtkfakfbndnbpiaaSlTurn
namespace Go.Proofs.Ytkfakfbndnbpiaa
open Go.RowKit Go.Ev Go.Ids

theorem joinT_c (m : World) (v u : Value) (a b : List Trn) (h : Ts m [] v a) (h' : Ts m [] u b) (hl : a.length + b.length < 100000000) :
    FnR Try.prog 52 [v, u] m fun r m' => ∃ L, TForm (a ++ b) L ∧ TMade m r L m' := by
  obtain ⟨A, c, rfl, _, _⟩ := h.shape
  obtain ⟨B, c', rfl, _, _⟩ := h'.shape
  refine FnE.enter ⟨_, Try.func52, by kernel_rfl, by kernel_rfl⟩ Try.func52 rfl rfl ?_
  repeat (first | with_reducible refine WP.seq ?_ | with_reducible refine WP.block ?_ | with_reducible refine WP.region ?_)
  refine RL.auto T_ok rfl ?_
  refine RL.nil ?_; repeat (first | with_reducible refine QN.block_normal ?_ | with_reducible refine QN.next ?_); repeat (first | with_reducible refine WP.seq ?_ | with_reducible refine WP.block ?_ | with_reducible refine WP.region ?_)
  refine RL.auto T_ok rfl ?_
  refine RL.buildSlice T_ok [.tmp 5, .tmp 6] (us := [.slice A a.length c, .slice B b.length c']) [.slice A a.length c, .slice B b.length c'] rfl rfl rfl rfl rfl rfl (by simp [Value.cells]) rfl rfl (fun b1 m1 hb1 hC1 => ⟨_, rfl, ?_⟩)
  have hE1 : Ext m [] m1 := hC1.new (by omega)
  have hS1 : Sl m1 [] 1 (.slice (some ⟨b1, 0, none⟩) 2 2) [.slice A a.length c, .slice B b.length c'] := Sl.of_blk (M := []) (n := 2) (c := 2) (sz := 1) hC1.blk (by simp) (by simp) (by omega) (by unfold maxLen; omega)
  refine RL.call (fi := []) (ca := []) rfl rfl rfl rfl (concat_turn m1 _ _ [a.flatMap tC, b.flatMap tC] [a.length, b.length] hS1 rfl rfl (fun i u xs k e1 e2 e3 => ?_) (fun xs hx => ?_) (by simp; omega) (by simp)) ?_
  · match i with
    | 0 =>
      simp only [List.getElem?_cons_zero, Option.some.injEq] at e1 e2 e3
      subst e1; subst e2; subst e3
      exact ⟨h.ext0 hE1, tsC_len a⟩
    | 1 =>
      simp only [List.getElem?_cons_succ, List.getElem?_cons_zero, Option.some.injEq] at e1 e2 e3
      subst e1; subst e2; subst e3
      exact ⟨h'.ext0 hE1, tsC_len b⟩
    | i + 2 => simp at e1
  · simp only [List.mem_cons, List.not_mem_nil, or_false] at hx
    rcases hx with rfl | rfl
    · exact tsC_one a
    · exact tsC_one b
  rintro v2 m2 ⟨S2, hO2, hN2⟩
  refine ⟨_, rfl, ?_⟩
  have hE2 := hE1.trans hN2.1 (by simp)
  have hR2 : Ts m2 [] v2 (a ++ b) := by
    have h9 := hO2.sl (M := []) (by simp)
    have e9 : [a.flatMap tC, b.flatMap tC].flatten = (a ++ b).flatMap tC := by simp
    rw [e9] at h9
    exact h9
  refine RL.call (fi := []) (ca := []) rfl rfl rfl rfl (turnsF_c m2 _ _ hR2 (by rw [List.length_append]; omega)) ?_
  rintro v3 m3 ⟨L, hL, S3, hO3, hN3⟩
  refine ⟨_, rfl, ?_⟩
  refine RL.auto T_ok rfl ?_
  refine RL.nil ?_; repeat (first | with_reducible refine QN.block_normal ?_ | with_reducible refine QN.next ?_); repeat (first | with_reducible refine WP.seq ?_ | with_reducible refine WP.block ?_ | with_reducible refine WP.region ?_)
  refine WP.ret ?_; repeat (first | with_reducible refine QN.then_ret ?_ | with_reducible refine QN.block_ret ?_)
  exact QN.ret1 rfl rfl ⟨_, rfl, L, hL, S3, hO3, hE2.trans hN3.1 (by simp), hN3.2.trans' hE2⟩
/-- The ranges of odd turns. -/
def hid (L : List Trn) : List Rng := (L.filter fun x => decide (x.n % 2 = 1)).map fun x => ⟨x.c, x.f, x.t⟩
theorem hid_succ (L : List Trn) (i : Nat) (h : i < L.length) : hid (L.take (i + 1)) = hid (L.take i) ++ (if L[i].n % 2 = 1 then [⟨L[i].c, L[i].f, L[i].t⟩] else []) := by
  unfold hid
  rw [List.take_succ_eq_append_getElem h, List.filter_append, List.map_append]
  by_cases h1 : L[i].n % 2 = 1 <;> simp [h1]
theorem hid_len (L : List Trn) : (hid L).length ≤ L.length := by
  unfold hid
  rw [List.length_map]
  exact List.length_filter_le _ _
theorem hidden_c (m : World) (v : Value) (l : List Trn) (h : Ts m [] v l) (hl : l.length < 100000000) :
    FnR Try.prog 50 [v] m fun r m' => ∃ L, TForm l L ∧ Made m r (clean (hid L)) m' := by
  refine FnE.enter ⟨_, Try.func50, by kernel_rfl, by kernel_rfl⟩ Try.func50 rfl rfl ?_
  repeat (first | with_reducible refine WP.seq ?_ | with_reducible refine WP.block ?_ | with_reducible refine WP.region ?_)
  refine RL.auto T_ok rfl ?_
  refine RL.nil ?_; repeat (first | with_reducible refine QN.block_normal ?_ | with_reducible refine QN.next ?_); repeat (first | with_reducible refine WP.seq ?_ | with_reducible refine WP.block ?_ | with_reducible refine WP.region ?_)
  refine RL.auto T_ok rfl ?_
  refine RL.nil ?_; repeat (first | with_reducible refine QN.block_normal ?_ | with_reducible refine QN.next ?_); repeat (first | with_reducible refine WP.seq ?_ | with_reducible refine WP.block ?_ | with_reducible refine WP.region ?_)
  refine RL.auto T_ok rfl ?_
  refine RL.call (fi := []) (ca := []) rfl rfl rfl rfl (turnsF_c m v l h (by omega)) ?_
  rintro v1 m1 ⟨L, hL, hM⟩
  refine ⟨_, rfl, ?_⟩
  have hE1 := hM.ext
  have hR1 := hM.ts
  have hLl := hL.2.2
  obtain ⟨A, c, rfl, _, _⟩ := hR1.shape
  refine RL.auto T_ok rfl ?_
  refine RL.nil ?_; repeat (first | with_reducible refine QN.block_normal ?_ | with_reducible refine QN.next ?_); repeat (first | with_reducible refine WP.seq ?_ | with_reducible refine WP.block ?_ | with_reducible refine WP.region ?_)
  refine (WP.loop (X := Nat × Value × List Nat) (fun x => [(7, .slice A L.length c), (8, .int .i64 L.length), (3, x.2.1), (9, .int .i64 x.1)])
    (fun x m' => x.1 ≤ L.length ∧ Ev.Own m' x.2.2 84 3 x.2.1 (hid (L.take x.1)).length ((hid (L.take x.1)).flatMap rC) ∧ New m1 x.2.2 m') (fun x => L.length - x.1) (0, .slice none 0 0, [])
    (Sub.cons rfl (Sub.cons rfl (Sub.cons rfl (Sub.cons rfl Sub.nil)))) ⟨by simp, Own.empty _ _ _ _, Ext.refl _ _, FpNew.nil _ _⟩ ?_)
  rintro ⟨i, w, S⟩ m2 ⟨hi, hO, hN⟩
  simp only at hi hO hN
  repeat (first | with_reducible refine WP.seq ?_ | with_reducible refine WP.block ?_ | with_reducible refine WP.region ?_)
  refine RL.auto T_ok rfl ?_
  refine RL.nil ?_; repeat (first | with_reducible refine QN.block_normal ?_ | with_reducible refine QN.next ?_); repeat (first | with_reducible refine WP.seq ?_ | with_reducible refine WP.block ?_ | with_reducible refine WP.region ?_)
  refine WP.cond rfl (fun hc => ?_) (fun hc => ?_)
  · replace hc : i < L.length := by have := of_decide_eq_true hc; simp only at this; omega
    obtain ⟨ad, rfl, hx⟩ := (hR1.ext0 hN.1).cell i hc
    have hnx := hid_succ L i hc
    have hln := hid_len (L.take i)
    rw [List.length_take, Nat.min_eq_left hi] at hln
    obtain ⟨x, hxe⟩ : ∃ x, L[i] = x := ⟨_, rfl⟩
    rw [hxe] at hx hnx
    refine WP.skip ?_; repeat (first | with_reducible refine QN.block_normal ?_ | with_reducible refine QN.next ?_); repeat (first | with_reducible refine WP.seq ?_ | with_reducible refine WP.block ?_ | with_reducible refine WP.region ?_)
    refine RL.indexAddr (k := i) T_ok rfl rfl rfl rfl rfl rfl rfl hc rfl ?_
    refine RL.loadAgg T_ok (tC x) rfl rfl rfl hx rfl ?_
    refine RL.alloc T_ok rfl rfl (fun b5 m3 hb5 hC3 => ⟨_, rfl, ?_⟩)
    refine RL.storeAgg T_ok (b := b5) (i := 0) (vs := tC x) (cs := [.int .u64 0, .int .u64 0, .int .u64 0, .int .u64 0]) hC3.blk rfl rfl rfl rfl rfl (by simp) (by simp [tC, Value.oneCell']) rfl ?_
    intro m4 hC4
    have hE4 : Ext m2 [] m4 := (hC3.new (by omega)).trans hC4.ext (fun q hq => .inr (by have h9 : q = b5 := (by simpa using hq); omega))
    have hB4 : Blk m4 b5 101 (tC x) := hC4.blk
    have hO4 := hO.ext hE4 (by simp)
    have hN4 : New m1 S m4 := ⟨hN.1.trans hE4 (by simp), hN.2⟩
    refine RL.nil ?_; repeat (first | with_reducible refine QN.block_normal ?_ | with_reducible refine QN.next ?_); repeat (first | with_reducible refine WP.seq ?_ | with_reducible refine WP.block ?_ | with_reducible refine WP.region ?_)
    refine RL.pure T_ok 1 rfl ?_
    refine RL.load T_ok rfl rfl rfl (hB4.cell 3 rfl) rfl ?_
    refine RL.pure T_ok 1 rfl ?_
    refine RL.eqv (v' := .int .u64 (x.n % 2 : Nat)) (congrArg _ (Int.ofNat_tmod x.n 2).symm) ?_
    refine RL.pure T_ok 1 rfl ?_
    refine RL.eqv (v' := .bool (decide (x.n % 2 = 1))) (congrArg _ (deq (x.n % 2) 1)) ?_
    refine RL.nil ?_; repeat (first | with_reducible refine QN.block_normal ?_ | with_reducible refine QN.next ?_); repeat (first | with_reducible refine WP.seq ?_ | with_reducible refine WP.block ?_ | with_reducible refine WP.region ?_)
    refine WP.cond rfl (fun ho => ?_) (fun ho => ?_)
    · rw [if_pos (of_decide_eq_true ho)] at hnx
      repeat (first | with_reducible refine WP.seq ?_ | with_reducible refine WP.block ?_ | with_reducible refine WP.region ?_)
      repeat (first | refine RL.pure T_ok 1 rfl ?_ | refine RL.load T_ok rfl rfl rfl (hB4.cell _ rfl) rfl ?_)
      refine RL.append1 T_ok [.tmp 24] hO4 (us := [rV ⟨x.c, x.f, x.t⟩]) (rC ⟨x.c, x.f, x.t⟩) rfl rfl rfl rfl rfl rfl rfl rfl rfl (by simp [rV, rC, Value.cells]) (by simp [rV, Value.cells]) (rC_one _) (by unfold maxLen; omega) (by show (_ + 1) * 24 ≤ _; omega) ?_
      intro v6 m6 S6 hO6 hE6 hF6
      refine ⟨_, rfl, ?_⟩
      have hN6 : New m1 S6 m6 := ⟨hN4.1.trans hE6 (fun k hk => .inr (hN4.ge k hk)), hN4.2.trans hF6 hN4.1.size⟩
      refine RL.auto T_ok rfl ?_
      refine RL.nil ?_; repeat (first | with_reducible refine QN.block_normal ?_ | with_reducible refine QN.next ?_); repeat (first | with_reducible refine WP.seq ?_ | with_reducible refine WP.block ?_ | with_reducible refine WP.region ?_)
      refine RL.pure T_ok 1 rfl ?_
      refine RL.eqv (v' := .int .i64 ((i + 1 : Nat) : Int)) (congrArg _ (by rw [wrap_i64_in _ (by omega) (by omega)]; rfl)) ?_
      refine RL.auto T_ok rfl ?_
      refine RL.nil (QN.round (i + 1, v6, S6) (Sub.cons rfl (Sub.cons rfl (Sub.cons rfl (Sub.cons rfl Sub.nil)))) ⟨by show i + 1 ≤ _; omega, ?_, hN6⟩ (by show _ - (i + 1) < _ - i; omega))
      show Ev.Own m6 S6 84 3 v6 (hid (L.take (i + 1))).length ((hid (L.take (i + 1))).flatMap rC)
      rw [hnx, List.length_append, ← rsC_app]
      simpa using hO6
    · rw [if_neg (of_decide_eq_false ho), List.append_nil] at hnx
      refine WP.skip ?_; repeat (first | with_reducible refine QN.block_normal ?_ | with_reducible refine QN.next ?_); repeat (first | with_reducible refine WP.seq ?_ | with_reducible refine WP.block ?_ | with_reducible refine WP.region ?_)
      refine RL.pure T_ok 1 rfl ?_
      refine RL.eqv (v' := .int .i64 ((i + 1 : Nat) : Int)) (congrArg _ (by rw [wrap_i64_in _ (by omega) (by omega)]; rfl)) ?_
      refine RL.auto T_ok rfl ?_
      refine RL.nil (QN.round (i + 1, w, S) (Sub.cons rfl (Sub.cons rfl (Sub.cons rfl (Sub.cons rfl Sub.nil)))) ⟨by show i + 1 ≤ _; omega, ?_, hN4⟩ (by show _ - (i + 1) < _ - i; omega))
      show Ev.Own m4 S 84 3 w (hid (L.take (i + 1))).length ((hid (L.take (i + 1))).flatMap rC)
      rw [hnx]; exact hO4
  · replace hc : i = L.length := by have := of_decide_eq_false hc; simp only at this; omega
    subst hc
    rw [List.take_length] at hO
    have hln := hid_len L
    have hRo : Rs m2 [] w (hid L) := hO.sl (by simp)
    have hE12 : Ext m [] m2 := hE1.trans hN.1 (by simp)
    refine WP.exit ?_; repeat (first | with_reducible refine QN.then_exit ?_ | with_reducible refine QN.block_exit ?_ | with_reducible refine QN.block_far rfl ?_ | with_reducible refine QN.block_normal ?_ | with_reducible refine QN.next ?_); repeat (first | with_reducible refine WP.seq ?_ | with_reducible refine WP.block ?_ | with_reducible refine WP.region ?_)
    refine RL.auto T_ok rfl ?_
    refine RL.call (fi := []) (ca := []) rfl rfl rfl rfl (clean_c m2 w _ hRo (by omega)) ?_
    rintro v9 m9 ⟨S9, hO9, hN9⟩
    refine ⟨_, rfl, ?_⟩
    refine RL.auto T_ok rfl ?_
    refine RL.nil ?_; repeat (first | with_reducible refine QN.block_normal ?_ | with_reducible refine QN.next ?_); repeat (first | with_reducible refine WP.seq ?_ | with_reducible refine WP.block ?_ | with_reducible refine WP.region ?_)
    refine WP.ret ?_; repeat (first | with_reducible refine QN.then_ret ?_ | with_reducible refine QN.block_ret ?_)
    exact QN.ret1 rfl rfl ⟨_, rfl, L, hL, S9, hO9, hE12.trans hN9.1 (by simp), hN9.2.trans' hE12⟩
end Go.Proofs.Ytkfakfbndnbpiaa
