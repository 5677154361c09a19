/- The reference's Turns, JoinTurns, Hidden; what the rows of turns ask first. -/
import Derived.Test.YtkfakfbndnbpiaaIdsW
namespace Go.Proofs.Ytkfakfbndnbpiaa
open Go.RowKit Go.Ev Go.Ids

theorem AForm.turns {l L L' : List Trn} (h : TForm l L) (h' : AForm l [] L') : L' = L := tcanon_unique h'.1 h.1 fun c k => by rw [h'.2.1, h.2.1, aboveOf_nil]
theorem refturns_c (m : World) (v : Value) (l : List Trn) (h : Ts m [] v l) (hl : l.length * (2 * l.length) < 100000000) :
    FnR Try.prog 48 [v] m fun r m' => ∃ L, AForm l [] L ∧ TMade m r L m' := by
  have hll : l.length < 100000000 := by
    rcases Nat.eq_zero_or_pos l.length with h0 | h0
    · omega
    · have := Nat.mul_le_mul_left l.length (show 1 ≤ 2 * l.length by omega)
      omega
  refine FnE.enter ⟨_, Try.func48, by kernel_rfl, by kernel_rfl⟩ Try.func48 rfl rfl ?_
  repeat (first | with_reducible refine WP.seq ?_ | with_reducible refine WP.block ?_ | with_reducible refine WP.region ?_)
  refine RL.auto T_ok rfl ?_
  refine RL.nil ?_; repeat (first | with_reducible refine QN.block_normal ?_ | with_reducible refine QN.next ?_); repeat (first | with_reducible refine WP.seq ?_ | with_reducible refine WP.block ?_ | with_reducible refine WP.region ?_)
  refine RL.auto T_ok rfl ?_
  refine RL.call (fi := []) (ca := []) rfl rfl rfl rfl (refabove_c m v _ l [] h (Sl.nil _ _ _) (by simpa using hll) (by simpa using hl)) ?_
  rintro v3 m3 ⟨L, hL, hM⟩
  refine ⟨_, rfl, ?_⟩
  refine RL.auto T_ok rfl ?_
  refine RL.nil ?_; repeat (first | with_reducible refine QN.block_normal ?_ | with_reducible refine QN.next ?_); repeat (first | with_reducible refine WP.seq ?_ | with_reducible refine WP.block ?_ | with_reducible refine WP.region ?_)
  refine WP.ret ?_; repeat (first | with_reducible refine QN.then_ret ?_ | with_reducible refine QN.block_ret ?_)
  exact QN.ret1 rfl rfl ⟨_, rfl, L, hL, hM⟩
theorem refjoinT_c (m : World) (v u : Value) (a b : List Trn) (h : Ts m [] v a) (h' : Ts m [] u b) (hl : (a ++ b).length * (2 * (a ++ b).length) < 100000000) (hl2 : a.length + b.length < 100000000) :
    FnR Try.prog 54 [v, u] m fun r m' => ∃ L, AForm (a ++ b) [] L ∧ TMade m r L m' := by
  obtain ⟨A, c, rfl, _, _⟩ := h.shape
  obtain ⟨B, c', rfl, _, _⟩ := h'.shape
  refine FnE.enter ⟨_, Try.func54, by kernel_rfl, by kernel_rfl⟩ Try.func54 rfl rfl ?_
  repeat (first | with_reducible refine WP.seq ?_ | with_reducible refine WP.block ?_ | with_reducible refine WP.region ?_)
  refine RL.auto T_ok rfl ?_
  refine RL.nil ?_; repeat (first | with_reducible refine QN.block_normal ?_ | with_reducible refine QN.next ?_); repeat (first | with_reducible refine WP.seq ?_ | with_reducible refine WP.block ?_ | with_reducible refine WP.region ?_)
  refine RL.auto T_ok rfl ?_
  have hSa : Sl m [] 4 (.slice A a.length c) (a.flatMap tC) := h
  refine RL.append T_ok (Own.empty _ _ _ _) (a.flatMap tC) (Src.of_sl hSa) rfl rfl rfl rfl rfl (tsC_len a) (tsC_one a) (by unfold maxLen; omega) (by show (0 + _) * 32 ≤ _; omega) ?_
  intro v1 m1 S1 hO1 hE1 hF1
  refine ⟨_, rfl, ?_⟩
  have hSb : Sl m1 [] 4 (.slice B b.length c') (b.flatMap tC) := h'.ext0 hE1
  have hN1 : New m S1 m1 := ⟨hE1, hF1⟩
  refine RL.auto T_ok rfl ?_
  refine RL.append T_ok hO1 (b.flatMap tC) (Src.of_sl hSb) rfl rfl rfl rfl rfl (tsC_len b) (tsC_one b) (by unfold maxLen; omega) (by show (0 + _ + _) * 32 ≤ _; omega) ?_
  intro v2 m2 S2 hO2 hE2 hF2
  refine ⟨_, rfl, ?_⟩
  have hE12 : Ext m [] m2 := hE1.trans hE2 (fun k hk => .inr (hN1.ge k hk))
  have hR2 : Ts m2 [] v2 (a ++ b) := by
    have h9 := hO2.sl (M := []) (by simp)
    rw [List.nil_append, tsC_app] at h9
    exact h9
  refine RL.call (fi := []) (ca := []) rfl rfl rfl rfl (refturns_c m2 _ _ hR2 hl) ?_
  rintro v3 m3 ⟨L, hL, S3, hO3, hN3⟩
  refine ⟨_, rfl, ?_⟩
  refine RL.auto T_ok rfl ?_
  refine RL.nil ?_; repeat (first | with_reducible refine QN.block_normal ?_ | with_reducible refine QN.next ?_); repeat (first | with_reducible refine WP.seq ?_ | with_reducible refine WP.block ?_ | with_reducible refine WP.region ?_)
  refine WP.ret ?_; repeat (first | with_reducible refine QN.then_ret ?_ | with_reducible refine QN.block_ret ?_)
  exact QN.ret1 rfl rfl ⟨_, rfl, L, hL, S3, hO3, hE12.trans hN3.1 (by simp), hN3.2.trans' hE12⟩
theorem refhidden_c (m : World) (v : Value) (l : List Trn) (h : Ts m [] v l) (hl : l.length * (2 * l.length) < 100000000) :
    FnR Try.prog 51 [v] m fun r m' => ∃ L, AForm l [] L ∧ Made m r (clean (hid L)) m' := by
  refine FnE.enter ⟨_, Try.func51, by kernel_rfl, by kernel_rfl⟩ Try.func51 rfl rfl ?_
  repeat (first | with_reducible refine WP.seq ?_ | with_reducible refine WP.block ?_ | with_reducible refine WP.region ?_)
  refine RL.auto T_ok rfl ?_
  refine RL.nil ?_; repeat (first | with_reducible refine QN.block_normal ?_ | with_reducible refine QN.next ?_); repeat (first | with_reducible refine WP.seq ?_ | with_reducible refine WP.block ?_ | with_reducible refine WP.region ?_)
  refine RL.auto T_ok rfl ?_
  refine RL.nil ?_; repeat (first | with_reducible refine QN.block_normal ?_ | with_reducible refine QN.next ?_); repeat (first | with_reducible refine WP.seq ?_ | with_reducible refine WP.block ?_ | with_reducible refine WP.region ?_)
  refine RL.auto T_ok rfl ?_
  refine RL.call (fi := []) (ca := []) rfl rfl rfl rfl (refturns_c m v l h hl) ?_
  rintro v1 m1 ⟨L, hL, hM⟩
  refine ⟨_, rfl, ?_⟩
  have hE1 := hM.ext
  have hR1 := hM.ts
  have hLl : L.length < 100000000 := Nat.lt_of_le_of_lt hL.2.2 (by simpa using hl)
  obtain ⟨A, c, rfl, _, _⟩ := hR1.shape
  refine RL.auto T_ok rfl ?_
  refine RL.nil ?_; repeat (first | with_reducible refine QN.block_normal ?_ | with_reducible refine QN.next ?_); repeat (first | with_reducible refine WP.seq ?_ | with_reducible refine WP.block ?_ | with_reducible refine WP.region ?_)
  refine RL.auto T_ok rfl ?_
  refine RL.nil ?_; repeat (first | with_reducible refine QN.block_normal ?_ | with_reducible refine QN.next ?_); repeat (first | with_reducible refine WP.seq ?_ | with_reducible refine WP.block ?_ | with_reducible refine WP.region ?_)
  refine (WP.loop (X := Nat × Value × List Nat) (fun x => [(0, .slice A L.length c), (3, x.2.1), (4, .int .i64 x.1)])
    (fun x m' => x.1 ≤ L.length ∧ Ev.Own m' x.2.2 84 3 x.2.1 (hid (L.take x.1)).length ((hid (L.take x.1)).flatMap rC) ∧ New m1 x.2.2 m') (fun x => L.length - x.1) (0, .slice none 0 0, [])
    (Sub.cons rfl (Sub.cons rfl (Sub.cons rfl Sub.nil))) ⟨by simp, Own.empty _ _ _ _, Ext.refl _ _, FpNew.nil _ _⟩ ?_)
  rintro ⟨i, w, S⟩ m2 ⟨hi, hO, hN⟩
  simp only at hi hO hN
  repeat (first | with_reducible refine WP.seq ?_ | with_reducible refine WP.block ?_ | with_reducible refine WP.region ?_)
  refine RL.auto T_ok rfl ?_
  refine RL.nil ?_; repeat (first | with_reducible refine QN.block_normal ?_ | with_reducible refine QN.next ?_); repeat (first | with_reducible refine WP.seq ?_ | with_reducible refine WP.block ?_ | with_reducible refine WP.region ?_)
  refine WP.cond rfl (fun hc => ?_) (fun hc => ?_)
  · replace hc : i < L.length := by have := of_decide_eq_true hc; simp only at this; omega
    obtain ⟨ad, rfl, _⟩ := hR1.cell i hc
    have hnx := hid_succ L i hc
    have hln := hid_len (L.take i)
    rw [List.length_take, Nat.min_eq_left hi] at hln
    obtain ⟨x, hxe⟩ : ∃ x, L[i] = x := ⟨_, rfl⟩
    have hx : ∀ m', Ext m1 [] m' → ∀ j u, (tC x)[j]? = some u → m'.cell? ((ad.add (i * 4)).add j) = some u := fun m' hE => by
      obtain ⟨ad', h1, h2⟩ := (hR1.ext0 hE).cell i hc
      injection h1 with h1
      subst h1
      rw [hxe] at h2; exact h2
    rw [hxe] at hnx
    refine WP.skip ?_; repeat (first | with_reducible refine QN.block_normal ?_ | with_reducible refine QN.next ?_); repeat (first | with_reducible refine WP.seq ?_ | with_reducible refine WP.block ?_ | with_reducible refine WP.region ?_)
    refine RL.pure T_ok 2 rfl ?_
    refine RL.indexAddr (k := i) T_ok rfl rfl rfl rfl rfl rfl rfl hc rfl ?_
    refine RL.pure T_ok 1 rfl ?_
    refine RL.load T_ok rfl rfl rfl (hx m2 hN.1 3 _ rfl) rfl ?_
    refine RL.pure T_ok 1 rfl ?_
    refine RL.eqv (v' := .int .u64 (x.n % 2 : Nat)) (congrArg _ (Int.ofNat_tmod x.n 2).symm) ?_
    refine RL.pure T_ok 1 rfl ?_
    refine RL.eqv (v' := .bool (decide (x.n % 2 = 1))) (congrArg _ (deq (x.n % 2) 1)) ?_
    refine RL.nil ?_; repeat (first | with_reducible refine QN.block_normal ?_ | with_reducible refine QN.next ?_)
    refine WP.cond rfl (fun ho => ?_) (fun ho => ?_)
    · rw [if_pos (of_decide_eq_true ho)] at hnx
      refine WP.drawQ (fun m' => Ext m1 [] m') [] (by kernel_rfl) hN.1 (by repeat (first | with_reducible exact PanicOk.body | with_reducible refine PanicOk.then_ ?_ | with_reducible refine PanicOk.block_ ?_)) (fun hQ => ?_)
      refine RH.pure T_ok hQ [0, 1, 2] (by kernel_rfl) rfl ?_
      refine RH.indexAddr T_ok hQ 3 (k := i) rfl (by kernel_rfl) rfl rfl rfl rfl rfl rfl rfl hc rfl ?_
      refine RH.pure T_ok hQ [4] (by kernel_rfl) rfl ?_
      refine RH.load T_ok hQ 5 (fun m' hm' => hx m' hm' 0 _ rfl) rfl (by kernel_rfl) rfl rfl rfl rfl ?_
      refine RH.pure T_ok hQ [6, 7] (by kernel_rfl) rfl ?_
      refine RH.indexAddr T_ok hQ 8 (k := i) rfl (by kernel_rfl) rfl rfl rfl rfl rfl rfl rfl hc rfl ?_
      refine RH.pure T_ok hQ [9] (by kernel_rfl) rfl ?_
      refine RH.load T_ok hQ 10 (fun m' hm' => hx m' hm' 1 _ rfl) rfl (by kernel_rfl) rfl rfl rfl rfl ?_
      refine RH.pure T_ok hQ [11, 12] (by kernel_rfl) rfl ?_
      refine RH.indexAddr T_ok hQ 13 (k := i) rfl (by kernel_rfl) rfl rfl rfl rfl rfl rfl rfl hc rfl ?_
      refine RH.pure T_ok hQ [14] (by kernel_rfl) rfl ?_
      refine RH.load T_ok hQ 15 (fun m' hm' => hx m' hm' 2 _ rfl) rfl (by kernel_rfl) rfl rfl rfl rfl ?_
      refine RH.pure T_ok hQ [16] (by kernel_rfl) rfl ?_
      refine RH.eqv (v' := rV ⟨x.c, x.f, x.t⟩) rfl ?_
      refine RH.only 17 rfl (by kernel_rfl) (fun _ => ?_)
      refine RL.buildSlice T_ok [.tmp 36] (us := [rV ⟨x.c, x.f, x.t⟩]) (rC ⟨x.c, x.f, x.t⟩) rfl rfl rfl rfl rfl rfl (by simp [rV, rC, Value.cells]) (by simp [rV, Value.cells]) rfl (fun b9 m9 hb9 hC9 => ⟨_, rfl, ?_⟩)
      have hE9 : Ext m2 [] m9 := hC9.new (by omega)
      have hN9 : New m1 S m9 := ⟨hN.1.trans hE9 (by simp), hN.2⟩
      refine RL.nil (RH.cont hN9.1 ?_)
      refine RH.only 18 rfl (by kernel_rfl) (fun _ => ?_)
      refine RL.append T_ok (hO.ext hE9 (by simp)) (rC ⟨x.c, x.f, x.t⟩) (Src.of_blk (k := 1) (c := 1) hC9.blk rfl) rfl rfl rfl rfl rfl rfl (rC_one _) (by unfold maxLen; omega) (by show (_ + 1) * 24 ≤ _; omega) ?_
      intro v10 m10 S10 hO10 hE10 hF10
      have hN10 : New m1 S10 m10 := ⟨hN9.1.trans hE10 (fun k hk => .inr (hN9.ge k hk)), hN9.2.trans hF10 hN9.1.size⟩
      refine ⟨_, rfl, RL.nil (RH.cont hN10.1 ?_)⟩
      refine RH.pure T_ok hQ [19] (by kernel_rfl) rfl ?_
      refine RH.done (by kernel_rfl) (fun _ => ?_)
      repeat (first | with_reducible refine QN.block_normal ?_ | with_reducible refine QN.next ?_)
      repeat (first | with_reducible refine WP.seq ?_ | with_reducible refine WP.block ?_ | with_reducible refine WP.region ?_)
      refine RL.pure T_ok 2 rfl ?_
      refine RL.eqv (v' := .int .i64 ((i + 1 : Nat) : Int)) (congrArg _ (by rw [wrap_i64_in _ (by omega) (by omega)]; rfl)) ?_
      refine RL.auto T_ok rfl ?_
      refine RL.nil (QN.round (i + 1, v10, S10) (Sub.cons rfl (Sub.cons rfl (Sub.cons rfl Sub.nil))) ⟨by show i + 1 ≤ _; omega, ?_, hN10⟩ (by show _ - (i + 1) < _ - i; omega))
      show Ev.Own m10 S10 84 3 v10 (hid (L.take (i + 1))).length ((hid (L.take (i + 1))).flatMap rC)
      rw [hnx, List.length_append, ← rsC_app]
      simpa using hO10
    · rw [if_neg (of_decide_eq_false ho), List.append_nil] at hnx
      refine WP.skip ?_; repeat (first | with_reducible refine QN.block_normal ?_ | with_reducible refine QN.next ?_); repeat (first | with_reducible refine WP.seq ?_ | with_reducible refine WP.block ?_ | with_reducible refine WP.region ?_)
      refine RL.pure T_ok 2 rfl ?_
      refine RL.eqv (v' := .int .i64 ((i + 1 : Nat) : Int)) (congrArg _ (by rw [wrap_i64_in _ (by omega) (by omega)]; rfl)) ?_
      refine RL.auto T_ok rfl ?_
      refine RL.nil (QN.round (i + 1, w, S) (Sub.cons rfl (Sub.cons rfl (Sub.cons rfl Sub.nil))) ⟨by show i + 1 ≤ _; omega, ?_, hN⟩ (by show _ - (i + 1) < _ - i; omega))
      show Ev.Own m2 S 84 3 w (hid (L.take (i + 1))).length ((hid (L.take (i + 1))).flatMap rC)
      rw [hnx]; exact hO
  · replace hc : i = L.length := by have := of_decide_eq_false hc; simp only at this; omega
    subst hc
    rw [List.take_length] at hO
    have hln := hid_len L
    have hRo : Rs m2 [] w (hid L) := hO.sl (by simp)
    have hE12 : Ext m [] m2 := hE1.trans hN.1 (by simp)
    refine WP.exit ?_; repeat (first | with_reducible refine QN.then_exit ?_ | with_reducible refine QN.block_exit ?_ | with_reducible refine QN.block_far rfl ?_ | with_reducible refine QN.block_normal ?_ | with_reducible refine QN.next ?_); repeat (first | with_reducible refine WP.seq ?_ | with_reducible refine WP.block ?_ | with_reducible refine WP.region ?_)
    refine RL.auto T_ok rfl ?_
    refine RL.call (fi := []) (ca := []) rfl rfl rfl rfl (refclean_c m2 w _ hRo (by omega)) ?_
    rintro v9 m9 ⟨S9, hO9, hN9⟩
    refine ⟨_, rfl, ?_⟩
    refine RL.auto T_ok rfl ?_
    refine RL.nil ?_; repeat (first | with_reducible refine QN.block_normal ?_ | with_reducible refine QN.next ?_); repeat (first | with_reducible refine WP.seq ?_ | with_reducible refine WP.block ?_ | with_reducible refine WP.region ?_)
    refine WP.ret ?_; repeat (first | with_reducible refine QN.then_ret ?_ | with_reducible refine QN.block_ret ?_)
    exact QN.ret1 rfl rfl ⟨_, rfl, L, hL, S9, hO9, hE12.trans hN9.1 (by simp), hN9.2.trans' hE12⟩
theorem ts_of_chg {m m' : World} {b : Nat} (l : List Trn) (hC : Chg m b (.cells (l.flatMap tC).toArray 101 (0, 0)) m') (hn : l.length ≤ maxLen) : Ts m' [] (.slice (some ⟨b, 0, none⟩) l.length l.length) l := by
  have h := Sl.of_blk (M := []) (n := l.length) (c := l.length) (sz := 4) hC.blk (by simp) (by rw [tsC_len]; exact Nat.le_refl _) (Nat.le_refl _) hn
  rw [← tsC_len, List.take_length] at h
  exact h
/-- What the example's turns are. -/
theorem turned_form {L : List Trn} (h : TForm [⟨1, 1, 5, 1⟩, ⟨1, 3, 9, 2⟩] L) : L = [⟨1, 1, 3, 1⟩, ⟨1, 3, 9, 2⟩] := by
  refine tcanon_unique h.1 ⟨?_, ?_⟩ fun c k => ?_
  · intro x hx
    simp only [List.mem_cons, List.not_mem_nil, or_false] at hx
    rcases hx with rfl | rfl <;> decide
  · refine List.pairwise_cons.2 ⟨fun y hy => ?_, List.pairwise_singleton _ _⟩
    simp only [List.mem_cons, List.not_mem_nil, or_false] at hy
    subst hy
    exact .inr ⟨rfl, .inr ⟨rfl, by decide⟩⟩
  · rw [h.2.1]
    have r1 : Trn.right ⟨1, 1, 5, 1⟩ = true := by decide
    have r2 : Trn.right ⟨1, 3, 9, 2⟩ = true := by decide
    have r3 : Trn.right ⟨1, 1, 3, 1⟩ = true := by decide
    simp only [turnOf, Trn.at, r1, r2, r3, true_and]
    by_cases hc : 1 = c
    · subst hc
      simp only [true_and]
      repeat' split
      all_goals omega
    · simp only [hc, false_and, if_false]
theorem turned_c (m : World) : FnR Try.prog 43 [] m fun r m' => r = .bool true ∧ Ext m [] m' := by
  refine FnE.enter ⟨_, Try.func43, by kernel_rfl, by kernel_rfl⟩ Try.func43 rfl rfl ?_
  repeat (first | with_reducible refine WP.seq ?_ | with_reducible refine WP.block ?_ | with_reducible refine WP.region ?_)
  refine RL.auto T_ok rfl ?_
  refine RL.nil ?_; repeat (first | with_reducible refine QN.block_normal ?_ | with_reducible refine QN.next ?_); repeat (first | with_reducible refine WP.seq ?_ | with_reducible refine WP.block ?_ | with_reducible refine WP.region ?_)
  refine RL.auto T_ok rfl ?_
  refine RL.buildSlice T_ok [.tmp 3, .tmp 4] (us := [tV ⟨1, 1, 5, 1⟩, tV ⟨1, 3, 9, 2⟩]) (([⟨1, 1, 5, 1⟩, ⟨1, 3, 9, 2⟩] : List Trn).flatMap tC) rfl rfl rfl rfl rfl rfl (by simp [tV, tC, Value.cells]) rfl rfl (fun b1 m1 hb1 hC1 => ⟨_, rfl, ?_⟩)
  have hE1 : Ext m [] m1 := hC1.new (by omega)
  have hR1 := ts_of_chg ([⟨1, 1, 5, 1⟩, ⟨1, 3, 9, 2⟩] : List Trn) hC1 (by unfold maxLen; simp)
  clear hC1
  refine RL.call (fi := []) (ca := []) rfl rfl rfl rfl (turnsF_c m1 _ _ hR1 (by simp)) ?_
  rintro v2 m2 ⟨L, hL, hM2⟩
  refine ⟨_, rfl, ?_⟩
  have e1 := turned_form hL
  subst e1
  have hE2 := hE1.trans hM2.ext (by simp)
  have hR2 := hM2.ts
  clear hM2 hL
  refine RL.auto T_ok rfl ?_
  refine RL.nil ?_; repeat (first | with_reducible refine QN.block_normal ?_ | with_reducible refine QN.next ?_); repeat (first | with_reducible refine WP.seq ?_ | with_reducible refine WP.block ?_ | with_reducible refine WP.region ?_)
  refine RL.auto T_ok rfl ?_
  refine RL.call (fi := []) (ca := []) rfl rfl rfl rfl (hidden_c m2 _ _ hR2 (by simp)) ?_
  rintro v3 m3 ⟨L, hL, hM3⟩
  refine ⟨_, rfl, ?_⟩
  have e2 : L = [⟨1, 1, 3, 1⟩, ⟨1, 3, 9, 2⟩] := by
    refine turned_form ⟨hL.1, fun c k => ?_, by have := hL.2.2; simpa using this⟩
    rw [hL.2.1]
    have r1 : Trn.right ⟨1, 1, 5, 1⟩ = true := by decide
    have r2 : Trn.right ⟨1, 3, 9, 2⟩ = true := by decide
    have r3 : Trn.right ⟨1, 1, 3, 1⟩ = true := by decide
    simp only [turnOf, Trn.at, r1, r2, r3, true_and]
    by_cases hc : 1 = c
    · subst hc
      simp only [true_and]
      repeat' split
      all_goals omega
    · simp only [hc, false_and, if_false]
  subst e2
  rw [show clean (hid [⟨1, 1, 3, 1⟩, ⟨1, 3, 9, 2⟩]) = [⟨1, 1, 3⟩] from by decide] at hM3
  have hE3 := hE2.trans hM3.ext (by simp)
  have hR2a := hR2.ext0 hM3.ext
  have hH3 := hM3.rs
  clear hM3 hL hR2
  refine RL.auto T_ok rfl ?_
  refine RL.nil ?_; repeat (first | with_reducible refine QN.block_normal ?_ | with_reducible refine QN.next ?_); repeat (first | with_reducible refine WP.seq ?_ | with_reducible refine WP.block ?_ | with_reducible refine WP.region ?_)
  refine RL.auto T_ok rfl ?_
  refine RL.buildSlice T_ok [.tmp 10, .tmp 11] (us := [tV ⟨1, 1, 3, 1⟩, tV ⟨1, 3, 9, 2⟩]) (([⟨1, 1, 3, 1⟩, ⟨1, 3, 9, 2⟩] : List Trn).flatMap tC) rfl rfl rfl rfl rfl rfl (by simp [tV, tC, Value.cells]) rfl rfl (fun b4 m4 hb4 hC4 => ⟨_, rfl, ?_⟩)
  have hE4 : Ext m [] m4 := hE3.trans (hC4.new (by omega)) (by simp)
  have hR4 := ts_of_chg ([⟨1, 1, 3, 1⟩, ⟨1, 3, 9, 2⟩] : List Trn) hC4 (by unfold maxLen; simp)
  have hR2b := hR2a.ext0 (hC4.new (by omega))
  have hH4 := hH3.ext0 (hC4.new (by omega))
  clear hC4 hR2a hH3
  refine RL.call (fi := []) (ca := []) rfl rfl rfl rfl (turns_c m4 _ _ _ _ hR2b hR4 (by simp)) ?_
  rintro _ m5 ⟨rfl, h5⟩
  subst h5
  refine ⟨_, rfl, ?_⟩
  refine RL.eqv (v' := .bool true) (congrArg _ (by decide)) ?_
  refine RL.auto T_ok rfl ?_
  refine RL.buildSlice T_ok [.tmp 16] (us := [rV ⟨1, 1, 3⟩]) (([⟨1, 1, 3⟩] : List Rng).flatMap rC) rfl rfl rfl rfl rfl rfl (by simp [rV, rC, Value.cells]) rfl rfl (fun b6 m6 hb6 hC6 => ⟨_, rfl, ?_⟩)
  have hE6 : Ext m [] m6 := hE4.trans (hC6.new (by omega)) (by simp)
  have hH6 := rs_of_chg ([⟨1, 1, 3⟩] : List Rng) hC6 (by unfold maxLen; simp)
  have hR2c := hR2b.ext0 (hC6.new (by omega))
  have hH4b := hH4.ext0 (hC6.new (by omega))
  clear hC6
  refine RL.call (fi := []) (ca := []) rfl rfl rfl rfl (ranges_c m6 _ _ _ _ hH4b hH6 (by simp)) ?_
  rintro _ m7 ⟨rfl, h7⟩
  subst h7
  refine ⟨_, rfl, ?_⟩
  refine RL.eqv (v' := .bool true) (congrArg _ (by decide)) ?_
  refine RL.auto T_ok rfl ?_
  refine RL.call (fi := []) (ca := []) rfl rfl rfl rfl (turnOf_c m7 _ _ hR2c (by simp) ⟨1, 4⟩) ?_
  rintro _ m8 ⟨rfl, hE8⟩
  refine ⟨_, rfl, ?_⟩
  refine RL.eqv (v' := .int .u64 2) (congrArg _ (by decide)) ?_
  refine RL.auto T_ok rfl ?_
  refine RL.call (fi := []) (ca := []) rfl rfl rfl rfl (turnOf_c m8 _ _ (hR2c.ext0 hE8) (by simp) ⟨1, 9⟩) ?_
  rintro _ m9 ⟨rfl, hE9⟩
  refine ⟨_, rfl, ?_⟩
  refine RL.eqv (v' := .int .u64 0) (congrArg _ (by decide)) ?_
  refine RL.auto T_ok rfl ?_
  refine RL.nil ?_; repeat (first | with_reducible refine QN.block_normal ?_ | with_reducible refine QN.next ?_); repeat (first | with_reducible refine WP.seq ?_ | with_reducible refine WP.block ?_ | with_reducible refine WP.region ?_)
  refine WP.ret ?_; repeat (first | with_reducible refine QN.then_ret ?_ | with_reducible refine QN.block_ret ?_)
  exact QN.ret1 rfl rfl ⟨_, rfl, rfl, (hE6.trans hE8 (by simp)).trans hE9 (by simp)⟩
end Go.Proofs.Ytkfakfbndnbpiaa
