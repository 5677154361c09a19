/- The reference's Clean: each right one put in at its place, then joined. The lengths stay below 2^29. -/
import Derived.Test.YtmjpcaiehfimgaaIds6
namespace Go.Proofs.Ytmjpcaiehfimgaa
open Go.RowKit Go.Ev Go.Ids

theorem rsC_take (l : List Rng) (k : Nat) : (l.flatMap rC).take (k * 3) = (l.take k).flatMap rC := by
  induction k generalizing l with
  | zero => simp
  | succ k ih =>
    cases l with
    | nil => simp
    | cons x l =>
      rw [List.flatMap_cons, List.take_succ_cons, List.flatMap_cons, ← ih l, Nat.succ_mul, Nat.add_comm]
      exact List.take_length_add_append (l₁ := rC x) (k * 3)
theorem rsC_drop (l : List Rng) (k : Nat) : (l.flatMap rC).drop (k * 3) = (l.drop k).flatMap rC := by
  induction k generalizing l with
  | zero => simp
  | succ k ih =>
    cases l with
    | nil => simp
    | cons x l =>
      rw [List.flatMap_cons, List.drop_succ_cons, ← ih l, Nat.succ_mul, Nat.add_comm, ← List.drop_drop]
      rfl
theorem rsC_put (l : List Rng) (k : Nat) (y : Rng) : (l.flatMap rC).take (k * 3) ++ rC y ++ (l.flatMap rC).drop (k * 3 + 3) = (l.take k ++ [y] ++ l.drop (k + 1)).flatMap rC := by
  rw [rsC_take, show k * 3 + 3 = (k + 1) * 3 by omega, rsC_drop]; simp
theorem zip_take (d : List Rng) (w : Rng) (k : Nat) (h : k ≤ d.length) : (d.take k ++ [w] ++ d.drop k).take k = d.take k := by
  rw [List.append_assoc, List.take_append_of_le_length (by rw [List.length_take]; omega), List.take_take, Nat.min_self]
theorem zip_drop (d : List Rng) (w : Rng) (k : Nat) (h : k ≤ d.length) : (d.take k ++ [w] ++ d.drop k).drop (k + 1) = d.drop k := by
  have h1 : (d.take k ++ [w]).length = k + 1 := by simp; omega
  have h2 := List.drop_left (l₁ := d.take k ++ [w]) (l₂ := d.drop k)
  rw [h1] at h2; exact h2
theorem zip_shift (d : List Rng) (q : Nat) (h : q < d.length) : d.take (q + 1) ++ [d[q]] ++ d.drop (q + 1) = d.take q ++ [d[q]] ++ d.drop q := by
  rw [List.take_succ_eq_append_getElem h, List.drop_eq_getElem_cons h]; simp
theorem zip_get (d : List Rng) (w : Rng) (q : Nat) (h : q < d.length) (h' : q < (d.take (q + 1) ++ [w] ++ d.drop (q + 1)).length) : (d.take (q + 1) ++ [w] ++ d.drop (q + 1))[q] = d[q] := by
  rw [List.getElem_append_left (by simp; omega), List.getElem_append_left (by simp; omega), List.getElem_take]
theorem refclean_c (m : World) (v : Value) (l : List Rng) (h : Rs m [] v l) (hl : l.length < 500000000) :
    FnR Try.prog 60 [v] m fun r m' => ∃ S', Ev.Own m' S' 62 3 r (clean l).length ((clean l).flatMap rC) ∧ New m S' m' := by
  obtain ⟨A, c, rfl, _, _⟩ := h.shape
  refine FnE.enter ⟨_, Try.func60, by kernel_rfl, by kernel_rfl⟩ Try.func60 rfl rfl ?_
  repeat (first | with_reducible refine WP.seq ?_ | with_reducible refine WP.block ?_ | with_reducible refine WP.region ?_)
  refine RL.auto T_ok rfl ?_
  refine RL.nil ?_; repeat (first | with_reducible refine QN.block_normal ?_ | with_reducible refine QN.next ?_); repeat (first | with_reducible refine WP.seq ?_ | with_reducible refine WP.block ?_ | with_reducible refine WP.region ?_)
  refine RL.auto T_ok rfl ?_
  refine RL.nil ?_; repeat (first | with_reducible refine QN.block_normal ?_ | with_reducible refine QN.next ?_); repeat (first | with_reducible refine WP.seq ?_ | with_reducible refine WP.block ?_ | with_reducible refine WP.region ?_)
  refine RL.auto T_ok rfl ?_
  refine RL.nil ?_; repeat (first | with_reducible refine QN.block_normal ?_ | with_reducible refine QN.next ?_); repeat (first | with_reducible refine WP.seq ?_ | with_reducible refine WP.block ?_ | with_reducible refine WP.region ?_)
  refine (WP.loop (X := Nat × Value × List Nat × List Rng) (fun x => [(0, .slice A l.length c), (3, x.2.1), (4, .int .i64 x.1)])
    (fun x m' => x.1 ≤ l.length ∧ x.2.2.2.Pairwise Rng.le ∧ x.2.2.2.Perm ((l.take x.1).filter Rng.right) ∧ Ev.Own m' x.2.2.1 62 3 x.2.1 x.2.2.2.length (x.2.2.2.flatMap rC) ∧ New m x.2.2.1 m') (fun x => l.length - x.1) (0, .slice none 0 0, [], [])
    (Sub.cons rfl (Sub.cons rfl (Sub.cons rfl Sub.nil))) ⟨by simp, List.Pairwise.nil, by simp, Own.empty _ _ _ _, Ext.refl _ _, FpNew.nil _ _⟩ ?_)
  rintro ⟨i, u, S, d⟩ m1 ⟨hi, hd, hp, hO, hN⟩
  simp only at hi hd hp hO hN
  obtain ⟨Au, cu, rfl, _⟩ := hO.shape
  repeat (first | with_reducible refine WP.seq ?_ | with_reducible refine WP.block ?_ | with_reducible refine WP.region ?_)
  refine RL.auto T_ok rfl ?_
  refine RL.nil ?_; repeat (first | with_reducible refine QN.block_normal ?_ | with_reducible refine QN.next ?_); repeat (first | with_reducible refine WP.seq ?_ | with_reducible refine WP.block ?_ | with_reducible refine WP.region ?_)
  refine WP.cond rfl (fun hc => ?_) (fun hc => ?_)
  · replace hc : i < l.length := by have := of_decide_eq_true hc; simp only at this; omega
    obtain ⟨ad, rfl, hx⟩ := (h.ext0 hN.1).cell i hc
    have hstep : (l.take (i + 1)).filter Rng.right = (l.take i).filter Rng.right ++ (if l[i].right then [l[i]] else []) := by
      rw [List.take_succ_eq_append_getElem hc, List.filter_append]
      cases h : l[i].right <;> simp [h]
    have hdl : d.length ≤ l.length := by
      rw [hp.length_eq]
      exact Nat.le_trans (List.length_filter_le _ _) (Nat.le_trans (List.length_take_le _ _) hi)
    obtain ⟨x, hxe⟩ : ∃ x, l[i] = x := ⟨_, rfl⟩
    rw [hxe] at hx hstep
    refine WP.skip ?_; repeat (first | with_reducible refine QN.block_normal ?_ | with_reducible refine QN.next ?_); repeat (first | with_reducible refine WP.seq ?_ | with_reducible refine WP.block ?_ | with_reducible refine WP.region ?_)
    refine RL.auto T_ok rfl ?_
    refine RL.indexAddr (k := i) T_ok rfl rfl rfl rfl rfl rfl rfl hc rfl ?_
    refine RL.loadAgg T_ok (rC x) rfl rfl rfl hx rfl ?_
    refine RL.call (fi := []) (ca := []) rfl rfl rfl rfl (refrightR_c m1 x) ?_
    rintro _ m2 ⟨rfl, hE2⟩
    refine ⟨_, rfl, ?_⟩
    have hO2 := hO.ext hE2 (by simp)
    have hN2 : New m S m2 := ⟨hN.1.trans hE2 (by simp), hN.2⟩
    refine RL.auto T_ok rfl ?_
    refine RL.nil ?_; repeat (first | with_reducible refine QN.block_normal ?_ | with_reducible refine QN.next ?_); repeat (first | with_reducible refine WP.seq ?_ | with_reducible refine WP.block ?_ | with_reducible refine WP.region ?_)
    refine WP.cond rfl (fun hr => ?_) (fun hr => ?_)
    · have hr : x.right = false := by simpa using hr
      refine WP.exit ?_; repeat (first | with_reducible refine QN.then_exit ?_ | with_reducible refine QN.block_exit ?_ | with_reducible refine QN.block_far rfl ?_ | with_reducible refine QN.block_normal ?_ | with_reducible refine QN.next ?_); repeat (first | with_reducible refine WP.seq ?_ | with_reducible refine WP.block ?_ | with_reducible refine WP.region ?_)
      refine RL.pure T_ok 2 rfl ?_
      refine RL.eqv (v' := .int .i64 ((i + 1 : Nat) : Int)) (congrArg _ (by rw [wrap_i64_in _ (by omega) (by omega)]; rfl)) ?_
      refine RL.auto T_ok rfl ?_
      refine RL.nil (QN.round (i + 1, .slice Au d.length cu, S, d) (Sub.cons rfl (Sub.cons rfl (Sub.cons rfl Sub.nil))) ⟨by show i + 1 ≤ _; omega, hd, ?_, hO2, hN2⟩ (by show _ - (i + 1) < _ - i; omega))
      show d.Perm ((l.take (i + 1)).filter Rng.right)
      rw [hstep, hr]; simpa using hp
    · have hr : x.right = true := by simpa using hr
      rw [if_pos hr] at hstep
      have hRd : Rs m2 [] (.slice Au d.length cu) d := hO2.sl (by simp)
      refine WP.skip ?_; repeat (first | with_reducible refine QN.block_normal ?_ | with_reducible refine QN.next ?_); repeat (first | with_reducible refine WP.seq ?_ | with_reducible refine WP.block ?_ | with_reducible refine WP.region ?_)
      refine RL.auto T_ok rfl ?_
      refine RL.nil ?_; repeat (first | with_reducible refine QN.block_normal ?_ | with_reducible refine QN.next ?_); repeat (first | with_reducible refine WP.seq ?_ | with_reducible refine WP.block ?_ | with_reducible refine WP.region ?_)
      refine (WP.loop (X := Nat × Nat) (fun q => [(0, .slice (some ad) l.length c), (3, .slice Au d.length cu), (4, .int .i64 i), (5, .int .i64 q.1), (6, .int .i64 q.2)])
        (fun q m' => q.1 ≤ q.2 ∧ q.2 ≤ d.length ∧ (∀ j (h : j < d.length), j < q.1 → ¬ x.lt d[j] = true) ∧ (∀ j (h : j < d.length), q.2 ≤ j → x.lt d[j] = true) ∧ Ext m2 [] m') (fun q => q.2 - q.1) (0, d.length)
        (Sub.cons rfl (Sub.cons rfl (Sub.cons rfl (Sub.cons rfl (Sub.cons rfl Sub.nil))))) ⟨by simp, by simp, (fun j _ h => absurd h (by simp)), (fun j h h' => absurd h' (by simp; omega)), Ext.refl _ _⟩ ?_)
      rintro ⟨lo, hi'⟩ m3 ⟨q1, q2, q3, q4, hE3⟩
      simp only at q1 q2 q3 q4
      have hE13 : Ext m [] m3 := hN2.1.trans hE3 (by simp)
      have hN3 : New m S m3 := ⟨hE13, hN2.2⟩
      repeat (first | with_reducible refine WP.seq ?_ | with_reducible refine WP.block ?_ | with_reducible refine WP.region ?_)
      refine RL.auto T_ok rfl ?_
      refine RL.nil ?_; repeat (first | with_reducible refine QN.block_normal ?_ | with_reducible refine QN.next ?_); repeat (first | with_reducible refine WP.seq ?_ | with_reducible refine WP.block ?_ | with_reducible refine WP.region ?_)
      refine WP.cond rfl (fun hc3 => ?_) (fun hc3 => ?_)
      · replace hc3 : lo < hi' := by have := of_decide_eq_true hc3; simp only at this; omega
        have hxE : ∀ m', Ext m3 [] m' → ∀ j u, (rC x)[j]? = some u → m'.cell? ((ad.add (i * 3)).add j) = some u := fun m' hE => by
          obtain ⟨ad', h1, h2⟩ := (h.ext0 (hE13.trans hE (by simp))).cell i hc
          injection h1 with h1
          subst h1
          rw [hxe] at h2; exact h2
        obtain ⟨mid, hmid⟩ : ∃ mid, mid = (lo + hi') / 2 := ⟨_, rfl⟩
        have hml : mid < d.length := by omega
        obtain ⟨ad3, had3, _⟩ := (hRd.ext0 hE3).cell mid hml
        subst had3
        have hyE : ∀ m', Ext m3 [] m' → ∀ j u, (rC d[mid])[j]? = some u → m'.cell? ((ad3.add (mid * 3)).add j) = some u := fun m' hE => by
          obtain ⟨ad', h1, h2⟩ := (hRd.ext0 (hE3.trans hE (by simp))).cell mid hml
          injection h1 with h1
          subst h1
          exact h2
        refine WP.skip ?_; repeat (first | with_reducible refine QN.block_normal ?_ | with_reducible refine QN.next ?_); repeat (first | with_reducible refine WP.seq ?_ | with_reducible refine WP.block ?_ | with_reducible refine WP.region ?_)
        refine RL.pure T_ok 3 rfl ?_
        refine RL.eqv (v' := .int .i64 ((lo + hi' : Nat) : Int)) (congrArg _ (by rw [wrap_i64_in _ (by omega) (by omega)]; simp)) ?_
        refine RL.pure T_ok 1 rfl ?_
        refine RL.eqv (v' := .int .i64 (mid : Int)) (congrArg _ (by show IntKind.i64.wrap (Int.tdiv ((lo + hi' : Nat) : Int) ((2 : Nat) : Int)) = _; rw [← Int.ofNat_tdiv, wrap_i64_in _ (by omega) (by omega), hmid])) ?_
        refine RL.auto T_ok rfl ?_
        refine RL.nil (QN.next ?_)
        repeat (first | with_reducible refine WP.seq ?_ | with_reducible refine WP.block ?_ | with_reducible refine WP.region ?_)
        refine WP.drawQ (fun m' => Ext m3 [] m') [] (by kernel_rfl) (Ext.refl _ _) (by repeat (first | with_reducible exact PanicOk.body | with_reducible refine PanicOk.then_ ?_ | with_reducible refine PanicOk.block_ ?_)) (fun hQ => ?_)
        refine RH.pure T_ok hQ [0, 1] (by kernel_rfl) rfl ?_
        refine RH.indexAddr T_ok hQ 2 (k := i) rfl (by kernel_rfl) rfl rfl rfl rfl rfl rfl rfl hc rfl ?_
        refine RH.loadAgg T_ok hQ 3 (rC x) (fun m' hm' => hxE m' hm') rfl (by kernel_rfl) rfl rfl rfl rfl ?_
        refine RH.pure T_ok hQ [4, 5] (by kernel_rfl) rfl ?_
        refine RH.indexAddr T_ok hQ 6 (k := mid) rfl (by kernel_rfl) rfl rfl rfl rfl rfl rfl rfl hml rfl ?_
        refine RH.loadAgg T_ok hQ 7 (rC d[mid]) (fun m' hm' => hyE m' hm') rfl (by kernel_rfl) rfl rfl rfl rfl ?_
        refine RH.only 8 rfl (by kernel_rfl) (fun _ => ?_)
        refine RL.call (fi := []) (ca := []) rfl rfl rfl rfl (reflessR_c m3 x d[mid]) ?_
        rintro _ m4 ⟨rfl, hE4⟩
        refine ⟨_, rfl, RL.nil (RH.cont hE4 (RH.done (by kernel_rfl) (fun _ => ?_)))⟩
        repeat (first | with_reducible refine QN.block_normal ?_ | with_reducible refine QN.next ?_)
        refine WP.cond rfl (fun hlt => ?_) (fun hlt => ?_)
        · replace hlt : x.lt d[mid] = true := hlt
          repeat (first | with_reducible refine WP.seq ?_ | with_reducible refine WP.block ?_ | with_reducible refine WP.region ?_)
          refine RL.auto T_ok rfl ?_
          refine RL.nil ?_
          repeat (first | with_reducible refine QN.block_normal ?_ | with_reducible refine QN.next ?_)
          refine QN.round (lo, mid) (Sub.cons rfl (Sub.cons rfl (Sub.cons rfl (Sub.cons rfl (Sub.cons rfl Sub.nil))))) ⟨by show lo ≤ mid; omega, by show mid ≤ _; omega, q3, (fun j hj hm => lt_of_lt_le hlt (sorted_at hd hj hm)), hE3.trans hE4 (by simp)⟩ (by show mid - lo < hi' - lo; omega)
        · replace hlt : ¬ x.lt d[mid] = true := by simpa using hlt
          repeat (first | with_reducible refine WP.seq ?_ | with_reducible refine WP.block ?_ | with_reducible refine WP.region ?_)
          refine RL.pure T_ok 2 rfl ?_
          refine RL.eqv (v' := .int .i64 ((mid + 1 : Nat) : Int)) (congrArg _ (by rw [wrap_i64_in _ (by omega) (by omega)]; rfl)) ?_
          refine RL.auto T_ok rfl ?_
          refine RL.nil ?_
          repeat (first | with_reducible refine QN.block_normal ?_ | with_reducible refine QN.next ?_)
          refine QN.round (mid + 1, hi') (Sub.cons rfl (Sub.cons rfl (Sub.cons rfl (Sub.cons rfl (Sub.cons rfl Sub.nil))))) ⟨by show mid + 1 ≤ hi'; omega, q2, (fun j hj hm => not_lt_of_le hlt (sorted_at hd hml (by show j ≤ mid; have : j < mid + 1 := hm; omega))), q4, hE3.trans hE4 (by simp)⟩ (by show hi' - (mid + 1) < hi' - lo; omega)
      · replace hc3 : lo = hi' := by have := of_decide_eq_false hc3; simp only at this; omega
        subst hc3
        have hO3 := hO2.ext hE3 (by simp)
        refine WP.exit ?_; repeat (first | with_reducible refine QN.then_exit ?_ | with_reducible refine QN.block_exit ?_ | with_reducible refine QN.block_far rfl ?_ | with_reducible refine QN.block_normal ?_ | with_reducible refine QN.next ?_); repeat (first | with_reducible refine WP.seq ?_ | with_reducible refine WP.block ?_ | with_reducible refine WP.region ?_)
        refine RL.pure T_ok 2 rfl ?_
        refine RL.append1 T_ok [.tmp 46] hO3 (us := [rV ⟨0, 0, 0⟩]) (rC ⟨0, 0, 0⟩) rfl rfl rfl rfl rfl rfl rfl rfl rfl (by simp [rV, rC, Value.cells]) (by simp [rV, Value.cells]) (rC_one _) (by unfold maxLen; omega) (by show (_ + 1) * 24 ≤ _; omega) ?_
        intro v4 m4 S4 hO4 hE4 hF4
        refine ⟨_, rfl, ?_⟩
        have hN4 : New m S4 m4 := ⟨hN3.1.trans hE4 (fun k hk => .inr (hN3.ge k hk)), hN3.2.trans hF4 hN3.1.size⟩
        obtain ⟨A4, c4, rfl, _⟩ := hO4.shape
        refine RL.auto T_ok rfl ?_
        refine RL.nil ?_; repeat (first | with_reducible refine QN.block_normal ?_ | with_reducible refine QN.next ?_); repeat (first | with_reducible refine WP.seq ?_ | with_reducible refine WP.block ?_ | with_reducible refine WP.region ?_)
        refine RL.pure T_ok 3 rfl ?_
        refine RL.eqv (v' := .int .i64 (d.length : Int)) (congrArg _ (by rw [wrap_i64_in _ (by omega) (by omega)]; omega)) ?_
        refine RL.auto T_ok rfl ?_
        refine RL.nil ?_; repeat (first | with_reducible refine QN.block_normal ?_ | with_reducible refine QN.next ?_); repeat (first | with_reducible refine WP.seq ?_ | with_reducible refine WP.block ?_ | with_reducible refine WP.region ?_)
        refine (WP.loop (X := Nat × Rng) (fun q => [(0, .slice (some ad) l.length c), (3, .slice A4 (d.length + 1) c4), (4, .int .i64 i), (5, .int .i64 lo), (8, .int .i64 q.1)])
          (fun q m' => lo ≤ q.1 ∧ q.1 ≤ d.length ∧ Ev.Own m' S4 62 3 (.slice A4 (d.length + 1) c4) (d.length + 1) ((d.take q.1 ++ [q.2] ++ d.drop q.1).flatMap rC) ∧ New m S4 m') (fun q => q.1) (d.length, ⟨0, 0, 0⟩)
          (Sub.cons rfl (Sub.cons rfl (Sub.cons rfl (Sub.cons rfl (Sub.cons rfl Sub.nil))))) ⟨q2, Nat.le_refl _, by simpa using hO4, hN4⟩ ?_)
        rintro ⟨k, w⟩ m5 ⟨k1, k2, hO5, hN5⟩
        simp only at k1 k2 hO5
        repeat (first | with_reducible refine WP.seq ?_ | with_reducible refine WP.block ?_ | with_reducible refine WP.region ?_)
        refine RL.auto T_ok rfl ?_
        refine RL.nil ?_; repeat (first | with_reducible refine QN.block_normal ?_ | with_reducible refine QN.next ?_); repeat (first | with_reducible refine WP.seq ?_ | with_reducible refine WP.block ?_ | with_reducible refine WP.region ?_)
        refine WP.cond rfl (fun hck => ?_) (fun hck => ?_)
        · replace hck : lo < k := by have := of_decide_eq_true hck; simp only at this; omega
          obtain ⟨q, rfl⟩ : ∃ q, k = q + 1 := ⟨k - 1, by omega⟩
          have hRz : Rs m5 [] (.slice A4 (d.length + 1) c4) (d.take (q + 1) ++ [w] ++ d.drop (q + 1)) := hO5.sl (by simp)
          obtain ⟨ad5, rfl, hy⟩ := hRz.cell q (by simp; omega)
          rw [zip_get d w q (by omega)] at hy
          obtain ⟨g, cap, cur, hv5, hB5, rfl, hj5, hset⟩ := hO5.putK (j := (q + 1) * 3) (k := 3) (by omega) (by omega)
          injection hv5 with hv5 hv5'
          injection hv5 with hv5
          subst hv5
          refine WP.skip ?_; repeat (first | with_reducible refine QN.block_normal ?_ | with_reducible refine QN.next ?_); repeat (first | with_reducible refine WP.seq ?_ | with_reducible refine WP.block ?_ | with_reducible refine WP.region ?_)
          refine RL.pure T_ok 5 rfl ?_
          refine RL.eqv (v' := .int .i64 (q : Int)) (congrArg _ (by rw [wrap_i64_in _ (by omega) (by omega)]; omega)) ?_
          refine RL.indexAddr (k := q) T_ok rfl rfl rfl rfl rfl rfl rfl (by omega) rfl ?_
          refine RL.loadAgg T_ok (rC d[q]) rfl rfl rfl hy rfl ?_
          refine RL.indexAddr (k := q + 1) T_ok rfl rfl rfl rfl rfl rfl rfl (by omega) rfl ?_
          refine RL.eqv (v' := .pointer (some ⟨g, (q + 1) * 3, none⟩)) (congrArg (fun q => Value.pointer (some q)) (by rw [add_block]; show (⟨g, 0 + (q + 1) * 3, none⟩ : Addr) = _; rw [Nat.zero_add])) ?_
          refine RL.storeAgg T_ok (b := g) (i := (q + 1) * 3) (vs := rC d[q]) hB5 rfl rfl rfl rfl rfl hj5 (rC_one _) rfl ?_
          intro m6 hC6
          have hO6 := hset m6 (rC d[q]) rfl hC6
          rw [rsC_put, zip_take d w (q + 1) k2, zip_drop d w (q + 1) k2, zip_shift d q (by omega)] at hO6
          refine RL.nil ?_; repeat (first | with_reducible refine QN.block_normal ?_ | with_reducible refine QN.next ?_); repeat (first | with_reducible refine WP.seq ?_ | with_reducible refine WP.block ?_ | with_reducible refine WP.region ?_)
          refine RL.pure T_ok 2 rfl ?_
          refine RL.eqv (v' := .int .i64 (q : Int)) (congrArg _ (by rw [wrap_i64_in _ (by omega) (by omega)]; omega)) ?_
          refine RL.auto T_ok rfl ?_
          refine RL.nil (QN.round (q, d[q]) (Sub.cons rfl (Sub.cons rfl (Sub.cons rfl (Sub.cons rfl (Sub.cons rfl Sub.nil))))) ⟨by show lo ≤ q; omega, by show q ≤ _; omega, hO6, ⟨hN5.1.trans hC6.ext (fun k hk => .inr (hN5.ge k hk)), hN5.2⟩⟩ (by show q < q + 1; omega))
        · replace hck : k = lo := by have := of_decide_eq_false hck; simp only at this; omega
          subst hck
          obtain ⟨g, cap, cur, hv5, hB5, rfl, hj5, hset⟩ := hO5.putK (j := k * 3) (k := 3) (by omega) (by omega)
          injection hv5 with hv5 hv5'
          subst hv5
          have hx5 : ∀ j u, (rC x)[j]? = some u → m5.cell? ((ad.add (i * 3)).add j) = some u := by
            obtain ⟨ad', h1, h2⟩ := (h.ext0 hN5.1).cell i hc
            injection h1 with h1
            subst h1
            rw [hxe] at h2; exact h2
          refine WP.exit ?_; repeat (first | with_reducible refine QN.then_exit ?_ | with_reducible refine QN.block_exit ?_ | with_reducible refine QN.block_far rfl ?_ | with_reducible refine QN.block_normal ?_ | with_reducible refine QN.next ?_); repeat (first | with_reducible refine WP.seq ?_ | with_reducible refine WP.block ?_ | with_reducible refine WP.region ?_)
          refine RL.pure T_ok 4 rfl ?_
          refine RL.indexAddr (k := i) T_ok rfl rfl rfl rfl rfl rfl rfl hc rfl ?_
          refine RL.loadAgg T_ok (rC x) rfl rfl rfl hx5 rfl ?_
          refine RL.indexAddr (k := k) T_ok rfl rfl rfl rfl rfl rfl rfl (by omega) rfl ?_
          refine RL.eqv (v' := .pointer (some ⟨g, k * 3, none⟩)) (congrArg (fun q => Value.pointer (some q)) (by rw [add_block]; show (⟨g, 0 + k * 3, none⟩ : Addr) = _; rw [Nat.zero_add])) ?_
          refine RL.storeAgg T_ok (b := g) (i := k * 3) (vs := rC x) hB5 rfl rfl rfl rfl rfl hj5 (rC_one _) rfl ?_
          intro m6 hC6
          have hO6 := hset m6 (rC x) rfl hC6
          rw [rsC_put, zip_take d w k k2, zip_drop d w k k2] at hO6
          have hlen6 : (d.take k ++ x :: d.drop k).length = d.length + 1 := by simp; omega
          refine RL.nil ?_; repeat (first | with_reducible refine QN.block_normal ?_ | with_reducible refine QN.next ?_); repeat (first | with_reducible refine WP.seq ?_ | with_reducible refine WP.block ?_ | with_reducible refine WP.region ?_)
          refine RL.pure T_ok 2 rfl ?_
          refine RL.eqv (v' := .int .i64 ((i + 1 : Nat) : Int)) (congrArg _ (by rw [wrap_i64_in _ (by omega) (by omega)]; rfl)) ?_
          refine RL.auto T_ok rfl ?_
          refine RL.nil (QN.round (i + 1, .slice (some ⟨g, 0, none⟩) (d.length + 1) c4, [g], d.take k ++ x :: d.drop k) (Sub.cons rfl (Sub.cons rfl (Sub.cons rfl Sub.nil))) ⟨by show i + 1 ≤ _; omega, put_sorted hd q3 q4, ?_, ?_, ⟨hN5.1.trans hC6.ext (fun k hk => .inr (hN5.ge k hk)), hN5.2⟩⟩ (by show _ - (i + 1) < _ - i; omega))
          · show (d.take k ++ x :: d.drop k).Perm ((l.take (i + 1)).filter Rng.right)
            rw [hstep]
            exact (put_perm x d k).trans (hp.append_right [x])
          · show Ev.Own m6 [g] 62 3 _ (d.take k ++ x :: d.drop k).length _
            rw [hlen6]
            simpa using hO6
  · replace hc : i = l.length := by have := of_decide_eq_false hc; simp only at this; omega
    subst hc
    rw [List.take_length] at hp
    have hdl : d.length ≤ l.length := by
      rw [hp.length_eq]
      exact List.length_filter_le _ _
    have hcl := merged_clean l d hp hd
    refine WP.exit ?_; repeat (first | with_reducible refine QN.then_exit ?_ | with_reducible refine QN.block_exit ?_ | with_reducible refine QN.block_far rfl ?_ | with_reducible refine QN.block_normal ?_ | with_reducible refine QN.next ?_); repeat (first | with_reducible refine WP.seq ?_ | with_reducible refine WP.block ?_ | with_reducible refine WP.region ?_)
    refine RL.auto T_ok rfl ?_
    refine RL.nil ?_; repeat (first | with_reducible refine QN.block_normal ?_ | with_reducible refine QN.next ?_); repeat (first | with_reducible refine WP.seq ?_ | with_reducible refine WP.block ?_ | with_reducible refine WP.region ?_)
    refine RL.auto T_ok rfl ?_
    refine RL.nil ?_; repeat (first | with_reducible refine QN.block_normal ?_ | with_reducible refine QN.next ?_); repeat (first | with_reducible refine WP.seq ?_ | with_reducible refine WP.block ?_ | with_reducible refine WP.region ?_)
    have hR1 : Rs m1 [] (.slice Au d.length cu) d := hO.sl (by simp)
    refine (WP.loop (X := Nat × Value × List Nat) (fun x => [(3, .slice Au d.length cu), (9, x.2.1), (10, .int .i64 x.1)])
      (fun x m' => x.1 ≤ d.length ∧ Ev.Own m' x.2.2 62 3 x.2.1 ((d.take x.1).foldl mg []).length (((d.take x.1).foldl mg []).reverse.flatMap rC) ∧ New m1 x.2.2 m') (fun x => d.length - x.1) (0, .slice none 0 0, [])
      (Sub.cons rfl (Sub.cons rfl (Sub.cons rfl Sub.nil))) ⟨by simp, Own.empty _ _ _ _, Ext.refl _ _, FpNew.nil _ _⟩ ?_)
    rintro ⟨i, u, S5⟩ m5 ⟨hi, hO5, hN5⟩
    simp only at hi hO5 hN5
    obtain ⟨A5, c5, rfl, hc5⟩ := hO5.shape
    repeat (first | with_reducible refine WP.seq ?_ | with_reducible refine WP.block ?_ | with_reducible refine WP.region ?_)
    refine RL.auto T_ok rfl ?_
    refine RL.nil ?_; repeat (first | with_reducible refine QN.block_normal ?_ | with_reducible refine QN.next ?_); repeat (first | with_reducible refine WP.seq ?_ | with_reducible refine WP.block ?_ | with_reducible refine WP.region ?_)
    refine WP.cond rfl (fun hc => ?_) (fun hc => ?_)
    · replace hc : i < d.length := by have := of_decide_eq_true hc; simp only at this; omega
      obtain ⟨ad, rfl, hx⟩ := (hR1.ext0 hN5.1).cell i hc
      have hnext : (d.take (i + 1)).foldl mg [] = mg ((d.take i).foldl mg []) d[i] := by rw [List.take_succ_eq_append_getElem hc, List.foldl_append]; rfl
      have hTl : ((d.take i).foldl mg []).length ≤ l.length := by
        have h9 := foldl_mg_len (d.take i) []
        have h8 := List.length_take_le i d
        simp only [List.length_nil] at h9
        omega
      generalize (d.take i).foldl mg [] = r at hO5 hnext hTl
      obtain ⟨x, hxe⟩ : ∃ x, d[i] = x := ⟨_, rfl⟩
      rw [hxe] at hx hnext
      refine WP.skip ?_; repeat (first | with_reducible refine QN.block_normal ?_ | with_reducible refine QN.next ?_); repeat (first | with_reducible refine WP.seq ?_ | with_reducible refine WP.block ?_ | with_reducible refine WP.region ?_)
      refine RL.auto T_ok rfl ?_
      refine RL.nil ?_; repeat (first | with_reducible refine QN.block_normal ?_ | with_reducible refine QN.next ?_)
      refine WP.cut (X := Bool) (fun b => [(3, .slice (some ad) d.length cu), (9, .slice A5 r.length c5), (10, .int .i64 i), (11, .int .i64 r.length), (109, .bool b)])
        (fun b m' => m' = m5 ∧ (b = true → ∃ y r', r = y :: r' ∧ mg r x = { y with t := max y.t x.t } :: r') ∧ (b = false → mg r x = x :: r)) ?_ ?_
      · refine WP.drawQ (fun m' => m' = m5) [] (by kernel_rfl) rfl (by repeat (first | with_reducible exact PanicOk.body | with_reducible refine PanicOk.then_ ?_ | with_reducible refine PanicOk.block_ ?_)) (fun hQ => ?_)
        refine RH.pure T_ok hQ [0, 1] (by kernel_rfl) rfl ?_
        rcases r with _ | ⟨y, r'⟩
        · refine RH.eqv (v' := .bool false) rfl ?_
          refine RH.pure T_ok hQ [2, 3, 4, 5, 6, 7, 8, 9, 10, 11, 12, 13, 14, 15, 16, 17, 18, 19, 20, 21, 22, 23, 24, 25, 26, 27, 28, 29] (by kernel_rfl) rfl ?_
          refine RH.done (by kernel_rfl) (fun _ => ?_)
          exact QN.cutEnd false (Sub.cons rfl (Sub.cons rfl (Sub.cons rfl (Sub.cons rfl (Sub.cons rfl Sub.nil))))) ⟨rfl, (fun h => by cases h), (fun _ => rfl)⟩
        · have hrl : (y :: r').length = r'.length + 1 := rfl
          have hk1 : IntKind.i64.wrap (((y :: r').length : Int) - 1) = r'.length := by rw [hrl, wrap_i64_in _ (by omega) (by omega)]; omega
          have hR7 : Rs m5 [] (.slice A5 (y :: r').length c5) (r'.reverse ++ [y]) := by
            have := hO5.sl (M := []) (by simp)
            rw [List.reverse_cons] at this; exact this
          obtain ⟨ad5, rfl, hy⟩ := hR7.cell r'.length (by simp)
          have hyy : (r'.reverse ++ [y])[r'.length]'(by simp) = y := by simp
          rw [hyy] at hy
          refine RH.eqv (v' := .bool true) (congrArg _ (decide_eq_true (by rw [hrl]; omega))) ?_
          refine RH.pure T_ok hQ [2, 3, 4, 5] (by kernel_rfl) rfl ?_
          refine RH.eqv (v' := .int .i64 (r'.length : Int)) (congrArg _ hk1) ?_
          refine RH.indexAddr T_ok hQ 6 (k := r'.length) rfl (by kernel_rfl) rfl rfl rfl rfl rfl rfl rfl (by omega) rfl ?_
          refine RH.pure T_ok hQ [7] (by kernel_rfl) rfl ?_
          refine RH.load T_ok hQ 8 (fun m' hm' => by rw [hm']; exact hy 0 _ rfl) rfl (by kernel_rfl) rfl rfl rfl rfl ?_
          refine RH.pure T_ok hQ [9, 10] (by kernel_rfl) rfl ?_
          refine RH.indexAddr T_ok hQ 11 (k := i) rfl (by kernel_rfl) rfl rfl rfl rfl rfl rfl rfl hc rfl ?_
          refine RH.pure T_ok hQ [12] (by kernel_rfl) rfl ?_
          refine RH.load T_ok hQ 13 (fun m' hm' => by rw [hm']; exact hx 0 _ rfl) rfl (by kernel_rfl) rfl rfl rfl rfl ?_
          refine RH.pure T_ok hQ [14] (by kernel_rfl) rfl ?_
          by_cases h1 : y.c = x.c
          · refine RH.eqv (v' := .bool true) (congrArg _ (by rw [deq]; exact decide_eq_true h1)) ?_
            refine RH.pure T_ok hQ [15, 16, 17, 18] (by kernel_rfl) rfl ?_
            refine RH.indexAddr T_ok hQ 19 (k := i) rfl (by kernel_rfl) rfl rfl rfl rfl rfl rfl rfl hc rfl ?_
            refine RH.pure T_ok hQ [20] (by kernel_rfl) rfl ?_
            refine RH.load T_ok hQ 21 (fun m' hm' => by rw [hm']; exact hx 1 _ rfl) rfl (by kernel_rfl) rfl rfl rfl rfl ?_
            refine RH.pure T_ok hQ [22, 23, 24] (by kernel_rfl) rfl ?_
            refine RH.eqv (v' := .int .i64 (r'.length : Int)) (congrArg _ hk1) ?_
            refine RH.indexAddr T_ok hQ 25 (k := r'.length) rfl (by kernel_rfl) rfl rfl rfl rfl rfl rfl rfl (by omega) rfl ?_
            refine RH.pure T_ok hQ [26] (by kernel_rfl) rfl ?_
            refine RH.load T_ok hQ 27 (fun m' hm' => by rw [hm']; exact hy 2 _ rfl) rfl (by kernel_rfl) rfl rfl rfl rfl ?_
            refine RH.pure T_ok hQ [28, 29] (by kernel_rfl) rfl ?_
            refine RH.done (by kernel_rfl) (fun _ => ?_)
            refine QN.cutEnd (decide (x.f ≤ y.t)) (Sub.cons rfl (Sub.cons rfl (Sub.cons rfl (Sub.cons rfl (Sub.cons ?_ Sub.nil))))) ⟨rfl, (fun h => ⟨y, r', rfl, ?_⟩), (fun h => ?_)⟩
            · show some (Value.bool (decide ((x.f : Int) ≤ (y.t : Int)))) = _
              rw [dle x.f y.t y.t rfl]
            · rw [mg_cons, if_pos ⟨h1, of_decide_eq_true h⟩]
            · rw [mg_cons, if_neg (fun hh => of_decide_eq_false h hh.2)]
          · refine RH.eqv (v' := .bool false) (congrArg _ (by rw [deq]; exact decide_eq_false h1)) ?_
            refine RH.pure T_ok hQ [15, 16, 17, 18, 19, 20, 21, 22, 23, 24, 25, 26, 27, 28, 29] (by kernel_rfl) rfl ?_
            refine RH.done (by kernel_rfl) (fun _ => ?_)
            exact QN.cutEnd false (Sub.cons rfl (Sub.cons rfl (Sub.cons rfl (Sub.cons rfl (Sub.cons rfl Sub.nil))))) ⟨rfl, (fun h => by cases h), (fun _ => by rw [mg_cons, if_neg (fun hh => h1 hh.1)])⟩
      · rintro b mc ⟨rfl, hbt, hbf⟩
        refine WP.cond rfl (fun hb => ?_) (fun hb => ?_)
        · obtain ⟨y, r', rfl, hmg⟩ := hbt hb
          have hrl : (y :: r').length = r'.length + 1 := rfl
          have hk1 : IntKind.i64.wrap (((y :: r').length : Int) - 1) = r'.length := by rw [hrl, wrap_i64_in _ (by omega) (by omega)]; omega
          have hR7 : Rs mc [] (.slice A5 (y :: r').length c5) (r'.reverse ++ [y]) := by
            have := hO5.sl (M := []) (by simp)
            rw [List.reverse_cons] at this; exact this
          obtain ⟨ad5, rfl, hy⟩ := hR7.cell r'.length (by simp)
          have hyy : (r'.reverse ++ [y])[r'.length]'(by simp) = y := by simp
          rw [hyy] at hy
          have hO8 := hO5
          rw [List.reverse_cons] at hO8
          obtain ⟨g, cap, cur, hv8, hB8, rfl, hj8, hset⟩ := hO8.putN (j := r'.length * 3 + 2) (by rw [hrl]; omega)
          injection hv8 with hv8 hv8'
          injection hv8 with hv8
          subst hv8
          rw [hmg] at hnext
          refine WP.drawQ (fun m' => m' = mc) [17] (by kernel_rfl) rfl (by repeat (first | with_reducible exact PanicOk.body | with_reducible refine PanicOk.then_ ?_ | with_reducible refine PanicOk.block_ ?_)) (fun hQ => ?_)
          refine RH.pure T_ok hQ [0, 1, 2] (by kernel_rfl) rfl ?_
          refine RH.eqv (v' := .int .i64 (r'.length : Int)) (congrArg _ hk1) ?_
          refine RH.pure T_ok hQ [3, 4, 5] (by kernel_rfl) rfl ?_
          refine RH.eqv (v' := .int .i64 (r'.length : Int)) (congrArg _ hk1) ?_
          refine RH.indexAddr T_ok hQ 6 (k := r'.length) rfl (by kernel_rfl) rfl rfl rfl rfl rfl rfl rfl (by omega) rfl ?_
          refine RH.pure T_ok hQ [7] (by kernel_rfl) rfl ?_
          refine RH.load T_ok hQ 8 (fun m' hm' => by rw [hm']; exact hy 2 _ rfl) rfl (by kernel_rfl) rfl rfl rfl rfl ?_
          refine RH.pure T_ok hQ [9, 10] (by kernel_rfl) rfl ?_
          refine RH.indexAddr T_ok hQ 11 (k := i) rfl (by kernel_rfl) rfl rfl rfl rfl rfl rfl rfl hc rfl ?_
          refine RH.pure T_ok hQ [12] (by kernel_rfl) rfl ?_
          refine RH.load T_ok hQ 13 (fun m' hm' => by rw [hm']; exact hx 2 _ rfl) rfl (by kernel_rfl) rfl rfl rfl rfl ?_
          refine RH.pure T_ok hQ [14] (by kernel_rfl) rfl ?_
          refine RH.eqv (v' := .int .u64 (max y.t x.t : Nat)) (congrArg _ (by show (if _ then _ else _ : Int) = _; split <;> omega)) ?_
          refine RH.indexAddr T_ok hQ 15 (k := r'.length) rfl (by kernel_rfl) rfl rfl rfl rfl rfl rfl rfl (by omega) rfl ?_
          refine RH.eqv (v' := .pointer (some ⟨g, r'.length * 3, none⟩)) (congrArg (fun q => Value.pointer (some q)) (by rw [add_block]; show (⟨g, 0 + r'.length * 3, none⟩ : Addr) = _; rw [Nat.zero_add])) ?_
          refine RH.pure T_ok hQ [16] (by kernel_rfl) rfl ?_
          refine RH.only 17 rfl (by kernel_rfl) (fun _ => ?_)
          refine RL.store T_ok hB8 (i := r'.length * 3 + 2) (v := .int .u64 (max y.t x.t : Nat)) hj8 rfl rfl rfl rfl rfl rfl ?_
          intro m9 hC9
          have hO9 := hset m9 _ hC9
          rw [show r'.length * 3 + 2 = r'.reverse.length * 3 + 2 by rw [List.length_reverse], rsC_setT, ← List.reverse_cons] at hO9
          have hN9 : New m1 [g] m9 := ⟨hN5.1.trans hC9.ext (fun k hk => .inr (hN5.ge k hk)), hN5.2⟩
          refine RL.nil (RF.last (by kernel_rfl) ?_)
          repeat (first | with_reducible refine QN.block_normal ?_ | with_reducible refine QN.next ?_)
          repeat (first | with_reducible refine WP.seq ?_ | with_reducible refine WP.block ?_ | with_reducible refine WP.region ?_)
          refine RL.pure T_ok 2 rfl ?_
          refine RL.eqv (v' := .int .i64 ((i + 1 : Nat) : Int)) (congrArg _ (by rw [wrap_i64_in _ (by omega) (by omega)]; rfl)) ?_
          refine RL.auto T_ok rfl ?_
          refine RL.nil (QN.round (i + 1, .slice (some ⟨g, 0, none⟩) (y :: r').length c5, [g]) (Sub.cons rfl (Sub.cons rfl (Sub.cons rfl Sub.nil))) ⟨by show i + 1 ≤ _; omega, ?_, hN9⟩ (by show _ - (i + 1) < _ - i; omega))
          show Ev.Own m9 [g] 62 3 _ ((d.take (i + 1)).foldl mg []).length (((d.take (i + 1)).foldl mg []).reverse.flatMap rC)
          rw [hnext]
          exact hO9
        · rw [hbf hb] at hnext
          repeat (first | with_reducible refine WP.seq ?_ | with_reducible refine WP.block ?_ | with_reducible refine WP.region ?_)
          refine RL.pure T_ok 3 rfl ?_
          refine RL.indexAddr (k := i) T_ok rfl rfl rfl rfl rfl rfl rfl hc rfl ?_
          refine RL.loadAgg T_ok (rC x) rfl rfl rfl hx rfl ?_
          refine RL.append1 T_ok [.tmp 131] hO5 (us := [rV x]) (rC x) rfl rfl rfl rfl rfl rfl rfl rfl rfl (by simp [rV, rC, Value.cells]) (by simp [rV, Value.cells]) (rC_one x) (by unfold maxLen; omega) (by show (_ + 1) * 24 ≤ _; omega) ?_
          intro v8 m8 S8 hO8 hE8 hF8
          refine ⟨_, rfl, ?_⟩
          refine RL.auto T_ok rfl ?_
          refine RL.nil ?_; repeat (first | with_reducible refine QN.block_normal ?_ | with_reducible refine QN.next ?_); repeat (first | with_reducible refine WP.seq ?_ | with_reducible refine WP.block ?_ | with_reducible refine WP.region ?_)
          refine RL.pure T_ok 2 rfl ?_
          refine RL.eqv (v' := .int .i64 ((i + 1 : Nat) : Int)) (congrArg _ (by rw [wrap_i64_in _ (by omega) (by omega)]; rfl)) ?_
          refine RL.auto T_ok rfl ?_
          have hN8 : New m1 S8 m8 := ⟨hN5.1.trans hE8 (fun k hk => .inr (hN5.ge k hk)), hN5.2.trans hF8 hN5.1.size⟩
          refine RL.nil (QN.round (i + 1, v8, S8) (Sub.cons rfl (Sub.cons rfl (Sub.cons rfl Sub.nil))) ⟨by show i + 1 ≤ _; omega, ?_, hN8⟩ (by show _ - (i + 1) < _ - i; omega))
          show Ev.Own m8 S8 62 3 _ ((d.take (i + 1)).foldl mg []).length (((d.take (i + 1)).foldl mg []).reverse.flatMap rC)
          rw [hnext, List.reverse_cons, ← rsC_app]
          exact hO8
    · replace hc : i = d.length := by have := of_decide_eq_false hc; simp only at this; omega
      subst hc
      rw [List.take_length, hcl] at hO5
      have hln : (d.foldl mg []).length = (clean l).length := by rw [← hcl, List.length_reverse]
      rw [hln] at hO5
      refine WP.exit ?_; repeat (first | with_reducible refine QN.then_exit ?_ | with_reducible refine QN.block_exit ?_ | with_reducible refine QN.block_far rfl ?_ | with_reducible refine QN.block_normal ?_ | with_reducible refine QN.next ?_); repeat (first | with_reducible refine WP.seq ?_ | with_reducible refine WP.block ?_ | with_reducible refine WP.region ?_)
      refine RL.auto T_ok rfl ?_
      refine RL.nil ?_; repeat (first | with_reducible refine QN.block_normal ?_ | with_reducible refine QN.next ?_); repeat (first | with_reducible refine WP.seq ?_ | with_reducible refine WP.block ?_ | with_reducible refine WP.region ?_)
      refine WP.ret ?_; repeat (first | with_reducible refine QN.then_ret ?_ | with_reducible refine QN.block_ret ?_)
      refine QN.ret1 rfl rfl ⟨_, rfl, S5, ?_, hN.1.trans hN5.1 (by simp), hN5.2.trans' hN.1⟩
      show Ev.Own m5 S5 62 3 (.slice A5 ((d.take d.length).foldl mg []).length c5) _ _
      rw [List.take_length, hln]
      exact hO5
end Go.Proofs.Ytmjpcaiehfimgaa
