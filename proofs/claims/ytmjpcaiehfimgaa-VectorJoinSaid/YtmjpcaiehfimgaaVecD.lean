/- quireref7: Ranges, Join, Meet, Missing, Within; what every row of vectors asks first; clocks that came in. -/
import Derived.Test.YtmjpcaiehfimgaaVecC
import Derived.Test.YtmjpcaiehfimgaaRow
namespace Go.Proofs.Ytmjpcaiehfimgaa
open Go.RowKit Go.Ev Go.Ids

theorem refvranges_c (m : World) (v : Value) (l : List Clk) (h : Cs m [] v l) (hl : l.length < 100000000) : FnR Try.prog 19 [v] m fun r m' => Made m r (vranges l) m' := by
  refine FnE.enter ⟨_, Try.func19, by kernel_rfl, by kernel_rfl⟩ Try.func19 rfl rfl ?_
  repeat (first | with_reducible refine WP.seq ?_ | with_reducible refine WP.block ?_ | with_reducible refine WP.region ?_)
  refine RL.auto T_ok rfl ?_
  refine RL.nil ?_; repeat (first | with_reducible refine QN.block_normal ?_ | with_reducible refine QN.next ?_); repeat (first | with_reducible refine WP.seq ?_ | with_reducible refine WP.block ?_ | with_reducible refine WP.region ?_)
  refine RL.auto T_ok rfl ?_
  refine RL.nil ?_; repeat (first | with_reducible refine QN.block_normal ?_ | with_reducible refine QN.next ?_); repeat (first | with_reducible refine WP.seq ?_ | with_reducible refine WP.block ?_ | with_reducible refine WP.region ?_)
  refine RL.auto T_ok rfl ?_
  refine RL.call (fi := []) (ca := []) rfl rfl rfl rfl (refvclean_c m v l h hl) ?_
  rintro v1 m1 hM
  refine ⟨_, rfl, ?_⟩
  have hE1 := hM.ext
  have hR := hM.cs
  have hcan := vclean_canon l
  have hln := vclean_len l
  have hdef : vranges l = (vclean l).map vrg := rfl
  rw [hdef]
  generalize vclean l = L at hM hR hcan hln
  obtain ⟨A, c, rfl, _, _⟩ := hR.shape
  refine RL.auto T_ok rfl ?_
  refine RL.nil ?_; repeat (first | with_reducible refine QN.block_normal ?_ | with_reducible refine QN.next ?_); repeat (first | with_reducible refine WP.seq ?_ | with_reducible refine WP.block ?_ | with_reducible refine WP.region ?_)
  refine RL.auto T_ok rfl ?_
  refine RL.nil ?_; repeat (first | with_reducible refine QN.block_normal ?_ | with_reducible refine QN.next ?_); repeat (first | with_reducible refine WP.seq ?_ | with_reducible refine WP.block ?_ | with_reducible refine WP.region ?_)
  refine (WP.loop (X := Nat × Value × List Nat) (fun q => [(0, .slice A L.length c), (3, q.2.1), (4, .int .i64 q.1)])
    (fun q m' => q.1 ≤ L.length ∧ Ev.Own m' q.2.2 62 3 q.2.1 ((L.take q.1).map vrg).length (((L.take q.1).map vrg).flatMap rC) ∧ New m1 q.2.2 m') (fun q => L.length - q.1) (0, .slice none 0 0, [])
    (Sub.cons rfl (Sub.cons rfl (Sub.cons rfl Sub.nil))) ⟨by simp, Own.empty _ _ _ _, Ext.refl _ _, FpNew.nil _ _⟩ ?_)
  rintro ⟨i, w, S⟩ m2 ⟨hi, hO, hN⟩
  simp only at hi hO hN
  repeat (first | with_reducible refine WP.seq ?_ | with_reducible refine WP.block ?_ | with_reducible refine WP.region ?_)
  refine RL.auto T_ok rfl ?_
  refine RL.nil ?_; repeat (first | with_reducible refine QN.block_normal ?_ | with_reducible refine QN.next ?_); repeat (first | with_reducible refine WP.seq ?_ | with_reducible refine WP.block ?_ | with_reducible refine WP.region ?_)
  refine WP.cond rfl (fun hc => ?_) (fun hc => ?_)
  · replace hc : i < L.length := by have := of_decide_eq_true hc; simp only at this; omega
    obtain ⟨ad, rfl, _⟩ := hR.cell i hc
    have hx : ∀ m', Ext m1 [] m' → ∀ j w, (cC L[i])[j]? = some w → m'.cell? ((ad.add (i * 2)).add j) = some w := fun m' hE => by
      obtain ⟨ad', h1, h2⟩ := (hR.ext0 hE).cell i hc
      injection h1 with h1
      subst h1
      exact h2
    have hok := hcan.1 L[i] (List.getElem_mem _)
    have htake : (L.take (i + 1)).map vrg = (L.take i).map vrg ++ [vrg L[i]] := by rw [List.take_succ_eq_append_getElem hc, List.map_append]; rfl
    have hlm : ((L.take i).map vrg).length = i := by rw [List.length_map, List.length_take, Nat.min_eq_left hi]
    generalize L[i] = x at hx hok htake
    refine WP.skip ?_; repeat (first | with_reducible refine QN.block_normal ?_ | with_reducible refine QN.next ?_)
    refine WP.seq ?_
    refine WP.block ?_
    refine WP.drawQ (fun m' => Ext m1 [] m') [] (by kernel_rfl) hN.1 (by repeat (first | with_reducible exact PanicOk.body | with_reducible refine PanicOk.then_ ?_ | with_reducible refine PanicOk.block_ ?_)) (fun hQ => ?_)
    refine RH.pure T_ok hQ [0, 1, 2] (by kernel_rfl) rfl ?_
    refine RH.indexAddr T_ok hQ 3 (k := i) rfl (by kernel_rfl) rfl rfl rfl rfl rfl rfl rfl hc rfl ?_
    refine RH.pure T_ok hQ [4] (by kernel_rfl) rfl ?_
    refine RH.load T_ok hQ 5 (fun m' hm' => hx m' hm' 0 _ rfl) rfl (by kernel_rfl) rfl rfl rfl rfl ?_
    refine RH.pure T_ok hQ [6, 7] (by kernel_rfl) rfl ?_
    refine RH.indexAddr T_ok hQ 8 (k := i) rfl (by kernel_rfl) rfl rfl rfl rfl rfl rfl rfl hc rfl ?_
    refine RH.pure T_ok hQ [9] (by kernel_rfl) rfl ?_
    refine RH.load T_ok hQ 10 (fun m' hm' => hx m' hm' 1 _ rfl) rfl (by kernel_rfl) rfl rfl rfl rfl ?_
    refine RH.pure T_ok hQ [11] (by kernel_rfl) rfl ?_
    refine RH.eqv (v' := .int .u64 ((x.k + 1 : Nat) : Int)) (congrArg _ (by have := hok.2.2.2; rw [wrap_u64_in _ (by omega) (by omega)]; rfl)) ?_
    refine RH.pure T_ok hQ [12] (by kernel_rfl) rfl ?_
    refine RH.eqv (v' := rV (vrg x)) rfl ?_
    refine RH.only 13 rfl (by kernel_rfl) (fun _ => ?_)
    refine RL.buildSlice T_ok [.tmp 25] (us := [rV (vrg x)]) (rC (vrg x)) rfl rfl rfl rfl rfl rfl (by simp [rV, rC, Value.cells]) (by simp [rV, Value.cells]) rfl (fun b9 m9 hb9 hC9 => ⟨_, rfl, ?_⟩)
    have hE9 : Ext m2 [] m9 := hC9.new (by omega)
    have hN9 : New m1 S m9 := ⟨hN.1.trans hE9 (by simp), hN.2⟩
    refine RL.nil (RH.cont hN9.1 ?_)
    refine RH.only 14 rfl (by kernel_rfl) (fun _ => ?_)
    refine RL.append T_ok (hO.ext hE9 (by simp)) (rC (vrg x)) (Src.of_blk (k := 1) (c := 1) hC9.blk rfl) rfl rfl rfl rfl rfl rfl (rC_one _) (by unfold maxLen; omega) (by show (_ + 1) * 24 ≤ _; omega) ?_
    intro v10 m10 S10 hO10 hE10 hF10
    have hN10 : New m1 S10 m10 := ⟨hN9.1.trans hE10 (fun k hk => .inr (hN9.ge k hk)), hN9.2.trans hF10 hN9.1.size⟩
    refine ⟨_, rfl, RL.nil (RH.cont hN10.1 ?_)⟩
    refine RH.pure T_ok hQ [15] (by kernel_rfl) rfl ?_
    refine RH.done (by kernel_rfl) (fun _ => ?_)
    repeat (first | with_reducible refine QN.block_normal ?_ | with_reducible refine QN.next ?_)
    repeat (first | with_reducible refine WP.seq ?_ | with_reducible refine WP.block ?_ | with_reducible refine WP.region ?_)
    refine RL.pure T_ok 2 rfl ?_
    refine RL.eqv (v' := .int .i64 ((i + 1 : Nat) : Int)) (congrArg _ (by rw [wrap_i64_in _ (by omega) (by omega)]; rfl)) ?_
    refine RL.auto T_ok rfl ?_
    refine RL.nil (QN.round (i + 1, v10, S10) (Sub.cons rfl (Sub.cons rfl (Sub.cons rfl Sub.nil))) ⟨by show i + 1 ≤ _; omega, ?_, hN10⟩ (by show _ - (i + 1) < _ - i; omega))
    show Ev.Own m10 S10 62 3 v10 ((L.take (i + 1)).map vrg).length (((L.take (i + 1)).map vrg).flatMap rC)
    rw [htake, List.length_append, ← rsC_app]
    simpa using hO10
  · replace hc : i = L.length := by have := of_decide_eq_false hc; simp only at this; omega
    subst hc
    rw [List.take_length] at hO
    refine WP.exit ?_; repeat (first | with_reducible refine QN.then_exit ?_ | with_reducible refine QN.block_exit ?_ | with_reducible refine QN.block_far rfl ?_ | with_reducible refine QN.block_normal ?_ | with_reducible refine QN.next ?_); repeat (first | with_reducible refine WP.seq ?_ | with_reducible refine WP.block ?_ | with_reducible refine WP.region ?_)
    refine RL.auto T_ok rfl ?_
    refine RL.nil ?_; repeat (first | with_reducible refine QN.block_normal ?_ | with_reducible refine QN.next ?_); repeat (first | with_reducible refine WP.seq ?_ | with_reducible refine WP.block ?_ | with_reducible refine WP.region ?_)
    refine WP.ret ?_; repeat (first | with_reducible refine QN.then_ret ?_ | with_reducible refine QN.block_ret ?_)
    exact QN.ret1 rfl rfl ⟨_, rfl, S, hO, hE1.trans hN.1 (by simp), hN.2.trans' hE1⟩
theorem refvmeet_c (m : World) (v u : Value) (a b : List Clk) (h : Cs m [] v a) (h' : Cs m [] u b) (hla : a.length < 100000000) (hlb : b.length < 100000000) : FnR Try.prog 24 [v, u] m fun r m' => VMade m r (vmeet a b) m' := by
  obtain ⟨B, cB, rfl, _, _⟩ := h'.shape
  refine FnE.enter ⟨_, Try.func24, by kernel_rfl, by kernel_rfl⟩ Try.func24 rfl rfl ?_
  repeat (first | with_reducible refine WP.seq ?_ | with_reducible refine WP.block ?_ | with_reducible refine WP.region ?_)
  refine RL.auto T_ok rfl ?_
  refine RL.nil ?_; repeat (first | with_reducible refine QN.block_normal ?_ | with_reducible refine QN.next ?_); repeat (first | with_reducible refine WP.seq ?_ | with_reducible refine WP.block ?_ | with_reducible refine WP.region ?_)
  refine RL.auto T_ok rfl ?_
  refine RL.nil ?_; repeat (first | with_reducible refine QN.block_normal ?_ | with_reducible refine QN.next ?_); repeat (first | with_reducible refine WP.seq ?_ | with_reducible refine WP.block ?_ | with_reducible refine WP.region ?_)
  refine RL.auto T_ok rfl ?_
  refine RL.call (fi := []) (ca := []) rfl rfl rfl rfl (refvclean_c m v a h hla) ?_
  rintro v1 m1 hM
  refine ⟨_, rfl, ?_⟩
  have hE1 := hM.ext
  have hR := hM.cs
  have hln := vclean_len a
  have hdef : vmeet a b = vclean ((vclean a).map fun x => (⟨x.c, min x.k (vat b x.c)⟩ : Clk)) := rfl
  rw [hdef]
  generalize vclean a = L at hM hR hln
  obtain ⟨A, c, rfl, _, _⟩ := hR.shape
  replace h' := h'.ext0 hE1
  obtain ⟨f, hf⟩ : ∃ f : Clk → Clk, f = fun x => (⟨x.c, min x.k (vat b x.c)⟩ : Clk) := ⟨_, rfl⟩
  rw [← hf]
  have hfx : ∀ x, f x = ⟨x.c, min x.k (vat b x.c)⟩ := fun x => by rw [hf]
  clear hf hM
  refine RL.auto T_ok rfl ?_
  refine RL.nil ?_; repeat (first | with_reducible refine QN.block_normal ?_ | with_reducible refine QN.next ?_); repeat (first | with_reducible refine WP.seq ?_ | with_reducible refine WP.block ?_ | with_reducible refine WP.region ?_)
  refine RL.auto T_ok rfl ?_
  refine RL.nil ?_; repeat (first | with_reducible refine QN.block_normal ?_ | with_reducible refine QN.next ?_); repeat (first | with_reducible refine WP.seq ?_ | with_reducible refine WP.block ?_ | with_reducible refine WP.region ?_)
  refine (WP.loop (X := Nat × Value × List Nat) (fun q => [(1, .slice B b.length cB), (0, .slice A L.length c), (5, q.2.1), (6, .int .i64 q.1)])
    (fun q m' => q.1 ≤ L.length ∧ Ev.Own m' q.2.2 60 2 q.2.1 ((L.take q.1).map f).length (((L.take q.1).map f).flatMap cC) ∧ New m1 q.2.2 m') (fun q => L.length - q.1) (0, .slice none 0 0, [])
    (Sub.cons rfl (Sub.cons rfl (Sub.cons rfl (Sub.cons rfl Sub.nil)))) ⟨by simp, Own.empty _ _ _ _, Ext.refl _ _, FpNew.nil _ _⟩ ?_)
  rintro ⟨i, w, S⟩ m2 ⟨hi, hO, hN⟩
  simp only at hi hO hN
  repeat (first | with_reducible refine WP.seq ?_ | with_reducible refine WP.block ?_ | with_reducible refine WP.region ?_)
  refine RL.auto T_ok rfl ?_
  refine RL.nil ?_; repeat (first | with_reducible refine QN.block_normal ?_ | with_reducible refine QN.next ?_); repeat (first | with_reducible refine WP.seq ?_ | with_reducible refine WP.block ?_ | with_reducible refine WP.region ?_)
  refine WP.cond rfl (fun hc => ?_) (fun hc => ?_)
  · replace hc : i < L.length := by have := of_decide_eq_true hc; simp only at this; omega
    obtain ⟨ad, rfl, _⟩ := hR.cell i hc
    have hx : ∀ m', Ext m1 [] m' → ∀ j w, (cC L[i])[j]? = some w → m'.cell? ((ad.add (i * 2)).add j) = some w := fun m' hE => by
      obtain ⟨ad', h1, h2⟩ := (hR.ext0 hE).cell i hc
      injection h1 with h1
      subst h1
      exact h2
    have htake : (L.take (i + 1)).map f = (L.take i).map f ++ [f L[i]] := by rw [List.take_succ_eq_append_getElem hc, List.map_append]; rfl
    have hlm : ((L.take i).map f).length = i := by rw [List.length_map, List.length_take, Nat.min_eq_left hi]
    generalize L[i] = x at hx htake
    refine WP.skip ?_; repeat (first | with_reducible refine QN.block_normal ?_ | with_reducible refine QN.next ?_)
    refine WP.seq ?_
    refine WP.block ?_
    refine WP.drawQ (fun m' => Ext m1 [] m') [] (by kernel_rfl) hN.1 (by repeat (first | with_reducible exact PanicOk.body | with_reducible refine PanicOk.then_ ?_ | with_reducible refine PanicOk.block_ ?_)) (fun hQ => ?_)
    refine RH.pure T_ok hQ [0, 1, 2] (by kernel_rfl) rfl ?_
    refine RH.indexAddr T_ok hQ 3 (k := i) rfl (by kernel_rfl) rfl rfl rfl rfl rfl rfl rfl hc rfl ?_
    refine RH.pure T_ok hQ [4] (by kernel_rfl) rfl ?_
    refine RH.load T_ok hQ 5 (fun m' hm' => hx m' hm' 0 _ rfl) rfl (by kernel_rfl) rfl rfl rfl rfl ?_
    refine RH.pure T_ok hQ [6, 7] (by kernel_rfl) rfl ?_
    refine RH.indexAddr T_ok hQ 8 (k := i) rfl (by kernel_rfl) rfl rfl rfl rfl rfl rfl rfl hc rfl ?_
    refine RH.pure T_ok hQ [9] (by kernel_rfl) rfl ?_
    refine RH.load T_ok hQ 10 (fun m' hm' => hx m' hm' 1 _ rfl) rfl (by kernel_rfl) rfl rfl rfl rfl ?_
    refine RH.pure T_ok hQ [11, 12, 13] (by kernel_rfl) rfl ?_
    refine RH.indexAddr T_ok hQ 14 (k := i) rfl (by kernel_rfl) rfl rfl rfl rfl rfl rfl rfl hc rfl ?_
    refine RH.pure T_ok hQ [15] (by kernel_rfl) rfl ?_
    refine RH.load T_ok hQ 16 (fun m' hm' => hx m' hm' 0 _ rfl) rfl (by kernel_rfl) rfl rfl rfl rfl ?_
    refine RH.only 17 rfl (by kernel_rfl) (fun _ => ?_)
    refine RL.call (fi := []) (ca := []) rfl rfl rfl rfl (refvat_c m2 _ b (h'.ext0 hN.1) (by omega) x.c) ?_
    rintro _ mM ⟨rfl, hmM⟩
    subst hmM
    refine ⟨_, rfl, RL.nil (RH.cont hN.1 ?_)⟩
    refine RH.pure T_ok hQ [18] (by kernel_rfl) rfl ?_
    refine RH.eqv (v' := .int .u64 (min x.k (vat b x.c) : Nat)) (minK _ _) ?_
    refine RH.pure T_ok hQ [19] (by kernel_rfl) rfl ?_
    refine RH.eqv (v' := cV (f x)) (by rw [hfx]; rfl) ?_
    refine RH.only 20 rfl (by kernel_rfl) (fun _ => ?_)
    refine RL.buildSlice T_ok [.tmp 34] (us := [cV (f x)]) (cC (f x)) rfl rfl rfl rfl rfl rfl (by simp [cV, cC, Value.cells]) (by simp [cV, Value.cells]) rfl (fun b9 m9 hb9 hC9 => ⟨_, rfl, ?_⟩)
    have hE9 : Ext mM [] m9 := hC9.new (by omega)
    have hN9 : New m1 S m9 := ⟨hN.1.trans hE9 (by simp), hN.2⟩
    refine RL.nil (RH.cont hN9.1 ?_)
    refine RH.only 21 rfl (by kernel_rfl) (fun _ => ?_)
    refine RL.append T_ok (hO.ext hE9 (by simp)) (cC (f x)) (Src.of_blk (k := 1) (c := 1) hC9.blk rfl) rfl rfl rfl rfl rfl rfl (cC_one _) (by unfold maxLen; omega) (by show (_ + 1) * 16 ≤ _; omega) ?_
    intro v10 m10 S10 hO10 hE10 hF10
    have hN10 : New m1 S10 m10 := ⟨hN9.1.trans hE10 (fun k hk => .inr (hN9.ge k hk)), hN9.2.trans hF10 hN9.1.size⟩
    refine ⟨_, rfl, RL.nil (RH.cont hN10.1 ?_)⟩
    refine RH.pure T_ok hQ [22] (by kernel_rfl) rfl ?_
    refine RH.done (by kernel_rfl) (fun _ => ?_)
    repeat (first | with_reducible refine QN.block_normal ?_ | with_reducible refine QN.next ?_)
    repeat (first | with_reducible refine WP.seq ?_ | with_reducible refine WP.block ?_ | with_reducible refine WP.region ?_)
    refine RL.pure T_ok 2 rfl ?_
    refine RL.eqv (v' := .int .i64 ((i + 1 : Nat) : Int)) (congrArg _ (by rw [wrap_i64_in _ (by omega) (by omega)]; rfl)) ?_
    refine RL.auto T_ok rfl ?_
    refine RL.nil (QN.round (i + 1, v10, S10) (Sub.cons rfl (Sub.cons rfl (Sub.cons rfl (Sub.cons rfl Sub.nil)))) ⟨by show i + 1 ≤ _; omega, ?_, hN10⟩ (by show _ - (i + 1) < _ - i; omega))
    show Ev.Own m10 S10 60 2 v10 ((L.take (i + 1)).map f).length (((L.take (i + 1)).map f).flatMap cC)
    rw [htake, List.length_append, ← csC_app]
    simpa using hO10
  · replace hc : i = L.length := by have := of_decide_eq_false hc; simp only at this; omega
    subst hc
    rw [List.take_length] at hO
    have hlo : (L.map f).length = L.length := List.length_map _
    have hRo : Cs m2 [] w (L.map f) := hO.sl (by simp)
    have hE12 : Ext m [] m2 := hE1.trans hN.1 (by simp)
    refine WP.exit ?_; repeat (first | with_reducible refine QN.then_exit ?_ | with_reducible refine QN.block_exit ?_ | with_reducible refine QN.block_far rfl ?_ | with_reducible refine QN.block_normal ?_ | with_reducible refine QN.next ?_); repeat (first | with_reducible refine WP.seq ?_ | with_reducible refine WP.block ?_ | with_reducible refine WP.region ?_)
    refine RL.auto T_ok rfl ?_
    refine RL.call (fi := []) (ca := []) rfl rfl rfl rfl (refvclean_c m2 w _ hRo (by omega)) ?_
    rintro v9 m9 ⟨S9, hO9, hN9⟩
    refine ⟨_, rfl, ?_⟩
    refine RL.auto T_ok rfl ?_
    refine RL.nil ?_; repeat (first | with_reducible refine QN.block_normal ?_ | with_reducible refine QN.next ?_); repeat (first | with_reducible refine WP.seq ?_ | with_reducible refine WP.block ?_ | with_reducible refine WP.region ?_)
    refine WP.ret ?_; repeat (first | with_reducible refine QN.then_ret ?_ | with_reducible refine QN.block_ret ?_)
    exact QN.ret1 rfl rfl ⟨_, rfl, S9, hO9, hE12.trans hN9.1 (by simp), hN9.2.trans' hE12⟩
theorem refvjoin_c (m : World) (v u : Value) (a b : List Clk) (h : Cs m [] v a) (h' : Cs m [] u b) (hl : a.length + b.length < 100000000) : FnR Try.prog 23 [v, u] m fun r m' => VMade m r (vjoin a b) m' := by
  obtain ⟨A, c, rfl, _, _⟩ := h.shape
  obtain ⟨B, c', rfl, _, _⟩ := h'.shape
  refine FnE.enter ⟨_, Try.func23, by kernel_rfl, by kernel_rfl⟩ Try.func23 rfl rfl ?_
  repeat (first | with_reducible refine WP.seq ?_ | with_reducible refine WP.block ?_ | with_reducible refine WP.region ?_)
  refine RL.auto T_ok rfl ?_
  refine RL.nil ?_; repeat (first | with_reducible refine QN.block_normal ?_ | with_reducible refine QN.next ?_); repeat (first | with_reducible refine WP.seq ?_ | with_reducible refine WP.block ?_ | with_reducible refine WP.region ?_)
  refine RL.auto T_ok rfl ?_
  have hSa : Sl m [] 2 (.slice A a.length c) (a.flatMap cC) := h
  refine RL.append T_ok (Own.empty _ _ _ _) (a.flatMap cC) (Src.of_sl hSa) rfl rfl rfl rfl rfl (csC_len a) (csC_one a) (by unfold maxLen; omega) (by show (0 + _) * 16 ≤ _; omega) ?_
  intro v1 m1 S1 hO1 hE1 hF1
  refine ⟨_, rfl, ?_⟩
  have hSb : Sl m1 [] 2 (.slice B b.length c') (b.flatMap cC) := h'.ext0 hE1
  have hN1 : New m S1 m1 := ⟨hE1, hF1⟩
  refine RL.auto T_ok rfl ?_
  refine RL.append T_ok hO1 (b.flatMap cC) (Src.of_sl hSb) rfl rfl rfl rfl rfl (csC_len b) (csC_one b) (by unfold maxLen; omega) (by show (0 + _ + _) * 16 ≤ _; omega) ?_
  intro v2 m2 S2 hO2 hE2 hF2
  refine ⟨_, rfl, ?_⟩
  have hE12 : Ext m [] m2 := hE1.trans hE2 (fun k hk => .inr (hN1.ge k hk))
  have hR2 : Cs m2 [] v2 (a ++ b) := by
    have h9 := hO2.sl (M := []) (by simp)
    rw [List.nil_append, csC_app] at h9
    exact h9
  refine RL.call (fi := []) (ca := []) rfl rfl rfl rfl (refvclean_c m2 _ _ hR2 (by rw [List.length_append]; omega)) ?_
  rintro v3 m3 hM3
  refine ⟨_, rfl, ?_⟩
  refine RL.auto T_ok rfl ?_
  refine RL.nil ?_; repeat (first | with_reducible refine QN.block_normal ?_ | with_reducible refine QN.next ?_); repeat (first | with_reducible refine WP.seq ?_ | with_reducible refine WP.block ?_ | with_reducible refine WP.region ?_)
  refine WP.ret ?_; repeat (first | with_reducible refine QN.then_ret ?_ | with_reducible refine QN.block_ret ?_)
  exact QN.ret1 rfl rfl ⟨_, rfl, hM3.from_ hE12⟩
theorem refvmissing_c (m : World) (v u : Value) (a b : List Clk) (h : Cs m [] v a) (h' : Cs m [] u b) (hla : a.length < 100000000) (hlb : b.length < 100000000) (hl : b.length * (a.length + 1) < 100000000) : FnR Try.prog 25 [v, u] m fun r m' => Made m r (vmissing a b) m' := by
  refine FnE.enter ⟨_, Try.func25, by kernel_rfl, by kernel_rfl⟩ Try.func25 rfl rfl ?_
  repeat (first | with_reducible refine WP.seq ?_ | with_reducible refine WP.block ?_ | with_reducible refine WP.region ?_)
  refine RL.auto T_ok rfl ?_
  refine RL.nil ?_; repeat (first | with_reducible refine QN.block_normal ?_ | with_reducible refine QN.next ?_); repeat (first | with_reducible refine WP.seq ?_ | with_reducible refine WP.block ?_ | with_reducible refine WP.region ?_)
  refine RL.auto T_ok rfl ?_
  refine RL.call (fi := []) (ca := []) rfl rfl rfl rfl (refvranges_c m u b h' hlb) ?_
  rintro v1 m1 hM1
  refine ⟨_, rfl, ?_⟩
  refine RL.auto T_ok rfl ?_
  refine RL.call (fi := []) (ca := []) rfl rfl rfl rfl (refvranges_c m1 v a (h.ext0 hM1.ext) hla) ?_
  rintro v2 m2 hM2
  refine ⟨_, rfl, ?_⟩
  have l1 := vranges_len a
  have l2 := vranges_len b
  have hE2 := hM1.ext.trans hM2.ext (by simp)
  refine RL.call (fi := []) (ca := []) rfl rfl rfl rfl (refminus_c m2 _ _ _ _ (hM1.rs.ext0 hM2.ext) hM2.rs (by omega) (by omega) (Nat.lt_of_le_of_lt (Nat.mul_le_mul l2 (Nat.succ_le_succ l1)) hl)) ?_
  rintro v3 m3 hM3
  refine ⟨_, rfl, ?_⟩
  refine RL.auto T_ok rfl ?_
  refine RL.nil ?_; repeat (first | with_reducible refine QN.block_normal ?_ | with_reducible refine QN.next ?_); repeat (first | with_reducible refine WP.seq ?_ | with_reducible refine WP.block ?_ | with_reducible refine WP.region ?_)
  refine WP.ret ?_; repeat (first | with_reducible refine QN.then_ret ?_ | with_reducible refine QN.block_ret ?_)
  exact QN.ret1 rfl rfl ⟨_, rfl, hM3.from_ hE2⟩
theorem any_take {p : Clk → Bool} {L : List Clk} {i : Nat} (h : i < L.length) : (L.take (i + 1)).any p = ((L.take i).any p || p L[i]) := by
  rw [List.take_succ_eq_append_getElem h, List.any_append]; simp
theorem refvwithin_c (m : World) (v u : Value) (a b : List Clk) (h : Cs m [] v a) (h' : Cs m [] u b) (hla : a.length < 100000000) (hlb : b.length < 100000000) : FnR Try.prog 27 [v, u] m fun r m' => r = .bool (vwithin a b) ∧ Ext m [] m' := by
  obtain ⟨B, cB, rfl, _, _⟩ := h'.shape
  refine FnE.enter ⟨_, Try.func27, by kernel_rfl, by kernel_rfl⟩ Try.func27 rfl rfl ?_
  repeat (first | with_reducible refine WP.seq ?_ | with_reducible refine WP.block ?_ | with_reducible refine WP.region ?_)
  refine RL.auto T_ok rfl ?_
  refine RL.nil ?_; repeat (first | with_reducible refine QN.block_normal ?_ | with_reducible refine QN.next ?_); repeat (first | with_reducible refine WP.seq ?_ | with_reducible refine WP.block ?_ | with_reducible refine WP.region ?_)
  refine RL.auto T_ok rfl ?_
  refine RL.call (fi := []) (ca := []) rfl rfl rfl rfl (refvclean_c m v a h hla) ?_
  rintro v1 m1 hM
  refine ⟨_, rfl, ?_⟩
  have hE1 := hM.ext
  have hR := hM.cs
  have hln := vclean_len a
  have hdef : vwithin a b = !(vclean a).any fun x => decide (vat b x.c < x.k) := rfl
  rw [hdef]
  generalize vclean a = L at hM hR hln
  obtain ⟨A, c, rfl, _, _⟩ := hR.shape
  replace h' := h'.ext0 hE1
  clear hM
  refine RL.auto T_ok rfl ?_
  refine RL.nil ?_; repeat (first | with_reducible refine QN.block_normal ?_ | with_reducible refine QN.next ?_); repeat (first | with_reducible refine WP.seq ?_ | with_reducible refine WP.block ?_ | with_reducible refine WP.region ?_)
  refine RL.auto T_ok rfl ?_
  refine RL.nil ?_; repeat (first | with_reducible refine QN.block_normal ?_ | with_reducible refine QN.next ?_); repeat (first | with_reducible refine WP.seq ?_ | with_reducible refine WP.block ?_ | with_reducible refine WP.region ?_)
  refine (WP.loop (X := Nat) (fun i => [(1, .slice B b.length cB), (0, .slice A L.length c), (5, .int .i64 i)])
    (fun i m' => i ≤ L.length ∧ m' = m1 ∧ ((L.take i).any fun x => decide (vat b x.c < x.k)) = false) (fun i => L.length - i) 0
    (Sub.cons rfl (Sub.cons rfl (Sub.cons rfl Sub.nil))) ⟨by simp, rfl, by simp⟩ ?_)
  rintro i m2 ⟨hi, hm2, hany⟩
  subst hm2
  repeat (first | with_reducible refine WP.seq ?_ | with_reducible refine WP.block ?_ | with_reducible refine WP.region ?_)
  refine RL.auto T_ok rfl ?_
  refine RL.nil ?_; repeat (first | with_reducible refine QN.block_normal ?_ | with_reducible refine QN.next ?_); repeat (first | with_reducible refine WP.seq ?_ | with_reducible refine WP.block ?_ | with_reducible refine WP.region ?_)
  refine WP.cond rfl (fun hc => ?_) (fun hc => ?_)
  · replace hc : i < L.length := by have := of_decide_eq_true hc; omega
    obtain ⟨ad, rfl, hx⟩ := hR.cell i hc
    have hnx := any_take (p := fun x => decide (vat b x.c < x.k)) hc
    rw [hany, Bool.false_or] at hnx
    have hmem : L[i] ∈ L := List.getElem_mem _
    generalize L[i] = x at hx hnx hmem
    refine WP.skip ?_; repeat (first | with_reducible refine QN.block_normal ?_ | with_reducible refine QN.next ?_)
    refine WP.seq ?_
    refine WP.block ?_
    refine WP.seq ?_
    refine WP.drawQ (fun m' => m' = m2) [] (by kernel_rfl) rfl (by repeat (first | with_reducible exact PanicOk.body | with_reducible refine PanicOk.then_ ?_ | with_reducible refine PanicOk.block_ ?_)) (fun hQ => ?_)
    refine RH.pure T_ok hQ [0, 1, 2] (by kernel_rfl) rfl ?_
    refine RH.indexAddr T_ok hQ 3 (k := i) rfl (by kernel_rfl) rfl rfl rfl rfl rfl rfl rfl hc rfl ?_
    refine RH.pure T_ok hQ [4] (by kernel_rfl) rfl ?_
    refine RH.load T_ok hQ 5 (fun m' hm' => by rw [hm']; exact hx 0 _ rfl) rfl (by kernel_rfl) rfl rfl rfl rfl ?_
    refine RH.pure T_ok hQ [7, 8] (by kernel_rfl) rfl ?_
    refine RH.indexAddr T_ok hQ 9 (k := i) rfl (by kernel_rfl) rfl rfl rfl rfl rfl rfl rfl hc rfl ?_
    refine RH.pure T_ok hQ [10] (by kernel_rfl) rfl ?_
    refine RH.load T_ok hQ 11 (fun m' hm' => by rw [hm']; exact hx 1 _ rfl) rfl (by kernel_rfl) rfl rfl rfl rfl ?_
    refine RH.only 6 rfl (by kernel_rfl) (fun _ => ?_)
    refine RL.call (fi := []) (ca := []) rfl rfl rfl rfl (refvat_c m2 _ b h' (by omega) x.c) ?_
    rintro _ mM ⟨rfl, hmM⟩
    subst hmM
    refine ⟨_, rfl, RL.nil (RH.cont rfl ?_)⟩
    refine RH.pure T_ok hQ [12] (by kernel_rfl) rfl ?_
    refine RH.eqv (v' := .bool (decide (vat b x.c < x.k))) (congrArg _ (dlt _ _)) ?_
    refine RH.done (by kernel_rfl) (fun _ => ?_)
    repeat (first | with_reducible refine QN.block_normal ?_ | with_reducible refine QN.next ?_)
    refine WP.cond rfl (fun hp => ?_) (fun hp => ?_)
    · repeat (first | with_reducible refine WP.seq ?_ | with_reducible refine WP.block ?_ | with_reducible refine WP.region ?_)
      refine RL.auto T_ok rfl ?_
      refine RL.nil ?_; repeat (first | with_reducible refine QN.block_normal ?_ | with_reducible refine QN.next ?_); repeat (first | with_reducible refine WP.seq ?_ | with_reducible refine WP.block ?_ | with_reducible refine WP.region ?_)
      refine WP.ret ?_; repeat (first | with_reducible refine QN.then_ret ?_ | with_reducible refine QN.block_ret ?_)
      refine QN.ret1 rfl rfl ⟨_, rfl, congrArg _ ?_, hE1⟩
      rw [eq_comm, Bool.not_eq_false']
      exact List.any_eq_true.2 ⟨x, hmem, hp⟩
    · refine WP.skip ?_; repeat (first | with_reducible refine QN.block_normal ?_ | with_reducible refine QN.next ?_); repeat (first | with_reducible refine WP.seq ?_ | with_reducible refine WP.block ?_ | with_reducible refine WP.region ?_)
      refine RL.pure T_ok 2 rfl ?_
      refine RL.eqv (v' := .int .i64 ((i + 1 : Nat) : Int)) (congrArg _ (by rw [wrap_i64_in _ (by omega) (by omega)]; rfl)) ?_
      refine RL.auto T_ok rfl ?_
      exact RL.nil (QN.round (i + 1) (Sub.cons rfl (Sub.cons rfl (Sub.cons rfl Sub.nil))) ⟨by omega, rfl, by rw [hnx]; exact hp⟩ (by omega))
  · replace hc : i = L.length := by have := of_decide_eq_false hc; omega
    subst hc
    rw [List.take_length] at hany
    refine WP.exit ?_; repeat (first | with_reducible refine QN.then_exit ?_ | with_reducible refine QN.block_exit ?_ | with_reducible refine QN.block_far rfl ?_ | with_reducible refine QN.block_normal ?_ | with_reducible refine QN.next ?_); repeat (first | with_reducible refine WP.seq ?_ | with_reducible refine WP.block ?_ | with_reducible refine WP.region ?_)
    refine RL.auto T_ok rfl ?_
    refine RL.nil ?_; repeat (first | with_reducible refine QN.block_normal ?_ | with_reducible refine QN.next ?_); repeat (first | with_reducible refine WP.seq ?_ | with_reducible refine WP.block ?_ | with_reducible refine WP.region ?_)
    refine WP.ret ?_; repeat (first | with_reducible refine QN.then_ret ?_ | with_reducible refine QN.block_ret ?_)
    exact QN.ret1 rfl rfl ⟨_, rfl, by rw [hany]; rfl, hE1⟩
theorem rs_of_chg' {m m' : World} {b : Nat} (l : List Rng) (hC : Chg m b (.cells (l.flatMap rC).toArray 62 (0, 0)) m') (hn : l.length ≤ maxLen) : Rs m' [] (.slice (some ⟨b, 0, none⟩) l.length l.length) l := by
  have h := Sl.of_blk (M := []) (n := l.length) (c := l.length) (sz := 3) hC.blk (by simp) (by rw [rsC_len]; exact Nat.le_refl _) (Nat.le_refl _) hn
  rw [← rsC_len, List.take_length] at h
  exact h
theorem vknown_c (m : World) : FnR Try.prog 8 [] m fun r m' => r = .bool true ∧ Ext m [] m' := by
  refine FnE.enter ⟨_, Try.func8, by kernel_rfl, by kernel_rfl⟩ Try.func8 rfl rfl ?_
  repeat (first | with_reducible refine WP.seq ?_ | with_reducible refine WP.block ?_ | with_reducible refine WP.region ?_)
  refine RL.auto T_ok rfl ?_
  refine RL.nil ?_; repeat (first | with_reducible refine QN.block_normal ?_ | with_reducible refine QN.next ?_); repeat (first | with_reducible refine WP.seq ?_ | with_reducible refine WP.block ?_ | with_reducible refine WP.region ?_)
  refine RL.pure T_ok 1 rfl ?_
  refine RL.buildSlice T_ok [.tmp 4] (us := [cV ⟨1, 3⟩]) (([⟨1, 3⟩] : List Clk).flatMap cC) rfl rfl rfl rfl rfl rfl (by simp [cV, cC, Value.cells]) rfl rfl (fun b1 m1 hb1 hC1 => ⟨_, rfl, ?_⟩)
  have hE1 : Ext m [] m1 := hC1.new (by omega)
  have ha := cs_of_chg ([⟨1, 3⟩] : List Clk) hC1 (by unfold maxLen; simp)
  clear hC1
  refine RL.pure T_ok 2 rfl ?_
  refine RL.buildSlice T_ok [.tmp 6, .tmp 7] (us := [cV ⟨2, 1⟩, cV ⟨1, 5⟩]) (([⟨2, 1⟩, ⟨1, 5⟩] : List Clk).flatMap cC) rfl rfl rfl rfl rfl rfl (by simp [cV, cC, Value.cells]) rfl rfl (fun b2 m2 hb2 hC2 => ⟨_, rfl, ?_⟩)
  have hE2' : Ext m1 [] m2 := hC2.new (by omega)
  have hb := cs_of_chg ([⟨2, 1⟩, ⟨1, 5⟩] : List Clk) hC2 (by unfold maxLen; simp)
  clear hC2
  replace ha := ha.ext0 hE2'
  have hE2 := hE1.trans hE2' (by simp)
  clear hE2' hE1
  refine RL.auto T_ok rfl ?_
  refine RL.nil ?_; repeat (first | with_reducible refine QN.block_normal ?_ | with_reducible refine QN.next ?_); repeat (first | with_reducible refine WP.seq ?_ | with_reducible refine WP.block ?_ | with_reducible refine WP.region ?_)
  refine RL.auto T_ok rfl ?_
  refine RL.call (fi := []) (ca := []) rfl rfl rfl rfl (vmissing_c m2 _ _ _ _ ha hb (by simp) (by simp) (by simp)) ?_
  rintro v3 m3 hM3
  refine ⟨_, rfl, ?_⟩
  rw [show vmissing [⟨1, 3⟩] [⟨2, 1⟩, ⟨1, 5⟩] = [⟨1, 4, 6⟩, ⟨2, 1, 2⟩] from by decide] at hM3
  have hE3 := hE2.trans hM3.ext (by simp)
  replace ha := ha.ext0 hM3.ext
  replace hb := hb.ext0 hM3.ext
  have hR3 := hM3.rs
  clear hM3
  refine RL.auto T_ok rfl ?_
  refine RL.nil ?_; repeat (first | with_reducible refine QN.block_normal ?_ | with_reducible refine QN.next ?_); repeat (first | with_reducible refine WP.seq ?_ | with_reducible refine WP.block ?_ | with_reducible refine WP.region ?_)
  refine RL.auto T_ok rfl ?_
  refine RL.buildSlice T_ok [.tmp 13, .tmp 14] (us := [rV ⟨1, 4, 6⟩, rV ⟨2, 1, 2⟩]) (([⟨1, 4, 6⟩, ⟨2, 1, 2⟩] : List Rng).flatMap rC) rfl rfl rfl rfl rfl rfl (by simp [rV, rC, Value.cells]) rfl rfl (fun b4 m4 hb4 hC4 => ⟨_, rfl, ?_⟩)
  have hE4' : Ext m3 [] m4 := hC4.new (by omega)
  have hR4 := rs_of_chg' ([⟨1, 4, 6⟩, ⟨2, 1, 2⟩] : List Rng) hC4 (by unfold maxLen; simp)
  clear hC4
  replace ha := ha.ext0 hE4'
  replace hb := hb.ext0 hE4'
  replace hR3 := hR3.ext0 hE4'
  have hE4 := hE3.trans hE4' (by simp)
  refine RL.call (fi := []) (ca := []) rfl rfl rfl rfl (ranges_c m4 _ _ _ _ hR3 hR4 (by simp)) ?_
  rintro _ m5 ⟨rfl, h5⟩
  subst h5
  refine ⟨_, rfl, ?_⟩
  refine RL.eqv (v' := .bool true) (congrArg _ (by decide)) ?_
  refine RL.auto T_ok rfl ?_
  refine RL.call (fi := []) (ca := []) rfl rfl rfl rfl (vat_c m5 _ _ hb (by simp) 1) ?_
  rintro _ m6 ⟨rfl, hE6⟩
  refine ⟨_, rfl, ?_⟩
  refine RL.eqv (v' := .int .u64 5) (congrArg _ (by decide)) ?_
  replace ha := ha.ext0 hE6
  replace hb := hb.ext0 hE6
  replace hE6 := hE4.trans hE6 (by simp)
  refine RL.auto T_ok rfl ?_
  refine RL.call (fi := []) (ca := []) rfl rfl rfl rfl (vwithin_c m6 _ _ _ _ ha hb (by simp) (by simp)) ?_
  rintro _ m7 ⟨rfl, hE7⟩
  refine ⟨_, rfl, ?_⟩
  refine RL.eqv (v' := .bool true) (congrArg _ (by decide)) ?_
  replace ha := ha.ext0 hE7
  replace hb := hb.ext0 hE7
  replace hE7 := hE6.trans hE7 (by simp)
  refine RL.auto T_ok rfl ?_
  refine RL.call (fi := []) (ca := []) rfl rfl rfl rfl (vwithin_c m7 _ _ _ _ hb ha (by simp) (by simp)) ?_
  rintro _ m8 ⟨rfl, hE8⟩
  refine ⟨_, rfl, ?_⟩
  refine RL.eqv (v' := .bool false) (congrArg _ (by decide)) ?_
  replace ha := ha.ext0 hE8
  replace hb := hb.ext0 hE8
  replace hE8 := hE7.trans hE8 (by simp)
  refine RL.auto T_ok rfl ?_
  refine RL.call (fi := []) (ca := []) rfl rfl rfl rfl (vhas_c m8 _ _ hb (by simp) ⟨2, 1⟩) ?_
  rintro _ m9 ⟨rfl, hE9⟩
  refine ⟨_, rfl, ?_⟩
  refine RL.eqv (v' := .bool true) (congrArg _ (by decide)) ?_
  replace ha := ha.ext0 hE9
  replace hb := hb.ext0 hE9
  replace hE9 := hE8.trans hE9 (by simp)
  refine RL.auto T_ok rfl ?_
  refine RL.call (fi := []) (ca := []) rfl rfl rfl rfl (vhas_c m9 _ _ hb (by simp) ⟨2, 2⟩) ?_
  rintro _ m10 ⟨rfl, hE10⟩
  refine ⟨_, rfl, ?_⟩
  refine RL.eqv (v' := .bool false) (congrArg _ (by decide)) ?_
  replace ha := ha.ext0 hE10
  replace hb := hb.ext0 hE10
  replace hE10 := hE9.trans hE10 (by simp)
  refine RL.auto T_ok rfl ?_
  refine RL.call (fi := []) (ca := []) rfl rfl rfl rfl (vjoin_c m10 _ _ _ _ ha hb (by simp)) ?_
  rintro v11 m11 hM11
  refine ⟨_, rfl, ?_⟩
  rw [show vjoin [⟨1, 3⟩] [⟨2, 1⟩, ⟨1, 5⟩] = [⟨1, 5⟩, ⟨2, 1⟩] from by decide] at hM11
  obtain ⟨A11, c11, rfl, _, _⟩ := hM11.cs.shape
  replace ha := ha.ext0 hM11.ext
  replace hb := hb.ext0 hM11.ext
  have hE11 := hE10.trans hM11.ext (by simp)
  refine RL.auto T_ok rfl ?_
  refine RL.call (fi := []) (ca := []) rfl rfl rfl rfl (vmeet_c m11 _ _ _ _ ha hb (by simp) (by simp)) ?_
  rintro v12 m12 hM12
  refine ⟨_, rfl, ?_⟩
  rw [show vmeet [⟨1, 3⟩] [⟨2, 1⟩, ⟨1, 5⟩] = [⟨1, 3⟩] from by decide] at hM12
  obtain ⟨A12, c12, rfl, _, _⟩ := hM12.cs.shape
  refine RL.auto T_ok rfl ?_
  refine RL.nil ?_; repeat (first | with_reducible refine QN.block_normal ?_ | with_reducible refine QN.next ?_); repeat (first | with_reducible refine WP.seq ?_ | with_reducible refine WP.block ?_ | with_reducible refine WP.region ?_)
  refine WP.ret ?_; repeat (first | with_reducible refine QN.then_ret ?_ | with_reducible refine QN.block_ret ?_)
  exact QN.ret1 rfl rfl ⟨_, rfl, rfl, hE11.trans hM12.ext (by simp)⟩
end Go.Proofs.Ytmjpcaiehfimgaa
