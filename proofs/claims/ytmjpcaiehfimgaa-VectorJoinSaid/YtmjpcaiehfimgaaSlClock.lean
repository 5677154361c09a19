/- slices.Grow of nil, slices.Concat, at one element type. The lengths stay below 2^30. -/
import Derived.Test.YtmjpcaiehfimgaaTypes
import Derived.Test.YtmjpcaiehfimgaaMake
namespace Go.Proofs.Ytmjpcaiehfimgaa
open Go.RowKit Go.Ev

theorem grow_clock (m : World) (k : Nat) (hk : k < 1000000000) :
    FnR Try.prog 58 [.slice none 0 0, .int .i64 k] m fun r m' => ∃ S', Own m' S' 60 2 r 0 [] ∧ New m S' m' := by
  refine FnE.enter ⟨_, Try.func58, by kernel_rfl, by kernel_rfl⟩ Try.func58 rfl rfl ?_
  repeat (first | with_reducible refine WP.seq ?_ | with_reducible refine WP.block ?_ | with_reducible refine WP.region ?_)
  refine RL.auto T_ok rfl ?_
  refine RL.nil ?_; repeat (first | with_reducible refine QN.block_normal ?_ | with_reducible refine QN.next ?_); repeat (first | with_reducible refine WP.seq ?_ | with_reducible refine WP.block ?_ | with_reducible refine WP.region ?_)
  refine RL.auto T_ok rfl ?_
  refine RL.nil ?_; repeat (first | with_reducible refine QN.block_normal ?_ | with_reducible refine QN.next ?_); repeat (first | with_reducible refine WP.seq ?_ | with_reducible refine WP.block ?_ | with_reducible refine WP.region ?_)
  refine WP.cond rfl (fun hc => absurd (of_decide_eq_true hc) (by omega)) (fun _ => ?_)
  refine WP.skip ?_; repeat (first | with_reducible refine QN.block_normal ?_ | with_reducible refine QN.next ?_); repeat (first | with_reducible refine WP.seq ?_ | with_reducible refine WP.block ?_ | with_reducible refine WP.region ?_)
  refine RL.pure T_ok 7 rfl ?_
  refine RL.eqv (v' := .int .i64 k) (congrArg _ (by show IntKind.i64.wrap ((k : Int) - IntKind.i64.wrap 0) = k; rw [wrap_i64_in 0 (by omega) (by omega), wrap_i64_in _ (by omega) (by omega)]; omega)) ?_
  refine RL.sub (e' := [(14, .int .i64 k), (0, .slice none 0 0)]) (Sub.cons rfl (Sub.cons rfl Sub.nil)) ?_
  refine RL.auto T_ok rfl ?_
  refine RL.nil ?_; repeat (first | with_reducible refine QN.block_normal ?_ | with_reducible refine QN.next ?_); repeat (first | with_reducible refine WP.seq ?_ | with_reducible refine WP.block ?_ | with_reducible refine WP.region ?_)
  refine RL.auto T_ok rfl ?_
  refine RL.nil ?_; repeat (first | with_reducible refine QN.block_normal ?_ | with_reducible refine QN.next ?_); repeat (first | with_reducible refine WP.seq ?_ | with_reducible refine WP.block ?_ | with_reducible refine WP.region ?_)
  refine WP.cond rfl (fun hc => ?_) (fun hc => ?_)
  · have hc : 0 < k := by have := of_decide_eq_true hc; omega
    repeat (first | with_reducible refine WP.seq ?_ | with_reducible refine WP.block ?_ | with_reducible refine WP.region ?_)
    refine RL.auto T_ok rfl ?_
    refine RL.sliceTo (l := 0) T_ok rfl rfl rfl rfl rfl (Nat.le_refl _) rfl ?_
    refine RL.auto T_ok rfl ?_
    refine RL.appendMake T_ok rfl rfl rfl rfl rfl rfl hc (by unfold maxLen; omega) (by show k * 16 ≤ _; omega) ?_
    intro cap cur m1 hB h1 h2 h3 hE
    refine ⟨_, rfl, ?_⟩
    refine RL.auto T_ok rfl ?_
    refine RL.sliceTo (l := 0) T_ok rfl rfl rfl rfl rfl (Nat.zero_le _) rfl ?_
    refine RL.auto T_ok rfl ?_
    refine RL.nil ?_; repeat (first | with_reducible refine QN.block_normal ?_ | with_reducible refine QN.next ?_); repeat (first | with_reducible refine WP.seq ?_ | with_reducible refine WP.block ?_ | with_reducible refine WP.region ?_)
    refine RL.auto T_ok rfl ?_
    refine RL.nil ?_; repeat (first | with_reducible refine QN.block_normal ?_ | with_reducible refine QN.next ?_); repeat (first | with_reducible refine WP.seq ?_ | with_reducible refine WP.block ?_ | with_reducible refine WP.region ?_)
    refine WP.ret ?_; repeat (first | with_reducible refine QN.then_ret ?_ | with_reducible refine QN.block_ret ?_)
    exact QN.ret1 rfl rfl ⟨_, rfl, _, Own.cut0 hB h2 h3, hE, fun q hq => .inr (by have h9 : q = m.heap.size := (by simpa using hq); omega)⟩
  · refine WP.skip ?_; repeat (first | with_reducible refine QN.block_normal ?_ | with_reducible refine QN.next ?_); repeat (first | with_reducible refine WP.seq ?_ | with_reducible refine WP.block ?_ | with_reducible refine WP.region ?_)
    refine RL.auto T_ok rfl ?_
    refine RL.nil ?_; repeat (first | with_reducible refine QN.block_normal ?_ | with_reducible refine QN.next ?_); repeat (first | with_reducible refine WP.seq ?_ | with_reducible refine WP.block ?_ | with_reducible refine WP.region ?_)
    refine WP.ret ?_; repeat (first | with_reducible refine QN.then_ret ?_ | with_reducible refine QN.block_ret ?_)
    exact QN.ret1 rfl rfl ⟨_, rfl, [], Own.empty _ _ _ _, Ext.refl _ _, FpNew.nil _ _⟩

/-- What the slices of a list hold. -/
theorem concat_clock (m : World) (v : Value) (vs : List Value) (xss : List (List Value)) (ns : List Nat) (hv : Sl m [] 1 v vs) (hl1 : vs.length = xss.length) (hl2 : ns.length = xss.length)
    (hs : ∀ (i : Nat) (u : Value) (xs : List Value) (k : Nat), vs[i]? = some u → xss[i]? = some xs → ns[i]? = some k → Sl m [] 2 u xs ∧ xs.length = k * 2) (h1 : ∀ xs ∈ xss, ∀ u ∈ xs, u.oneCell' = true) (htot : ns.sum < 1000000000) (hlen : vs.length < 1000000000) :
    FnR Try.prog 41 [v] m fun r m' => ∃ S', Own m' S' 60 2 r ns.sum xss.flatten ∧ New m S' m' := by
  obtain ⟨A, c, rfl, hlc, _⟩ := hv.shape (n := vs.length) (by simp) (by omega)
  have hsum : ∀ j, (ns.take j).sum ≤ ns.sum := fun j => by
    have := congrArg List.sum (List.take_append_drop j ns)
    rw [List.sum_append] at this; omega
  have hstep : ∀ j (h : j < ns.length), (ns.take (j + 1)).sum = (ns.take j).sum + ns[j] := fun j h => by rw [List.take_succ_eq_append_getElem h, List.sum_append]; simp
  have hflat : ∀ j (h : j < xss.length), (xss.take (j + 1)).flatten = (xss.take j).flatten ++ xss[j] := fun j h => by rw [List.take_succ_eq_append_getElem h, List.flatten_append]; simp
  refine FnE.enter ⟨_, Try.func41, by kernel_rfl, by kernel_rfl⟩ Try.func41 rfl rfl ?_
  repeat (first | with_reducible refine WP.seq ?_ | with_reducible refine WP.block ?_ | with_reducible refine WP.region ?_)
  refine RL.auto T_ok rfl ?_
  refine RL.nil ?_; repeat (first | with_reducible refine QN.block_normal ?_ | with_reducible refine QN.next ?_); repeat (first | with_reducible refine WP.seq ?_ | with_reducible refine WP.block ?_ | with_reducible refine WP.region ?_)
  refine RL.auto T_ok rfl ?_
  refine RL.nil ?_; repeat (first | with_reducible refine QN.block_normal ?_ | with_reducible refine QN.next ?_); repeat (first | with_reducible refine WP.seq ?_ | with_reducible refine WP.block ?_ | with_reducible refine WP.region ?_)
  refine RL.auto T_ok rfl ?_
  refine RL.nil ?_; repeat (first | with_reducible refine QN.block_normal ?_ | with_reducible refine QN.next ?_); repeat (first | with_reducible refine WP.seq ?_ | with_reducible refine WP.block ?_ | with_reducible refine WP.region ?_)
  refine (WP.loop (X := Nat) (fun i => [(0, .slice A vs.length c), (9, .slice A vs.length c), (10, .int .i64 vs.length), (3, .int .i64 (ns.take i).sum), (11, .int .i64 i)]) (fun i m' => i ≤ vs.length ∧ m' = m) (fun i => vs.length - i) 0
    (Sub.cons rfl (Sub.cons rfl (Sub.cons rfl (Sub.cons rfl (Sub.cons rfl Sub.nil))))) ⟨by simp, rfl⟩ ?_)
  rintro i m1 ⟨hi, rfl⟩
  repeat (first | with_reducible refine WP.seq ?_ | with_reducible refine WP.block ?_ | with_reducible refine WP.region ?_)
  refine RL.auto T_ok rfl ?_
  refine RL.nil ?_; repeat (first | with_reducible refine QN.block_normal ?_ | with_reducible refine QN.next ?_); repeat (first | with_reducible refine WP.seq ?_ | with_reducible refine WP.block ?_ | with_reducible refine WP.region ?_)
  refine WP.cond rfl (fun hc => ?_) (fun hc => ?_)
  · have hc : i < vs.length := by have := of_decide_eq_true hc; omega
    obtain ⟨hS, hk⟩ := hs i vs[i] xss[i] ns[i] (List.getElem?_eq_getElem _) (List.getElem?_eq_getElem _) (List.getElem?_eq_getElem _)
    obtain ⟨A1, c1, he, _, _⟩ := hS.shape hk (by omega)
    have hle : ns[i] ≤ ns.sum := by have := hstep i (by omega); have := hsum (i + 1); omega
    have hle2 := hsum i
    refine WP.skip ?_; repeat (first | with_reducible refine QN.block_normal ?_ | with_reducible refine QN.next ?_); repeat (first | with_reducible refine WP.seq ?_ | with_reducible refine WP.block ?_ | with_reducible refine WP.region ?_)
    refine RL.index T_ok hv (k := i) rfl hc rfl rfl rfl rfl (fun ad _ _ hcell => ⟨_, rfl, ?_⟩)
    have hx := hcell 0 vs[i] (by simp)
    refine RL.load T_ok rfl rfl rfl (by rw [add_add] at hx; exact hx) rfl ?_
    refine RL.eqv he ?_
    refine RL.auto T_ok rfl ?_
    refine RL.nil ?_; repeat (first | with_reducible refine QN.block_normal ?_ | with_reducible refine QN.next ?_); repeat (first | with_reducible refine WP.seq ?_ | with_reducible refine WP.block ?_ | with_reducible refine WP.region ?_)
    refine RL.pure T_ok 3 rfl ?_
    refine RL.pure T_ok 1 rfl ?_
    refine RL.eqv (v' := .int .i64 (ns.take (i + 1)).sum) (congrArg _ (by show IntKind.i64.wrap (((ns.take i).sum : Int) + (ns[i] : Int)) = _; rw [wrap_i64_in _ (by omega) (by omega), hstep i (by omega)]; omega)) ?_
    have hle3 := hsum (i + 1)
    refine RL.auto T_ok rfl ?_
    refine RL.nil ?_; repeat (first | with_reducible refine QN.block_normal ?_ | with_reducible refine QN.next ?_); repeat (first | with_reducible refine WP.seq ?_ | with_reducible refine WP.block ?_ | with_reducible refine WP.region ?_)
    refine RL.auto T_ok rfl ?_
    refine RL.nil ?_; repeat (first | with_reducible refine QN.block_normal ?_ | with_reducible refine QN.next ?_); repeat (first | with_reducible refine WP.seq ?_ | with_reducible refine WP.block ?_ | with_reducible refine WP.region ?_)
    refine WP.condF (by exact congrArg (fun q => some (Value.bool q)) (decide_eq_false (by omega))) ?_
    refine WP.skip ?_; repeat (first | with_reducible refine QN.block_normal ?_ | with_reducible refine QN.next ?_); repeat (first | with_reducible refine WP.seq ?_ | with_reducible refine WP.block ?_ | with_reducible refine WP.region ?_)
    refine RL.auto T_ok rfl ?_
    refine RL.nil (QN.round (i + 1) (Sub.cons rfl (Sub.cons rfl (Sub.cons rfl (Sub.cons rfl (Sub.cons ?_ Sub.nil))))) ⟨by omega, rfl⟩ (by omega))
    show some (Value.int .i64 (IntKind.i64.wrap ((i : Int) + 1))) = some (Value.int .i64 ((i + 1 : Nat) : Int))
    rw [wrap_i64_in _ (by omega) (by omega)]; rfl
  · have hc : i = vs.length := by have := of_decide_eq_false hc; omega
    subst hc
    refine WP.exit ?_; repeat (first | with_reducible refine QN.then_exit ?_ | with_reducible refine QN.block_exit ?_ | with_reducible refine QN.block_far rfl ?_ | with_reducible refine QN.block_normal ?_ | with_reducible refine QN.next ?_); repeat (first | with_reducible refine WP.seq ?_ | with_reducible refine WP.block ?_ | with_reducible refine WP.region ?_)
    have e0 : ns.take vs.length = ns := by rw [hl1, ← hl2, List.take_length]
    rw [e0]
    refine RL.auto T_ok rfl ?_
    refine RL.call (fi := []) (ca := []) rfl rfl rfl rfl (grow_clock m1 ns.sum htot) ?_
    rintro r m2 ⟨S2, hO2, hN2⟩
    refine ⟨_, rfl, ?_⟩
    refine RL.auto T_ok rfl ?_
    refine RL.nil ?_; repeat (first | with_reducible refine QN.block_normal ?_ | with_reducible refine QN.next ?_); repeat (first | with_reducible refine WP.seq ?_ | with_reducible refine WP.block ?_ | with_reducible refine WP.region ?_)
    refine RL.auto T_ok rfl ?_
    refine RL.nil ?_; repeat (first | with_reducible refine QN.block_normal ?_ | with_reducible refine QN.next ?_); repeat (first | with_reducible refine WP.seq ?_ | with_reducible refine WP.block ?_ | with_reducible refine WP.region ?_)
    refine (WP.loop (X := Nat × Value × List Nat) (fun x => [(25, .slice A vs.length c), (26, .int .i64 vs.length), (6, x.2.1), (27, .int .i64 x.1)])
      (fun x m' => x.1 ≤ vs.length ∧ Own m' x.2.2 60 2 x.2.1 (ns.take x.1).sum (xss.take x.1).flatten ∧ New m1 x.2.2 m') (fun x => vs.length - x.1) (0, r, S2)
      (Sub.cons rfl (Sub.cons rfl (Sub.cons rfl (Sub.cons rfl Sub.nil)))) ⟨by simp, by simpa using hO2, hN2⟩ ?_)
    rintro ⟨i, u, S3⟩ m3 ⟨hi, hO3, hN3⟩
    simp only at hi hO3 hN3
    repeat (first | with_reducible refine WP.seq ?_ | with_reducible refine WP.block ?_ | with_reducible refine WP.region ?_)
    refine RL.auto T_ok rfl ?_
    refine RL.nil ?_; repeat (first | with_reducible refine QN.block_normal ?_ | with_reducible refine QN.next ?_); repeat (first | with_reducible refine WP.seq ?_ | with_reducible refine WP.block ?_ | with_reducible refine WP.region ?_)
    refine WP.cond rfl (fun hc => ?_) (fun hc => ?_)
    · have hc : i < vs.length := by have := of_decide_eq_true hc; omega
      obtain ⟨hS, hk⟩ := hs i vs[i] xss[i] ns[i] (List.getElem?_eq_getElem _) (List.getElem?_eq_getElem _) (List.getElem?_eq_getElem _)
      obtain ⟨A1, c1, he, _, _⟩ := hS.shape hk (by omega)
      have hle := hstep i (by omega)
      have hle2 := hsum (i + 1)
      have hv3 := hv.ext (M' := []) hN3.1 (by simp) (by omega)
      have hS3 := hS.ext (M' := []) hN3.1 (by simp) (by omega)
      refine WP.skip ?_; repeat (first | with_reducible refine QN.block_normal ?_ | with_reducible refine QN.next ?_); repeat (first | with_reducible refine WP.seq ?_ | with_reducible refine WP.block ?_ | with_reducible refine WP.region ?_)
      refine RL.index T_ok hv3 (k := i) rfl hc rfl rfl rfl rfl (fun ad _ _ hcell => ⟨_, rfl, ?_⟩)
      have hx := hcell 0 vs[i] (by simp)
      refine RL.load T_ok rfl rfl rfl (by rw [add_add] at hx; exact hx) rfl ?_
      rw [he] at hS3
      refine RL.eqv he ?_
      refine RL.auto T_ok rfl ?_
      refine RL.nil ?_; repeat (first | with_reducible refine QN.block_normal ?_ | with_reducible refine QN.next ?_); repeat (first | with_reducible refine WP.seq ?_ | with_reducible refine WP.block ?_ | with_reducible refine WP.region ?_)
      refine RL.auto T_ok rfl ?_
      refine RL.append T_ok hO3 _ (Src.of_sl hS3) rfl rfl rfl rfl rfl hk (h1 _ (List.getElem_mem _)) (by unfold maxLen; omega) (by show (_ + _) * 16 ≤ _; omega) ?_
      intro u4 m4 S4 hO4 hE4 hF4
      refine ⟨_, rfl, ?_⟩
      refine RL.auto T_ok rfl ?_
      refine RL.nil ?_; repeat (first | with_reducible refine QN.block_normal ?_ | with_reducible refine QN.next ?_); repeat (first | with_reducible refine WP.seq ?_ | with_reducible refine WP.block ?_ | with_reducible refine WP.region ?_)
      refine RL.auto T_ok rfl ?_
      rw [← hle, ← hflat i (by omega)] at hO4
      have hN4 : New m1 S4 m4 := ⟨hN3.1.trans hE4 (fun k hk => .inr (hN3.ge k hk)), hN3.2.trans hF4 hN3.1.size⟩
      refine RL.nil (QN.round (i + 1, u4, S4) (Sub.cons rfl (Sub.cons rfl (Sub.cons rfl (Sub.cons ?_ Sub.nil)))) ⟨by show i + 1 ≤ _; omega, hO4, hN4⟩ (by show _ - (i + 1) < _ - i; omega))
      show some (Value.int .i64 (IntKind.i64.wrap ((i : Int) + 1))) = some (Value.int .i64 ((i + 1 : Nat) : Int))
      rw [wrap_i64_in _ (by omega) (by omega)]; rfl
    · have hc : i = vs.length := by have := of_decide_eq_false hc; omega
      subst hc
      refine WP.exit ?_; repeat (first | with_reducible refine QN.then_exit ?_ | with_reducible refine QN.block_exit ?_ | with_reducible refine QN.block_far rfl ?_ | with_reducible refine QN.block_normal ?_ | with_reducible refine QN.next ?_); repeat (first | with_reducible refine WP.seq ?_ | with_reducible refine WP.block ?_ | with_reducible refine WP.region ?_)
      have e1 : ns.take vs.length = ns := by rw [hl1, ← hl2, List.take_length]
      have e2 : xss.take vs.length = xss := by rw [hl1, List.take_length]
      rw [e1, e2] at hO3
      refine RL.auto T_ok rfl ?_
      refine RL.nil ?_; repeat (first | with_reducible refine QN.block_normal ?_ | with_reducible refine QN.next ?_); repeat (first | with_reducible refine WP.seq ?_ | with_reducible refine WP.block ?_ | with_reducible refine WP.region ?_)
      refine WP.ret ?_; repeat (first | with_reducible refine QN.then_ret ?_ | with_reducible refine QN.block_ret ?_)
      exact QN.ret1 rfl rfl ⟨_, rfl, S3, hO3, hN3⟩
end Go.Proofs.Ytmjpcaiehfimgaa
