/- The right ranges of a list, one by one. -/
import Derived.Test.YtmjpcaiehfimgaaIds3
namespace Go.Proofs.Ytmjpcaiehfimgaa
open Go.RowKit Go.Ev Go.Ids

/-- What the iterator asks of memory. -/
def RK (b1 b2 : Nat) (v : Value) (l : List Rng) (k : FuncId) (a : World) : Prop := Blk a b1 34 [v] ∧ Blk a b2 90 [.func (.func k) #[] #[]] ∧ Rs a [] v l
theorem rights1_c (m : World) (b1 b2 : Nat) (v : Value) (l : List Rng) (hl : l.length < 1000000000) (k : FuncId) (p : Rng → Bool) (hf : ∀ m1 x, FnR Try.prog k [rV x] m1 fun r m2 => r = .bool (p x) ∧ Ext m1 [] m2) :
    SeqE Try.prog 79 [.pointer (some ⟨b1, 0, none⟩), .pointer (some ⟨b2, 0, none⟩)] (fun x : Rng => [rV x]) false (RK b1 b2 v l k) (fun pre _ => pre.length < l.length) (fun xs => xs = l.filter p) (fun _ => True) m := by
  intro lp J Jx m1 _ hJ hJx hK hround h0
  have hk0 := hK _ _ h0
  obtain ⟨A, c, rfl, _, _⟩ := hk0.2.2.shape
  refine FnE.enter ⟨_, Try.func79, by kernel_rfl, by kernel_rfl⟩ Try.func79 rfl rfl ?_
  repeat (first | with_reducible refine WP.seq ?_ | with_reducible refine WP.block ?_ | with_reducible refine WP.region ?_)
  refine RL.load T_ok rfl rfl rfl (hk0.1.cell 0 rfl) rfl ?_
  refine RL.auto T_ok rfl ?_
  refine RL.nil ?_; repeat (first | with_reducible refine QN.block_normal ?_ | with_reducible refine QN.next ?_); repeat (first | with_reducible refine WP.seq ?_ | with_reducible refine WP.block ?_ | with_reducible refine WP.region ?_)
  refine WP.loop (X := Nat) (fun i => [(0, .func (.yield lp) #[] #[]), (1, .pointer (some ⟨b1, 0, none⟩)), (2, .pointer (some ⟨b2, 0, none⟩)), (6, .slice A l.length c), (7, .int .i64 l.length), (8, .int .i64 i)])
    (fun i m' => i ≤ l.length ∧ J ((l.take i).filter p) m') (fun i => l.length - i) 0 (Sub.cons rfl (Sub.cons rfl (Sub.cons rfl (Sub.cons rfl (Sub.cons rfl (Sub.cons rfl Sub.nil)))))) ⟨by simp, h0⟩ ?_
  rintro i m2 ⟨hi, hj⟩
  have hk := hK _ _ hj
  repeat (first | with_reducible refine WP.seq ?_ | with_reducible refine WP.block ?_ | with_reducible refine WP.region ?_)
  refine RL.auto T_ok rfl ?_
  refine RL.nil ?_; repeat (first | with_reducible refine QN.block_normal ?_ | with_reducible refine QN.next ?_); repeat (first | with_reducible refine WP.seq ?_ | with_reducible refine WP.block ?_ | with_reducible refine WP.region ?_)
  refine WP.cond rfl (fun hc => ?_) (fun hc => ?_)
  · have hc : i < l.length := by have := of_decide_eq_true hc; omega
    obtain ⟨ad, rfl, hx⟩ := hk.2.2.cell i hc
    have hstep : (l.take (i + 1)).filter p = (l.take i).filter p ++ (if p l[i] then [l[i]] else []) := by
      rw [List.take_succ_eq_append_getElem hc, List.filter_append]
      cases h : p l[i] <;> simp [h]
    refine WP.skip ?_; repeat (first | with_reducible refine QN.block_normal ?_ | with_reducible refine QN.next ?_); repeat (first | with_reducible refine WP.seq ?_ | with_reducible refine WP.block ?_ | with_reducible refine WP.region ?_)
    refine RL.indexAddr (k := i) T_ok rfl rfl rfl rfl rfl rfl rfl hc rfl ?_
    refine RL.loadAgg T_ok (rC l[i]) rfl rfl rfl hx rfl ?_
    refine RL.alloc T_ok rfl rfl (fun b5 m3 hb5 hC3 => ⟨_, rfl, ?_⟩)
    refine RL.storeAgg T_ok (b := b5) (i := 0) (vs := rC l[i]) (cs := [.int .u64 0, .int .u64 0, .int .u64 0]) hC3.blk rfl rfl rfl rfl rfl (by simp) (by simp [rC, Value.oneCell']) rfl ?_
    intro m4 hC4
    have hE4 : Ext m2 [] m4 := (hC3.new (by omega)).trans hC4.ext (fun q hq => .inr (by have h9 : q = b5 := (by simpa using hq); omega))
    have hB4 : Blk m4 b5 62 (rC l[i]) := hC4.blk
    have hj4 := hJ _ _ _ hj hE4
    have hk4 := hK _ _ hj4
    refine RL.nil ?_; repeat (first | with_reducible refine QN.block_normal ?_ | with_reducible refine QN.next ?_); repeat (first | with_reducible refine WP.seq ?_ | with_reducible refine WP.block ?_ | with_reducible refine WP.region ?_)
    refine RL.load T_ok rfl rfl rfl (hk4.2.1.cell 0 rfl) rfl ?_
    refine RL.loadAgg T_ok (rC l[i]) rfl rfl rfl (fun j u hu => by rw [add_block]; exact hB4.cell _ (by simpa using hu)) rfl ?_
    refine RL.call (fi := []) (ca := []) rfl rfl rfl rfl (hf m4 l[i]) ?_
    rintro _ m5 ⟨rfl, hE5⟩
    refine ⟨_, rfl, ?_⟩
    have hB5 := hB4.ext hE5 (by simp)
    have hj5 := hJ _ _ _ hj4 hE5
    refine RL.pure T_ok 1 rfl ?_
    by_cases hp : p l[i] = true
    · refine RL.eqv (v' := .bool true) (congrArg _ hp) ?_
      refine RL.auto T_ok rfl ?_
      refine RL.loadAgg T_ok (rC l[i]) rfl rfl rfl (fun j u hu => by rw [add_block]; exact hB5.cell _ (by simpa using hu)) rfl ?_
      refine RL.yield rfl rfl rfl (hround _ l[i] m5 hj5 (Nat.lt_of_le_of_lt (List.length_filter_le _ _) (by simp; omega))) ?_ (by rintro ch m6 (⟨h, _⟩ | ⟨h, _⟩) <;> cases h) (by rintro m6 (⟨h, _⟩ | ⟨h, _⟩) <;> cases h)
      rintro _ m6 (⟨h6, hj6, _⟩ | ⟨h6, hj6⟩)
      · injection h6 with h6
        subst h6
        refine ⟨_, rfl, ?_⟩
        refine RL.auto T_ok rfl ?_
        refine RL.nil ?_; repeat (first | with_reducible refine QN.block_normal ?_ | with_reducible refine QN.next ?_); repeat (first | with_reducible refine WP.seq ?_ | with_reducible refine WP.block ?_ | with_reducible refine WP.region ?_)
        refine WP.condF rfl ?_
        refine WP.skip ?_; repeat (first | with_reducible refine QN.block_normal ?_ | with_reducible refine QN.next ?_); repeat (first | with_reducible refine WP.seq ?_ | with_reducible refine WP.block ?_ | with_reducible refine WP.region ?_)
        refine RL.pure T_ok 1 rfl ?_
        refine RL.eqv (v' := .int .i64 ((i + 1 : Nat) : Int)) (congrArg _ (by rw [wrap_i64_in _ (by omega) (by omega)]; rfl)) ?_
        refine RL.auto T_ok rfl ?_
        refine RL.nil (QN.round (i + 1) (Sub.cons rfl (Sub.cons rfl (Sub.cons rfl (Sub.cons rfl (Sub.cons rfl (Sub.cons rfl Sub.nil)))))) ⟨by omega, ?_⟩ (by omega))
        rw [hstep, if_pos hp]; exact hj6
      · injection h6 with h6
        subst h6
        refine ⟨_, rfl, ?_⟩
        refine RL.auto T_ok rfl ?_
        refine RL.nil ?_; repeat (first | with_reducible refine QN.block_normal ?_ | with_reducible refine QN.next ?_); repeat (first | with_reducible refine WP.seq ?_ | with_reducible refine WP.block ?_ | with_reducible refine WP.region ?_)
        refine WP.condT rfl ?_
        refine WP.ret ?_; repeat (first | with_reducible refine QN.then_ret ?_ | with_reducible refine QN.block_ret ?_)
        exact QN.ret0 rfl ⟨_, rfl, .inr ⟨_, trivial, hj6⟩⟩
    · refine RL.eqv (v' := .bool false) (congrArg _ (Bool.not_eq_true _ ▸ hp)) ?_
      refine RL.auto T_ok rfl ?_
      refine RL.nil ?_; repeat (first | with_reducible refine QN.block_normal ?_ | with_reducible refine QN.next ?_); repeat (first | with_reducible refine WP.seq ?_ | with_reducible refine WP.block ?_ | with_reducible refine WP.region ?_)
      refine WP.condF rfl ?_
      refine WP.skip ?_; repeat (first | with_reducible refine QN.block_normal ?_ | with_reducible refine QN.next ?_); repeat (first | with_reducible refine WP.seq ?_ | with_reducible refine WP.block ?_ | with_reducible refine WP.region ?_)
      refine RL.pure T_ok 1 rfl ?_
      refine RL.eqv (v' := .int .i64 ((i + 1 : Nat) : Int)) (congrArg _ (by rw [wrap_i64_in _ (by omega) (by omega)]; rfl)) ?_
      refine RL.auto T_ok rfl ?_
      refine RL.nil (QN.round (i + 1) (Sub.cons rfl (Sub.cons rfl (Sub.cons rfl (Sub.cons rfl (Sub.cons rfl (Sub.cons rfl Sub.nil)))))) ⟨by omega, ?_⟩ (by omega))
      rw [hstep, if_neg hp, List.append_nil]; exact hj5
  · have hc : i = l.length := by have := of_decide_eq_false hc; omega
    subst hc
    rw [List.take_length] at hj
    refine WP.exit ?_; repeat (first | with_reducible refine QN.then_exit ?_ | with_reducible refine QN.block_exit ?_ | with_reducible refine QN.block_far rfl ?_ | with_reducible refine QN.block_normal ?_ | with_reducible refine QN.next ?_); repeat (first | with_reducible refine WP.seq ?_ | with_reducible refine WP.block ?_ | with_reducible refine WP.region ?_)
    exact QN.end0 rfl ⟨_, rfl, .inl ⟨_, rfl, hj⟩⟩
theorem rights_c (m : World) (v : Value) (l : List Rng) (k : FuncId) : FnR Try.prog 67 [v, .func (.func k) #[] #[]] m fun r m' => ∃ b1 b2, r = .func (.func 79) #[] #[.pointer (some ⟨b1, 0, none⟩), .pointer (some ⟨b2, 0, none⟩)] ∧ m.heap.size ≤ b1 ∧ m.heap.size ≤ b2 ∧ Ext m [] m' ∧ (Rs m [] v l → RK b1 b2 v l k m') := by
  refine FnE.enter ⟨_, Try.func67, by kernel_rfl, by kernel_rfl⟩ Try.func67 rfl rfl ?_
  repeat (first | with_reducible refine WP.seq ?_ | with_reducible refine WP.block ?_ | with_reducible refine WP.region ?_)
  refine RL.box rfl rfl (fun b1 m1 hb1 hC1 => ⟨_, rfl, ?_⟩)
  refine RL.box rfl rfl (fun b2 m2 hb2 hC2 => ⟨_, rfl, ?_⟩)
  have hE1 : Ext m [] m1 := hC1.new (by omega)
  have hE2 : Ext m1 [] m2 := hC2.new (by omega)
  have s1 := hC1.size
  refine RL.auto T_ok rfl ?_
  refine RL.nil ?_; repeat (first | with_reducible refine QN.block_normal ?_ | with_reducible refine QN.next ?_); repeat (first | with_reducible refine WP.seq ?_ | with_reducible refine WP.block ?_ | with_reducible refine WP.region ?_)
  refine RL.auto T_ok rfl ?_
  refine RL.nil ?_; repeat (first | with_reducible refine QN.block_normal ?_ | with_reducible refine QN.next ?_); repeat (first | with_reducible refine WP.seq ?_ | with_reducible refine WP.block ?_ | with_reducible refine WP.region ?_)
  refine WP.ret ?_; repeat (first | with_reducible refine QN.then_ret ?_ | with_reducible refine QN.block_ret ?_)
  refine QN.ret1 rfl rfl ⟨_, rfl, b1, b2, rfl, by omega, by omega, hE1.trans hE2 (by simp), fun h => ⟨?_, hC2.here, (h.ext0 hE1).ext0 hE2⟩⟩
  obtain ⟨A, c, rfl, _, _⟩ := h.shape
  exact Blk.ext (cs := [.slice A l.length c]) hC1.here hE2 (by simp)
end Go.Proofs.Ytmjpcaiehfimgaa
