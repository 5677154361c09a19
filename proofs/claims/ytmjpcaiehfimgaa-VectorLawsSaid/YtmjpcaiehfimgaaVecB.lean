/- vector: At, Has, Within, Ranges, Meet, Join, Missing. -/
import Derived.Test.YtmjpcaiehfimgaaVecA
import Derived.Test.YtmjpcaiehfimgaaSlClock
import Derived.Test.YtmjpcaiehfimgaaIds9
namespace Go.Ev
open Go.RowKit
/-- The number of rounds, as a numeral. -/
theorem RH.fix {P : Program} {ops : Array Oper} {Q : Exit → Act → World → Prop} {J : World → Prop} {fin : List Nat} {fuel : Nat} {listed : Array Bool} {n : Nat} {e : Env} {ds : List Deferred} {m : World} (f : Nat) (h : fuel = f) (hk : RH P ops Q J fin f listed n e ds m) : RH P ops Q J fin fuel listed n e ds m := h ▸ hk
end Go.Ev
namespace Go.Proofs.Ytmjpcaiehfimgaa
open Go.RowKit Go.Ev Go.Ids

theorem vat_c (m : World) (v : Value) (l : List Clk) (h : Cs m [] v l) (hl : l.length < 100000000) (cl : Nat) : FnR Try.prog 13 [v, .int .u64 cl] m fun r m' => r = .int .u64 (vat l cl) ∧ Ext m [] m' := by
  refine FnE.enter ⟨_, Try.func13, by kernel_rfl, by kernel_rfl⟩ Try.func13 rfl rfl ?_
  repeat (first | with_reducible refine WP.seq ?_ | with_reducible refine WP.block ?_ | with_reducible refine WP.region ?_)
  refine RL.auto T_ok rfl ?_
  refine RL.nil ?_; repeat (first | with_reducible refine QN.block_normal ?_ | with_reducible refine QN.next ?_); repeat (first | with_reducible refine WP.seq ?_ | with_reducible refine WP.block ?_ | with_reducible refine WP.region ?_)
  refine RL.auto T_ok rfl ?_
  refine RL.call (fi := []) (ca := []) rfl rfl rfl rfl (vclean_c m v l h hl) ?_
  rintro v1 m1 hM
  refine ⟨_, rfl, ?_⟩
  have hE1 := hM.ext
  have hR := hM.cs
  have hcan := vclean_canon l
  have hat := vclean_at l cl
  have hln := vclean_len l
  generalize vclean l = L at hM hR hcan hat hln
  obtain ⟨A, c, rfl, _, _⟩ := hR.shape
  refine RL.auto T_ok rfl ?_
  refine RL.nil ?_; repeat (first | with_reducible refine QN.block_normal ?_ | with_reducible refine QN.next ?_); repeat (first | with_reducible refine WP.seq ?_ | with_reducible refine WP.block ?_ | with_reducible refine WP.region ?_)
  refine (WP.loop (X := Nat) (fun i => [(1, .int .u64 cl), (8, .slice A L.length c), (9, .int .i64 L.length), (10, .int .i64 i)])
    (fun i m' => i ≤ L.length ∧ (∀ x ∈ L.take i, x.c ≠ cl) ∧ Ext m1 [] m') (fun i => L.length - i) 0
    (Sub.cons rfl (Sub.cons rfl (Sub.cons rfl (Sub.cons rfl Sub.nil)))) ⟨by simp, (by simp), Ext.refl _ _⟩ ?_)
  rintro i m2 ⟨hi, ht, hE⟩
  repeat (first | with_reducible refine WP.seq ?_ | with_reducible refine WP.block ?_ | with_reducible refine WP.region ?_)
  refine RL.auto T_ok rfl ?_
  refine RL.nil ?_; repeat (first | with_reducible refine QN.block_normal ?_ | with_reducible refine QN.next ?_); repeat (first | with_reducible refine WP.seq ?_ | with_reducible refine WP.block ?_ | with_reducible refine WP.region ?_)
  refine WP.cond rfl (fun hc => ?_) (fun hc => ?_)
  · replace hc : i < L.length := by have := of_decide_eq_true hc; omega
    obtain ⟨ad, rfl, hx⟩ := (hR.ext0 hE).cell i hc
    have hmem : L[i] ∈ L := List.getElem_mem _
    have htake : L.take (i + 1) = L.take i ++ [L[i]] := List.take_succ_eq_append_getElem hc
    generalize L[i] = x at hx hmem htake
    refine WP.skip ?_; repeat (first | with_reducible refine QN.block_normal ?_ | with_reducible refine QN.next ?_); repeat (first | with_reducible refine WP.seq ?_ | with_reducible refine WP.block ?_ | with_reducible refine WP.region ?_)
    refine RL.indexAddr (k := i) T_ok rfl rfl rfl rfl rfl rfl rfl hc rfl ?_
    refine RL.loadAgg T_ok (cC x) rfl rfl rfl hx rfl ?_
    refine RL.alloc T_ok rfl rfl (fun b3 m3 hb3 hC3 => ⟨_, rfl, ?_⟩)
    refine RL.storeAgg T_ok (b := b3) (i := 0) (vs := cC x) (cs := [.int .u64 0, .int .u64 0]) hC3.blk rfl rfl rfl rfl rfl (by simp) (by simp [cC, Value.oneCell']) rfl ?_
    intro m4 hC4
    have hE4 : Ext m2 [] m4 := (hC3.new (by omega)).trans hC4.ext (fun q hq => .inr (by have h9 : q = b3 := (by simpa using hq); omega))
    have hB4 : Blk m4 b3 60 (cC x) := hC4.blk
    clear hC3 hC4
    refine RL.nil ?_; repeat (first | with_reducible refine QN.block_normal ?_ | with_reducible refine QN.next ?_); repeat (first | with_reducible refine WP.seq ?_ | with_reducible refine WP.block ?_ | with_reducible refine WP.region ?_)
    refine RL.pure T_ok 1 rfl ?_
    refine RL.load T_ok rfl rfl rfl (hB4.cell 0 rfl) rfl ?_
    refine RL.pure T_ok 2 rfl ?_
    by_cases hxc : x.c = cl
    · refine RL.eqv (v' := .bool true) (congrArg _ (by rw [deq]; exact decide_eq_true hxc)) ?_
      refine RL.nil ?_; repeat (first | with_reducible refine QN.block_normal ?_ | with_reducible refine QN.next ?_); repeat (first | with_reducible refine WP.seq ?_ | with_reducible refine WP.block ?_ | with_reducible refine WP.region ?_)
      refine WP.condT rfl ?_
      repeat (first | with_reducible refine WP.seq ?_ | with_reducible refine WP.block ?_ | with_reducible refine WP.region ?_)
      refine RL.pure T_ok 1 rfl ?_
      refine RL.load T_ok rfl rfl rfl (hB4.cell 1 rfl) rfl ?_
      refine RL.auto T_ok rfl ?_
      refine RL.nil ?_; repeat (first | with_reducible refine QN.block_normal ?_ | with_reducible refine QN.next ?_); repeat (first | with_reducible refine WP.seq ?_ | with_reducible refine WP.block ?_ | with_reducible refine WP.region ?_)
      refine WP.ret ?_; repeat (first | with_reducible refine QN.then_ret ?_ | with_reducible refine QN.block_ret ?_)
      refine QN.ret1 rfl rfl ⟨_, rfl, ?_, (hE1.trans hE (by simp)).trans hE4 (by simp)⟩
      rw [← hat, ← hxc, hcan.at_mem hmem]
    · refine RL.eqv (v' := .bool false) (congrArg _ (by rw [deq]; exact decide_eq_false hxc)) ?_
      refine RL.nil ?_; repeat (first | with_reducible refine QN.block_normal ?_ | with_reducible refine QN.next ?_); repeat (first | with_reducible refine WP.seq ?_ | with_reducible refine WP.block ?_ | with_reducible refine WP.region ?_)
      refine WP.condF rfl ?_
      refine WP.skip ?_; repeat (first | with_reducible refine QN.block_normal ?_ | with_reducible refine QN.next ?_); repeat (first | with_reducible refine WP.seq ?_ | with_reducible refine WP.block ?_ | with_reducible refine WP.region ?_)
      refine RL.pure T_ok 1 rfl ?_
      refine RL.eqv (v' := .int .i64 ((i + 1 : Nat) : Int)) (congrArg _ (by rw [wrap_i64_in _ (by omega) (by omega)]; rfl)) ?_
      refine RL.auto T_ok rfl ?_
      refine RL.nil (QN.round (i + 1) (Sub.cons rfl (Sub.cons rfl (Sub.cons rfl (Sub.cons rfl Sub.nil)))) ⟨by omega, fun y hy => ?_, hE.trans hE4 (by simp)⟩ (by omega))
      rw [htake] at hy
      rcases List.mem_append.1 hy with hy | hy
      · exact ht y hy
      · have : y = x := by simpa using hy
        subst this; exact hxc
  · replace hc : i = L.length := by have := of_decide_eq_false hc; omega
    subst hc
    rw [List.take_length] at ht
    have h0 : vat L cl = 0 := vat_zero fun y hy => by rw [(hcan.1 y hy).at, if_neg (ht y hy)]
    rw [h0] at hat
    rw [← hat]
    refine WP.exit ?_; repeat (first | with_reducible refine QN.then_exit ?_ | with_reducible refine QN.block_exit ?_ | with_reducible refine QN.block_far rfl ?_ | with_reducible refine QN.block_normal ?_ | with_reducible refine QN.next ?_); repeat (first | with_reducible refine WP.seq ?_ | with_reducible refine WP.block ?_ | with_reducible refine WP.region ?_)
    refine RL.auto T_ok rfl ?_
    refine RL.nil ?_; repeat (first | with_reducible refine QN.block_normal ?_ | with_reducible refine QN.next ?_); repeat (first | with_reducible refine WP.seq ?_ | with_reducible refine WP.block ?_ | with_reducible refine WP.region ?_)
    refine WP.ret ?_; repeat (first | with_reducible refine QN.then_ret ?_ | with_reducible refine QN.block_ret ?_)
    exact QN.ret1 rfl rfl ⟨_, rfl, rfl, hE1.trans hE (by simp)⟩
theorem vhas_c (m : World) (v : Value) (l : List Clk) (h : Cs m [] v l) (hl : l.length < 100000000) (id : Idn) : FnR Try.prog 15 [v, iV id] m fun r m' => r = .bool (id.right && decide (id.k ≤ vat l id.c)) ∧ Ext m [] m' := by
  refine FnE.enter ⟨_, Try.func15, by kernel_rfl, by kernel_rfl⟩ Try.func15 rfl rfl ?_
  repeat (first | with_reducible refine WP.seq ?_ | with_reducible refine WP.block ?_ | with_reducible refine WP.region ?_)
  refine RL.box rfl rfl (fun b m1 hb hC => ⟨_, rfl, ?_⟩)
  have hB : Blk m1 b 25 (iC id) := hC.here
  have hE1 : Ext m [] m1 := hC.new (by omega)
  clear hC
  refine RL.auto T_ok rfl ?_
  refine RL.nil ?_; repeat (first | with_reducible refine QN.block_normal ?_ | with_reducible refine QN.next ?_)
  refine WP.seq ?_
  have hI : ∀ m', Ext m1 [] m' → ∀ j u, (iC id)[j]? = some u → m'.cell? ((⟨b, 0, none⟩ : Addr).add j) = some u := fun m' hE j u hu => by rw [add_block, Nat.zero_add]; exact (hB.ext hE (by simp)).cell _ hu
  refine WP.drawQ (fun m' => Ext m1 [] m') [] (by kernel_rfl) (Ext.refl _ _) (by repeat (first | with_reducible exact PanicOk.body | with_reducible refine PanicOk.then_ ?_ | with_reducible refine PanicOk.block_ ?_)) (fun hQ => ?_)
  refine RH.loadAgg T_ok hQ 0 (iC id) hI rfl (by kernel_rfl) rfl rfl rfl rfl ?_
  refine RH.only 1 rfl (by kernel_rfl) (fun _ => ?_)
  refine RL.call (fi := []) (ca := []) rfl rfl rfl rfl (rightI_c m1 id) ?_
  rintro _ m2 ⟨rfl, hE2⟩
  refine ⟨_, rfl, RL.nil (RH.cont hE2 ?_)⟩
  by_cases hr : id.right = true
  rotate_left
  · have hr' : id.right = false := by simpa using hr
    refine RH.fix 10 rfl ?_
    refine RH.eqv (v' := .bool false) (congrArg _ hr') ?_
    refine RH.pure T_ok hQ [2] (by kernel_rfl) rfl ?_
    refine RH.pure T_ok hQ [3] (by kernel_rfl) rfl ?_
    refine RH.pure T_ok hQ [4] (by kernel_rfl) rfl ?_
    refine RH.pure T_ok hQ [5] (by kernel_rfl) rfl ?_
    refine RH.pure T_ok hQ [6] (by kernel_rfl) rfl ?_
    refine RH.pure T_ok hQ [7] (by kernel_rfl) rfl ?_
    refine RH.pure T_ok hQ [8] (by kernel_rfl) rfl ?_
    refine RH.pure T_ok hQ [9] (by kernel_rfl) rfl ?_
    refine RH.pure T_ok hQ [10] (by kernel_rfl) rfl ?_
    refine RH.pure T_ok hQ [11] (by kernel_rfl) rfl ?_
    refine RH.done (by kernel_rfl) (fun _ => ?_)
    repeat (first | with_reducible refine QN.block_normal ?_ | with_reducible refine QN.next ?_)
    refine WP.ret ?_; repeat (first | with_reducible refine QN.then_ret ?_ | with_reducible refine QN.block_ret ?_)
    exact QN.ret1 rfl rfl ⟨_, rfl, by simp [hr'], hE1.trans hE2 (by simp)⟩
  · refine RH.fix 10 rfl ?_
    refine RH.eqv (v' := .bool true) (congrArg _ hr) ?_
    refine RH.pure T_ok hQ [2] (by kernel_rfl) rfl ?_
    refine RH.pure T_ok hQ [3] (by kernel_rfl) rfl ?_
    refine RH.load T_ok hQ 4 (fun m' hm' => (hB.ext hm' (by simp)).cell 1 rfl) rfl (by kernel_rfl) rfl rfl rfl rfl ?_
    refine RH.pure T_ok hQ [5] (by kernel_rfl) rfl ?_
    refine RH.pure T_ok hQ [6] (by kernel_rfl) rfl ?_
    refine RH.load T_ok hQ 7 (fun m' hm' => (hB.ext hm' (by simp)).cell 0 rfl) rfl (by kernel_rfl) rfl rfl rfl rfl ?_
    refine RH.only 8 rfl (by kernel_rfl) (fun _ => ?_)
    refine RL.call (fi := []) (ca := []) rfl rfl rfl rfl (vat_c m2 v l ((h.ext0 hE1).ext0 hE2) hl id.c) ?_
    rintro _ m3 ⟨rfl, hE3⟩
    replace hE3 := hE2.trans hE3 (by simp)
    refine ⟨_, rfl, RL.nil (RH.cont hE3 ?_)⟩
    refine RH.pure T_ok hQ [9] (by kernel_rfl) rfl ?_
    refine RH.eqv (v' := .bool (decide (id.k ≤ vat l id.c))) (congrArg _ (dle' _ _)) ?_
    refine RH.pure T_ok hQ [10] (by kernel_rfl) rfl ?_
    refine RH.pure T_ok hQ [11] (by kernel_rfl) rfl ?_
    refine RH.done (by kernel_rfl) (fun _ => ?_)
    repeat (first | with_reducible refine QN.block_normal ?_ | with_reducible refine QN.next ?_)
    refine WP.ret ?_; repeat (first | with_reducible refine QN.then_ret ?_ | with_reducible refine QN.block_ret ?_)
    exact QN.ret1 rfl rfl ⟨_, rfl, by simp [hr], hE1.trans hE3 (by simp)⟩
theorem indexK_c (m : World) (v : Value) (l : List Clk) (h : Cs m [] v l) (hl : l.length < 1000000000) (k : FuncId) (ca : List Value) (p : Clk → Bool) (hf : ∀ m1 x, Ext m [] m1 → FnR Try.prog k (cV x :: ca) m1 fun r m2 => r = .bool (p x) ∧ Ext m1 [] m2) :
    FnR Try.prog 61 [v, .func (.func k) #[] ca.toArray] m fun r m' => (∃ z : Int, r = .int .i64 z ∧ (0 ≤ z ↔ l.any p = true)) ∧ Ext m [] m' := by
  obtain ⟨A, c, rfl, _, _⟩ := h.shape
  refine FnE.enter ⟨_, Try.func61, by kernel_rfl, by kernel_rfl⟩ Try.func61 rfl rfl ?_
  repeat (first | with_reducible refine WP.seq ?_ | with_reducible refine WP.block ?_ | with_reducible refine WP.region ?_)
  refine RL.auto T_ok rfl ?_
  refine RL.nil ?_; repeat (first | with_reducible refine QN.block_normal ?_ | with_reducible refine QN.next ?_); repeat (first | with_reducible refine WP.seq ?_ | with_reducible refine WP.block ?_ | with_reducible refine WP.region ?_)
  refine RL.auto T_ok rfl ?_
  refine RL.nil ?_; repeat (first | with_reducible refine QN.block_normal ?_ | with_reducible refine QN.next ?_); repeat (first | with_reducible refine WP.seq ?_ | with_reducible refine WP.block ?_ | with_reducible refine WP.region ?_)
  refine WP.loop (X := Nat) (fun i => [(0, .slice A l.length c), (1, .func (.func k) #[] ca.toArray), (7, .int .i64 l.length), (8, .int .i64 i)]) (fun i m' => i ≤ l.length ∧ (l.take i).any p = false ∧ Ext m [] m') (fun i => l.length - i) 0
    (Sub.cons rfl (Sub.cons rfl (Sub.cons rfl (Sub.cons rfl Sub.nil)))) ⟨by simp, by simp, Ext.refl _ _⟩ ?_
  rintro i m1 ⟨hi, ht, hE⟩
  repeat (first | with_reducible refine WP.seq ?_ | with_reducible refine WP.block ?_ | with_reducible refine WP.region ?_)
  refine RL.auto T_ok rfl ?_
  refine RL.nil ?_; repeat (first | with_reducible refine QN.block_normal ?_ | with_reducible refine QN.next ?_); repeat (first | with_reducible refine WP.seq ?_ | with_reducible refine WP.block ?_ | with_reducible refine WP.region ?_)
  refine WP.cond rfl (fun hc => ?_) (fun hc => ?_)
  · have hc : i < l.length := by have := of_decide_eq_true hc; omega
    obtain ⟨ad, rfl, hx⟩ := (h.ext0 hE).cell i hc
    refine WP.skip ?_; repeat (first | with_reducible refine QN.block_normal ?_ | with_reducible refine QN.next ?_); repeat (first | with_reducible refine WP.seq ?_ | with_reducible refine WP.block ?_ | with_reducible refine WP.region ?_)
    refine RL.auto T_ok rfl ?_
    refine RL.nil ?_; repeat (first | with_reducible refine QN.block_normal ?_ | with_reducible refine QN.next ?_); repeat (first | with_reducible refine WP.seq ?_ | with_reducible refine WP.block ?_ | with_reducible refine WP.region ?_)
    refine RL.auto T_ok rfl ?_
    refine RL.indexAddr (k := i) T_ok rfl rfl rfl rfl rfl rfl rfl hc rfl ?_
    refine RL.loadAgg T_ok (cC l[i]) rfl rfl rfl hx rfl ?_
    refine RL.call (fi := []) (ca := ca) rfl rfl rfl rfl (hf m1 l[i] hE) ?_
    rintro _ m2 ⟨rfl, hE2⟩
    refine ⟨_, rfl, ?_⟩
    have hEm := hE.trans hE2 (by simp)
    refine RL.nil ?_; repeat (first | with_reducible refine QN.block_normal ?_ | with_reducible refine QN.next ?_); repeat (first | with_reducible refine WP.seq ?_ | with_reducible refine WP.block ?_ | with_reducible refine WP.region ?_)
    refine WP.cond rfl (fun hp => ?_) (fun hp => ?_)
    · repeat (first | with_reducible refine WP.seq ?_ | with_reducible refine WP.block ?_ | with_reducible refine WP.region ?_)
      refine RL.auto T_ok rfl ?_
      refine RL.nil ?_; repeat (first | with_reducible refine QN.block_normal ?_ | with_reducible refine QN.next ?_); repeat (first | with_reducible refine WP.seq ?_ | with_reducible refine WP.block ?_ | with_reducible refine WP.region ?_)
      refine WP.ret ?_; repeat (first | with_reducible refine QN.then_ret ?_ | with_reducible refine QN.block_ret ?_)
      refine QN.ret1 rfl rfl ⟨_, rfl, ⟨(i : Int), rfl, fun _ => ?_, fun _ => by omega⟩, hEm⟩
      exact List.any_eq_true.2 ⟨l[i], List.getElem_mem _, hp⟩
    · refine WP.skip ?_; repeat (first | with_reducible refine QN.block_normal ?_ | with_reducible refine QN.next ?_); repeat (first | with_reducible refine WP.seq ?_ | with_reducible refine WP.block ?_ | with_reducible refine WP.region ?_)
      refine RL.auto T_ok rfl ?_
      refine RL.nil (QN.round (i + 1) (Sub.cons rfl (Sub.cons rfl (Sub.cons rfl (Sub.cons ?_ Sub.nil)))) ⟨by omega, ?_, hEm⟩ (by omega))
      · show some (Value.int .i64 (IntKind.i64.wrap ((i : Int) + 1))) = some (Value.int .i64 ((i + 1 : Nat) : Int))
        rw [wrap_i64_in _ (by omega) (by omega)]; rfl
      · rw [List.take_succ_eq_append_getElem hc, List.any_append, ht]
        simp [hp]
  · have hc : i = l.length := by have := of_decide_eq_false hc; omega
    subst hc
    rw [List.take_length] at ht
    refine WP.exit ?_; repeat (first | with_reducible refine QN.then_exit ?_ | with_reducible refine QN.block_exit ?_ | with_reducible refine QN.block_far rfl ?_ | with_reducible refine QN.block_normal ?_ | with_reducible refine QN.next ?_); repeat (first | with_reducible refine WP.seq ?_ | with_reducible refine WP.block ?_ | with_reducible refine WP.region ?_)
    refine RL.auto T_ok rfl ?_
    refine RL.nil ?_; repeat (first | with_reducible refine QN.block_normal ?_ | with_reducible refine QN.next ?_); repeat (first | with_reducible refine WP.seq ?_ | with_reducible refine WP.block ?_ | with_reducible refine WP.region ?_)
    refine WP.ret ?_; repeat (first | with_reducible refine QN.then_ret ?_ | with_reducible refine QN.block_ret ?_)
    exact QN.ret1 rfl rfl ⟨_, rfl, ⟨-1, rfl, fun hh => by omega, fun hh => by rw [ht] at hh; cases hh⟩, hE⟩
theorem containsK_c (m : World) (v : Value) (l : List Clk) (h : Cs m [] v l) (hl : l.length < 1000000000) (k : FuncId) (ca : List Value) (p : Clk → Bool) (hf : ∀ m1 x, Ext m [] m1 → FnR Try.prog k (cV x :: ca) m1 fun r m2 => r = .bool (p x) ∧ Ext m1 [] m2) :
    FnR Try.prog 44 [v, .func (.func k) #[] ca.toArray] m fun r m' => r = .bool (l.any p) ∧ Ext m [] m' := by
  refine FnE.enter ⟨_, Try.func44, by kernel_rfl, by kernel_rfl⟩ Try.func44 rfl rfl ?_
  repeat (first | with_reducible refine WP.seq ?_ | with_reducible refine WP.block ?_ | with_reducible refine WP.region ?_)
  refine RL.auto T_ok rfl ?_
  refine RL.nil ?_; repeat (first | with_reducible refine QN.block_normal ?_ | with_reducible refine QN.next ?_); repeat (first | with_reducible refine WP.seq ?_ | with_reducible refine WP.block ?_ | with_reducible refine WP.region ?_)
  refine RL.auto T_ok rfl ?_
  refine RL.call (fi := []) (ca := []) rfl rfl rfl rfl (indexK_c m v l h hl k ca p hf) ?_
  rintro _ m1 ⟨⟨z, rfl, hz⟩, hE⟩
  refine ⟨_, rfl, ?_⟩
  refine RL.auto T_ok rfl ?_
  refine RL.nil ?_; repeat (first | with_reducible refine QN.block_normal ?_ | with_reducible refine QN.next ?_); repeat (first | with_reducible refine WP.seq ?_ | with_reducible refine WP.block ?_ | with_reducible refine WP.region ?_)
  refine WP.ret ?_; repeat (first | with_reducible refine QN.then_ret ?_ | with_reducible refine QN.block_ret ?_)
  refine QN.ret1 rfl rfl ⟨_, rfl, congrArg _ ?_, hE⟩
  cases hp : l.any p with
  | true => exact decide_eq_true (hz.2 hp)
  | false => exact decide_eq_false (fun h => by rw [hz.1 h] at hp; cases hp)
theorem within1_c (m : World) (x : Clk) (v : Value) (l : List Clk) (bv : Nat) (hb : Blk m bv 22 [v]) (h : Cs m [] v l) (hl : l.length < 100000000) : FnR Try.prog 45 [cV x, .pointer (some ⟨bv, 0, none⟩)] m fun r m' => r = .bool (decide (vat l x.c < x.k)) ∧ Ext m [] m' := by
  refine FnE.enter ⟨_, Try.func45, by kernel_rfl, by kernel_rfl⟩ Try.func45 rfl rfl ?_
  repeat (first | with_reducible refine WP.seq ?_ | with_reducible refine WP.block ?_ | with_reducible refine WP.region ?_)
  refine RL.box rfl rfl (fun b m1 hb1 hC => ⟨_, rfl, ?_⟩)
  have hB : Blk m1 b 60 (cC x) := hC.here
  have hE1 : Ext m [] m1 := hC.new (by omega)
  clear hC
  replace hb := hb.ext hE1 (by simp)
  refine RL.auto T_ok rfl ?_
  refine RL.nil ?_; repeat (first | with_reducible refine QN.block_normal ?_ | with_reducible refine QN.next ?_)
  refine WP.seq ?_
  refine WP.drawQ (fun m' => Ext m1 [] m') [] (by kernel_rfl) (Ext.refl _ _) (by repeat (first | with_reducible exact PanicOk.body | with_reducible refine PanicOk.then_ ?_ | with_reducible refine PanicOk.block_ ?_)) (fun hQ => ?_)
  refine RH.pure T_ok hQ [0] (by kernel_rfl) rfl ?_
  refine RH.load T_ok hQ 1 (fun m' hm' => (hB.ext hm' (by simp)).cell 1 rfl) rfl (by kernel_rfl) rfl rfl rfl rfl ?_
  refine RH.load T_ok hQ 2 (fun m' hm' => (hb.ext hm' (by simp)).cell 0 rfl) rfl (by kernel_rfl) rfl rfl rfl rfl ?_
  refine RH.pure T_ok hQ [3] (by kernel_rfl) rfl ?_
  refine RH.load T_ok hQ 4 (fun m' hm' => (hB.ext hm' (by simp)).cell 0 rfl) rfl (by kernel_rfl) rfl rfl rfl rfl ?_
  refine RH.only 5 rfl (by kernel_rfl) (fun _ => ?_)
  refine RL.call (fi := []) (ca := []) rfl rfl rfl rfl (vat_c m1 v l (h.ext0 hE1) hl x.c) ?_
  rintro _ m2 ⟨rfl, hE2⟩
  refine ⟨_, rfl, RL.nil (RH.cont hE2 ?_)⟩
  refine RH.pure T_ok hQ [6] (by kernel_rfl) rfl ?_
  refine RH.eqv (v' := .bool (decide (vat l x.c < x.k))) (congrArg _ (by rw [decide_eq_decide]; omega)) ?_
  refine RH.pure T_ok hQ [7] (by kernel_rfl) rfl ?_
  refine RH.done (by kernel_rfl) (fun _ => ?_)
  repeat (first | with_reducible refine QN.block_normal ?_ | with_reducible refine QN.next ?_)
  refine WP.ret ?_; repeat (first | with_reducible refine QN.then_ret ?_ | with_reducible refine QN.block_ret ?_)
  exact QN.ret1 rfl rfl ⟨_, rfl, rfl, hE1.trans hE2 (by simp)⟩
theorem vwithin_c (m : World) (v u : Value) (a b : List Clk) (h : Cs m [] v a) (h' : Cs m [] u b) (hla : a.length < 100000000) (hlb : b.length < 100000000) : FnR Try.prog 26 [v, u] m fun r m' => r = .bool (vwithin a b) ∧ Ext m [] m' := by
  obtain ⟨B, cB, rfl, _, _⟩ := h'.shape
  refine FnE.enter ⟨_, Try.func26, by kernel_rfl, by kernel_rfl⟩ Try.func26 rfl rfl ?_
  repeat (first | with_reducible refine WP.seq ?_ | with_reducible refine WP.block ?_ | with_reducible refine WP.region ?_)
  refine RL.box rfl rfl (fun bv m1 hb1 hC => ⟨_, rfl, ?_⟩)
  have hB : Blk m1 bv 22 [.slice B b.length cB] := hC.here
  have hE1 : Ext m [] m1 := hC.new (by omega)
  clear hC
  refine RL.auto T_ok rfl ?_
  refine RL.nil ?_; repeat (first | with_reducible refine QN.block_normal ?_ | with_reducible refine QN.next ?_); repeat (first | with_reducible refine WP.seq ?_ | with_reducible refine WP.block ?_ | with_reducible refine WP.region ?_)
  refine RL.auto T_ok rfl ?_
  refine RL.call (fi := []) (ca := []) rfl rfl rfl rfl (vclean_c m1 v a (h.ext0 hE1) hla) ?_
  rintro v2 m2 hM
  refine ⟨_, rfl, ?_⟩
  have hE2 := hE1.trans hM.ext (by simp)
  replace hB := hB.ext hM.ext (by simp)
  have hln := vclean_len a
  refine RL.auto T_ok rfl ?_
  refine RL.call (fi := []) (ca := []) rfl rfl rfl rfl (containsK_c m2 v2 (vclean a) hM.cs (by omega) 45 [.pointer (some ⟨bv, 0, none⟩)] (fun x => decide (vat b x.c < x.k)) (fun m3 x hE => within1_c m3 x _ b bv (hB.ext hE (by simp)) ((h'.ext0 hE2).ext0 hE) hlb)) ?_
  rintro _ m3 ⟨rfl, hE3⟩
  refine ⟨_, rfl, ?_⟩
  refine RL.auto T_ok rfl ?_
  refine RL.nil ?_; repeat (first | with_reducible refine QN.block_normal ?_ | with_reducible refine QN.next ?_); repeat (first | with_reducible refine WP.seq ?_ | with_reducible refine WP.block ?_ | with_reducible refine WP.region ?_)
  refine WP.ret ?_; repeat (first | with_reducible refine QN.then_ret ?_ | with_reducible refine QN.block_ret ?_)
  exact QN.ret1 rfl rfl ⟨_, rfl, rfl, hE2.trans hE3 (by simp)⟩
/-- What a vector knows, as a range. -/
def vrg (x : Clk) : Rng := ⟨x.c, 1, x.k + 1⟩
theorem vranges_c (m : World) (v : Value) (l : List Clk) (h : Cs m [] v l) (hl : l.length < 100000000) : FnR Try.prog 18 [v] m fun r m' => Made m r (vranges l) m' := by
  refine FnE.enter ⟨_, Try.func18, by kernel_rfl, by kernel_rfl⟩ Try.func18 rfl rfl ?_
  repeat (first | with_reducible refine WP.seq ?_ | with_reducible refine WP.block ?_ | with_reducible refine WP.region ?_)
  refine RL.auto T_ok rfl ?_
  refine RL.nil ?_; repeat (first | with_reducible refine QN.block_normal ?_ | with_reducible refine QN.next ?_); repeat (first | with_reducible refine WP.seq ?_ | with_reducible refine WP.block ?_ | with_reducible refine WP.region ?_)
  refine RL.auto T_ok rfl ?_
  refine RL.nil ?_; repeat (first | with_reducible refine QN.block_normal ?_ | with_reducible refine QN.next ?_); repeat (first | with_reducible refine WP.seq ?_ | with_reducible refine WP.block ?_ | with_reducible refine WP.region ?_)
  refine RL.auto T_ok rfl ?_
  refine RL.call (fi := []) (ca := []) rfl rfl rfl rfl (vclean_c m v l h hl) ?_
  rintro v1 m1 hM
  refine ⟨_, rfl, ?_⟩
  have hE1 := hM.ext
  have hR := hM.cs
  have hcan := vclean_canon l
  have hln := vclean_len l
  have hdef : vranges l = (vclean l).map vrg := rfl
  rw [hdef]
  generalize vclean l = L at hM hR hcan hln
  obtain ⟨A, c, rfl, _, _⟩ := hR.shape
  refine RL.auto T_ok rfl ?_
  refine RL.nil ?_; repeat (first | with_reducible refine QN.block_normal ?_ | with_reducible refine QN.next ?_); repeat (first | with_reducible refine WP.seq ?_ | with_reducible refine WP.block ?_ | with_reducible refine WP.region ?_)
  refine (WP.loop (X := Nat × Value × List Nat) (fun q => [(7, .slice A L.length c), (8, .int .i64 L.length), (3, q.2.1), (9, .int .i64 q.1)])
    (fun q m' => q.1 ≤ L.length ∧ Ev.Own m' q.2.2 62 3 q.2.1 ((L.take q.1).map vrg).length (((L.take q.1).map vrg).flatMap rC) ∧ New m1 q.2.2 m') (fun q => L.length - q.1) (0, .slice none 0 0, [])
    (Sub.cons rfl (Sub.cons rfl (Sub.cons rfl (Sub.cons rfl Sub.nil)))) ⟨by simp, Own.empty _ _ _ _, Ext.refl _ _, FpNew.nil _ _⟩ ?_)
  rintro ⟨i, w, S⟩ m2 ⟨hi, hO, hN⟩
  simp only at hi hO hN
  repeat (first | with_reducible refine WP.seq ?_ | with_reducible refine WP.block ?_ | with_reducible refine WP.region ?_)
  refine RL.auto T_ok rfl ?_
  refine RL.nil ?_; repeat (first | with_reducible refine QN.block_normal ?_ | with_reducible refine QN.next ?_); repeat (first | with_reducible refine WP.seq ?_ | with_reducible refine WP.block ?_ | with_reducible refine WP.region ?_)
  refine WP.cond rfl (fun hc => ?_) (fun hc => ?_)
  · replace hc : i < L.length := by have := of_decide_eq_true hc; simp only at this; omega
    obtain ⟨ad, rfl, hx⟩ := (hR.ext0 hN.1).cell i hc
    have hok := hcan.1 L[i] (List.getElem_mem _)
    have htake : (L.take (i + 1)).map vrg = (L.take i).map vrg ++ [vrg L[i]] := by rw [List.take_succ_eq_append_getElem hc, List.map_append]; rfl
    have hlm : ((L.take i).map vrg).length = i := by rw [List.length_map, List.length_take, Nat.min_eq_left hi]
    generalize L[i] = x at hx hok htake
    refine WP.skip ?_; repeat (first | with_reducible refine QN.block_normal ?_ | with_reducible refine QN.next ?_); repeat (first | with_reducible refine WP.seq ?_ | with_reducible refine WP.block ?_ | with_reducible refine WP.region ?_)
    refine RL.indexAddr (k := i) T_ok rfl rfl rfl rfl rfl rfl rfl hc rfl ?_
    refine RL.loadAgg T_ok (cC x) rfl rfl rfl hx rfl ?_
    refine RL.alloc T_ok rfl rfl (fun b3 m3 hb3 hC3 => ⟨_, rfl, ?_⟩)
    refine RL.storeAgg T_ok (b := b3) (i := 0) (vs := cC x) (cs := [.int .u64 0, .int .u64 0]) hC3.blk rfl rfl rfl rfl rfl (by simp) (by simp [cC, Value.oneCell']) rfl ?_
    intro m4 hC4
    have hE4 : Ext m2 [] m4 := (hC3.new (by omega)).trans hC4.ext (fun q hq => .inr (by have h9 : q = b3 := (by simpa using hq); omega))
    have hB4 : Blk m4 b3 60 (cC x) := hC4.blk
    clear hC3 hC4
    have hO4 := hO.ext hE4 (by simp)
    have hN4 : New m1 S m4 := ⟨hN.1.trans hE4 (by simp), hN.2⟩
    refine RL.nil ?_; repeat (first | with_reducible refine QN.block_normal ?_ | with_reducible refine QN.next ?_); repeat (first | with_reducible refine WP.seq ?_ | with_reducible refine WP.block ?_ | with_reducible refine WP.region ?_)
    refine RL.pure T_ok 2 rfl ?_
    refine RL.load T_ok rfl rfl rfl (hB4.cell 0 rfl) rfl ?_
    refine RL.pure T_ok 1 rfl ?_
    refine RL.load T_ok rfl rfl rfl (hB4.cell 1 rfl) rfl ?_
    refine RL.pure T_ok 1 rfl ?_
    refine RL.eqv (v' := .int .u64 ((x.k + 1 : Nat) : Int)) (congrArg _ (by have := hok.2.2.2; rw [wrap_u64_in _ (by omega) (by omega)]; rfl)) ?_
    refine RL.pure T_ok 1 rfl ?_
    refine RL.append1 T_ok [.tmp 19] hO4 (us := [rV (vrg x)]) (rC (vrg x)) rfl rfl rfl rfl rfl rfl rfl rfl rfl (by simp [rV, rC, Value.cells]) (by simp [rV, Value.cells]) (rC_one _) (by unfold maxLen; omega) (by show (_ + 1) * 24 ≤ _; omega) ?_
    intro v6 m6 S6 hO6 hE6 hF6
    refine ⟨_, rfl, ?_⟩
    have hN6 : New m1 S6 m6 := ⟨hN4.1.trans hE6 (fun k hk => .inr (hN4.ge k hk)), hN4.2.trans hF6 hN4.1.size⟩
    refine RL.auto T_ok rfl ?_
    refine RL.nil ?_; repeat (first | with_reducible refine QN.block_normal ?_ | with_reducible refine QN.next ?_); repeat (first | with_reducible refine WP.seq ?_ | with_reducible refine WP.block ?_ | with_reducible refine WP.region ?_)
    refine RL.pure T_ok 1 rfl ?_
    refine RL.eqv (v' := .int .i64 ((i + 1 : Nat) : Int)) (congrArg _ (by rw [wrap_i64_in _ (by omega) (by omega)]; rfl)) ?_
    refine RL.auto T_ok rfl ?_
    refine RL.nil (QN.round (i + 1, v6, S6) (Sub.cons rfl (Sub.cons rfl (Sub.cons rfl (Sub.cons rfl Sub.nil)))) ⟨by show i + 1 ≤ _; omega, ?_, hN6⟩ (by show _ - (i + 1) < _ - i; omega))
    show Ev.Own m6 S6 62 3 v6 ((L.take (i + 1)).map vrg).length (((L.take (i + 1)).map vrg).flatMap rC)
    rw [htake, List.length_append, ← rsC_app]
    simpa using hO6
  · replace hc : i = L.length := by have := of_decide_eq_false hc; simp only at this; omega
    subst hc
    rw [List.take_length] at hO
    refine WP.exit ?_; repeat (first | with_reducible refine QN.then_exit ?_ | with_reducible refine QN.block_exit ?_ | with_reducible refine QN.block_far rfl ?_ | with_reducible refine QN.block_normal ?_ | with_reducible refine QN.next ?_); repeat (first | with_reducible refine WP.seq ?_ | with_reducible refine WP.block ?_ | with_reducible refine WP.region ?_)
    refine RL.auto T_ok rfl ?_
    refine RL.nil ?_; repeat (first | with_reducible refine QN.block_normal ?_ | with_reducible refine QN.next ?_); repeat (first | with_reducible refine WP.seq ?_ | with_reducible refine WP.block ?_ | with_reducible refine WP.region ?_)
    refine WP.ret ?_; repeat (first | with_reducible refine QN.then_ret ?_ | with_reducible refine QN.block_ret ?_)
    exact QN.ret1 rfl rfl ⟨_, rfl, S, hO, hE1.trans hN.1 (by simp), hN.2.trans' hE1⟩
theorem vmeet_c (m : World) (v u : Value) (a b : List Clk) (h : Cs m [] v a) (h' : Cs m [] u b) (hla : a.length < 100000000) (hlb : b.length < 100000000) : FnR Try.prog 21 [v, u] m fun r m' => VMade m r (vmeet a b) m' := by
  obtain ⟨B, cB, rfl, _, _⟩ := h'.shape
  refine FnE.enter ⟨_, Try.func21, by kernel_rfl, by kernel_rfl⟩ Try.func21 rfl rfl ?_
  repeat (first | with_reducible refine WP.seq ?_ | with_reducible refine WP.block ?_ | with_reducible refine WP.region ?_)
  refine RL.auto T_ok rfl ?_
  refine RL.nil ?_; repeat (first | with_reducible refine QN.block_normal ?_ | with_reducible refine QN.next ?_); repeat (first | with_reducible refine WP.seq ?_ | with_reducible refine WP.block ?_ | with_reducible refine WP.region ?_)
  refine RL.auto T_ok rfl ?_
  refine RL.nil ?_; repeat (first | with_reducible refine QN.block_normal ?_ | with_reducible refine QN.next ?_); repeat (first | with_reducible refine WP.seq ?_ | with_reducible refine WP.block ?_ | with_reducible refine WP.region ?_)
  refine RL.auto T_ok rfl ?_
  refine RL.call (fi := []) (ca := []) rfl rfl rfl rfl (vclean_c m v a h hla) ?_
  rintro v1 m1 hM
  refine ⟨_, rfl, ?_⟩
  have hE1 := hM.ext
  have hR := hM.cs
  have hln := vclean_len a
  have hdef : vmeet a b = vclean ((vclean a).map fun x => (⟨x.c, min x.k (vat b x.c)⟩ : Clk)) := rfl
  rw [hdef]
  generalize vclean a = L at hM hR hln
  obtain ⟨A, c, rfl, _, _⟩ := hR.shape
  replace h' := h'.ext0 hE1
  obtain ⟨f, hf⟩ : ∃ f : Clk → Clk, f = fun x => (⟨x.c, min x.k (vat b x.c)⟩ : Clk) := ⟨_, rfl⟩
  rw [← hf]
  have hfx : ∀ x, f x = ⟨x.c, min x.k (vat b x.c)⟩ := fun x => by rw [hf]
  clear hf hM
  refine RL.auto T_ok rfl ?_
  refine RL.nil ?_; repeat (first | with_reducible refine QN.block_normal ?_ | with_reducible refine QN.next ?_); repeat (first | with_reducible refine WP.seq ?_ | with_reducible refine WP.block ?_ | with_reducible refine WP.region ?_)
  refine (WP.loop (X := Nat × Value × List Nat) (fun q => [(1, .slice B b.length cB), (9, .slice A L.length c), (10, .int .i64 L.length), (5, q.2.1), (11, .int .i64 q.1)])
    (fun q m' => q.1 ≤ L.length ∧ Ev.Own m' q.2.2 60 2 q.2.1 ((L.take q.1).map f).length (((L.take q.1).map f).flatMap cC) ∧ New m1 q.2.2 m') (fun q => L.length - q.1) (0, .slice none 0 0, [])
    (Sub.cons rfl (Sub.cons rfl (Sub.cons rfl (Sub.cons rfl (Sub.cons rfl Sub.nil))))) ⟨by simp, Own.empty _ _ _ _, Ext.refl _ _, FpNew.nil _ _⟩ ?_)
  rintro ⟨i, w, S⟩ m2 ⟨hi, hO, hN⟩
  simp only at hi hO hN
  repeat (first | with_reducible refine WP.seq ?_ | with_reducible refine WP.block ?_ | with_reducible refine WP.region ?_)
  refine RL.auto T_ok rfl ?_
  refine RL.nil ?_; repeat (first | with_reducible refine QN.block_normal ?_ | with_reducible refine QN.next ?_); repeat (first | with_reducible refine WP.seq ?_ | with_reducible refine WP.block ?_ | with_reducible refine WP.region ?_)
  refine WP.cond rfl (fun hc => ?_) (fun hc => ?_)
  · replace hc : i < L.length := by have := of_decide_eq_true hc; simp only at this; omega
    obtain ⟨ad, rfl, hx⟩ := (hR.ext0 hN.1).cell i hc
    have htake : (L.take (i + 1)).map f = (L.take i).map f ++ [f L[i]] := by rw [List.take_succ_eq_append_getElem hc, List.map_append]; rfl
    have hlm : ((L.take i).map f).length = i := by rw [List.length_map, List.length_take, Nat.min_eq_left hi]
    generalize L[i] = x at hx htake
    refine WP.skip ?_; repeat (first | with_reducible refine QN.block_normal ?_ | with_reducible refine QN.next ?_); repeat (first | with_reducible refine WP.seq ?_ | with_reducible refine WP.block ?_ | with_reducible refine WP.region ?_)
    refine RL.indexAddr (k := i) T_ok rfl rfl rfl rfl rfl rfl rfl hc rfl ?_
    refine RL.loadAgg T_ok (cC x) rfl rfl rfl hx rfl ?_
    refine RL.alloc T_ok rfl rfl (fun b3 m3 hb3 hC3 => ⟨_, rfl, ?_⟩)
    refine RL.storeAgg T_ok (b := b3) (i := 0) (vs := cC x) (cs := [.int .u64 0, .int .u64 0]) hC3.blk rfl rfl rfl rfl rfl (by simp) (by simp [cC, Value.oneCell']) rfl ?_
    intro m4 hC4
    have hE4 : Ext m2 [] m4 := (hC3.new (by omega)).trans hC4.ext (fun q hq => .inr (by have h9 : q = b3 := (by simpa using hq); omega))
    have hB4 : Blk m4 b3 60 (cC x) := hC4.blk
    clear hC3 hC4
    have hO4 := hO.ext hE4 (by simp)
    have hN4 : New m1 S m4 := ⟨hN.1.trans hE4 (by simp), hN.2⟩
    refine RL.nil ?_; repeat (first | with_reducible refine QN.block_normal ?_ | with_reducible refine QN.next ?_)
    have hB4c : ∀ m', Ext m4 [] m' → Blk m' b3 60 (cC x) := fun m' hE => hB4.ext hE (by simp)
    have hbS : b3 ∉ S := fun hh => by have := hO.lt _ hh; omega
    have hb4 := hB4.lt
    refine WP.drawQ (fun m' => Ext m1 [] m' ∧ Blk m' b3 60 (cC x)) [] (by kernel_rfl) ⟨hN4.1, hB4⟩ (by repeat (first | with_reducible exact PanicOk.body | with_reducible refine PanicOk.then_ ?_ | with_reducible refine PanicOk.block_ ?_)) (fun hQ => ?_)
    refine RH.pure T_ok hQ [0, 1] (by kernel_rfl) rfl ?_
    refine RH.load T_ok hQ 2 (fun m' hm' => hm'.2.cell 0 rfl) rfl (by kernel_rfl) rfl rfl rfl rfl ?_
    refine RH.pure T_ok hQ [3] (by kernel_rfl) rfl ?_
    refine RH.load T_ok hQ 4 (fun m' hm' => hm'.2.cell 1 rfl) rfl (by kernel_rfl) rfl rfl rfl rfl ?_
    refine RH.pure T_ok hQ [5, 6] (by kernel_rfl) rfl ?_
    refine RH.load T_ok hQ 7 (fun m' hm' => hm'.2.cell 0 rfl) rfl (by kernel_rfl) rfl rfl rfl rfl ?_
    refine RH.only 8 rfl (by kernel_rfl) (fun _ => ?_)
    refine RL.call (fi := []) (ca := []) rfl rfl rfl rfl (vat_c m4 _ b (h'.ext0 hN4.1) hlb x.c) ?_
    rintro _ m5 ⟨rfl, hE5⟩
    refine ⟨_, rfl, RL.nil (RH.cont ⟨hN4.1.trans hE5 (by simp), hB4c _ hE5⟩ ?_)⟩
    replace hO4 := hO4.ext hE5 (by simp)
    replace hN4 : New m1 S m5 := ⟨hN4.1.trans hE5 (by simp), hN4.2⟩
    refine RH.pure T_ok hQ [9] (by kernel_rfl) rfl ?_
    refine RH.eqv (v' := .int .u64 (min x.k (vat b x.c) : Nat)) (minK _ _) ?_
    refine RH.pure T_ok hQ [10] (by kernel_rfl) rfl ?_
    refine RH.eqv (v' := cV (f x)) (by rw [hfx]; rfl) ?_
    refine RH.only 11 rfl (by kernel_rfl) (fun _ => ?_)
    refine RL.buildSlice T_ok [.tmp 25] (us := [cV (f x)]) (cC (f x)) rfl rfl rfl rfl rfl rfl (by simp [cV, cC, Value.cells]) (by simp [cV, Value.cells]) rfl (fun b9 m9 hb9 hC9 => ⟨_, rfl, ?_⟩)
    have hE9 : Ext m5 [] m9 := hC9.new (by omega)
    have hN9 : New m1 S m9 := ⟨hN4.1.trans hE9 (by simp), hN4.2⟩
    have hE59 := hE5.trans hE9 (by simp)
    refine RL.nil (RH.cont ⟨hN9.1, hB4c _ hE59⟩ ?_)
    refine RH.only 12 rfl (by kernel_rfl) (fun _ => ?_)
    refine RL.append T_ok (hO4.ext hE9 (by simp)) (cC (f x)) (Src.of_blk (k := 1) (c := 1) hC9.blk rfl) rfl rfl rfl rfl rfl rfl (cC_one _) (by unfold maxLen; omega) (by show (_ + 1) * 16 ≤ _; omega) ?_
    intro v10 m10 S10 hO10 hE10 hF10
    have hN10 : New m1 S10 m10 := ⟨hN9.1.trans hE10 (fun k hk => .inr (hN9.ge k hk)), hN9.2.trans hF10 hN9.1.size⟩
    refine ⟨_, rfl, RL.nil (RH.cont ⟨hN10.1, (hB4c _ hE59).ext hE10 hbS⟩ ?_)⟩
    refine RH.pure T_ok hQ [13] (by kernel_rfl) rfl ?_
    refine RH.done (by kernel_rfl) (fun _ => ?_)
    repeat (first | with_reducible refine QN.block_normal ?_ | with_reducible refine QN.next ?_)
    repeat (first | with_reducible refine WP.seq ?_ | with_reducible refine WP.block ?_ | with_reducible refine WP.region ?_)
    refine RL.pure T_ok 1 rfl ?_
    refine RL.eqv (v' := .int .i64 ((i + 1 : Nat) : Int)) (congrArg _ (by rw [wrap_i64_in _ (by omega) (by omega)]; rfl)) ?_
    refine RL.auto T_ok rfl ?_
    refine RL.nil (QN.round (i + 1, v10, S10) (Sub.cons rfl (Sub.cons rfl (Sub.cons rfl (Sub.cons rfl (Sub.cons rfl Sub.nil))))) ⟨by show i + 1 ≤ _; omega, ?_, hN10⟩ (by show _ - (i + 1) < _ - i; omega))
    show Ev.Own m10 S10 60 2 v10 ((L.take (i + 1)).map f).length (((L.take (i + 1)).map f).flatMap cC)
    rw [htake, List.length_append, ← csC_app]
    simpa using hO10
  · replace hc : i = L.length := by have := of_decide_eq_false hc; simp only at this; omega
    subst hc
    rw [List.take_length] at hO
    have hlo : (L.map f).length = L.length := List.length_map _
    have hRo : Cs m2 [] w (L.map f) := hO.sl (by simp)
    have hE12 : Ext m [] m2 := hE1.trans hN.1 (by simp)
    refine WP.exit ?_; repeat (first | with_reducible refine QN.then_exit ?_ | with_reducible refine QN.block_exit ?_ | with_reducible refine QN.block_far rfl ?_ | with_reducible refine QN.block_normal ?_ | with_reducible refine QN.next ?_); repeat (first | with_reducible refine WP.seq ?_ | with_reducible refine WP.block ?_ | with_reducible refine WP.region ?_)
    refine RL.auto T_ok rfl ?_
    refine RL.call (fi := []) (ca := []) rfl rfl rfl rfl (vclean_c m2 w _ hRo (by omega)) ?_
    rintro v9 m9 ⟨S9, hO9, hN9⟩
    refine ⟨_, rfl, ?_⟩
    refine RL.auto T_ok rfl ?_
    refine RL.nil ?_; repeat (first | with_reducible refine QN.block_normal ?_ | with_reducible refine QN.next ?_); repeat (first | with_reducible refine WP.seq ?_ | with_reducible refine WP.block ?_ | with_reducible refine WP.region ?_)
    refine WP.ret ?_; repeat (first | with_reducible refine QN.then_ret ?_ | with_reducible refine QN.block_ret ?_)
    exact QN.ret1 rfl rfl ⟨_, rfl, S9, hO9, hE12.trans hN9.1 (by simp), hN9.2.trans' hE12⟩
theorem vjoin_c (m : World) (v u : Value) (a b : List Clk) (h : Cs m [] v a) (h' : Cs m [] u b) (hl : a.length + b.length < 100000000) : FnR Try.prog 20 [v, u] m fun r m' => VMade m r (vjoin a b) m' := by
  obtain ⟨A, c, rfl, _, _⟩ := h.shape
  obtain ⟨B, c', rfl, _, _⟩ := h'.shape
  refine FnE.enter ⟨_, Try.func20, by kernel_rfl, by kernel_rfl⟩ Try.func20 rfl rfl ?_
  repeat (first | with_reducible refine WP.seq ?_ | with_reducible refine WP.block ?_ | with_reducible refine WP.region ?_)
  refine RL.auto T_ok rfl ?_
  refine RL.nil ?_; repeat (first | with_reducible refine QN.block_normal ?_ | with_reducible refine QN.next ?_); repeat (first | with_reducible refine WP.seq ?_ | with_reducible refine WP.block ?_ | with_reducible refine WP.region ?_)
  refine RL.auto T_ok rfl ?_
  refine RL.buildSlice T_ok [.tmp 5, .tmp 6] (us := [.slice A a.length c, .slice B b.length c']) [.slice A a.length c, .slice B b.length c'] rfl rfl rfl rfl rfl rfl (by simp [Value.cells]) rfl rfl (fun b1 m1 hb1 hC1 => ⟨_, rfl, ?_⟩)
  have hE1 : Ext m [] m1 := hC1.new (by omega)
  have hS1 : Sl m1 [] 1 (.slice (some ⟨b1, 0, none⟩) 2 2) [.slice A a.length c, .slice B b.length c'] := Sl.of_blk (M := []) (n := 2) (c := 2) (sz := 1) hC1.blk (by simp) (by simp) (by omega) (by unfold maxLen; omega)
  refine RL.call (fi := []) (ca := []) rfl rfl rfl rfl (concat_clock m1 _ _ [a.flatMap cC, b.flatMap cC] [a.length, b.length] hS1 rfl rfl (fun i u xs k e1 e2 e3 => ?_) (fun xs hx => ?_) (by simp; omega) (by simp)) ?_
  · match i with
    | 0 =>
      simp only [List.getElem?_cons_zero, Option.some.injEq] at e1 e2 e3
      subst e1; subst e2; subst e3
      exact ⟨h.ext0 hE1, csC_len a⟩
    | 1 =>
      simp only [List.getElem?_cons_succ, List.getElem?_cons_zero, Option.some.injEq] at e1 e2 e3
      subst e1; subst e2; subst e3
      exact ⟨h'.ext0 hE1, csC_len b⟩
    | i + 2 => simp at e1
  · simp only [List.mem_cons, List.not_mem_nil, or_false] at hx
    rcases hx with rfl | rfl
    · exact csC_one a
    · exact csC_one b
  rintro v2 m2 ⟨S2, hO2, hN2⟩
  refine ⟨_, rfl, ?_⟩
  have hE2 := hE1.trans hN2.1 (by simp)
  have hR2 : Cs m2 [] v2 (a ++ b) := by
    have h9 := hO2.sl (M := []) (by simp)
    have e9 : [a.flatMap cC, b.flatMap cC].flatten = (a ++ b).flatMap cC := by simp
    rw [e9] at h9
    exact h9
  refine RL.call (fi := []) (ca := []) rfl rfl rfl rfl (vclean_c m2 _ _ hR2 (by rw [List.length_append]; omega)) ?_
  rintro v3 m3 hM3
  refine ⟨_, rfl, ?_⟩
  refine RL.auto T_ok rfl ?_
  refine RL.nil ?_; repeat (first | with_reducible refine QN.block_normal ?_ | with_reducible refine QN.next ?_); repeat (first | with_reducible refine WP.seq ?_ | with_reducible refine WP.block ?_ | with_reducible refine WP.region ?_)
  refine WP.ret ?_; repeat (first | with_reducible refine QN.then_ret ?_ | with_reducible refine QN.block_ret ?_)
  exact QN.ret1 rfl rfl ⟨_, rfl, hM3.from_ hE2⟩
theorem vmissing_c (m : World) (v u : Value) (a b : List Clk) (h : Cs m [] v a) (h' : Cs m [] u b) (hla : a.length < 100000000) (hlb : b.length < 100000000) (hl : b.length * (a.length + 1) < 100000000) : FnR Try.prog 22 [v, u] m fun r m' => Made m r (vmissing a b) m' := by
  refine FnE.enter ⟨_, Try.func22, by kernel_rfl, by kernel_rfl⟩ Try.func22 rfl rfl ?_
  repeat (first | with_reducible refine WP.seq ?_ | with_reducible refine WP.block ?_ | with_reducible refine WP.region ?_)
  refine RL.auto T_ok rfl ?_
  refine RL.nil ?_; repeat (first | with_reducible refine QN.block_normal ?_ | with_reducible refine QN.next ?_); repeat (first | with_reducible refine WP.seq ?_ | with_reducible refine WP.block ?_ | with_reducible refine WP.region ?_)
  refine RL.auto T_ok rfl ?_
  refine RL.call (fi := []) (ca := []) rfl rfl rfl rfl (vranges_c m u b h' hlb) ?_
  rintro v1 m1 hM1
  refine ⟨_, rfl, ?_⟩
  refine RL.auto T_ok rfl ?_
  refine RL.call (fi := []) (ca := []) rfl rfl rfl rfl (vranges_c m1 v a (h.ext0 hM1.ext) hla) ?_
  rintro v2 m2 hM2
  refine ⟨_, rfl, ?_⟩
  have l1 := vranges_len a
  have l2 := vranges_len b
  have hE2 := hM1.ext.trans hM2.ext (by simp)
  refine RL.call (fi := []) (ca := []) rfl rfl rfl rfl (minus_c m2 _ _ _ _ (hM1.rs.ext0 hM2.ext) hM2.rs (by omega) (by omega) (Nat.lt_of_le_of_lt (Nat.mul_le_mul l2 (Nat.succ_le_succ l1)) hl)) ?_
  rintro v3 m3 hM3
  refine ⟨_, rfl, ?_⟩
  refine RL.auto T_ok rfl ?_
  refine RL.nil ?_; repeat (first | with_reducible refine QN.block_normal ?_ | with_reducible refine QN.next ?_); repeat (first | with_reducible refine WP.seq ?_ | with_reducible refine WP.block ?_ | with_reducible refine WP.region ?_)
  refine WP.ret ?_; repeat (first | with_reducible refine QN.then_ret ?_ | with_reducible refine QN.block_ret ?_)
  exact QN.ret1 rfl rfl ⟨_, rfl, hM3.from_ hE2⟩
end Go.Proofs.Ytmjpcaiehfimgaa
