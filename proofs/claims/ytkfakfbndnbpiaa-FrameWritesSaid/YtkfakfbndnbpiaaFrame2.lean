/- Frames read: one off the bytes that were fed; the Reader's Next. The lengths stay below 2^29. -/
import Derived.Test.YtkfakfbndnbpiaaFrame1
namespace Go.Proofs.Ytkfakfbndnbpiaa
open Go.RowKit Go.Ev

/-- A failure on its way. -/
def brkF (e : Int) : List PanicEntry := [{ v := .iface 82 (.agg #[.int .i64 e]), recovered := false }]
/-- How the reading of a frame ends. -/
def NPost (m : World) (l : List UInt8) (ed : Ending) (m' : World) : Prop :=
  Ext m [] m' ∧ ((∃ x k u S', nextF l = .ok (x, k) ∧ ed = .returned (.tuple #[u, .int .i64 (k : Nat)]) ∧ Own m' S' 5 1 u x.length (u8s x) ∧ FpNew m [] S') ∨ ∃ q, nextF l = .error q ∧ ed = .panicked (brkF q))
theorem fnext_c (m : World) (M : List Nat) (hM : ∀ k ∈ M, k < m.heap.size) (v : Value) (l : List UInt8) (h : Bs m M v l) (hl : l.length < 800000000) :
    FnE Try.prog 65 [v] m (NPost m l) := by
  obtain ⟨A, c, rfl, hlc, hcm⟩ := h.shape
  have hS : Sl m M 1 (.slice A (min l.length 10) c) ((u8s l).take (min l.length 10 * 1)) := Sl.upto h (by omega) (by omega) (Nat.le_refl _)
  have htk : (u8s l).take (min l.length 10 * 1) = u8s (l.take 10) := by
    rw [Nat.mul_one, ← u8s_take]
    congr 1
    rcases Nat.le_total l.length 10 with h9 | h9
    · rw [Nat.min_eq_left h9, List.take_length, List.take_of_length_le h9]
    · rw [Nat.min_eq_right h9]
  rw [htk] at hS
  have hcM : c < 9223372036854775808 := by unfold maxLen at hcm; omega
  refine FnE.enter ⟨_, Try.func65, by kernel_rfl, by kernel_rfl⟩ Try.func65 rfl rfl ?_
  repeat (first | with_reducible refine WP.seq ?_ | with_reducible refine WP.block ?_ | with_reducible refine WP.region ?_)
  refine RL.auto T_ok rfl ?_
  refine RL.nil ?_; repeat (first | with_reducible refine QN.block_normal ?_ | with_reducible refine QN.next ?_); repeat (first | with_reducible refine WP.seq ?_ | with_reducible refine WP.block ?_ | with_reducible refine WP.region ?_)
  refine RL.pure T_ok 4 rfl ?_
  refine RL.eqv (v' := .int .i64 ((min l.length 10 : Nat) : Int)) (congrArg _ (by split <;> omega)) ?_
  refine RL.sliceTo (l := min l.length 10) T_ok rfl rfl rfl rfl rfl (by omega) rfl ?_
  refine RL.call (fi := []) (ca := []) rfl rfl rfl rfl (newReader_c m M hM _ (l.take 10) hS (by simp; omega)) ?_
  rintro _ m1 ⟨b, rfl, hb, hR1, hE1⟩
  refine ⟨_, rfl, ?_⟩
  refine RL.auto T_ok rfl ?_
  refine RL.nil ?_; repeat (first | with_reducible refine QN.block_normal ?_ | with_reducible refine QN.next ?_); repeat (first | with_reducible refine WP.seq ?_ | with_reducible refine WP.block ?_ | with_reducible refine WP.region ?_)
  refine RL.auto T_ok rfl ?_
  refine RL.call (fi := []) (ca := []) rfl rfl rfl rfl (left_c m1 _ b _ 0 hR1) ?_
  rintro _ m2 ⟨rfl, rfl⟩
  refine ⟨_, rfl, ?_⟩
  refine RL.auto T_ok rfl ?_
  refine RL.nil ?_; repeat (first | with_reducible refine QN.block_normal ?_ | with_reducible refine QN.next ?_); repeat (first | with_reducible refine WP.seq ?_ | with_reducible refine WP.block ?_ | with_reducible refine WP.region ?_)
  refine RL.auto T_ok rfl ?_
  refine RL.call (fi := []) (ca := []) rfl rfl rfl rfl (ruint_c m2 _ b _ 0 hR1 (by simp) 18446744073709551615) ?_
  rintro _ m3 ⟨rfl, hR3, hE3⟩
  refine ⟨_, rfl, ?_⟩
  have hE : Ext m [] m3 := hE1.trans hE3 (fun k hk => .inr (by have h9 : k = b := (by simpa using hk); omega))
  have pan : ∀ {ops : Array Oper} {n : Nat} {e : Env} {Q : Exit → Act → World → Prop}, True := trivial
  cases hrd : rdU 18446744073709551615 0 0 (l.take 10) with
  | error k =>
    rw [gR_err hrd] at hR3
    rw [gR_err (rfl : (Except.error k : Except Int (Nat × List UInt8)) = .error k)]
    have hk := rdU_err _ _ _ _ _ hrd
    have hnx : nextF l = .error (if k = 10 then 0 else 11) := by unfold nextF; rw [hrd]
    refine RL.auto T_ok rfl ?_
    refine RL.nil ?_; repeat (first | with_reducible refine QN.block_normal ?_ | with_reducible refine QN.next ?_); repeat (first | with_reducible refine WP.seq ?_ | with_reducible refine WP.block ?_ | with_reducible refine WP.region ?_)
    refine RL.auto T_ok rfl ?_
    refine RL.call (fi := []) (ca := []) rfl rfl rfl rfl (err_c m3 _ b _ k hR3) ?_
    rintro _ m4 ⟨rfl, rfl⟩
    refine ⟨_, rfl, ?_⟩
    refine RL.pure T_ok 1 rfl ?_
    by_cases h10 : k = 10
    · subst h10
      refine RL.eqv (v' := .bool true) rfl ?_
      refine RL.auto T_ok rfl ?_
      refine RL.nil ?_; repeat (first | with_reducible refine QN.block_normal ?_ | with_reducible refine QN.next ?_); repeat (first | with_reducible refine WP.seq ?_ | with_reducible refine WP.block ?_ | with_reducible refine WP.region ?_)
      refine WP.condT rfl ?_
      repeat (first | with_reducible refine WP.seq ?_ | with_reducible refine WP.block ?_ | with_reducible refine WP.region ?_)
      refine RL.auto T_ok rfl ?_
      refine RL.panic rfl rfl rfl ?_
      repeat (first | with_reducible refine QN.then_panic ?_ | with_reducible refine QN.block_panic ?_)
      exact QN.panic ⟨hE, .inr ⟨0, hnx, rfl⟩⟩
    · refine RL.eqv (v' := .bool false) (by simp [h10]) ?_
      refine RL.auto T_ok rfl ?_
      refine RL.nil ?_; repeat (first | with_reducible refine QN.block_normal ?_ | with_reducible refine QN.next ?_); repeat (first | with_reducible refine WP.seq ?_ | with_reducible refine WP.block ?_ | with_reducible refine WP.region ?_)
      refine WP.condF rfl ?_
      repeat (first | with_reducible refine WP.seq ?_ | with_reducible refine WP.block ?_ | with_reducible refine WP.region ?_)
      refine RL.auto T_ok rfl ?_
      refine RL.call (fi := []) (ca := []) rfl rfl rfl rfl (err_c _ _ b _ k hR3) ?_
      rintro _ m4 ⟨rfl, rfl⟩
      refine ⟨_, rfl, ?_⟩
      refine RL.pure T_ok 1 rfl ?_
      refine RL.eqv (v' := .bool true) (by simp; omega) ?_
      refine RL.auto T_ok rfl ?_
      refine RL.nil ?_; repeat (first | with_reducible refine QN.block_normal ?_ | with_reducible refine QN.next ?_); repeat (first | with_reducible refine WP.seq ?_ | with_reducible refine WP.block ?_ | with_reducible refine WP.region ?_)
      refine WP.condT rfl ?_
      repeat (first | with_reducible refine WP.seq ?_ | with_reducible refine WP.block ?_ | with_reducible refine WP.region ?_)
      refine RL.auto T_ok rfl ?_
      refine RL.panic rfl rfl rfl ?_
      repeat (first | with_reducible refine QN.then_panic ?_ | with_reducible refine QN.block_panic ?_)
      rw [if_neg h10] at hnx
      exact QN.panic ⟨hE, .inr ⟨11, hnx, rfl⟩⟩
  | ok nr =>
    obtain ⟨n, rest⟩ := nr
    rw [gR_ok hrd] at hR3
    rw [gR_ok (rfl : (Except.ok (n, rest) : Except Int (Nat × List UInt8)) = .ok (n, rest))]
    obtain ⟨hn64, hrl⟩ := rdU_most _ _ _ _ _ _ hrd
    have hrl10 : (l.take 10).length ≤ l.length := by simp; omega
    refine RL.auto T_ok rfl ?_
    refine RL.nil ?_; repeat (first | with_reducible refine QN.block_normal ?_ | with_reducible refine QN.next ?_); repeat (first | with_reducible refine WP.seq ?_ | with_reducible refine WP.block ?_ | with_reducible refine WP.region ?_)
    refine RL.auto T_ok rfl ?_
    refine RL.call (fi := []) (ca := []) rfl rfl rfl rfl (err_c m3 _ b _ 0 hR3) ?_
    rintro _ m4 ⟨rfl, rfl⟩
    refine ⟨_, rfl, ?_⟩
    refine RL.auto T_ok rfl ?_
    refine RL.nil ?_; repeat (first | with_reducible refine QN.block_normal ?_ | with_reducible refine QN.next ?_); repeat (first | with_reducible refine WP.seq ?_ | with_reducible refine WP.block ?_ | with_reducible refine WP.region ?_)
    refine WP.condF rfl ?_
    repeat (first | with_reducible refine WP.seq ?_ | with_reducible refine WP.block ?_ | with_reducible refine WP.region ?_)
    refine RL.auto T_ok rfl ?_
    refine RL.call (fi := []) (ca := []) rfl rfl rfl rfl (err_c _ _ b _ 0 hR3) ?_
    rintro _ m4 ⟨rfl, rfl⟩
    refine ⟨_, rfl, ?_⟩
    refine RL.auto T_ok rfl ?_
    refine RL.nil ?_; repeat (first | with_reducible refine QN.block_normal ?_ | with_reducible refine QN.next ?_); repeat (first | with_reducible refine WP.seq ?_ | with_reducible refine WP.block ?_ | with_reducible refine WP.region ?_)
    refine WP.condF rfl ?_
    repeat (first | with_reducible refine WP.seq ?_ | with_reducible refine WP.block ?_ | with_reducible refine WP.region ?_)
    refine RL.auto T_ok rfl ?_
    refine RL.nil ?_; repeat (first | with_reducible refine QN.block_normal ?_ | with_reducible refine QN.next ?_); repeat (first | with_reducible refine WP.seq ?_ | with_reducible refine WP.block ?_ | with_reducible refine WP.region ?_)
    refine WP.cond rfl (fun hc => ?_) (fun hc => ?_)
    · have hc : 1048576 < n := by have := of_decide_eq_true hc; omega
      have hnx : nextF l = .error 210 := by unfold nextF; rw [hrd]; simp [hc]
      repeat (first | with_reducible refine WP.seq ?_ | with_reducible refine WP.block ?_ | with_reducible refine WP.region ?_)
      refine RL.auto T_ok rfl ?_
      refine RL.panic rfl rfl rfl ?_
      repeat (first | with_reducible refine QN.then_panic ?_ | with_reducible refine QN.block_panic ?_)
      exact QN.panic ⟨hE, .inr ⟨210, hnx, rfl⟩⟩
    have hc : n ≤ 1048576 := by have := of_decide_eq_false hc; omega
    refine WP.skip ?_; repeat (first | with_reducible refine QN.block_normal ?_ | with_reducible refine QN.next ?_); repeat (first | with_reducible refine WP.seq ?_ | with_reducible refine WP.block ?_ | with_reducible refine WP.region ?_)
    refine RL.auto T_ok rfl ?_
    refine RL.call (fi := []) (ca := []) rfl rfl rfl rfl (left_c _ _ b _ 0 hR3) ?_
    rintro _ m4 ⟨rfl, rfl⟩
    refine ⟨_, rfl, ?_⟩
    obtain ⟨hd, hhd⟩ : ∃ hd, hd = (l.take 10).length - rest.length := ⟨_, rfl⟩
    have hd10 : hd ≤ 10 := by rw [hhd]; simp; omega
    refine RL.pure T_ok 1 rfl ?_
    refine RL.eqv (v' := .int .i64 (hd : Nat)) (congrArg _ (by show IntKind.i64.wrap (((l.take 10).length : Int) - (rest.length : Int)) = _; rw [wrap_i64_in _ (by omega) (by omega)]; omega)) ?_
    refine RL.auto T_ok rfl ?_
    refine RL.nil ?_; repeat (first | with_reducible refine QN.block_normal ?_ | with_reducible refine QN.next ?_); repeat (first | with_reducible refine WP.seq ?_ | with_reducible refine WP.block ?_ | with_reducible refine WP.region ?_)
    refine RL.pure T_ok 3 rfl ?_
    refine RL.eqv (v' := .int .i64 (n : Nat)) (congrArg _ (wrap_i64_in _ (by omega) (by omega))) ?_
    refine RL.pure T_ok 1 rfl ?_
    refine RL.eqv (v' := .int .i64 ((hd + n : Nat) : Int)) (congrArg _ (by rw [wrap_i64_in _ (by omega) (by omega)]; omega)) ?_
    refine RL.auto T_ok rfl ?_
    refine RL.nil ?_; repeat (first | with_reducible refine QN.block_normal ?_ | with_reducible refine QN.next ?_); repeat (first | with_reducible refine WP.seq ?_ | with_reducible refine WP.block ?_ | with_reducible refine WP.region ?_)
    refine RL.pure T_ok 4 rfl ?_
    refine RL.eqv (v' := .int .i64 ((hd + n + 4 : Nat) : Int)) (congrArg _ (by rw [wrap_i64_in _ (by omega) (by omega)]; omega)) ?_
    refine RL.auto T_ok rfl ?_
    refine RL.nil ?_; repeat (first | with_reducible refine QN.block_normal ?_ | with_reducible refine QN.next ?_); repeat (first | with_reducible refine WP.seq ?_ | with_reducible refine WP.block ?_ | with_reducible refine WP.region ?_)
    refine WP.cond rfl (fun hc2 => ?_) (fun hc2 => ?_)
    · have hc2 : l.length < hd + n + 4 := by have := of_decide_eq_true hc2; omega
      have hnx : nextF l = .error 0 := by unfold nextF; rw [hrd]; simp only; rw [if_neg (by omega), ← hhd, if_pos hc2]
      repeat (first | with_reducible refine WP.seq ?_ | with_reducible refine WP.block ?_ | with_reducible refine WP.region ?_)
      refine RL.auto T_ok rfl ?_
      refine RL.panic rfl rfl rfl ?_
      repeat (first | with_reducible refine QN.then_panic ?_ | with_reducible refine QN.block_panic ?_)
      exact QN.panic ⟨hE, .inr ⟨0, hnx, rfl⟩⟩
    have hc2 : hd + n + 4 ≤ l.length := by have := of_decide_eq_false hc2; omega
    have hnx : nextF l = if frm ((l.drop hd).take n) = l.take (hd + n + 4) then .ok ((l.drop hd).take n, hd + n + 4) else .error 11 := by unfold nextF; rw [hrd]; simp only; rw [if_neg (by omega), ← hhd, if_neg (by omega)]
    have h3 : Bs m4 M (.slice A l.length c) l := Sl.ext h (hE.mono (by simp)) (fun _ hk => .inl hk) (by omega)
    have hIn : Bs m4 M (.slice (if c = hd then A else A.map (·.add (hd * 1))) (hd + n - hd) (c - hd)) ((l.drop hd).take n) := by
      have h1 := Sl.upto (Sl.from_ h3 (l := hd) (by omega)) (l := hd + n - hd) (k := c - hd) (by omega) (by omega) (Nat.le_refl _)
      have e1 : ((u8s l).drop (hd * 1)).take ((hd + n - hd) * 1) = u8s ((l.drop hd).take n) := by
        rw [u8s_take, u8s_drop, Nat.mul_one, Nat.mul_one]; congr 1; omega
      rw [e1] at h1; exact h1
    have hxl : ((l.drop hd).take n).length = n := by simp; omega
    refine WP.skip ?_; repeat (first | with_reducible refine QN.block_normal ?_ | with_reducible refine QN.next ?_); repeat (first | with_reducible refine WP.seq ?_ | with_reducible refine WP.block ?_ | with_reducible refine WP.region ?_)
    refine RL.auto T_ok rfl ?_
    refine RL.sliceIn (l := hd) (q := hd + n) T_ok rfl rfl rfl rfl rfl rfl rfl (by omega) (by omega) rfl ?_
    refine RL.call (fi := []) (ca := []) rfl rfl rfl rfl (clone_bytes m4 M _ _ hIn (by rw [hxl]; omega)) ?_
    rintro u m5 ⟨S5, hO5, hN5⟩
    refine ⟨_, rfl, ?_⟩
    refine RL.auto T_ok rfl ?_
    refine RL.nil ?_; repeat (first | with_reducible refine QN.block_normal ?_ | with_reducible refine QN.next ?_); repeat (first | with_reducible refine WP.seq ?_ | with_reducible refine WP.block ?_ | with_reducible refine WP.region ?_)
    refine RL.auto T_ok rfl ?_
    have hu5 : Bs m5 [] u ((l.drop hd).take n) := Own.sl hO5 (by simp)
    refine RL.call (fi := []) (ca := []) rfl rfl rfl rfl (fwrite_c m5 [] u _ hu5 (by rw [hxl]; omega)) ?_
    rintro _ m6 (⟨hbig, _⟩ | ⟨_, u6, S6, rfl, hO6, hN6⟩)
    · rw [hxl] at hbig; omega
    refine ⟨_, rfl, ?_⟩
    refine RL.auto T_ok rfl ?_
    refine RL.nil ?_; repeat (first | with_reducible refine QN.block_normal ?_ | with_reducible refine QN.next ?_); repeat (first | with_reducible refine WP.seq ?_ | with_reducible refine WP.block ?_ | with_reducible refine WP.region ?_)
    refine RL.pure T_ok 4 rfl ?_
    refine RL.eqv (v' := .int .i64 ((hd + n + 4 : Nat) : Int)) (congrArg _ (by rw [wrap_i64_in _ (by omega) (by omega)]; omega)) ?_
    refine RL.sliceTo (l := hd + n + 4) T_ok rfl rfl rfl rfl rfl (by omega) rfl ?_
    have h6 : Bs m6 M (.slice A l.length c) l := Sl.ext (Sl.ext h3 (hN5.1.mono (M' := M) (by simp)) (fun _ hk => .inl hk) (by omega)) (hN6.1.mono (M' := M) (by simp)) (fun _ hk => .inl hk) (by omega)
    have h6' : Bs m6 M (.slice A (hd + n + 4) c) (l.take (hd + n + 4)) := by
      have h1 := Sl.upto h6 (l := hd + n + 4) (k := c) hc2 (by omega) (Nat.le_refl _)
      rw [Nat.mul_one, ← u8s_take] at h1; exact h1
    refine RL.call (fi := []) (ca := []) rfl rfl rfl rfl (equal_c m6 [] M _ _ _ _ (Own.sl hO6 (by simp)) h6' (by rw [frm_len, hxl]; have := encU_len10 (n := n) (by omega); omega)) ?_
    rintro _ m7 ⟨rfl, rfl⟩
    refine ⟨_, rfl, ?_⟩
    have hE7 : Ext m [] m7 := (hE.trans hN5.1 (by simp)).trans hN6.1 (by simp)
    refine RL.auto T_ok rfl ?_
    refine RL.nil ?_; repeat (first | with_reducible refine QN.block_normal ?_ | with_reducible refine QN.next ?_); repeat (first | with_reducible refine WP.seq ?_ | with_reducible refine WP.block ?_ | with_reducible refine WP.region ?_)
    by_cases heq : frm ((l.drop hd).take n) = l.take (hd + n + 4)
    · rw [if_pos heq] at hnx
      refine WP.condF (by show some (Value.bool (!decide _)) = _; rw [decide_eq_true heq]; rfl) ?_
      refine WP.skip ?_; repeat (first | with_reducible refine QN.block_normal ?_ | with_reducible refine QN.next ?_); repeat (first | with_reducible refine WP.seq ?_ | with_reducible refine WP.block ?_ | with_reducible refine WP.region ?_)
      refine RL.pure T_ok 3 rfl ?_
      refine RL.eqv (v' := .int .i64 ((hd + n + 4 : Nat) : Int)) (congrArg _ (by rw [wrap_i64_in _ (by omega) (by omega)]; omega)) ?_
      refine RL.auto T_ok rfl ?_
      refine RL.nil ?_; repeat (first | with_reducible refine QN.block_normal ?_ | with_reducible refine QN.next ?_); repeat (first | with_reducible refine WP.seq ?_ | with_reducible refine WP.block ?_ | with_reducible refine WP.region ?_)
      refine WP.ret ?_; repeat (first | with_reducible refine QN.then_ret ?_ | with_reducible refine QN.block_ret ?_)
      exact QN.ret2 rfl rfl rfl ⟨hE7, .inl ⟨_, _, u, S5, hnx, rfl, hO5.ext hN6.1 (by simp), hN5.2.trans' hE⟩⟩
    · rw [if_neg heq] at hnx
      refine WP.condT (by show some (Value.bool (!decide _)) = _; rw [decide_eq_false heq]; rfl) ?_
      repeat (first | with_reducible refine WP.seq ?_ | with_reducible refine WP.block ?_ | with_reducible refine WP.region ?_)
      refine RL.auto T_ok rfl ?_
      refine RL.panic rfl rfl rfl ?_
      repeat (first | with_reducible refine QN.then_panic ?_ | with_reducible refine QN.block_panic ?_)
      exact QN.panic ⟨hE7, .inr ⟨11, hnx, rfl⟩⟩

/-- What Next does behind a reading. -/
theorem nextD_ret (m : World) (b1 b2 b3 b4 : Nat) : DfE Try.prog 64 [.pointer (some ⟨b1, 0, none⟩), .pointer (some ⟨b2, 0, none⟩), .pointer (some ⟨b3, 0, none⟩), .pointer (some ⟨b4, 0, none⟩)] .returning m fun ed u' m' => ed = .returned (.tuple #[]) ∧ u' = .returning ∧ m' = m := by
  refine DfE.enter ⟨_, Try.func64, by kernel_rfl, by kernel_rfl⟩ Try.func64 rfl rfl rfl ?_
  repeat (first | with_reducible refine WP.seq ?_ | with_reducible refine WP.block ?_ | with_reducible refine WP.region ?_)
  refine RL.auto T_ok rfl ?_
  refine RL.nil ?_; repeat (first | with_reducible refine QN.block_normal ?_ | with_reducible refine QN.next ?_); repeat (first | with_reducible refine WP.seq ?_ | with_reducible refine WP.block ?_ | with_reducible refine WP.region ?_)
  refine WP.condT rfl ?_
  repeat (first | with_reducible refine WP.seq ?_ | with_reducible refine WP.block ?_ | with_reducible refine WP.region ?_)
  refine RL.auto T_ok rfl ?_
  refine RL.nil (QN.block_normal ?_)
  exact QN.end0 rfl ⟨rfl, rfl, rfl⟩
theorem nextD_pan (m : World) (b b1 b2 b3 b4 : Nat) (e : Int) (v x1 x2 x3 : Value) (e0 : Int) (h1 : Blk m b1 23 [x1]) (h2 : Blk m b2 4 [x2]) (h3 : Blk m b3 25 [x3]) (h4 : Blk m b4 80 [.pointer (some ⟨b, 0, none⟩)]) (hB : Blk m b 40 [v, .int .i64 e0])
    (hne : b1 ≠ b2 ∧ b1 ≠ b3 ∧ b1 ≠ b4 ∧ b1 ≠ b ∧ b2 ≠ b3 ∧ b2 ≠ b4 ∧ b2 ≠ b ∧ b3 ≠ b4 ∧ b3 ≠ b ∧ b4 ≠ b) :
    DfE Try.prog 64 [.pointer (some ⟨b1, 0, none⟩), .pointer (some ⟨b2, 0, none⟩), .pointer (some ⟨b3, 0, none⟩), .pointer (some ⟨b4, 0, none⟩)] (.panicking (brkF e)) m fun ed u' m' => ed = .returned (.tuple #[]) ∧ settle u' = .returning ∧
      Blk m' b1 23 [.slice none 0 0] ∧ Blk m' b2 4 [.bool false] ∧ Blk m' b3 25 [.int .i64 e] ∧ Blk m' b 40 [v, .int .i64 e] ∧ Ext m [b1, b2, b3, b] m' := by
  obtain ⟨n12, n13, n14, n1b, n23, n24, n2b, n34, n3b, n4b⟩ := hne
  refine DfE.enter ⟨_, Try.func64, by kernel_rfl, by kernel_rfl⟩ Try.func64 rfl rfl rfl ?_
  repeat (first | with_reducible refine WP.seq ?_ | with_reducible refine WP.block ?_ | with_reducible refine WP.region ?_)
  refine RL.auto T_ok rfl ?_
  refine RL.nil ?_; repeat (first | with_reducible refine QN.block_normal ?_ | with_reducible refine QN.next ?_); repeat (first | with_reducible refine WP.seq ?_ | with_reducible refine WP.block ?_ | with_reducible refine WP.region ?_)
  refine WP.condF rfl ?_
  repeat (first | with_reducible refine WP.seq ?_ | with_reducible refine WP.block ?_ | with_reducible refine WP.region ?_)
  refine RL.auto T_ok rfl ?_
  refine RL.nil ?_; repeat (first | with_reducible refine QN.block_normal ?_ | with_reducible refine QN.next ?_); repeat (first | with_reducible refine WP.seq ?_ | with_reducible refine WP.block ?_ | with_reducible refine WP.region ?_)
  refine WP.condT rfl ?_
  repeat (first | with_reducible refine WP.seq ?_ | with_reducible refine WP.block ?_ | with_reducible refine WP.region ?_)
  refine RL.alloc T_ok rfl rfl (fun b5 m1 hb5 hC1 => ⟨_, rfl, ?_⟩)
  have l1 := h1.lt
  have l2 := h2.lt
  have l3 := h3.lt
  have l4 := h4.lt
  have lb := hB.lt
  refine RL.storeAgg T_ok (b := b5) (i := 0) (vs := [.int .i64 e]) (cs := [.int .i64 0]) hC1.blk rfl rfl rfl rfl rfl (by simp) (by simp [Value.oneCell']) rfl ?_
  intro m2 hC2
  have up : ∀ {k : Nat} {t : TypeId} {cs : List Value}, Blk m k t cs → Blk m2 k t cs := fun h => (h.far hC1 (by have := h.lt; omega)).far hC2 (by have := h.lt; omega)
  have g1 := up h1
  have g2 := up h2
  have g3 := up h3
  have g4 := up h4
  have gb := up hB
  have hB5 : Blk m2 b5 82 [.int .i64 e] := hC2.blk
  have hE2 : Ext m [] m2 := (hC1.new (by omega)).trans hC2.ext (fun k hk => .inr (by have h9 : k = b5 := (by simpa using hk); omega))
  refine RL.nil (QN.next ?_)
  refine WP.seq ?_
  refine WP.drawQ (fun m' => Blk m' b5 82 [.int .i64 e]) [4] (by kernel_rfl) hB5 (by repeat (first | with_reducible exact PanicOk.body | with_reducible refine PanicOk.then_ ?_ | with_reducible refine PanicOk.block_ ?_)) (fun hQ => ?_)
  refine RH.pure T_ok hQ [0] (by kernel_rfl) rfl ?_
  refine RH.load T_ok hQ 1 (fun m' hm' => hm'.cell 0 rfl) rfl (by kernel_rfl) rfl rfl rfl rfl ?_
  refine RH.only 2 rfl (by kernel_rfl) (fun _ => ?_)
  refine RL.store T_ok g1 (i := 0) (v := .slice none 0 0) (by simp) rfl rfl rfl rfl rfl rfl ?_
  intro m3 hC3
  refine RL.nil (RH.cont (hB5.far hC3 (by omega)) ?_)
  refine RH.only 3 rfl (by kernel_rfl) (fun hB53 => ?_)
  refine RL.store T_ok (g2.far hC3 (by omega)) (i := 0) (v := .bool false) (by simp) rfl rfl rfl rfl rfl rfl ?_
  intro m4 hC4
  refine RL.nil (RH.cont (hB53.far hC4 (by omega)) ?_)
  refine RH.only 4 rfl (by kernel_rfl) (fun hB54 => ?_)
  refine RL.store T_ok ((g3.far hC3 (by omega)).far hC4 (by omega)) (i := 0) (v := .int .i64 e) (by simp) rfl rfl rfl rfl rfl rfl ?_
  intro m5 hC5
  have hB55 := hB54.far hC5 (by omega)
  refine RL.nil (RF.last (by kernel_rfl) ?_)
  repeat (first | with_reducible refine QN.block_normal ?_ | with_reducible refine QN.next ?_)
  repeat (first | with_reducible refine WP.seq ?_ | with_reducible refine WP.block ?_ | with_reducible refine WP.region ?_)
  have up5 : ∀ {k : Nat} {t : TypeId} {cs : List Value}, Blk m2 k t cs → k ≠ b1 → k ≠ b2 → k ≠ b3 → Blk m5 k t cs := fun h a c d => ((h.far hC3 a).far hC4 c).far hC5 d
  refine RL.load T_ok rfl rfl rfl ((up5 g4 (by omega) (by omega) (by omega)).cell 0 rfl) rfl ?_
  refine RL.auto T_ok rfl ?_
  refine RL.load T_ok rfl rfl rfl (hB55.cell 0 rfl) rfl ?_
  refine RL.auto T_ok rfl ?_
  refine RL.store T_ok (up5 gb (by omega) (by omega) (by omega)) (i := 1) (v := .int .i64 e) (by simp) rfl rfl rfl rfl rfl rfl ?_
  intro m6 hC6
  refine RL.nil (QN.block_normal ?_)
  refine QN.end0 rfl ⟨rfl, rfl, ((Chg.blk (cs := [.slice none 0 0]) hC3).far hC4 (by omega)).far hC5 (by omega) |>.far hC6 (by omega), ((Chg.blk (cs := [.bool false]) hC4).far hC5 (by omega)).far hC6 (by omega), (Chg.blk (cs := [.int .i64 e]) hC5).far hC6 (by omega), hC6.blk, ?_⟩
  have hm : ∀ {a c : World} {k : Nat} {o : Obj}, Chg a k o c → k ∈ [b1, b2, b3, b] → Ext a [b1, b2, b3, b] c := fun h hk => h.ext.mono (fun q hq _ => by have h9 : q = _ := List.mem_singleton.1 hq; rw [h9]; exact hk)
  exact ((((hE2.mono (M' := [b1, b2, b3, b]) (by simp)).trans (hm hC3 (by simp)) (fun k hk => .inl hk)).trans (hm hC4 (by simp)) (fun k hk => .inl hk)).trans (hm hC5 (by simp)) (fun k hk => .inl hk)).trans (hm hC6 (by simp)) (fun k hk => .inl hk)
/-- A Reader at block b: what is left, its failure; its bytes lie in blocks of S, and in none of M. -/
def FAt (m : World) (M : List Nat) (b : Nat) (l : List UInt8) (e : Int) : Prop := ∃ v, Blk m b 40 [v, .int .i64 e] ∧ Bs m M v l
theorem FAt.lt {m : World} {M : List Nat} {b : Nat} {l : List UInt8} {e : Int} (h : FAt m M b l e) : b < m.heap.size := by obtain ⟨v, h, _⟩ := h; exact h.lt
theorem FAt.ext {m m' : World} {M M' N : List Nat} {b : Nat} {l : List UInt8} {e : Int} (h : FAt m M b l e) (hE : Ext m N m') (hb : b ∉ N) (hN : ∀ k ∈ N, k < m.heap.size → k ∈ M) (hM : ∀ k ∈ M', k ∈ M ∨ m.heap.size ≤ k) : FAt m' M' b l e := by
  obtain ⟨v, hB, hS⟩ := h
  exact ⟨v, hB.ext hE hb, Sl.ext hS (hE.mono hN) hM (by omega)⟩
/-- What Next tells. -/
def FNPost (m : World) (M : List Nat) (b : Nat) (l : List UInt8) (e : Int) (r : Value) (m' : World) : Prop :=
  Ext m [b] m' ∧ ((∃ q, (if e = 0 then nextF l = .error q else q = e) ∧ r = .tuple #[.slice none 0 0, .bool false, .int .i64 q] ∧ FAt m' M b l q) ∨
    (e = 0 ∧ ∃ x k u S', nextF l = .ok (x, k) ∧ r = .tuple #[u, .bool true, .int .i64 0] ∧ Own m' S' 5 1 u x.length (u8s x) ∧ FpNew m [] S' ∧ FAt m' M b (l.drop k) 0))
theorem nextF_k {l x : List UInt8} {k : Nat} (h : nextF l = .ok (x, k)) : k ≤ l.length := by
  unfold nextF at h
  split at h
  · cases h
  · split at h
    · cases h
    · split at h
      · cases h
      · split at h
        · injection h with h; simp only [Prod.mk.injEq] at h; omega
        · cases h
theorem next_res {n : Nat} {e : Env} {D : Fr} {m : World} {b1 b2 b3 : Nat} {v1 v2 v3 : Value} (h1 : e.get 2 = some (.pointer (some ⟨b1, 0, none⟩))) (h2 : e.get 3 = some (.pointer (some ⟨b2, 0, none⟩))) (h3 : e.get 4 = some (.pointer (some ⟨b3, 0, none⟩)))
    (c1 : m.cell? ⟨b1, 0, none⟩ = some v1) (c2 : m.cell? ⟨b2, 0, none⟩ = some v2) (c3 : m.cell? ⟨b3, 0, none⟩ = some v3) : Res Try.prog Try.f21 n e D m (.tuple #[v1, v2, v3]) :=
  Res.cell3 T_ok rfl h1 h2 h3 rfl rfl rfl c1 c2 c3
set_option maxRecDepth 4000 in
set_option maxHeartbeats 1000000 in
theorem fnextR_c (m : World) (M : List Nat) (hM : ∀ k ∈ M, k < m.heap.size) (b : Nat) (l : List UInt8) (e : Int) (h : FAt m M b l e) (hbM : b ∈ M) (hl : l.length < 800000000) :
    FnR Try.prog 21 [.pointer (some ⟨b, 0, none⟩)] m (FNPost m M b l e) := by
  obtain ⟨v, hB, hS⟩ := h
  have lb := hB.lt
  refine FnE.enterD ⟨_, Try.func21, by kernel_rfl, by kernel_rfl⟩ Try.func21 rfl rfl ?_
  repeat (first | with_reducible refine WP.seq ?_ | with_reducible refine WP.block ?_ | with_reducible refine WP.region ?_)
  refine RL.box rfl rfl (fun b4 m1 hb4 hC1 => ⟨_, rfl, ?_⟩)
  refine RL.alloc T_ok rfl rfl (fun b1 m2 hb1 hC2 => ⟨_, rfl, ?_⟩)
  refine RL.alloc T_ok rfl rfl (fun b2 m3 hb2 hC3 => ⟨_, rfl, ?_⟩)
  refine RL.alloc T_ok rfl rfl (fun b3 m4 hb3 hC4 => ⟨_, rfl, ?_⟩)
  have s1 := hC1.size
  have s2 := hC2.size
  have s3 := hC3.size
  have s4 := hC4.size
  have hE4 : Ext m [] m4 := (((hC1.new (by omega)).trans (hC2.new (by omega)) (by simp)).trans (hC3.new (by omega)) (by simp)).trans (hC4.new (by omega)) (by simp)
  have g4 : Blk m4 b4 80 [.pointer (some ⟨b, 0, none⟩)] := (((Chg.blk (cs := [.pointer (some ⟨b, 0, none⟩)]) hC1).far hC2 (by omega)).far hC3 (by omega)).far hC4 (by omega)
  have g1 : Blk m4 b1 23 [.slice none 0 0] := ((Chg.blk (cs := [.slice none 0 0]) hC2).far hC3 (by omega)).far hC4 (by omega)
  have g2 : Blk m4 b2 4 [.bool false] := (Chg.blk (cs := [.bool false]) hC3).far hC4 (by omega)
  have g3 : Blk m4 b3 25 [.int .i64 0] := hC4.blk
  have gB : Blk m4 b 40 [v, .int .i64 e] := hB.ext hE4 (by simp)
  have gS : Bs m4 M v l := Sl.ext hS (hE4.mono (by simp)) (fun _ hk => .inl hk) (by omega)
  have hbb : b1 ≠ b2 ∧ b1 ≠ b3 ∧ b1 ≠ b4 ∧ b1 ≠ b ∧ b2 ≠ b3 ∧ b2 ≠ b4 ∧ b2 ≠ b ∧ b3 ≠ b4 ∧ b3 ≠ b ∧ b4 ≠ b := by omega
  refine RL.auto T_ok rfl ?_
  refine RL.nil ?_; repeat (first | with_reducible refine QN.block_normal ?_ | with_reducible refine QN.next ?_); repeat (first | with_reducible refine WP.seq ?_ | with_reducible refine WP.block ?_ | with_reducible refine WP.region ?_)
  refine RL.load T_ok rfl rfl rfl (g4.cell 0 rfl) rfl ?_
  refine RL.auto T_ok rfl ?_
  refine RL.load T_ok rfl rfl rfl (gB.cell 1 rfl) rfl ?_
  refine RL.auto T_ok rfl ?_
  refine RL.nil ?_; repeat (first | with_reducible refine QN.block_normal ?_ | with_reducible refine QN.next ?_); repeat (first | with_reducible refine WP.seq ?_ | with_reducible refine WP.block ?_ | with_reducible refine WP.region ?_)
  refine WP.cond rfl (fun hc => ?_) (fun hc => ?_)
  · have he : e ≠ 0 := by simpa using hc
    refine WP.seq ?_
    refine WP.calm ?_
    refine WP.drawQ (fun m' => Blk m' b4 80 [.pointer (some ⟨b, 0, none⟩)] ∧ Blk m' b 40 [v, .int .i64 e]) [6] (by kernel_rfl) ⟨g4, gB⟩ PanicOk.calm (fun hQ => ?_)
    refine RH.load T_ok hQ 0 (fun m' hm' => hm'.1.cell 0 rfl) rfl (by kernel_rfl) rfl rfl rfl rfl ?_
    refine RH.pure T_ok hQ [1, 2] (by kernel_rfl) rfl ?_
    refine RH.load T_ok hQ 3 (fun m' hm' => hm'.2.cell 1 rfl) rfl (by kernel_rfl) rfl rfl rfl rfl ?_
    refine RH.only 4 rfl (by kernel_rfl) (fun _ => ?_)
    refine RL.store T_ok g1 (i := 0) (v := .slice none 0 0) (by simp) rfl rfl rfl rfl rfl rfl ?_
    intro m5 hC5
    refine RL.nil (RH.cont ⟨g4.far hC5 (by omega), gB.far hC5 (by omega)⟩ ?_)
    refine RH.only 5 rfl (by kernel_rfl) (fun hJ => ?_)
    refine RL.store T_ok (g2.far hC5 (by omega)) (i := 0) (v := .bool false) (by simp) rfl rfl rfl rfl rfl rfl ?_
    intro m6 hC6
    refine RL.nil (RH.cont ⟨hJ.1.far hC6 (by omega), hJ.2.far hC6 (by omega)⟩ ?_)
    refine RH.only 6 rfl (by kernel_rfl) (fun hJ => ?_)
    refine RL.store T_ok ((g3.far hC5 (by omega)).far hC6 (by omega)) (i := 0) (v := .int .i64 e) (by simp) rfl rfl rfl rfl rfl rfl ?_
    intro m7 hC7
    have hE7 : Ext m [] m7 := ((hE4.trans hC5.ext (fun k hk => .inr (by have h9 : k = b1 := (by simpa using hk); omega))).trans hC6.ext (fun k hk => .inr (by have h9 : k = b2 := (by simpa using hk); omega))).trans hC7.ext (fun k hk => .inr (by have h9 : k = b3 := (by simpa using hk); omega))
    refine RL.nil (RF.last (by kernel_rfl) ?_)
    refine QN.calm ?_
    repeat (first | with_reducible refine QN.block_normal ?_ | with_reducible refine QN.next ?_)
    refine WP.ret ?_; repeat (first | with_reducible refine QN.then_ret ?_ | with_reducible refine QN.block_ret ?_)
    have c1 := ((hC5.blk.far hC6 (by omega)).far hC7 (by omega)).cell 0 rfl
    have c2 := (hC6.blk.far hC7 (by omega)).cell 0 rfl
    have c3 := hC7.blk.cell 0 rfl
    refine QN.leave0 (next_res rfl rfl rfl c1 c2 c3) ⟨_, rfl, hE7.mono (by simp), .inl ⟨e, by rw [if_neg he], rfl, v, hJ.2.far hC7 (by omega), Sl.ext hS (hE7.mono (by simp)) (fun _ hk => .inl hk) (by omega)⟩⟩
  have he : e = 0 := by simpa using hc
  subst he
  refine WP.skip ?_; repeat (first | with_reducible refine QN.block_normal ?_ | with_reducible refine QN.next ?_); repeat (first | with_reducible refine WP.seq ?_ | with_reducible refine WP.block ?_ | with_reducible refine WP.region ?_)
  refine RL.auto T_ok rfl ?_
  refine RL.defer rfl rfl rfl ?_
  refine RL.nil ?_; repeat (first | with_reducible refine QN.block_normal ?_ | with_reducible refine QN.next ?_); repeat (first | with_reducible refine WP.seq ?_ | with_reducible refine WP.block ?_ | with_reducible refine WP.region ?_)
  refine RL.load T_ok rfl rfl rfl (g4.cell 0 rfl) rfl ?_
  refine RL.auto T_ok rfl ?_
  refine RL.load T_ok rfl rfl rfl (gB.cell 0 rfl) rfl ?_
  refine RL.callE (fi := []) (ca := []) rfl rfl rfl rfl (fnext_c m4 M (fun k hk => Nat.lt_of_lt_of_le (hM k hk) hE4.size) v l gS hl) ?_ ?_ ?_
  · rintro r m5 ⟨hE5, ⟨x, k, u, S5, hnx, h5, hO5, hF5⟩ | ⟨_, _, h5⟩⟩
    rotate_left
    · cases h5
    injection h5 with h5
    subst h5
    have hk := nextF_k hnx
    refine ⟨_, rfl, ?_⟩
    refine RL.auto T_ok rfl ?_
    have f4 := g4.ext hE5 (by simp)
    have f1 := g1.ext hE5 (by simp)
    have f2 := g2.ext hE5 (by simp)
    have f3 := g3.ext hE5 (by simp)
    have fB := gB.ext hE5 (by simp)
    have z5 := hE5.size
    refine RL.store T_ok f1 (i := 0) (v := u) (by simp) rfl rfl rfl rfl hO5.one rfl ?_
    intro m6 hC6
    have hS5 : ∀ q ∈ S5, m4.heap.size ≤ q := fun q hq => by
      rcases hF5 q hq with h9 | h9
      · cases h9
      · exact h9
    have hO6 := hO5.ext hC6.ext (fun q hq hq' => by have h9 : q = b1 := (by simpa using hq'); have := hS5 q hq; omega)
    have up6 : ∀ {q : Nat} {t : TypeId} {cs : List Value}, Blk m5 q t cs → q ≠ b1 → Blk m6 q t cs := fun h hq => h.far hC6 hq
    refine RL.auto T_ok rfl ?_
    refine RL.nil ?_; repeat (first | with_reducible refine QN.block_normal ?_ | with_reducible refine QN.next ?_); repeat (first | with_reducible refine WP.seq ?_ | with_reducible refine WP.block ?_ | with_reducible refine WP.region ?_)
    have hS6 : Bs m6 [] v l := by
      obtain ⟨A, n, c, hv, hnc, hc, hl2, hA, hr⟩ := hS
      refine ⟨A, n, c, hv, hnc, hc, hl2, hA, fun hn => ?_⟩
      obtain ⟨ad, had, hb0, hcell⟩ := hr hn
      refine ⟨ad, had, by simp, fun j u hu => ?_⟩
      have h0 := hcell j u hu
      have hlt := World.block_lt_of_cell? m _ h0
      rw [block_add] at hlt
      exact hC6.ext.cell (by rw [block_add]; simp; omega) (hE5.cell (by simp) (hE4.cell (by simp) h0))
    obtain ⟨A, c, rfl, hlc, hcm⟩ := hS6.shape
    have hJ : ∀ m', Ext m6 [] m' → Blk m' b4 80 [.pointer (some ⟨b, 0, none⟩)] ∧ Blk m' b 40 [.slice A l.length c, .int .i64 0] := fun m' h => ⟨(up6 f4 (by omega)).ext h (by simp), (up6 fB (by omega)).ext h (by simp)⟩
    refine WP.calm ?_
    refine WP.drawQ (fun m' => Blk m' b4 80 [.pointer (some ⟨b, 0, none⟩)] ∧ Blk m' b 40 [.slice A l.length c, .int .i64 0]) [10] (by kernel_rfl) (hJ m6 (Ext.refl _ _)) PanicOk.calm (fun hQ => ?_)
    refine RH.load T_ok hQ 0 (fun m' hm' => hm'.1.cell 0 rfl) rfl (by kernel_rfl) rfl rfl rfl rfl ?_
    refine RH.load T_ok hQ 1 (fun m' hm' => hm'.1.cell 0 rfl) rfl (by kernel_rfl) rfl rfl rfl rfl ?_
    refine RH.pure T_ok hQ [2, 3] (by kernel_rfl) rfl ?_
    refine RH.load T_ok hQ 4 (fun m' hm' => hm'.2.cell 0 rfl) rfl (by kernel_rfl) rfl rfl rfl rfl ?_
    refine RH.pure T_ok hQ [5] (by kernel_rfl) rfl ?_
    refine RH.sliceFrom T_ok hQ 6 (l := k) rfl (by kernel_rfl) rfl rfl rfl rfl rfl hk rfl ?_
    refine RH.only 7 rfl (by kernel_rfl) (fun _ => ?_)
    have hdr : Bs m6 [] (.slice (if c = k then A else A.map (·.add (k * 1))) (l.length - k) (c - k)) (l.drop k) := by
      have h9 := Sl.from_ hS6 (l := k) hk
      rw [show (u8s l).drop (k * 1) = u8s (l.drop k) by rw [Nat.mul_one, u8s_drop]] at h9
      exact h9
    refine RL.call (fi := []) (ca := []) rfl rfl rfl rfl (clone_bytes m6 [] _ (l.drop k) hdr (by simp; omega)) ?_
    rintro w m7 ⟨S7, hO7, hN7⟩
    refine ⟨_, rfl, RL.nil (RH.cont (hJ m7 hN7.1) ?_)⟩
    refine RH.pure T_ok hQ [8, 9] (by kernel_rfl) rfl ?_
    refine RH.only 10 rfl (by kernel_rfl) (fun hJ7 => ?_)
    refine RL.store T_ok hJ7.2 (i := 0) (v := w) (by simp) rfl rfl rfl rfl hO7.one rfl ?_
    intro m8 hC8
    have z6 := hC6.size
    have z7 := hN7.1.size
    have hS7 : ∀ q ∈ S7, m6.heap.size ≤ q := hN7.ge
    have hO8 := hO7.ext hC8.ext (fun q hq hq' => by have h9 : q = b := (by simpa using hq'); have := hS7 q hq; omega)
    have hu8 : Own m8 S5 5 1 u x.length (u8s x) := (hO6.ext hN7.1 (by simp)).ext hC8.ext (fun q hq hq' => by have h9 : q = b := (by simpa using hq'); have := hS5 q hq; omega)
    have hE8 : Ext m [b] m8 := by
      have a1 : Ext m [] m6 := (hE4.trans hE5 (by simp)).trans hC6.ext (fun q hq => .inr (by have h9 : q = b1 := (by simpa using hq); omega))
      exact ((a1.trans hN7.1 (by simp)).mono (M' := [b]) (by simp)).trans hC8.ext (fun q hq => .inl hq)
    refine RL.nil (RF.last (by kernel_rfl) ?_)
    refine QN.calm ?_
    repeat (first | with_reducible refine QN.block_normal ?_ | with_reducible refine QN.next ?_)
    repeat (first | with_reducible refine WP.seq ?_ | with_reducible refine WP.block ?_ | with_reducible refine WP.region ?_)
    have k1 : Blk m8 b1 23 [u] := ((Chg.blk (cs := [u]) hC6).ext hN7.1 (by simp)).far hC8 (by omega)
    have k2 : Blk m8 b2 4 [.bool false] := ((up6 f2 (by omega)).ext hN7.1 (by simp)).far hC8 (by omega)
    have k3 : Blk m8 b3 25 [.int .i64 0] := ((up6 f3 (by omega)).ext hN7.1 (by simp)).far hC8 (by omega)
    refine RL.load T_ok rfl rfl rfl (k1.cell 0 rfl) rfl ?_
    refine RL.store T_ok k1 (i := 0) (v := u) (by simp) rfl rfl rfl rfl hu8.one rfl ?_
    intro m9 hC9
    refine RL.store T_ok (k2.far hC9 (by omega)) (i := 0) (v := .bool true) (by simp) rfl rfl rfl rfl rfl rfl ?_
    intro m10 hC10
    refine RL.store T_ok ((k3.far hC9 (by omega)).far hC10 (by omega)) (i := 0) (v := .int .i64 0) (by simp) rfl rfl rfl rfl rfl rfl ?_
    intro m11 hC11
    have z8 := hC8.size
    have hE11 : Ext m8 [b1, b2, b3] m11 := ((hC9.ext.mono (M' := [b1, b2, b3]) (by simp)).trans hC10.ext (by simp)).trans hC11.ext (by simp)
    have hnew : ∀ {S : List Nat}, (∀ q ∈ S, m4.heap.size ≤ q) → ∀ q ∈ S, q ∉ [b1, b2, b3] := fun h q hq hq' => by have := h q hq; simp at hq'; omega
    have hO11 : Own m11 S7 5 1 w (l.drop k).length (u8s (l.drop k)) := hO8.ext hE11 (hnew (fun q hq => by have := hS7 q hq; omega))
    have hu11 : Own m11 S5 5 1 u x.length (u8s x) := hu8.ext hE11 (hnew hS5)
    refine RL.nil ?_; repeat (first | with_reducible refine QN.block_normal ?_ | with_reducible refine QN.next ?_); repeat (first | with_reducible refine WP.seq ?_ | with_reducible refine WP.block ?_ | with_reducible refine WP.region ?_)
    refine WP.ret ?_; repeat (first | with_reducible refine QN.then_ret ?_ | with_reducible refine QN.block_ret ?_)
    have c1 := ((hC9.blk.far hC10 (by omega)).far hC11 (by omega)).cell 0 rfl
    have c2 := (hC10.blk.far hC11 (by omega)).cell 0 rfl
    have c3 := hC11.blk.cell 0 rfl
    have kB := hC8.blk.ext hE11 (by simp; omega)
    have hpost : FNPost m M b l 0 (.tuple #[u, .bool true, .int .i64 0]) m11 := by
      refine ⟨hE8.trans hE11 (fun q hq => .inr (by simp at hq; omega)), .inr ⟨rfl, x, k, u, S5, hnx, rfl, hu11, fun q hq => .inr (by have := hS5 q hq; omega), w, kB, hO11.sl ?_⟩⟩
      intro q hq hq'
      have := hS7 q hq
      have := hM q hq'
      omega
    refine QN.leave (fi := []) (ca := [.pointer (some ⟨b1, 0, none⟩), .pointer (some ⟨b2, 0, none⟩), .pointer (some ⟨b3, 0, none⟩), .pointer (some ⟨b4, 0, none⟩)]) (.inl ⟨rfl, rfl⟩) rfl (nextD_ret m11 b1 b2 b3 b4) ?_ ?_ ?_
    · rintro _ u' m12 ⟨_, rfl, rfl⟩
      exact .inl ⟨rfl, _, next_res rfl rfl rfl c1 c2 c3, ⟨_, rfl, hpost⟩⟩
    · rintro ch u' m4 ⟨h, _⟩; cases h
    · rintro u' m4 ⟨h, _⟩; cases h
  · rintro ch m5 ⟨hE5, ⟨_, _, _, _, _, h5, _⟩ | ⟨q, hnx, h5⟩⟩
    · cases h5
    injection h5 with h5
    subst h5
    have f4 := g4.ext hE5 (by simp)
    have f1 := g1.ext hE5 (by simp)
    have f2 := g2.ext hE5 (by simp)
    have f3 := g3.ext hE5 (by simp)
    have fB := gB.ext hE5 (by simp)
    refine QN.then_panic (QN.leave (fi := []) (ca := [.pointer (some ⟨b1, 0, none⟩), .pointer (some ⟨b2, 0, none⟩), .pointer (some ⟨b3, 0, none⟩), .pointer (some ⟨b4, 0, none⟩)]) (.inr (.inr ⟨_, rfl, rfl⟩)) rfl (nextD_pan m5 b b1 b2 b3 b4 q v _ _ _ 0 f1 f2 f3 f4 fB hbb) ?_ ?_ ?_)
    · rintro _ u' m6 ⟨_, hu, k1, k2, k3, kB, hE6⟩
      have hE : Ext m [b] m6 := ((hE4.trans hE5 (by simp)).mono (M' := [b]) (by simp)).trans hE6 (fun q hq => by
        simp only [List.mem_cons, List.not_mem_nil, or_false] at hq
        rcases hq with rfl | rfl | rfl | rfl
        · exact .inr (by omega)
        · exact .inr (by omega)
        · exact .inr (by omega)
        · exact .inl (by simp))
      have c1 := k1.cell 0 rfl
      have c2 := k2.cell 0 rfl
      have c3 := k3.cell 0 rfl
      have hpost : FNPost m M b l 0 (.tuple #[.slice none 0 0, .bool false, .int .i64 q]) m6 := ⟨hE, .inl ⟨q, by rw [if_pos rfl]; exact hnx, rfl, v, kB, Sl.ext hS (hE.mono (by simp [hbM])) (fun _ hk => .inl hk) (by omega)⟩⟩
      exact .inl ⟨hu, _, next_res rfl rfl rfl c1 c2 c3, ⟨_, rfl, hpost⟩⟩
    · rintro ch u' m4 ⟨h, _⟩; cases h
    · rintro u' m4 ⟨h, _⟩; cases h
  · rintro m5 ⟨_, ⟨_, _, _, _, _, h5, _⟩ | ⟨_, _, h5⟩⟩ <;> cases h5
end Go.Proofs.Ytkfakfbndnbpiaa
