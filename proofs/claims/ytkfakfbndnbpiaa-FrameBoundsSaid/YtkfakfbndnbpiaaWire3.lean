/- The Reader of package wire. The lengths stay below 2^30. -/
import Derived.Test.YtkfakfbndnbpiaaWire2
namespace Go.Proofs.Ytkfakfbndnbpiaa
open Go.RowKit Go.Ev

/-- A Reader at block b: what is left, its failure; its bytes lie in none of the blocks of M. -/
def RAt (m : World) (M : List Nat) (b : Nat) (l : List UInt8) (e : Int) : Prop := ∃ v, Blk m b 133 [v, .int .i64 e] ∧ Bs m M v l
theorem RAt.lt {m : World} {M : List Nat} {b : Nat} {l : List UInt8} {e : Int} (h : RAt m M b l e) : b < m.heap.size := by obtain ⟨v, h, _⟩ := h; exact h.lt
theorem RAt.ext {m m' : World} {M M' N : List Nat} {b : Nat} {l : List UInt8} {e : Int} (h : RAt m M b l e) (hE : Ext m N m') (hb : b ∉ N) (hN : ∀ k ∈ N, k < m.heap.size → k ∈ M) (hM : ∀ k ∈ M', k ∈ M ∨ m.heap.size ≤ k) : RAt m' M' b l e := by
  obtain ⟨v, hB, hS⟩ := h
  exact ⟨v, hB.ext hE hb, Sl.ext hS (hE.mono hN) hM (by omega)⟩
theorem RAt.new {m m' : World} {M : List Nat} {b : Nat} {l : List UInt8} {e : Int} (h : RAt m M b l e) (hE : Ext m [] m') : RAt m' M b l e := h.ext hE (by simp) (by simp) (fun _ hk => .inl hk)

theorem take_c (m : World) (M : List Nat) (b : Nat) (l : List UInt8) (e : Int) (h : RAt m M b l e) (hbM : b ∈ M) (n : Nat) :
    FnE Try.prog 134 [.pointer (some ⟨b, 0, none⟩), .int .i64 n] m fun ed m' =>
      (n ≤ l.length ∧ ∃ v, ed = .returned v ∧ Bs m' M v (l.take n) ∧ RAt m' M b (l.drop n) e ∧ Ext m [b] m') ∨ (l.length < n ∧ ed = .panicked (brk 10) ∧ m' = m) := by
  obtain ⟨v, hB, hS⟩ := h
  obtain ⟨A, c, rfl, hlc, hcm⟩ := hS.shape
  refine FnE.enter ⟨_, Try.func134, by kernel_rfl, by kernel_rfl⟩ Try.func134 rfl rfl ?_
  repeat (first | with_reducible refine WP.seq ?_ | with_reducible refine WP.block ?_ | with_reducible refine WP.region ?_)
  refine RL.auto T_ok rfl ?_
  refine RL.nil ?_; repeat (first | with_reducible refine QN.block_normal ?_ | with_reducible refine QN.next ?_); repeat (first | with_reducible refine WP.seq ?_ | with_reducible refine WP.block ?_ | with_reducible refine WP.region ?_)
  refine RL.auto T_ok rfl ?_
  refine RL.load T_ok rfl rfl rfl (hB.cell 0 rfl) rfl ?_
  refine RL.auto T_ok rfl ?_
  refine RL.nil ?_; repeat (first | with_reducible refine QN.block_normal ?_ | with_reducible refine QN.next ?_); repeat (first | with_reducible refine WP.seq ?_ | with_reducible refine WP.block ?_ | with_reducible refine WP.region ?_)
  refine WP.cond rfl (fun hc => ?_) (fun hc => ?_)
  · have hc : l.length < n := by have := of_decide_eq_true hc; omega
    repeat (first | with_reducible refine WP.seq ?_ | with_reducible refine WP.block ?_ | with_reducible refine WP.region ?_)
    refine RL.callE (fi := []) (ca := []) rfl rfl rfl rfl (fail_c m 10) ?_ ?_ ?_
    · rintro v m' ⟨_, h⟩; cases h
    · rintro ch m' ⟨rfl, h⟩
      injection h with h
      subst h
      exact QN.panic (.inr ⟨hc, rfl, rfl⟩)
    · rintro m' ⟨_, h⟩; cases h
  · have hc : n ≤ l.length := by have := of_decide_eq_false hc; omega
    refine WP.skip ?_; repeat (first | with_reducible refine QN.block_normal ?_ | with_reducible refine QN.next ?_); repeat (first | with_reducible refine WP.seq ?_ | with_reducible refine WP.block ?_ | with_reducible refine WP.region ?_)
    refine RL.auto T_ok rfl ?_
    refine RL.load T_ok rfl rfl rfl (hB.cell 0 rfl) rfl ?_
    refine RL.auto T_ok rfl ?_
    refine RL.sliceTo3 (l := n) (q := n) T_ok rfl rfl rfl rfl rfl rfl rfl (Nat.le_refl _) (by omega) rfl ?_
    refine RL.auto T_ok rfl ?_
    refine RL.nil ?_; repeat (first | with_reducible refine QN.block_normal ?_ | with_reducible refine QN.next ?_); repeat (first | with_reducible refine WP.seq ?_ | with_reducible refine WP.block ?_ | with_reducible refine WP.region ?_)
    refine RL.auto T_ok rfl ?_
    refine RL.load T_ok rfl rfl rfl (hB.cell 0 rfl) rfl ?_
    refine RL.auto T_ok rfl ?_
    refine RL.sliceFrom (l := n) T_ok rfl rfl rfl rfl rfl hc rfl ?_
    refine RL.auto T_ok rfl ?_
    refine RL.store T_ok hB (i := 0) (by simp) rfl rfl rfl rfl rfl rfl ?_
    intro m1 hC
    have hE := hC.ext
    have h1 := Sl.upto hS hc (Nat.le_refl n) (by omega)
    have h2 := Sl.from_ hS hc
    rw [show (u8s l).take (n * 1) = u8s (l.take n) by rw [Nat.mul_one, u8s_take]] at h1
    rw [show (u8s l).drop (n * 1) = u8s (l.drop n) by rw [Nat.mul_one, u8s_drop]] at h2
    have hEM : Ext m M m1 := hE.mono (by simp [hbM])
    refine RL.nil ?_; repeat (first | with_reducible refine QN.block_normal ?_ | with_reducible refine QN.next ?_); repeat (first | with_reducible refine WP.seq ?_ | with_reducible refine WP.block ?_ | with_reducible refine WP.region ?_)
    refine RL.auto T_ok rfl ?_
    refine RL.nil ?_; repeat (first | with_reducible refine QN.block_normal ?_ | with_reducible refine QN.next ?_); repeat (first | with_reducible refine WP.seq ?_ | with_reducible refine WP.block ?_ | with_reducible refine WP.region ?_)
    refine WP.ret ?_; repeat (first | with_reducible refine QN.then_ret ?_ | with_reducible refine QN.block_ret ?_)
    refine QN.ret1 rfl rfl (.inl ⟨hc, _, rfl, Sl.ext h1 hEM (fun _ hk => .inl hk) (by omega), ⟨_, hC.blk, Sl.ext h2 hEM (fun _ hk => .inl hk) (by omega)⟩, hE⟩)

/-- How a number's reading ends. -/
def UPost (m : World) (M : List Nat) (b : Nat) (e : Int) (r : Except Int (Nat × List UInt8)) (ed : Ending) (m' : World) : Prop :=
  Ext m [b] m' ∧ ((∃ n l', r = .ok (n, l') ∧ ed = .returned (.int .u64 n) ∧ RAt m' M b l' e) ∨ ∃ k l', r = .error k ∧ ed = .panicked (brk k) ∧ RAt m' M b l' e)
set_option maxHeartbeats 400000 in
theorem uint_c (m : World) (M : List Nat) (b : Nat) (l : List UInt8) (e : Int) (h : RAt m M b l e) (hbM : b ∈ M) (most : Nat) :
    FnE Try.prog 113 [.pointer (some ⟨b, 0, none⟩), .int .u64 most] m (UPost m M b e (rdU most 0 0 l)) := by
  refine FnE.enter ⟨_, Try.func113, by kernel_rfl, by kernel_rfl⟩ Try.func113 rfl rfl ?_
  repeat (first | with_reducible refine WP.seq ?_ | with_reducible refine WP.block ?_ | with_reducible refine WP.region ?_)
  refine RL.auto T_ok rfl ?_
  refine RL.nil ?_; repeat (first | with_reducible refine QN.block_normal ?_ | with_reducible refine QN.next ?_); repeat (first | with_reducible refine WP.seq ?_ | with_reducible refine WP.block ?_ | with_reducible refine WP.region ?_)
  refine RL.auto T_ok rfl ?_
  refine RL.nil ?_; repeat (first | with_reducible refine QN.block_normal ?_ | with_reducible refine QN.next ?_); repeat (first | with_reducible refine WP.seq ?_ | with_reducible refine WP.block ?_ | with_reducible refine WP.region ?_)
  refine RL.auto T_ok rfl ?_
  refine RL.nil ?_; repeat (first | with_reducible refine QN.block_normal ?_ | with_reducible refine QN.next ?_); repeat (first | with_reducible refine WP.seq ?_ | with_reducible refine WP.block ?_ | with_reducible refine WP.region ?_)
  refine WP.loop (X := Nat × Nat × List UInt8) (fun x => [(0, .pointer (some ⟨b, 0, none⟩)), (1, .int .u64 most), (5, .int .u64 x.2.1), (6, .int .i64 x.1)])
    (fun x m' => x.1 ≤ 9 ∧ x.2.1 < 128 ^ x.1 ∧ rdU most x.1 x.2.1 x.2.2 = rdU most 0 0 l ∧ RAt m' M b x.2.2 e ∧ Ext m [b] m') (fun x => 10 - x.1) (0, 0, l)
    (Sub.cons rfl (Sub.cons rfl (Sub.cons rfl (Sub.cons rfl Sub.nil)))) ⟨by simp, by simp, rfl, h, Ext.refl _ _⟩ ?_
  rintro ⟨i, n, l1⟩ m1 ⟨hi, hn, hrd, hR, hE⟩
  simp only at hi hn hrd hR
  have hEE : ∀ m2, Ext m1 [b] m2 → Ext m [b] m2 := fun m2 h2 => hE.trans h2 (fun k hk => .inl hk)
  repeat (first | with_reducible refine WP.seq ?_ | with_reducible refine WP.block ?_ | with_reducible refine WP.region ?_)
  refine RL.auto T_ok rfl ?_
  refine RL.callE (fi := []) (ca := []) rfl rfl rfl rfl (take_c m1 M b l1 e hR hbM 1) ?_ ?_ ?_
  rotate_left
  · rintro ch m2 (⟨_, v, h, _⟩ | ⟨hlt, h, rfl⟩)
    · cases h
    · injection h with h
      subst h
      have h0 : l1 = [] := List.eq_nil_of_length_eq_zero (by omega)
      subst h0
      repeat (first | with_reducible refine QN.then_panic ?_ | with_reducible refine QN.block_panic ?_)
      exact QN.panic ⟨hE, .inr ⟨10, [], by rw [← hrd]; rfl, rfl, hR⟩⟩
  · rintro m2 (⟨_, v, h, _⟩ | ⟨_, h, _⟩) <;> cases h
  rintro v m2 (⟨hle, v', h, hB, hR2, hE2⟩ | ⟨_, h, _⟩)
  rotate_left
  · cases h
  injection h with h
  subst h
  match l1, hle with
  | x :: l2, _ =>
  replace hE := hEE _ hE2
  clear hEE hE2 hR
  have hB : Bs m2 M v [x] := hB
  have hR2 : RAt m2 M b l2 e := hR2
  obtain ⟨A, c, rfl, _, _⟩ := hB.shape
  refine ⟨_, rfl, ?_⟩
  refine RL.index T_ok hB (k := 0) rfl (by simp) rfl rfl rfl rfl (fun ad _ _ hcell => ⟨_, rfl, ?_⟩)
  have hx := hcell 0 (.int .u8 x.toNat) rfl
  refine RL.load T_ok rfl rfl rfl (by rw [add_add] at hx; exact hx) rfl ?_
  refine RL.auto T_ok rfl ?_
  refine RL.nil ?_; repeat (first | with_reducible refine QN.block_normal ?_ | with_reducible refine QN.next ?_)
  have hxlt := x.toNat_lt
  have hp : 128 ^ i = 2 ^ (7 * i) := by rw [Nat.pow_mul]
  have hi9 : 128 ^ i ≤ 128 ^ 9 := Nat.pow_le_pow_right (by omega) hi
  -- i == 9 && b > 1
  refine WP.cut (X := Unit) (fun _ => [(0, .pointer (some ⟨b, 0, none⟩)), (1, .int .u64 most), (5, .int .u64 n), (6, .int .i64 i), (7, .int .u8 x.toNat)]) (fun _ m' => m' = m2 ∧ ¬ (i = 9 ∧ 1 < x.toNat)) ?_ ?_
  · have fail : i = 9 ∧ 1 < x.toNat → UPost m M b e (rdU most 0 0 l) (.panicked (brk 11)) m2 := fun hh => ⟨hE, .inr ⟨11, l2, by rw [← hrd]; simp [rdU, hh], rfl, hR2⟩⟩
    repeat (first | with_reducible refine WP.seq ?_ | with_reducible refine WP.block ?_ | with_reducible refine WP.region ?_)
    refine RL.pure T_ok 2 rfl ?_
    by_cases h9 : i = 9
    · refine RL.eqv (v' := .bool true) (by simp [h9]) ?_
      refine RL.auto T_ok rfl ?_
      refine RL.nil ?_; repeat (first | with_reducible refine QN.block_normal ?_ | with_reducible refine QN.next ?_); repeat (first | with_reducible refine WP.seq ?_ | with_reducible refine WP.block ?_ | with_reducible refine WP.region ?_)
      refine WP.cond rfl (fun hc => ?_) (fun hc => ?_)
      · have hc : 1 < x.toNat := by have := of_decide_eq_true hc; omega
        repeat (first | with_reducible refine WP.seq ?_ | with_reducible refine WP.block ?_ | with_reducible refine WP.region ?_)
        refine RL.callE (fi := []) (ca := []) rfl rfl rfl rfl (fail_c m2 11) ?_ ?_ ?_
        · rintro v m' ⟨_, h⟩; cases h
        · rintro ch m' ⟨rfl, h⟩
          injection h with h
          subst h
          repeat (first | with_reducible refine QN.then_panic ?_ | with_reducible refine QN.block_panic ?_)
          exact QN.panic (fail ⟨h9, hc⟩)
        · rintro m' ⟨_, h⟩; cases h
      · have hc : ¬ 1 < x.toNat := by have := of_decide_eq_false hc; omega
        refine WP.skip (QN.cutEnd () (Sub.cons rfl (Sub.cons rfl (Sub.cons rfl (Sub.cons rfl (Sub.cons rfl Sub.nil))))) ⟨rfl, fun hh => hc hh.2⟩)
    · refine RL.eqv (v' := .bool false) (by simp; omega) ?_
      refine RL.auto T_ok rfl ?_
      refine RL.nil ?_; repeat (first | with_reducible refine QN.block_normal ?_ | with_reducible refine QN.next ?_); repeat (first | with_reducible refine WP.seq ?_ | with_reducible refine WP.block ?_ | with_reducible refine WP.region ?_)
      refine WP.condF rfl ?_
      refine WP.skip (QN.cutEnd () (Sub.cons rfl (Sub.cons rfl (Sub.cons rfl (Sub.cons rfl (Sub.cons rfl Sub.nil))))) ⟨rfl, fun hh => h9 hh.1⟩)
  rintro _ m2' ⟨rfl, h9⟩
  have hy : i = 9 → x.toNat ≤ 1 := fun h => by
    rcases Nat.lt_or_ge 1 x.toNat with h1 | h1
    · exact absurd ⟨h, h1⟩ h9
    · exact h1
  have hfit : n + x.toNat % 128 * 128 ^ i < 18446744073709551616 ∧ (i < 9 → n + x.toNat % 128 * 128 ^ i < 128 ^ (i + 1)) := by
    have h1 : x.toNat % 128 * 128 ^ i ≤ 127 * 128 ^ i := Nat.mul_le_mul_right _ (by omega)
    refine ⟨?_, fun _ => by rw [Nat.pow_succ]; omega⟩
    rcases Nat.lt_or_ge i 9 with h | h
    · have : 128 ^ i ≤ 128 ^ 8 := Nat.pow_le_pow_right (by omega) (by omega)
      omega
    · have : i = 9 := by omega
      subst this
      have := hy rfl
      have : x.toNat % 128 * 128 ^ 9 ≤ 1 * 128 ^ 9 := Nat.mul_le_mul_right _ (by omega)
      omega
  have hyp : x.toNat % 128 * 128 ^ i = x.toNat % 128 * 2 ^ (7 * i) := by rw [hp]
  repeat (first | with_reducible refine WP.seq ?_ | with_reducible refine WP.block ?_ | with_reducible refine WP.region ?_)
  refine RL.pure T_ok 4 rfl ?_
  refine RL.eqv (v' := .int .u64 ((x.toNat % 128 : Nat) : Int)) (congrArg _ ?_) ?_
  · show IntKind.u64.wrap (bits .and .u8 (x.toNat : Int) 127) = _
    rw [and127, wrap_u64_in _ (by omega) (by omega)]
  refine RL.pure T_ok 3 rfl ?_
  refine RL.eqv (v' := .int .u64 ((7 * i : Nat) : Int)) (congrArg _ ?_) ?_
  · show IntKind.u64.wrap (IntKind.i64.wrap (7 * (i : Int))) = _
    rw [wrap_i64_in _ (by omega) (by omega), wrap_u64_in _ (by omega) (by omega)]; omega
  refine RL.pure T_ok 1 rfl ?_
  refine RL.eqv (v' := .int .u64 ((x.toNat % 128 * 2 ^ (7 * i) : Nat) : Int)) (congrArg _ ?_) ?_
  · show IntKind.u64.wrap (((x.toNat % 128 : Nat) : Int) * 2 ^ shAmt .u64 (7 * i)) = _
    have h1 : shAmt .u64 (7 * i) = 7 * i := by unfold shAmt; exact Nat.min_eq_left (by show 7 * i ≤ 64; omega)
    have h2 : ((x.toNat % 128 : Nat) : Int) * 2 ^ (7 * i) = ((x.toNat % 128 * 2 ^ (7 * i) : Nat) : Int) := by
      rw [Int.natCast_mul, Int.natCast_pow]; rfl
    rw [h1, h2, wrap_u64_in _ (by omega) (by rw [← hyp]; omega)]
  refine RL.pure T_ok 1 rfl ?_
  refine RL.eqv (v' := .int .u64 ((n + x.toNat % 128 * 128 ^ i : Nat) : Int)) (congrArg _ ?_) ?_
  · show bits .or .u64 (n : Int) ((x.toNat % 128 * 2 ^ (7 * i) : Nat) : Int) = _
    rw [or_add64 _ _ _ (by rw [← hp]; exact hn) (by rw [← hyp]; exact hfit.1), ← hyp]
  refine RL.auto T_ok rfl ?_
  refine RL.nil ?_; repeat (first | with_reducible refine QN.block_normal ?_ | with_reducible refine QN.next ?_); repeat (first | with_reducible refine WP.seq ?_ | with_reducible refine WP.block ?_ | with_reducible refine WP.region ?_)
  refine RL.auto T_ok rfl ?_
  refine RL.nil ?_; repeat (first | with_reducible refine QN.block_normal ?_ | with_reducible refine QN.next ?_); repeat (first | with_reducible refine WP.seq ?_ | with_reducible refine WP.block ?_ | with_reducible refine WP.region ?_)
  clear hyp
  refine WP.cond rfl (fun hc => ?_) (fun hc => ?_)
  · -- one more byte
    have hc : 128 ≤ x.toNat := by have := of_decide_eq_true hc; omega
    have hi' : i < 9 := by
      rcases Nat.lt_or_ge i 9 with h | h
      · exact h
      · have := hy (by omega); omega
    refine WP.exit ?_; repeat (first | with_reducible refine QN.then_exit ?_ | with_reducible refine QN.block_exit ?_ | with_reducible refine QN.block_far rfl ?_ | with_reducible refine QN.block_normal ?_ | with_reducible refine QN.next ?_); repeat (first | with_reducible refine WP.seq ?_ | with_reducible refine WP.block ?_ | with_reducible refine WP.region ?_)
    refine RL.auto T_ok rfl ?_
    refine RL.nil (QN.round (i + 1, n + x.toNat % 128 * 128 ^ i, l2) ?_ ⟨?_, hfit.2 hi', ?_, hR2, hE⟩ ?_)
    · refine Sub.cons rfl (Sub.cons rfl (Sub.cons rfl (Sub.cons ?_ Sub.nil)))
      show some (Value.int .i64 (IntKind.i64.wrap ((i : Int) + 1))) = some (Value.int .i64 ((i + 1 : Nat) : Int))
      rw [wrap_i64_in _ (by omega) (by omega)]; rfl
    · show i + 1 ≤ 9
      omega
    · rw [← hrd]
      simp only [rdU]
      rw [if_neg h9, if_pos hc]
    · show 10 - (i + 1) < 10 - i
      omega
  · have hc : x.toNat < 128 := by have := of_decide_eq_false hc; omega
    refine WP.skip ?_; repeat (first | with_reducible refine QN.block_normal ?_ | with_reducible refine QN.next ?_)
    have hrd1 : rdU most 0 0 l = if x.toNat = 0 ∧ 0 < i then .error 11 else if most < n + x.toNat % 128 * 128 ^ i then .error 12 else .ok (n + x.toNat % 128 * 128 ^ i, l2) := by
      rw [← hrd]
      simp only [rdU]
      rw [if_neg h9, if_neg (by omega)]
    have failing : ∀ (k : Int), rdU most 0 0 l = .error k → UPost m M b e (rdU most 0 0 l) (.panicked (brk k)) m2' := fun k hk => ⟨hE, .inr ⟨k, l2, hk, rfl, hR2⟩⟩
    generalize hN : n + x.toNat % 128 * 128 ^ i = N at *
    refine WP.seq (WP.block ?_)
    refine WP.cut (X := Unit) (fun _ => [(0, .pointer (some ⟨b, 0, none⟩)), (1, .int .u64 most), (5, .int .u64 N), (32, .bool (decide (x.toNat = 0 ∧ 0 < i)))]) (fun _ m' => m' = m2') ?_ ?_
    · repeat (first | with_reducible refine WP.seq ?_ | with_reducible refine WP.block ?_ | with_reducible refine WP.region ?_)
      refine RL.pure T_ok 2 rfl ?_
      by_cases hx0 : x.toNat = 0
      · refine RL.eqv (v' := .bool true) (by simp [hx0]) ?_
        refine RL.auto T_ok rfl ?_
        refine RL.nil (QN.cutEnd () (Sub.cons rfl (Sub.cons rfl (Sub.cons rfl (Sub.cons (congrArg (fun q => some (Value.bool q)) ?_) Sub.nil)))) rfl)
        rw [decide_eq_decide]; omega
      · refine RL.eqv (v' := .bool false) (by simp [hx0]) ?_
        refine RL.auto T_ok rfl ?_
        refine RL.nil (QN.cutEnd () (Sub.cons rfl (Sub.cons rfl (Sub.cons rfl (Sub.cons (congrArg (fun q => some (Value.bool q)) ?_) Sub.nil)))) rfl)
        simp [hx0]
    rintro _ m3 rfl
    refine WP.cond rfl (fun hc => ?_) (fun hc => ?_)
    · have hc := of_decide_eq_true hc
      repeat (first | with_reducible refine WP.seq ?_ | with_reducible refine WP.block ?_ | with_reducible refine WP.region ?_)
      refine RL.callE (fi := []) (ca := []) rfl rfl rfl rfl (fail_c _ 11) ?_ ?_ ?_
      · rintro v m' ⟨_, h⟩; cases h
      · rintro ch m' ⟨rfl, h⟩
        injection h with h
        subst h
        repeat (first | with_reducible refine QN.then_panic ?_ | with_reducible refine QN.block_panic ?_)
        exact QN.panic (failing 11 (by rw [hrd1, if_pos hc]))
      · rintro m' ⟨_, h⟩; cases h
    have hc := of_decide_eq_false hc
    rw [if_neg hc] at hrd1
    repeat (first | with_reducible refine WP.seq ?_ | with_reducible refine WP.block ?_ | with_reducible refine WP.region ?_)
    refine RL.auto T_ok rfl ?_
    refine RL.nil ?_; repeat (first | with_reducible refine QN.block_normal ?_ | with_reducible refine QN.next ?_); repeat (first | with_reducible refine WP.seq ?_ | with_reducible refine WP.block ?_ | with_reducible refine WP.region ?_)
    refine WP.cond rfl (fun hc2 => ?_) (fun hc2 => ?_)
    · have hc2 : most < N := by have := of_decide_eq_true hc2; omega
      repeat (first | with_reducible refine WP.seq ?_ | with_reducible refine WP.block ?_ | with_reducible refine WP.region ?_)
      refine RL.callE (fi := []) (ca := []) rfl rfl rfl rfl (fail_c _ 12) ?_ ?_ ?_
      · rintro v m' ⟨_, h⟩; cases h
      · rintro ch m' ⟨rfl, h⟩
        injection h with h
        subst h
        repeat (first | with_reducible refine QN.then_panic ?_ | with_reducible refine QN.block_panic ?_)
        exact QN.panic (failing 12 (by rw [hrd1, if_pos hc2]))
      · rintro m' ⟨_, h⟩; cases h
    · have hc2 : ¬ most < N := by have := of_decide_eq_false hc2; omega
      refine WP.skip ?_; repeat (first | with_reducible refine QN.block_normal ?_ | with_reducible refine QN.next ?_); repeat (first | with_reducible refine WP.seq ?_ | with_reducible refine WP.block ?_ | with_reducible refine WP.region ?_)
      refine RL.auto T_ok rfl ?_
      refine RL.nil ?_; repeat (first | with_reducible refine QN.block_normal ?_ | with_reducible refine QN.next ?_); repeat (first | with_reducible refine WP.seq ?_ | with_reducible refine WP.block ?_ | with_reducible refine WP.region ?_)
      refine WP.ret ?_; repeat (first | with_reducible refine QN.then_ret ?_ | with_reducible refine QN.block_ret ?_)
      refine QN.ret1 rfl rfl ⟨hE, .inl ⟨N, l2, by rw [hrd1, if_neg hc2], rfl, hR2⟩⟩
end Go.Proofs.Ytkfakfbndnbpiaa
