/- The statements' helps: a place, a copy, two rows of bytes held against one another, bytes spoilt. No conditions but that lengths stay below 2^30. -/
import Derived.Test.YtkfakfbndnbpiaaWire1
import Derived.Test.YtkfakfbndnbpiaaConv
namespace Go.Proofs.Ytkfakfbndnbpiaa
open Go.RowKit Go.Ev

theorem tmod_fix (k : Int) (n : Nat) (hn : 0 < n) : (if k.tmod n < 0 then k.tmod n + n else k.tmod n) = k % (n : Int) := by
  have h1 := Int.tmod_eq_emod (a := k) (b := n)
  have h2 := Int.emod_nonneg k (b := (n : Int)) (by omega)
  have h3 := Int.emod_lt_of_pos k (b := (n : Int)) (by omega)
  rw [h1]
  split <;> split <;> omega
theorem place_c (m : World) (k : Int) (n : Nat) (hn : n < 1000000000) :
    FnR Try.prog 19 [.int .i64 k, .int .i64 ((n + 1 : Nat) : Int)] m fun r m' => r = .int .i64 (k % ((n + 1 : Nat) : Int)) ∧ m' = m := by
  have h1 := tmod_fix k (n + 1) (by omega)
  have h2 := Int.emod_nonneg k (b := ((n + 1 : Nat) : Int)) (by omega)
  have h3 := Int.emod_lt_of_pos k (b := ((n + 1 : Nat) : Int)) (by omega)
  refine FnE.enter ⟨_, Try.func19, by kernel_rfl, by kernel_rfl⟩ Try.func19 rfl rfl ?_
  repeat (first | with_reducible refine WP.seq ?_ | with_reducible refine WP.block ?_ | with_reducible refine WP.region ?_)
  refine RL.auto T_ok rfl ?_
  refine RL.nil ?_; repeat (first | with_reducible refine QN.block_normal ?_ | with_reducible refine QN.next ?_); repeat (first | with_reducible refine WP.seq ?_ | with_reducible refine WP.block ?_ | with_reducible refine WP.region ?_)
  refine RL.auto T_ok rfl ?_
  refine RL.nil ?_; repeat (first | with_reducible refine QN.block_normal ?_ | with_reducible refine QN.next ?_); repeat (first | with_reducible refine WP.seq ?_ | with_reducible refine WP.block ?_ | with_reducible refine WP.region ?_)
  refine RL.auto T_ok rfl ?_
  refine RL.nil ?_; repeat (first | with_reducible refine QN.block_normal ?_ | with_reducible refine QN.next ?_); repeat (first | with_reducible refine WP.seq ?_ | with_reducible refine WP.block ?_ | with_reducible refine WP.region ?_)
  refine WP.cond rfl (fun hc => ?_) (fun hc => ?_)
  · have hc : k.tmod ((n + 1 : Nat) : Int) < 0 := of_decide_eq_true hc
    rw [if_pos hc] at h1
    refine WP.region ?_
    refine RL.pure T_ok 3 rfl ?_
    refine RL.eqv (v' := .int .i64 (k % ((n + 1 : Nat) : Int))) (congrArg _ (by rw [h1, wrap_i64_in _ (by omega) (by omega)])) ?_
    refine RL.auto T_ok rfl ?_
    refine RL.nil ?_; repeat (first | with_reducible refine QN.block_normal ?_ | with_reducible refine QN.next ?_); repeat (first | with_reducible refine WP.seq ?_ | with_reducible refine WP.block ?_ | with_reducible refine WP.region ?_)
    refine RL.auto T_ok rfl ?_
    refine RL.nil ?_; repeat (first | with_reducible refine QN.block_normal ?_ | with_reducible refine QN.next ?_); repeat (first | with_reducible refine WP.seq ?_ | with_reducible refine WP.block ?_ | with_reducible refine WP.region ?_)
    refine WP.ret ?_; repeat (first | with_reducible refine QN.then_ret ?_ | with_reducible refine QN.block_ret ?_)
    exact QN.ret1 rfl rfl ⟨_, rfl, rfl, rfl⟩
  · have hc : ¬ k.tmod ((n + 1 : Nat) : Int) < 0 := of_decide_eq_false hc
    rw [if_neg hc] at h1
    refine WP.skip ?_; repeat (first | with_reducible refine QN.block_normal ?_ | with_reducible refine QN.next ?_); repeat (first | with_reducible refine WP.seq ?_ | with_reducible refine WP.block ?_ | with_reducible refine WP.region ?_)
    refine RL.auto T_ok rfl ?_
    refine RL.nil ?_; repeat (first | with_reducible refine QN.block_normal ?_ | with_reducible refine QN.next ?_); repeat (first | with_reducible refine WP.seq ?_ | with_reducible refine WP.block ?_ | with_reducible refine WP.region ?_)
    refine WP.ret ?_; repeat (first | with_reducible refine QN.then_ret ?_ | with_reducible refine QN.block_ret ?_)
    exact QN.ret1 rfl rfl ⟨_, rfl, congrArg _ h1, rfl⟩
theorem copy_c (m : World) (M : List Nat) (v : Value) (l : List UInt8) (h : Bs m M v l) (hl : l.length < 1000000000) :
    FnR Try.prog 62 [v] m fun r m' => ∃ S', Own m' S' 5 1 r l.length (u8s l) ∧ New m S' m' := by
  obtain ⟨A, c, rfl, hlc, _⟩ := h.shape
  refine FnE.enter ⟨_, Try.func62, by kernel_rfl, by kernel_rfl⟩ Try.func62 rfl rfl ?_
  repeat (first | with_reducible refine WP.seq ?_ | with_reducible refine WP.block ?_ | with_reducible refine WP.region ?_)
  refine RL.auto T_ok rfl ?_
  refine RL.nil ?_; repeat (first | with_reducible refine QN.block_normal ?_ | with_reducible refine QN.next ?_); repeat (first | with_reducible refine WP.seq ?_ | with_reducible refine WP.block ?_ | with_reducible refine WP.region ?_)
  refine RL.auto T_ok rfl ?_
  refine RL.append T_ok (Own.empty _ _ _ none) (u8s l) (Src.of_sl (show Sl m M 1 _ (u8s l) from h)) rfl rfl rfl rfl rfl (by simp [u8s_length]) (u8s_one _) (by unfold maxLen; omega) (by show (_ + _) * 1 ≤ _; omega) ?_
  intro v1 m2 S2 hO1 hE1 hF1
  refine ⟨_, rfl, ?_⟩
  refine RL.auto T_ok rfl ?_
  refine RL.nil ?_; repeat (first | with_reducible refine QN.block_normal ?_ | with_reducible refine QN.next ?_); repeat (first | with_reducible refine WP.seq ?_ | with_reducible refine WP.block ?_ | with_reducible refine WP.region ?_)
  refine WP.ret ?_; repeat (first | with_reducible refine QN.then_ret ?_ | with_reducible refine QN.block_ret ?_)
  refine QN.ret1 rfl rfl ⟨_, rfl, S2, ?_, hE1, hF1⟩
  simpa using hO1
theorem str_eq (a b : List UInt8) : ((str a).toList == (str b).toList) = decide (a = b) := by
  rw [str_toList, str_toList]
  by_cases h : a = b <;> simp [h]
theorem hbytes_c (m : World) (M : List Nat) (v u : Value) (a b : List UInt8) (h : Bs m M v a) (h' : Bs m M u b) :
    FnR Try.prog 16 [v, u] m fun r m' => r = .bool (decide (a = b)) ∧ m' = m := by
  obtain ⟨A, c, rfl, hlc, _⟩ := h.shape
  obtain ⟨A', c', rfl, hlc', _⟩ := h'.shape
  refine FnE.enter ⟨_, Try.func16, by kernel_rfl, by kernel_rfl⟩ Try.func16 rfl rfl ?_
  repeat (first | with_reducible refine WP.seq ?_ | with_reducible refine WP.block ?_ | with_reducible refine WP.region ?_)
  refine RL.auto T_ok rfl ?_
  refine RL.nil ?_; repeat (first | with_reducible refine QN.block_normal ?_ | with_reducible refine QN.next ?_); repeat (first | with_reducible refine WP.seq ?_ | with_reducible refine WP.block ?_ | with_reducible refine WP.region ?_)
  refine RL.pure T_ok 1 rfl ?_
  refine RL.bytesString T_ok h rfl rfl rfl rfl rfl rfl ?_
  refine RL.pure T_ok 1 rfl ?_
  refine RL.bytesString T_ok h' rfl rfl rfl rfl rfl rfl ?_
  refine RL.pure T_ok 1 rfl ?_
  refine RL.eqv (v' := .bool (decide (a = b))) (congrArg _ (str_eq a b)) ?_
  refine RL.auto T_ok rfl ?_
  refine RL.nil ?_; repeat (first | with_reducible refine QN.block_normal ?_ | with_reducible refine QN.next ?_); repeat (first | with_reducible refine WP.seq ?_ | with_reducible refine WP.block ?_ | with_reducible refine WP.region ?_)
  refine WP.ret ?_; repeat (first | with_reducible refine QN.then_ret ?_ | with_reducible refine QN.block_ret ?_)
  exact QN.ret1 rfl rfl ⟨_, rfl, rfl, rfl⟩

theorem xorA5_fin : ∀ x : Fin 256, ∃ y : Fin 256, bits .xor .u8 (x.val : Int) 165 = (y.val : Int) := by
  intro x
  have h := bits_u8 .xor x.val 165
  exact ⟨⟨_, (bop8 .xor (BitVec.ofNat 8 x.val) (BitVec.ofNat 8 165)).isLt⟩, h⟩
theorem xorA5 (x : UInt8) : ∃ y : UInt8, bits .xor .u8 (x.toNat : Int) 165 = (y.toNat : Int) := by
  obtain ⟨y, hy⟩ := xorA5_fin ⟨x.toNat, x.toNat_lt⟩
  refine ⟨UInt8.ofNat y.val, ?_⟩
  rw [UInt8.toNat_ofNat', Nat.mod_eq_of_lt y.isLt]
  exact hy
theorem spoil_c (m : World) (S : List Nat) (v : Value) (l : List UInt8) (h : Own m S 5 1 v l.length (u8s l)) (hl : l.length < 1000000000) :
    FnR Try.prog 63 [v] m fun r m' => r = .tuple #[] ∧ Ext m S m' := by
  obtain ⟨A, c, rfl, hlc⟩ := h.shape
  refine FnE.enter ⟨_, Try.func63, by kernel_rfl, by kernel_rfl⟩ Try.func63 rfl rfl ?_
  repeat (first | with_reducible refine WP.seq ?_ | with_reducible refine WP.block ?_ | with_reducible refine WP.region ?_)
  refine RL.auto T_ok rfl ?_
  refine RL.nil ?_; repeat (first | with_reducible refine QN.block_normal ?_ | with_reducible refine QN.next ?_); repeat (first | with_reducible refine WP.seq ?_ | with_reducible refine WP.block ?_ | with_reducible refine WP.region ?_)
  refine WP.loop (X := Nat × List UInt8) (fun x => [(0, .slice A l.length c), (2, .int .i64 x.1)])
    (fun x m' => x.1 ≤ l.length ∧ x.2.length = l.length ∧ Own m' S 5 1 (.slice A l.length c) l.length (u8s x.2) ∧ Ext m S m') (fun x => l.length - x.1) (0, l)
    (Sub.cons rfl (Sub.cons rfl Sub.nil)) ⟨by simp, rfl, h, Ext.refl _ _⟩ ?_
  rintro ⟨k, p⟩ m5 ⟨hk, hp, hO, hE⟩
  simp only at hk hp hO
  repeat (first | with_reducible refine WP.seq ?_ | with_reducible refine WP.block ?_ | with_reducible refine WP.region ?_)
  refine RL.auto T_ok rfl ?_
  refine RL.nil ?_; repeat (first | with_reducible refine QN.block_normal ?_ | with_reducible refine QN.next ?_); repeat (first | with_reducible refine WP.seq ?_ | with_reducible refine WP.block ?_ | with_reducible refine WP.region ?_)
  refine WP.cond rfl (fun hc => ?_) (fun hc => ?_)
  · have hc : k < l.length := by have := of_decide_eq_true hc; omega
    obtain ⟨g, cap, cur, hv, hB, rfl, hj, hput⟩ := hO.put hc
    injection hv with hv1 _ hv3
    subst hv1; subst hv3
    have hS : Bs m5 [] (.slice (some ⟨g, 0, none⟩) p.length c) p := by
      have := Own.sl hO (M := []) (by simp)
      rw [hp]; exact this
    rw [← hp] at *
    obtain ⟨y, hy⟩ := xorA5 p[k]
    refine WP.skip ?_; repeat (first | with_reducible refine QN.block_normal ?_ | with_reducible refine QN.next ?_); repeat (first | with_reducible refine WP.seq ?_ | with_reducible refine WP.block ?_ | with_reducible refine WP.region ?_)
    refine RL.auto T_ok rfl ?_
    refine RL.byteAt T_ok hS (k := k) rfl hc rfl rfl rfl rfl rfl rfl (fun p => ?_)
    refine RL.pure T_ok 1 rfl ?_
    refine RL.eqv (v' := .int .u8 (y.toNat : Int)) (congrArg _ hy) ?_
    refine RL.indexAddr (k := k) T_ok rfl rfl rfl rfl rfl rfl rfl hc rfl ?_
    refine RL.eqv (v' := .pointer (some ⟨g, k, none⟩)) (congrArg _ (by rw [add_block]; simp)) ?_
    refine RL.store T_ok hB (i := k) (v := .int .u8 (y.toNat : Int)) hj rfl rfl rfl rfl rfl rfl ?_
    intro m6 hC
    have hO6 := hput m6 _ hC
    rw [u8s_set] at hO6
    refine RL.nil ?_; repeat (first | with_reducible refine QN.block_normal ?_ | with_reducible refine QN.next ?_); repeat (first | with_reducible refine WP.seq ?_ | with_reducible refine WP.block ?_ | with_reducible refine WP.region ?_)
    refine RL.auto T_ok rfl ?_
    refine RL.nil (QN.round (k + 1, _) ?_ ⟨?_, ?_, hO6, hE.trans hC.ext (fun k hk => .inl hk)⟩ (by show _ - (k + 1) < _ - k; omega))
    · refine Sub.cons rfl (Sub.cons ?_ Sub.nil)
      show some (Value.int .i64 (IntKind.i64.wrap ((k : Int) + 1))) = some (Value.int .i64 ((k + 1 : Nat) : Int))
      rw [wrap_i64_in _ (by omega) (by omega)]; rfl
    · show k + 1 ≤ _
      omega
    · simp
  · refine WP.exit ?_; repeat (first | with_reducible refine QN.then_exit ?_ | with_reducible refine QN.block_exit ?_ | with_reducible refine QN.block_far rfl ?_ | with_reducible refine QN.block_normal ?_ | with_reducible refine QN.next ?_); repeat (first | with_reducible refine WP.seq ?_ | with_reducible refine WP.block ?_ | with_reducible refine WP.region ?_)
    exact QN.end0 rfl ⟨_, rfl, rfl, hE⟩
end Go.Proofs.Ytkfakfbndnbpiaa
