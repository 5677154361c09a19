/- The reference's sum: crc too, by single steps. -/
import Derived.Test.YtkfakfbndnbpiaaWire7
namespace Go.Proofs.Ytkfakfbndnbpiaa
open Go.RowKit Go.Ev

theorem step1_odd {x : BitVec 32} (h : x.getLsbD 0 = true) : (x >>> 1) ^^^ crcP = step1 x := by unfold step1; rw [h]; rfl
theorem p_v32 : Value.int .u32 3988292384 = v32 crcP := rfl
theorem crcL_take_succ (l : List UInt8) (s : BitVec 32) (k : Nat) (hc : k < l.length) : crcL s (l.take (k + 1)) = crcB (crcL s (l.take k)) l[k] := by
  unfold crcL
  rw [List.take_succ_eq_append_getElem hc, List.foldl_append]; rfl
set_option maxRecDepth 4000 in
theorem refsum_c (m : World) (M : List Nat) (v : Value) (l : List UInt8) (h : Bs m M v l) (hl : l.length < 1000000000) :
    FnR Try.prog 61 [v] m fun r m' => r = v32 (crc l) ∧ Ext m [] m' := by
  obtain ⟨A, c, rfl, _, _⟩ := h.shape
  refine FnE.enter ⟨_, Try.func61, by kernel_rfl, by kernel_rfl⟩ Try.func61 rfl rfl ?_
  repeat (first | with_reducible refine WP.seq ?_ | with_reducible refine WP.block ?_ | with_reducible refine WP.region ?_)
  refine RL.auto T_ok rfl ?_
  refine RL.nil ?_; repeat (first | with_reducible refine QN.block_normal ?_ | with_reducible refine QN.next ?_); repeat (first | with_reducible refine WP.seq ?_ | with_reducible refine WP.block ?_ | with_reducible refine WP.region ?_)
  refine RL.auto T_ok rfl ?_
  refine RL.nil ?_; repeat (first | with_reducible refine QN.block_normal ?_ | with_reducible refine QN.next ?_); repeat (first | with_reducible refine WP.seq ?_ | with_reducible refine WP.block ?_ | with_reducible refine WP.region ?_)
  refine RL.auto T_ok rfl ?_
  refine RL.nil ?_; repeat (first | with_reducible refine QN.block_normal ?_ | with_reducible refine QN.next ?_); repeat (first | with_reducible refine WP.seq ?_ | with_reducible refine WP.block ?_ | with_reducible refine WP.region ?_)
  refine WP.loop (X := Nat) (fun k => [(0, .slice A l.length c), (3, v32 (crcL (BitVec.allOnes 32) (l.take k))), (4, .int .i64 k)])
    (fun k m' => k ≤ l.length ∧ m' = m) (fun k => l.length - k) 0
    (Sub.cons rfl (Sub.cons rfl (Sub.cons rfl Sub.nil))) ⟨by simp, rfl⟩ ?_
  rintro k m5 ⟨hk, rfl⟩
  repeat (first | with_reducible refine WP.seq ?_ | with_reducible refine WP.block ?_ | with_reducible refine WP.region ?_)
  refine RL.auto T_ok rfl ?_
  refine RL.nil ?_; repeat (first | with_reducible refine QN.block_normal ?_ | with_reducible refine QN.next ?_); repeat (first | with_reducible refine WP.seq ?_ | with_reducible refine WP.block ?_ | with_reducible refine WP.region ?_)
  refine WP.cond rfl (fun hc => ?_) (fun hc => ?_)
  · have hc : k < l.length := by have := of_decide_eq_true hc; omega
    have hsn := crcL_take_succ l (BitVec.allOnes 32) k hc
    generalize crcL (BitVec.allOnes 32) (l.take k) = s at *
    refine WP.skip ?_; repeat (first | with_reducible refine QN.block_normal ?_ | with_reducible refine QN.next ?_); repeat (first | with_reducible refine WP.seq ?_ | with_reducible refine WP.block ?_ | with_reducible refine WP.region ?_)
    refine RL.pure T_ok 3 rfl ?_
    refine RL.byteAt T_ok h (k := k) rfl hc rfl rfl rfl rfl rfl rfl (fun p => ?_)
    refine RL.pure T_ok 1 rfl ?_
    refine RL.eqv (v' := v32 (b32 l[k])) (congrArg _ (byte_v32 _)) ?_
    refine RL.pure T_ok 1 rfl ?_
    refine RL.eqv (v' := v32 (s ^^^ b32 l[k])) (congrArg _ (xor_v32 _ _)) ?_
    unfold crcB at hsn
    generalize s ^^^ b32 l[k] = y at *
    refine RL.auto T_ok rfl ?_
    refine RL.nil ?_; repeat (first | with_reducible refine QN.block_normal ?_ | with_reducible refine QN.next ?_); repeat (first | with_reducible refine WP.seq ?_ | with_reducible refine WP.block ?_ | with_reducible refine WP.region ?_)
    refine RL.auto T_ok rfl ?_
    refine RL.nil ?_; repeat (first | with_reducible refine QN.block_normal ?_ | with_reducible refine QN.next ?_); repeat (first | with_reducible refine WP.seq ?_ | with_reducible refine WP.block ?_ | with_reducible refine WP.region ?_)
    refine WP.loop (X := Nat) (fun j => [(0, .slice A l.length c), (3, v32 (steps j y)), (4, .int .i64 k), (5, .int .i64 j)])
      (fun j m' => j ≤ 8 ∧ m' = m5) (fun j => 8 - j) 0
      (Sub.cons rfl (Sub.cons rfl (Sub.cons rfl (Sub.cons rfl Sub.nil)))) ⟨by simp, rfl⟩ ?_
    rintro j m6 ⟨hj, rfl⟩
    have hst := steps_succ j y
    generalize hz : steps j y = z at *
    repeat (first | with_reducible refine WP.seq ?_ | with_reducible refine WP.block ?_ | with_reducible refine WP.region ?_)
    refine RL.auto T_ok rfl ?_
    refine RL.nil ?_; repeat (first | with_reducible refine QN.block_normal ?_ | with_reducible refine QN.next ?_); repeat (first | with_reducible refine WP.seq ?_ | with_reducible refine WP.block ?_ | with_reducible refine WP.region ?_)
    refine WP.cond rfl (fun hc8 => ?_) (fun hc8 => ?_)
    · have hc8 : j < 8 := by have := of_decide_eq_true hc8; omega
      refine WP.skip ?_; repeat (first | with_reducible refine QN.block_normal ?_ | with_reducible refine QN.next ?_); repeat (first | with_reducible refine WP.seq ?_ | with_reducible refine WP.block ?_ | with_reducible refine WP.region ?_)
      refine RL.pure T_ok 2 rfl ?_
      refine RL.eqv (v' := v32 (z &&& 1#32)) (congrArg _ (and_v32 z 1#32)) ?_
      refine RL.pure T_ok 1 rfl ?_
      refine RL.eqv (v' := .bool (z.getLsbD 0)) (congrArg _ (lsb_test z)) ?_
      refine RL.nil ?_; repeat (first | with_reducible refine QN.block_normal ?_ | with_reducible refine QN.next ?_); repeat (first | with_reducible refine WP.seq ?_ | with_reducible refine WP.block ?_ | with_reducible refine WP.region ?_)
      refine WP.cond rfl (fun hb => ?_) (fun hb => ?_)
      · refine WP.region ?_
        refine RL.pure T_ok 2 rfl ?_
        refine RL.eqv (v' := v32 (z >>> 1)) (congrArg _ (shr_v32 z 1)) ?_
        refine RL.pure T_ok 1 rfl ?_
        refine RL.eqv (v' := v32 (step1 z)) (congrArg _ ((xor_v32 _ crcP).trans (by rw [step1_odd hb]))) ?_
        refine RL.auto T_ok rfl ?_
        refine RL.nil ?_; repeat (first | with_reducible refine QN.block_normal ?_ | with_reducible refine QN.next ?_); repeat (first | with_reducible refine WP.seq ?_ | with_reducible refine WP.block ?_ | with_reducible refine WP.region ?_)
        refine RL.auto T_ok rfl ?_
        refine RL.nil (QN.round (j + 1) ?_ ⟨by omega, rfl⟩ (by omega))
        refine Sub.cons rfl (Sub.cons (congrArg (fun q => some (v32 q)) hst.symm) (Sub.cons rfl (Sub.cons ?_ Sub.nil)))
        show some (Value.int .i64 (IntKind.i64.wrap ((j : Int) + 1))) = some (Value.int .i64 ((j + 1 : Nat) : Int))
        rw [wrap_i64_in _ (by omega) (by omega)]; rfl
      · refine WP.region ?_
        refine RL.pure T_ok 2 rfl ?_
        refine RL.eqv (v' := v32 (step1 z)) (congrArg _ ((shr_v32 z 1).trans (by rw [step1_even hb]))) ?_
        refine RL.auto T_ok rfl ?_
        refine RL.nil ?_; repeat (first | with_reducible refine QN.block_normal ?_ | with_reducible refine QN.next ?_); repeat (first | with_reducible refine WP.seq ?_ | with_reducible refine WP.block ?_ | with_reducible refine WP.region ?_)
        refine RL.auto T_ok rfl ?_
        refine RL.nil (QN.round (j + 1) ?_ ⟨by omega, rfl⟩ (by omega))
        refine Sub.cons rfl (Sub.cons (congrArg (fun q => some (v32 q)) hst.symm) (Sub.cons rfl (Sub.cons ?_ Sub.nil)))
        show some (Value.int .i64 (IntKind.i64.wrap ((j : Int) + 1))) = some (Value.int .i64 ((j + 1 : Nat) : Int))
        rw [wrap_i64_in _ (by omega) (by omega)]; rfl
    · have h8 : j = 8 := by have := of_decide_eq_false hc8; omega
      subst h8
      refine WP.exit ?_; repeat (first | with_reducible refine QN.then_exit ?_ | with_reducible refine QN.block_exit ?_ | with_reducible refine QN.block_far rfl ?_ | with_reducible refine QN.block_normal ?_ | with_reducible refine QN.next ?_); repeat (first | with_reducible refine WP.seq ?_ | with_reducible refine WP.block ?_ | with_reducible refine WP.region ?_)
      refine RL.auto T_ok rfl ?_
      refine RL.nil (QN.round (k + 1) ?_ ⟨by omega, rfl⟩ (by omega))
      refine Sub.cons rfl (Sub.cons (congrArg (fun q => some (v32 q)) (hz.symm.trans hsn.symm)) (Sub.cons ?_ Sub.nil))
      show some (Value.int .i64 (IntKind.i64.wrap ((k : Int) + 1))) = some (Value.int .i64 ((k + 1 : Nat) : Int))
      rw [wrap_i64_in _ (by omega) (by omega)]; rfl
  · have hc : k = l.length := by have := of_decide_eq_false hc; omega
    subst hc
    rw [List.take_length]
    refine WP.exit ?_; repeat (first | with_reducible refine QN.then_exit ?_ | with_reducible refine QN.block_exit ?_ | with_reducible refine QN.block_far rfl ?_ | with_reducible refine QN.block_normal ?_ | with_reducible refine QN.next ?_); repeat (first | with_reducible refine WP.seq ?_ | with_reducible refine WP.block ?_ | with_reducible refine WP.region ?_)
    refine RL.pure T_ok 2 rfl ?_
    refine RL.eqv (v' := v32 (crc l)) (congrArg _ (not_v32 _)) ?_
    refine RL.auto T_ok rfl ?_
    refine RL.nil ?_; repeat (first | with_reducible refine QN.block_normal ?_ | with_reducible refine QN.next ?_); repeat (first | with_reducible refine WP.seq ?_ | with_reducible refine WP.block ?_ | with_reducible refine WP.region ?_)
    refine WP.ret ?_; repeat (first | with_reducible refine QN.then_ret ?_ | with_reducible refine QN.block_ret ?_)
    exact QN.ret1 rfl rfl ⟨_, rfl, rfl, Ext.refl _ _⟩
end Go.Proofs.Ytkfakfbndnbpiaa
