/- The sums of package wire and of the reference, both: crc. -/
import Derived.Test.YtkfakfbndnbpiaaTypes
import Derived.Test.YtkfakfbndnbpiaaCrcP
import Derived.Test.YtkfakfbndnbpiaaArr
namespace Go.Proofs.Ytkfakfbndnbpiaa
open Go.RowKit Go.Ev

def half (f : Nat → BitVec 32) : List Value := (List.range 16).map fun j => v32 (f j)
theorem half_get (f : Nat → BitVec 32) (k : Nat) (h : k < 16) : (half f)[k]? = some (v32 (f k)) := by simp [half, h]
theorem half_set (f : Nat → BitVec 32) (k : Nat) (x : BitVec 32) : (half f).set k (v32 x) = half fun j => if j = k then x else f j := by
  apply List.ext_getElem?
  intro j
  rw [List.getElem?_set]
  by_cases hj : j < 16
  · by_cases hk : k = j
    · subst hk; rw [half_get _ _ hj]; simp [half, hj]
    · rw [half_get _ _ hj, if_neg hk, half_get _ _ hj, if_neg (fun hh => hk hh.symm)]
  · by_cases hk : k = j
    · subst hk; simp [half, hj]
    · simp [half, hj, hk]
theorem half_len (f : Nat → BitVec 32) : (half f).length = 16 := by simp [half]
set_option maxRecDepth 4000 in
set_option maxHeartbeats 400000 in
theorem sum_c (m : World) (M : List Nat) (v : Value) (l : List UInt8) (h : Bs m M v l) (hl : l.length < 1000000000) :
    FnR Try.prog 57 [v] m fun r m' => r = v32 (crc l) ∧ Ext m [] m' := by
  obtain ⟨A, c, rfl, _, _⟩ := h.shape
  refine FnE.enter ⟨_, Try.func57, by kernel_rfl, by kernel_rfl⟩ Try.func57 rfl rfl ?_
  repeat (first | with_reducible refine WP.seq ?_ | with_reducible refine WP.block ?_ | with_reducible refine WP.region ?_)
  refine RL.auto T_ok rfl ?_
  refine RL.nil ?_; repeat (first | with_reducible refine QN.block_normal ?_ | with_reducible refine QN.next ?_); repeat (first | with_reducible refine WP.seq ?_ | with_reducible refine WP.block ?_ | with_reducible refine WP.region ?_)
  refine RL.alloc T_ok rfl rfl (fun b m1 hb hC => ⟨_, rfl, ?_⟩)
  have hE1 := hC.new (by omega)
  have s1 := hC.size
  have hB1 : Blk m1 b 115 (half fun _ => 0#32) := hC.here
  refine RL.nil (QN.next ?_)
  refine WP.seq ?_
  refine WP.cut (X := Unit) (fun _ => [(0, .slice A l.length c), (3, .pointer (some ⟨b, 0, none⟩)), (8, .int .u32 0)]) (fun _ m' => m' = m1) ?_ ?_
  · repeat (first | with_reducible refine WP.seq ?_ | with_reducible refine WP.block ?_ | with_reducible refine WP.region ?_)
    refine RL.auto T_ok rfl ?_
    exact RL.nil (QN.cutEnd () (Sub.cons rfl (Sub.cons rfl (Sub.cons rfl Sub.nil))) rfl)
  rintro _ m2 rfl
  refine WP.block (WP.loop (X := Nat) (fun i => [(0, .slice A l.length c), (3, .pointer (some ⟨b, 0, none⟩)), (8, .int .u32 i)])
    (fun i m' => i ≤ 16 ∧ Ext m2 [b] m' ∧ ∃ f, Blk m' b 115 (half f) ∧ ∀ j < i, f j = steps 4 (BitVec.ofNat 32 j)) (fun i => 16 - i) 0
    (Sub.cons rfl (Sub.cons rfl (Sub.cons rfl Sub.nil))) ⟨by simp, Ext.refl _ _, _, hB1, fun j hj => by omega⟩ ?_)
  rintro i m3 ⟨hi, hE3, f, hB3, hf⟩
  repeat (first | with_reducible refine WP.seq ?_ | with_reducible refine WP.block ?_ | with_reducible refine WP.region ?_)
  refine RL.auto T_ok rfl ?_
  refine RL.nil ?_; repeat (first | with_reducible refine QN.block_normal ?_ | with_reducible refine QN.next ?_); repeat (first | with_reducible refine WP.seq ?_ | with_reducible refine WP.block ?_ | with_reducible refine WP.region ?_)
  refine WP.cond rfl (fun hc => ?_) (fun hc => ?_)
  · have hc : i < 16 := by have := of_decide_eq_true hc; omega
    refine WP.skip ?_; repeat (first | with_reducible refine QN.block_normal ?_ | with_reducible refine QN.next ?_); repeat (first | with_reducible refine WP.seq ?_ | with_reducible refine WP.block ?_ | with_reducible refine WP.region ?_)
    refine RL.auto T_ok rfl ?_
    refine RL.nil ?_; repeat (first | with_reducible refine QN.block_normal ?_ | with_reducible refine QN.next ?_); repeat (first | with_reducible refine WP.seq ?_ | with_reducible refine WP.block ?_ | with_reducible refine WP.region ?_)
    refine RL.auto T_ok rfl ?_
    refine RL.arr T_ok (k := i) rfl rfl rfl rfl rfl hc rfl ?_
    refine RL.store T_ok hB3 (i := i) (v := v32 (BitVec.ofNat 32 i)) (by rw [half_len]; exact hc) rfl rfl ?_ rfl rfl rfl ?_
    · show some (Value.int .u32 (i : Int)) = some (v32 (BitVec.ofNat 32 i))
      unfold v32
      rw [BitVec.toNat_ofNat, Nat.mod_eq_of_lt (by omega)]
    rw [half_set]
    intro m4 hC4
    have hE4 : Ext m2 [b] m4 := hE3.trans hC4.ext (fun k hk => .inl hk)
    refine RL.nil ?_; repeat (first | with_reducible refine QN.block_normal ?_ | with_reducible refine QN.next ?_); repeat (first | with_reducible refine WP.seq ?_ | with_reducible refine WP.block ?_ | with_reducible refine WP.region ?_)
    refine RL.auto T_ok rfl ?_
    refine RL.nil ?_; repeat (first | with_reducible refine QN.block_normal ?_ | with_reducible refine QN.next ?_); repeat (first | with_reducible refine WP.seq ?_ | with_reducible refine WP.block ?_ | with_reducible refine WP.region ?_)
    refine WP.loop (X := Nat) (fun k => [(0, .slice A l.length c), (3, .pointer (some ⟨b, 0, none⟩)), (4, .int .u32 i), (8, .int .u32 i), (14, .int .i64 k)])
      (fun k m' => k ≤ 4 ∧ Ext m2 [b] m' ∧ ∃ f, Blk m' b 115 (half f) ∧ (∀ j < i, f j = steps 4 (BitVec.ofNat 32 j)) ∧ f i = steps k (BitVec.ofNat 32 i)) (fun k => 4 - k) 0
      (Sub.cons rfl (Sub.cons rfl (Sub.cons rfl (Sub.cons rfl (Sub.cons rfl Sub.nil))))) ⟨by simp, hE4, _, hC4.blk, fun j hj => by rw [if_neg (by omega)]; exact hf j hj, by rw [if_pos rfl]; rfl⟩ ?_
    rintro k m5 ⟨hk, hE5, f5, hB5, hf5, hfi⟩
    repeat (first | with_reducible refine WP.seq ?_ | with_reducible refine WP.block ?_ | with_reducible refine WP.region ?_)
    refine RL.auto T_ok rfl ?_
    refine RL.nil ?_; repeat (first | with_reducible refine QN.block_normal ?_ | with_reducible refine QN.next ?_); repeat (first | with_reducible refine WP.seq ?_ | with_reducible refine WP.block ?_ | with_reducible refine WP.region ?_)
    refine WP.cond rfl (fun hc4 => ?_) (fun hc4 => ?_)
    · have hc4 : k < 4 := by have := of_decide_eq_true hc4; omega
      refine WP.skip ?_; repeat (first | with_reducible refine QN.block_normal ?_ | with_reducible refine QN.next ?_); repeat (first | with_reducible refine WP.seq ?_ | with_reducible refine WP.block ?_ | with_reducible refine WP.region ?_)
      refine WP.drawQ (fun m' => m' = m5) [12] (by kernel_rfl) rfl (by repeat (first | with_reducible exact PanicOk.body | with_reducible refine PanicOk.then_ ?_ | with_reducible refine PanicOk.block_ ?_)) (fun hQ => ?_)
      refine RH.pure T_ok hQ [0, 1] (by kernel_rfl) rfl ?_
      refine RH.arr T_ok hQ 2 (k := i) rfl (by kernel_rfl) rfl rfl rfl rfl rfl hc rfl ?_
      refine RH.load T_ok hQ 3 (fun m' hm' => by rw [hm']; exact hB5.cell _ (half_get f5 i hc)) rfl (by kernel_rfl) rfl rfl rfl rfl ?_
      refine RH.pure T_ok hQ [4] (by kernel_rfl) rfl ?_
      refine RH.eqv (v' := v32 (f5 i >>> 1)) (congrArg _ (shr_v32 (f5 i) 1)) ?_
      refine RH.pure T_ok hQ [5] (by kernel_rfl) rfl ?_
      refine RH.arr T_ok hQ 6 (k := i) rfl (by kernel_rfl) rfl rfl rfl rfl rfl hc rfl ?_
      refine RH.load T_ok hQ 7 (fun m' hm' => by rw [hm']; exact hB5.cell _ (half_get f5 i hc)) rfl (by kernel_rfl) rfl rfl rfl rfl ?_
      refine RH.pure T_ok hQ [8] (by kernel_rfl) rfl ?_
      refine RH.eqv (v' := v32 (f5 i &&& 1#32)) (congrArg _ (and_v32 (f5 i) 1#32)) ?_
      refine RH.pure T_ok hQ [9] (by kernel_rfl) rfl ?_
      refine RH.eqv (v' := v32 (if (f5 i).getLsbD 0 then crcP else 0#32)) (congrArg _ (mul_v32 (f5 i))) ?_
      refine RH.pure T_ok hQ [10] (by kernel_rfl) rfl ?_
      refine RH.eqv (v' := v32 (step1 (f5 i))) (congrArg _ (xor_v32 _ _)) ?_
      refine RH.arr T_ok hQ 11 (k := i) rfl (by kernel_rfl) rfl rfl rfl rfl rfl hc rfl ?_
      refine RH.only 12 rfl (by kernel_rfl) (fun _ => ?_)
      refine RL.store T_ok hB5 (i := i) (v := v32 (step1 (f5 i))) (by rw [half_len]; exact hc) rfl rfl rfl rfl rfl rfl ?_
      rw [half_set]
      intro m6 hC6
      refine RL.nil (RF.last (by kernel_rfl) ?_)
      repeat (first | with_reducible refine QN.block_normal ?_ | with_reducible refine QN.next ?_)
      repeat (first | with_reducible refine WP.seq ?_ | with_reducible refine WP.block ?_ | with_reducible refine WP.region ?_)
      refine RL.auto T_ok rfl ?_
      refine RL.nil (QN.round (k + 1) ?_ ⟨by omega, hE5.trans hC6.ext (fun k hk => .inl hk), _, hC6.blk, fun j hj => ?_, ?_⟩ (by omega))
      · refine Sub.cons rfl (Sub.cons rfl (Sub.cons rfl (Sub.cons rfl (Sub.cons ?_ Sub.nil))))
        show some (Value.int .i64 (IntKind.i64.wrap ((k : Int) + 1))) = some (Value.int .i64 ((k + 1 : Nat) : Int))
        rw [wrap_i64_in _ (by omega) (by omega)]; rfl
      · rw [if_neg (by omega)]; exact hf5 j hj
      · rw [if_pos rfl, hfi, steps_succ]
    · have hk4 : k = 4 := by have := of_decide_eq_false hc4; omega
      subst hk4
      refine WP.exit ?_; repeat (first | with_reducible refine QN.then_exit ?_ | with_reducible refine QN.block_exit ?_ | with_reducible refine QN.block_far rfl ?_ | with_reducible refine QN.block_normal ?_ | with_reducible refine QN.next ?_); repeat (first | with_reducible refine WP.seq ?_ | with_reducible refine WP.block ?_ | with_reducible refine WP.region ?_)
      refine RL.auto T_ok rfl ?_
      refine RL.nil (QN.round (i + 1) ?_ ⟨by omega, hE5, f5, hB5, fun j hj => ?_⟩ (by omega))
      · refine Sub.cons rfl (Sub.cons rfl (Sub.cons ?_ Sub.nil))
        show some (Value.int .u32 (IntKind.u32.wrap ((i : Int) + 1))) = some (Value.int .u32 ((i + 1 : Nat) : Int))
        rw [wrap_u32]; congr 2; omega
      · rcases Nat.lt_or_ge j i with h1 | h1
        · exact hf5 j h1
        · have : j = i := by omega
          subst this; exact hfi
  · have hi16 : i = 16 := by have := of_decide_eq_false hc; omega
    subst hi16
    have htab : ∀ x : BitVec 32, f (x &&& 15#32).toNat = steps 4 (x &&& 15#32) ∧ (x &&& 15#32).toNat < 16 := by
      intro x
      have h16 : (x &&& 15#32).toNat < 16 := by
        rw [BitVec.toNat_and]
        exact Nat.lt_of_le_of_lt Nat.and_le_right (by decide)
      refine ⟨?_, h16⟩
      rw [hf _ h16]; simp
    refine WP.exit ?_
    repeat with_reducible refine QN.then_exit ?_
    with_reducible refine QN.block_exit ?_
    with_reducible refine QN.next ?_
    refine WP.cut (X := Unit) (fun _ => [(0, .slice A l.length c), (3, .pointer (some ⟨b, 0, none⟩)), (5, v32 (BitVec.allOnes 32))]) (fun _ m' => m' = m3) ?_ ?_
    · repeat (first | with_reducible refine WP.seq ?_ | with_reducible refine WP.block ?_ | with_reducible refine WP.region ?_)
      refine RL.auto T_ok rfl ?_
      exact RL.nil (QN.cutEnd () (Sub.cons rfl (Sub.cons rfl (Sub.cons rfl Sub.nil))) rfl)
    rintro _ m4 rfl
    have hE4 : Ext m [] m4 := hE1.trans hE3 (fun k hk => .inr (by have h9 : k = b := (by simpa using hk); omega))
    have hS4 : Bs m4 M (.slice A l.length c) l := Sl.ext h (hE4.mono (M' := M) (by simp)) (fun _ hk => .inl hk) (by omega)
    repeat (first | with_reducible refine WP.seq ?_ | with_reducible refine WP.block ?_ | with_reducible refine WP.region ?_)
    refine RL.auto T_ok rfl ?_
    refine RL.nil ?_; repeat (first | with_reducible refine QN.block_normal ?_ | with_reducible refine QN.next ?_); repeat (first | with_reducible refine WP.seq ?_ | with_reducible refine WP.block ?_ | with_reducible refine WP.region ?_)
    refine WP.loop (X := Nat) (fun k => [(3, .pointer (some ⟨b, 0, none⟩)), (5, v32 (crcL (BitVec.allOnes 32) (l.take k))), (30, .slice A l.length c), (31, .int .i64 l.length), (32, .int .i64 k)])
      (fun k m' => k ≤ l.length ∧ m' = m4) (fun k => l.length - k) 0
      (Sub.cons rfl (Sub.cons rfl (Sub.cons rfl (Sub.cons rfl (Sub.cons rfl Sub.nil))))) ⟨by simp, rfl⟩ ?_
    rintro k m5 ⟨hk, rfl⟩
    repeat (first | with_reducible refine WP.seq ?_ | with_reducible refine WP.block ?_ | with_reducible refine WP.region ?_)
    refine RL.auto T_ok rfl ?_
    refine RL.nil ?_; repeat (first | with_reducible refine QN.block_normal ?_ | with_reducible refine QN.next ?_); repeat (first | with_reducible refine WP.seq ?_ | with_reducible refine WP.block ?_ | with_reducible refine WP.region ?_)
    refine WP.cond rfl (fun hc => ?_) (fun hc => ?_)
    · have hc : k < l.length := by have := of_decide_eq_true hc; omega
      refine WP.skip ?_; repeat (first | with_reducible refine QN.block_normal ?_ | with_reducible refine QN.next ?_); repeat (first | with_reducible refine WP.seq ?_ | with_reducible refine WP.block ?_ | with_reducible refine WP.region ?_)
      refine RL.byteAt T_ok hS4 (k := k) rfl hc rfl rfl rfl rfl rfl rfl (fun p => ?_)
      have hsn : crcL (BitVec.allOnes 32) (l.take (k + 1)) = crcB (crcL (BitVec.allOnes 32) (l.take k)) l[k] := by
        unfold crcL
        rw [List.take_succ_eq_append_getElem hc, List.foldl_append]; rfl
      generalize crcL (BitVec.allOnes 32) (l.take k) = s at *
      refine RL.auto T_ok rfl ?_
      refine RL.nil ?_; repeat (first | with_reducible refine QN.block_normal ?_ | with_reducible refine QN.next ?_); repeat (first | with_reducible refine WP.seq ?_ | with_reducible refine WP.block ?_ | with_reducible refine WP.region ?_)
      refine RL.pure T_ok 3 rfl ?_
      refine RL.eqv (v' := v32 (b32 l[k])) (congrArg _ (byte_v32 _)) ?_
      refine RL.pure T_ok 1 rfl ?_
      refine RL.eqv (v' := v32 (s ^^^ b32 l[k])) (congrArg _ (xor_v32 _ _)) ?_
      generalize hy : s ^^^ b32 l[k] = y at *
      refine RL.auto T_ok rfl ?_
      refine RL.nil ?_; repeat (first | with_reducible refine QN.block_normal ?_ | with_reducible refine QN.next ?_); repeat (first | with_reducible refine WP.seq ?_ | with_reducible refine WP.block ?_ | with_reducible refine WP.region ?_)
      refine RL.pure T_ok 2 rfl ?_
      refine RL.eqv (v' := v32 (y >>> 4)) (congrArg _ (shr_v32 y 4)) ?_
      refine RL.pure T_ok 2 rfl ?_
      refine RL.eqv (v' := v32 (y &&& 15#32)) (congrArg _ (and_v32 y 15#32)) ?_
      refine RL.arr T_ok (k := (y &&& 15#32).toNat) rfl rfl rfl rfl rfl (htab y).2 rfl ?_
      refine RL.load T_ok rfl rfl rfl (hB3.cell _ (half_get f _ (htab y).2)) rfl ?_
      rw [(htab y).1]
      refine RL.pure T_ok 1 rfl ?_
      refine RL.eqv (v' := v32 (steps 4 y)) (congrArg _ ((xor_v32 _ _).trans (by rw [steps4_table y]))) ?_
      generalize hy2 : steps 4 y = y2 at *
      refine RL.auto T_ok rfl ?_
      refine RL.nil ?_; repeat (first | with_reducible refine QN.block_normal ?_ | with_reducible refine QN.next ?_); repeat (first | with_reducible refine WP.seq ?_ | with_reducible refine WP.block ?_ | with_reducible refine WP.region ?_)
      refine RL.pure T_ok 2 rfl ?_
      refine RL.eqv (v' := v32 (y2 >>> 4)) (congrArg _ (shr_v32 y2 4)) ?_
      refine RL.pure T_ok 2 rfl ?_
      refine RL.eqv (v' := v32 (y2 &&& 15#32)) (congrArg _ (and_v32 y2 15#32)) ?_
      refine RL.arr T_ok (k := (y2 &&& 15#32).toNat) rfl rfl rfl rfl rfl (htab y2).2 rfl ?_
      refine RL.load T_ok rfl rfl rfl (hB3.cell _ (half_get f _ (htab y2).2)) rfl ?_
      rw [(htab y2).1]
      refine RL.pure T_ok 1 rfl ?_
      refine RL.eqv (v' := v32 (steps 4 y2)) (congrArg _ ((xor_v32 _ _).trans (by rw [steps4_table y2]))) ?_
      refine RL.auto T_ok rfl ?_
      refine RL.nil ?_; repeat (first | with_reducible refine QN.block_normal ?_ | with_reducible refine QN.next ?_); repeat (first | with_reducible refine WP.seq ?_ | with_reducible refine WP.block ?_ | with_reducible refine WP.region ?_)
      refine RL.auto T_ok rfl ?_
      refine RL.nil (QN.round (k + 1) ?_ ⟨by omega, rfl⟩ (by omega))
      have h8 : crcL (BitVec.allOnes 32) (l.take (k + 1)) = steps 4 y2 := by
        rw [hsn, ← hy2, ← hy]; exact steps_add 4 4 _
      refine Sub.cons rfl (Sub.cons (congrArg (fun q => some (v32 q)) h8.symm) (Sub.cons rfl (Sub.cons rfl (Sub.cons ?_ Sub.nil))))
      show some (Value.int .i64 (IntKind.i64.wrap ((k : Int) + 1))) = some (Value.int .i64 ((k + 1 : Nat) : Int))
      rw [wrap_i64_in _ (by omega) (by omega)]; rfl
    · have hc : k = l.length := by have := of_decide_eq_false hc; omega
      subst hc
      rw [List.take_length]
      refine WP.exit ?_; repeat (first | with_reducible refine QN.then_exit ?_ | with_reducible refine QN.block_exit ?_ | with_reducible refine QN.block_far rfl ?_ | with_reducible refine QN.block_normal ?_ | with_reducible refine QN.next ?_); repeat (first | with_reducible refine WP.seq ?_ | with_reducible refine WP.block ?_ | with_reducible refine WP.region ?_)
      refine RL.pure T_ok 2 rfl ?_
      refine RL.eqv (v' := v32 (crc l)) (congrArg _ (not_v32 _)) ?_
      refine RL.auto T_ok rfl ?_
      refine RL.nil ?_; repeat (first | with_reducible refine QN.block_normal ?_ | with_reducible refine QN.next ?_); repeat (first | with_reducible refine WP.seq ?_ | with_reducible refine WP.block ?_ | with_reducible refine WP.region ?_)
      refine WP.ret ?_; repeat (first | with_reducible refine QN.then_ret ?_ | with_reducible refine QN.block_ret ?_)
      exact QN.ret1 rfl rfl ⟨_, rfl, rfl, hE4⟩
end Go.Proofs.Ytkfakfbndnbpiaa
