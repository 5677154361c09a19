/- The frames' example. -/
import Derived.Test.YtkfakfbndnbpiaaFrame3
namespace Go.Proofs.Ytkfakfbndnbpiaa
open Go.RowKit Go.Ev

theorem s4_ex : s4 (crc [97]) = [232, 183, 190, 67] := by decide +kernel
theorem frm_a : frm [97] = [1, 97, 232, 183, 190, 67] := by
  unfold frm
  rw [s4_ex, encU_small (by simp)]
  rfl
theorem next_a3 : nextF [1, 97, 232] = .error 0 := nextF_short (x := [97]) (q := [183, 190, 67]) (by simp) frm_a (by simp)
theorem next_a6 : nextF [1, 97, 232, 183, 190, 67] = .ok ([97], 6) := by
  have h := nextF_frm [97] (by simp) []
  rw [List.append_nil, frm_a] at h
  exact h
set_option maxRecDepth 4000 in
set_option maxHeartbeats 400000 in
theorem fknown_c (m : World) : FnR Try.prog 13 [] m fun r m' => r = .bool true ∧ Ext m [] m' := by
  refine FnE.enter ⟨_, Try.func13, by kernel_rfl, by kernel_rfl⟩ Try.func13 rfl rfl ?_
  repeat (first | with_reducible refine WP.seq ?_ | with_reducible refine WP.block ?_ | with_reducible refine WP.region ?_)
  refine RL.auto T_ok rfl ?_
  refine RL.nil ?_; repeat (first | with_reducible refine QN.block_normal ?_ | with_reducible refine QN.next ?_); repeat (first | with_reducible refine WP.seq ?_ | with_reducible refine WP.block ?_ | with_reducible refine WP.region ?_)
  refine RL.buildSlice T_ok [.const (.int .u8 97)] (u8s [97]) rfl rfl rfl rfl rfl rfl (by simp [Value.cells]) rfl rfl (fun b1 m1 hb1 hC1 => ⟨_, rfl, ?_⟩)
  have hE1 : Ext m [] m1 := hC1.new (by omega)
  refine RL.convSelf (sz := 1) T_ok hC1.blk rfl rfl rfl (by omega) (by unfold maxLen; omega) rfl rfl rfl ?_
  intro m2 hE2 hS2
  have hE2' : Ext m [] m2 := hE1.trans hE2 (fun k hk => .inr (by have h9 : k = b1 := (by simpa using hk); omega))
  refine RL.call (fi := []) (ca := []) rfl rfl rfl rfl (fwrite_c m2 [] _ [97] (hS2 [] (by simp)) (by simp)) ?_
  rintro _ m3 (⟨h3, _⟩ | ⟨_, v3, S3, rfl, hO3, hN3⟩)
  · simp at h3
  rw [frm_a] at hO3
  refine ⟨_, rfl, ?_⟩
  have hE3 : Ext m [] m3 := hE2'.trans hN3.1 (by simp)
  obtain ⟨A3, c3, rfl, hc3⟩ := hO3.shape
  have hc3 : 6 ≤ c3 := hc3
  refine RL.auto T_ok rfl ?_
  refine RL.nil ?_; repeat (first | with_reducible refine QN.block_normal ?_ | with_reducible refine QN.next ?_); repeat (first | with_reducible refine WP.seq ?_ | with_reducible refine WP.block ?_ | with_reducible refine WP.region ?_)
  refine RL.alloc T_ok rfl rfl (fun b m4 hb hC4 => ⟨_, rfl, ?_⟩)
  have hE4 : Ext m3 [] m4 := hC4.new (by omega)
  have hB4 : Blk m4 b 40 [.slice none 0 0, .int .i64 0] := hC4.here
  have hb0 : m.heap.size ≤ b := by have := hE3.size; omega
  refine RL.nil ?_; repeat (first | with_reducible refine QN.block_normal ?_ | with_reducible refine QN.next ?_); repeat (first | with_reducible refine WP.seq ?_ | with_reducible refine WP.block ?_ | with_reducible refine WP.region ?_)
  refine RL.auto T_ok rfl ?_
  refine RL.nil ?_; repeat (first | with_reducible refine QN.block_normal ?_ | with_reducible refine QN.next ?_); repeat (first | with_reducible refine WP.seq ?_ | with_reducible refine WP.block ?_ | with_reducible refine WP.region ?_)
  refine WP.condF rfl ?_
  refine WP.skip ?_; repeat (first | with_reducible refine QN.block_normal ?_ | with_reducible refine QN.next ?_); repeat (first | with_reducible refine WP.seq ?_ | with_reducible refine WP.block ?_ | with_reducible refine WP.region ?_)
  refine RL.auto T_ok rfl ?_
  have hW4 : Bs m4 [] (.slice A3 6 c3) [1, 97, 232, 183, 190, 67] := (Own.sl hO3 (by simp)).ext hE4 (by simp) (by omega)
  have hW3 : Bs m4 [] (.slice A3 3 c3) [1, 97, 232] := Sl.upto hW4 (l := 3) (k := c3) (by omega) (by omega) (Nat.le_refl _)
  have hcm : c3 ≤ maxLen := hW4.len.2.2
  have hcm : c3 < 9223372036854775808 := by unfold maxLen at hcm; omega
  refine RL.sliceTo (l := 3) T_ok rfl rfl rfl rfl rfl (by omega) rfl ?_
  refine RL.call (fi := []) (ca := []) rfl rfl rfl rfl (ffeed_c m4 b [] [] [1, 97, 232] 0 _ _ hB4 (Sl.nil _ _ _) hW3 (by simp)) ?_
  rintro _ m5 ⟨rfl, hE5, w5, S5, hB5, hO5, hF5⟩
  refine ⟨_, rfl, ?_⟩
  have hlt4 := hB4.lt
  have hS5 : ∀ k ∈ S5, k ∉ [b] := fun k hk hk' => by
    have h9 : k = b := (by simpa using hk')
    rcases hF5 k hk with h8 | h8
    · cases h8
    · omega
  refine RL.nil ?_; repeat (first | with_reducible refine QN.block_normal ?_ | with_reducible refine QN.next ?_); repeat (first | with_reducible refine WP.seq ?_ | with_reducible refine WP.block ?_ | with_reducible refine WP.region ?_)
  refine RL.call (fi := []) (ca := []) rfl rfl rfl rfl (fnextR_c m5 [b] (fun k hk => by have h9 : k = b := (by simpa using hk); rw [h9]; exact hB5.lt) b [1, 97, 232] 0 ⟨w5, hB5, hO5.sl hS5⟩ (by simp) (by simp)) ?_
  rintro _ m6 ⟨hE6, ⟨q, hq, rfl, hF6⟩ | ⟨_, x, k, _, _, hnx, _⟩⟩
  rotate_left
  · rw [next_a3] at hnx; cases hnx
  rw [if_pos rfl, next_a3] at hq
  injection hq with hq
  subst hq
  refine ⟨_, rfl, ?_⟩
  refine RL.auto T_ok rfl ?_
  refine RL.nil ?_; repeat (first | with_reducible refine QN.block_normal ?_ | with_reducible refine QN.next ?_); repeat (first | with_reducible refine WP.seq ?_ | with_reducible refine WP.block ?_ | with_reducible refine WP.region ?_)
  refine RL.auto T_ok rfl ?_
  have hE46 : Ext m4 [b] m6 := hE5.trans hE6 (fun k hk => .inl hk)
  have hE4' : Ext m [] m6 := (hE3.trans hE4 (by simp)).trans hE46 (fun k hk => .inr (by have h9 : k = b := (by simpa using hk); omega))
  have hW6 : Bs m6 [] (.slice A3 6 c3) [1, 97, 232, 183, 190, 67] := by
    refine Own.sl ((hO3.ext hE4 (by simp)).ext hE46 (fun k hk hk' => ?_)) (by simp)
    have h9 : k = b := (by simpa using hk')
    have := hO3.lt k hk
    omega
  refine RL.sliceFrom (l := 3) T_ok rfl rfl rfl rfl rfl (by simp) rfl ?_
  have hW63 := Sl.from_ hW6 (l := 3) (by omega)
  obtain ⟨w6, hB6, hR6⟩ := hF6
  refine RL.call (fi := []) (ca := []) rfl rfl rfl rfl (ffeed_c m6 b [] [1, 97, 232] [183, 190, 67] 0 _ _ hB6 (Sl.less hR6 (by simp) (by omega)) hW63 (by simp)) ?_
  rintro _ m7 ⟨rfl, hE7, w7, S7, hB7, hO7, hF7⟩
  refine ⟨_, rfl, ?_⟩
  have hlt6 := hB6.lt
  have hS7 : ∀ k ∈ S7, k ∉ [b] := fun k hk hk' => by
    have h9 : k = b := (by simpa using hk')
    rcases hF7 k hk with h8 | h8
    · cases h8
    · omega
  refine RL.nil ?_; repeat (first | with_reducible refine QN.block_normal ?_ | with_reducible refine QN.next ?_); repeat (first | with_reducible refine WP.seq ?_ | with_reducible refine WP.block ?_ | with_reducible refine WP.region ?_)
  refine RL.call (fi := []) (ca := []) rfl rfl rfl rfl (fnextR_c m7 [b] (fun k hk => by have h9 : k = b := (by simpa using hk); rw [h9]; exact hB7.lt) b [1, 97, 232, 183, 190, 67] 0 ⟨w7, hB7, hO7.sl hS7⟩ (by simp) (by simp)) ?_
  rintro _ m8 ⟨hE8, ⟨q, hq, _, _⟩ | ⟨_, x, k, u8, S8, hnx, rfl, hO8, hF8, hR8⟩⟩
  · rw [if_pos rfl, next_a6] at hq; cases hq
  rw [next_a6] at hnx
  injection hnx with hnx
  injection hnx with hx hk
  subst hx; subst hk
  refine ⟨_, rfl, ?_⟩
  refine RL.auto T_ok rfl ?_
  refine RL.nil ?_; repeat (first | with_reducible refine QN.block_normal ?_ | with_reducible refine QN.next ?_); repeat (first | with_reducible refine WP.seq ?_ | with_reducible refine WP.block ?_ | with_reducible refine WP.region ?_)
  have hlt7 := hB7.lt
  have hS8 : ∀ k ∈ S8, k ∉ [b] := fun k hk hk' => by
    have h9 : k = b := (by simpa using hk')
    rcases hF8 k hk with h8 | h8
    · cases h8
    · omega
  refine RL.call (fi := []) (ca := []) rfl rfl rfl rfl (fnextR_c m8 [b] (fun k hk => by have h9 : k = b := (by simpa using hk); rw [h9]; exact hR8.lt) b [] 0 hR8 (by simp) (by simp)) ?_
  rintro _ m9 ⟨hE9, ⟨q, hq, rfl, hF9⟩ | ⟨_, x, k, _, _, hnx, _⟩⟩
  rotate_left
  · rw [nextF_nil] at hnx; cases hnx
  rw [if_pos rfl, nextF_nil] at hq
  injection hq with hq
  subst hq
  refine ⟨_, rfl, ?_⟩
  refine RL.auto T_ok rfl ?_
  refine RL.nil ?_; repeat (first | with_reducible refine QN.block_normal ?_ | with_reducible refine QN.next ?_); repeat (first | with_reducible refine WP.seq ?_ | with_reducible refine WP.block ?_ | with_reducible refine WP.region ?_)
  refine RL.makeSlice (k := 1048577) T_ok rfl rfl rfl rfl rfl rfl rfl (by omega) (by omega) (by show 1 * _ ≤ _; omega) (fun b10 m10 hb10 hC10 => ⟨_, rfl, ?_⟩)
  have hE10 : Ext m9 [] m10 := hC10.new (by omega)
  have hz10 : u8s (List.replicate 1048577 0) = List.replicate 1048577 (.int .u8 0) := by unfold u8s; rw [List.map_replicate]; rfl
  have hW10 : Bs m10 [] (.slice (some ⟨b10, 0, none⟩) 1048577 1048577) (List.replicate 1048577 0) := by
    unfold Bs
    rw [hz10]
    have := Sl.of_blk (M := []) (n := 1048577) (c := 1048577) (sz := 1) (Chg.blk hC10) (by simp) (by rw [List.length_replicate]; omega) (Nat.le_refl _) (by unfold maxLen; omega)
    rwa [Nat.mul_one, List.take_of_length_le (by rw [List.length_replicate]; omega)] at this
  refine RL.call (fi := []) (ca := []) rfl rfl rfl rfl (fwrite_c m10 [] _ _ hW10 (by rw [List.length_replicate]; omega)) ?_
  rintro _ m11 (⟨_, rfl, rfl⟩ | ⟨h11, _⟩)
  rotate_left
  · rw [List.length_replicate] at h11; omega
  refine ⟨_, rfl, ?_⟩
  refine RL.auto T_ok rfl ?_
  refine RL.nil ?_; repeat (first | with_reducible refine QN.block_normal ?_ | with_reducible refine QN.next ?_); repeat (first | with_reducible refine WP.seq ?_ | with_reducible refine WP.block ?_ | with_reducible refine WP.region ?_)
  have hb1 : ∀ k ∈ [b], k ∈ ([] : List Nat) ∨ m.heap.size ≤ k := fun k hk => .inr (by have h9 : k = b := (by simpa using hk); omega)
  have hE11 : Ext m [] m11 := (((hE4'.trans hE7 hb1).trans hE8 hb1).trans hE9 hb1).trans hE10 (by simp)
  have hu11 : Bs m11 [] u8 [97] := Own.sl ((hO8.ext hE9 hS8).ext hE10 (by simp)) (by simp)
  obtain ⟨A8, c8, rfl, _, _⟩ := hu11.shape
  obtain ⟨w9, hB9, hR9⟩ := hF9
  have hB11 := hB9.ext hE10 (by simp)
  have hR11 : Bs m11 [] w9 [] := (Sl.less hR9 (M' := []) (by simp) (by omega)).ext hE10 (by simp) (by omega)
  have hW11 : Bs m11 [] (.slice A3 6 c3) [1, 97, 232, 183, 190, 67] := by
    have hE611 : Ext m6 [b] m11 := ((hE7.trans hE8 (fun k hk => .inl hk)).trans hE9 (fun k hk => .inl hk)).trans (hE10) (by simp)
    refine Own.sl (((hO3.ext hE4 (by simp)).ext hE46 (fun k hk hk' => ?_)).ext hE611 (fun k hk hk' => ?_)) (by simp)
    · have h9 : k = b := (by simpa using hk')
      have := hO3.lt k hk
      omega
    · have h9 : k = b := (by simpa using hk')
      have := hO3.lt k hk
      omega
  refine RL.auto T_ok rfl ?_
  refine RL.bytesString T_ok hu11 rfl rfl rfl rfl rfl rfl ?_
  refine RL.pure T_ok 1 rfl ?_
  refine RL.eqv (v' := .bool true) (congrArg _ (by show ((str [97]).toList == (str [97]).toList) = true; rw [str_toList]; rfl)) ?_
  refine RL.auto T_ok rfl ?_
  refine RL.call (fi := []) (ca := []) rfl rfl rfl rfl (fleft_c m11 b [] [] 0 w9 hB11 hR11) ?_
  rintro _ m12 ⟨rfl, rfl⟩
  refine ⟨_, rfl, ?_⟩
  refine RL.auto T_ok rfl ?_
  refine RL.buildSlice T_ok [.const (.int .u8 1), .const (.int .u8 97), .const (.int .u8 232), .const (.int .u8 183), .const (.int .u8 190), .const (.int .u8 67)] (u8s [1, 97, 232, 183, 190, 67]) rfl rfl rfl rfl rfl rfl (by simp [Value.cells]) rfl rfl (fun b13 m13 hb13 hC13 => ⟨_, rfl, ?_⟩)
  have hE13 : Ext m12 [] m13 := hC13.new (by omega)
  have hW13 : Bs m13 [] _ [1, 97, 232, 183, 190, 67] := Sl.of_blk (M := []) (n := 6) (c := 6) (sz := 1) hC13.blk (by simp) (by simp [u8s]) (by omega) (by unfold maxLen; omega)
  refine RL.call (fi := []) (ca := []) rfl rfl rfl rfl (hbytes_c m13 [] _ _ _ _ (Sl.ext hW11 hE13 (by simp) (by omega)) hW13) ?_
  rintro _ m14 ⟨rfl, rfl⟩
  refine ⟨_, rfl, ?_⟩
  refine RL.auto T_ok rfl ?_
  refine RL.nil ?_; repeat (first | with_reducible refine QN.block_normal ?_ | with_reducible refine QN.next ?_); repeat (first | with_reducible refine WP.seq ?_ | with_reducible refine WP.block ?_ | with_reducible refine WP.region ?_)
  refine WP.ret ?_; repeat (first | with_reducible refine QN.then_ret ?_ | with_reducible refine QN.block_ret ?_)
  exact QN.ret1 rfl rfl ⟨_, rfl, rfl, hE11.trans hE13 (by simp)⟩
end Go.Proofs.Ytkfakfbndnbpiaa
