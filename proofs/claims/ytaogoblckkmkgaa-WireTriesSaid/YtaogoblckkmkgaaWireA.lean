/- The chapter's examples: they hold. -/
import Derived.Test.YtaogoblckkmkgaaWire9
import Derived.Test.YtaogoblckkmkgaaWire6
import Derived.Test.YtaogoblckkmkgaaConv
namespace Go.Proofs.Ytaogoblckkmkgaa
open Go.RowKit Go.Ev

theorem k1_c (m : World) (b : Nat) : FnE Try.prog 38 [.pointer (some ⟨b, 0, none⟩)] m fun ed m' => ed = .panicked (brk 7) ∧ m' = m := by
  refine FnE.enter ⟨_, Try.func38, by kernel_rfl, by kernel_rfl⟩ Try.func38 rfl rfl ?_
  repeat (first | with_reducible refine WP.seq ?_ | with_reducible refine WP.block ?_ | with_reducible refine WP.region ?_)
  refine RL.callE (fi := []) (ca := []) rfl rfl rfl rfl (fail_c m 7) ?_ ?_ ?_
  · rintro v m' ⟨_, h⟩; cases h
  · rintro ch m' ⟨rfl, h⟩
    injection h with h; subst h
    repeat (first | with_reducible refine QN.then_panic ?_ | with_reducible refine QN.block_panic ?_)
    exact QN.panic ⟨rfl, rfl⟩
  · rintro m' ⟨_, h⟩; cases h
theorem k2_c (m : World) (b : Nat) (q : Bool) (hB : Blk m b 4 [.bool q]) : FnE Try.prog 39 [.pointer (some ⟨b, 0, none⟩)] m fun ed m' => ed = .returned (.tuple #[]) ∧ Blk m' b 4 [.bool !q] ∧ Ext m [b] m' := by
  refine FnE.enter ⟨_, Try.func39, by kernel_rfl, by kernel_rfl⟩ Try.func39 rfl rfl ?_
  repeat (first | with_reducible refine WP.seq ?_ | with_reducible refine WP.block ?_ | with_reducible refine WP.region ?_)
  refine RL.load T_ok rfl rfl rfl (hB.cell 0 rfl) rfl ?_
  refine RL.pure T_ok 1 rfl ?_
  refine RL.store T_ok hB (i := 0) (v := .bool !q) (by simp) rfl rfl rfl rfl rfl rfl ?_
  intro m2 hC
  refine RL.nil (QN.end0 rfl ⟨rfl, hC.blk, hC.ext⟩)
theorem enc300 : encU 300 = [172, 2] := by rw [encU_big (by omega), encU_small (by omega)]; rfl
theorem enc1 : encU (zig (-1)) = [1] := by rw [encU_small (by decide)]; rfl
theorem rd300 : rdU 1000 0 0 [172, 2, 1] = .ok (300, [1]) := by rfl
theorem rd1 : rdU 18446744073709551615 0 0 [1] = .ok (1, []) := by rfl
theorem crc_ex : (crc [49, 50, 51, 52, 53, 54, 55, 56, 57]).toNat = 3421780262 := by decide +kernel
theorem newW {m m1 : World} {b : Nat} (hC : Chg m b (.cells #[.slice none 0 0] 41 (0, 0)) m1) : WAt m1 b [b] [] := ⟨_, [], hC.here, Own.empty _ _ _ _, by simp, rfl⟩
set_option maxRecDepth 4000 in
set_option maxHeartbeats 400000 in
theorem known_c (m : World) : FnR Try.prog 9 [] m fun r m' => r = .bool true ∧ Ext m [] m' := by
  refine FnE.enter ⟨_, Try.func9, by kernel_rfl, by kernel_rfl⟩ Try.func9 rfl rfl ?_
  repeat (first | with_reducible refine WP.seq ?_ | with_reducible refine WP.block ?_ | with_reducible refine WP.region ?_)
  refine RL.auto T_ok rfl ?_
  refine RL.nil ?_; repeat (first | with_reducible refine QN.block_normal ?_ | with_reducible refine QN.next ?_); repeat (first | with_reducible refine WP.seq ?_ | with_reducible refine WP.block ?_ | with_reducible refine WP.region ?_)
  refine RL.alloc T_ok rfl rfl (fun b m1 hb hC1 => ⟨_, rfl, ?_⟩)
  have hE1 := hC1.new (by omega)
  have hW1 := newW hC1
  refine RL.nil ?_; repeat (first | with_reducible refine QN.block_normal ?_ | with_reducible refine QN.next ?_); repeat (first | with_reducible refine WP.seq ?_ | with_reducible refine WP.block ?_ | with_reducible refine WP.region ?_)
  refine RL.call (fi := []) (ca := []) rfl rfl rfl rfl (wuint m1 300 (by omega) b [b] [] hW1 (by simp)) ?_
  rintro _ m2 ⟨rfl, S2, hW2, hE2, hF2⟩
  refine ⟨_, rfl, ?_⟩
  rw [enc300] at hW2
  refine RL.nil ?_; repeat (first | with_reducible refine QN.block_normal ?_ | with_reducible refine QN.next ?_); repeat (first | with_reducible refine WP.seq ?_ | with_reducible refine WP.block ?_ | with_reducible refine WP.region ?_)
  refine RL.call (fi := []) (ca := []) rfl rfl rfl rfl (wint m2 (-1) (by omega) (by omega) b S2 _ hW2 (by simp)) ?_
  rintro _ m3 ⟨rfl, S3, hW3, hE3, hF3⟩
  refine ⟨_, rfl, ?_⟩
  rw [enc1] at hW3
  refine RL.nil ?_; repeat (first | with_reducible refine QN.block_normal ?_ | with_reducible refine QN.next ?_); repeat (first | with_reducible refine WP.seq ?_ | with_reducible refine WP.block ?_ | with_reducible refine WP.region ?_)
  refine RL.call (fi := []) (ca := []) rfl rfl rfl rfl (wbytes m3 b S3 _ hW3 (by simp)) ?_
  rintro v m4 ⟨S4, hO4, hN4⟩
  refine ⟨_, rfl, ?_⟩
  have hE4 : Ext m [] m4 := by
    have h2 := hE1.trans hE2 (M := []) (fun k hk => .inr (by have h9 : k = b := (by simpa using hk); omega))
    have h3 := h2.trans hE3 (fun k hk => .inr (by
      have h8 := hE1.size
      rcases hF2 k hk with h9 | h9
      · have h9 : k = b := (by simpa using h9); omega
      · omega))
    exact h3.trans hN4.1 (by simp)
  have hS4 : Bs m4 [] v [172, 2, 1] := Own.sl hO4 (by simp)
  refine RL.auto T_ok rfl ?_
  refine RL.nil ?_; repeat (first | with_reducible refine QN.block_normal ?_ | with_reducible refine QN.next ?_); repeat (first | with_reducible refine WP.seq ?_ | with_reducible refine WP.block ?_ | with_reducible refine WP.region ?_)
  refine RL.auto T_ok rfl ?_
  refine RL.call (fi := []) (ca := []) rfl rfl rfl rfl (newReader_c m4 [] (by simp) v _ hS4 (by simp)) ?_
  rintro _ m5 ⟨r, rfl, hr, hR5, hE5⟩
  refine ⟨_, rfl, ?_⟩
  refine RL.auto T_ok rfl ?_
  refine RL.nil ?_; repeat (first | with_reducible refine QN.block_normal ?_ | with_reducible refine QN.next ?_); repeat (first | with_reducible refine WP.seq ?_ | with_reducible refine WP.block ?_ | with_reducible refine WP.region ?_)
  refine RL.auto T_ok rfl ?_
  refine RL.buildSlice T_ok [.const (.int .u8 172), .const (.int .u8 2), .const (.int .u8 1)] (u8s [172, 2, 1]) rfl rfl rfl rfl rfl rfl (by simp [Value.cells]) rfl rfl (fun b6 m6 hb6 hC6 => ⟨_, rfl, ?_⟩)
  have hE6 : Ext m5 [] m6 := hC6.new (by omega)
  have hS6 : Bs m6 [] _ [172, 2, 1] := Sl.of_blk (n := 3) (c := 3) hC6.blk (by simp) (by simp [u8s]) (by omega) (by unfold maxLen; omega)
  refine RL.call (fi := []) (ca := []) rfl rfl rfl rfl (hbytes_c m6 [] _ _ _ _ (Sl.ext hS4 (hE5.trans hE6 (by simp)) (by simp) (by omega)) hS6) ?_
  rintro _ m7 ⟨rfl, rfl⟩
  refine ⟨_, rfl, ?_⟩
  refine RL.auto T_ok rfl ?_
  refine RL.buildSlice T_ok [.const (.int .u8 49), .const (.int .u8 50), .const (.int .u8 51), .const (.int .u8 52), .const (.int .u8 53), .const (.int .u8 54), .const (.int .u8 55), .const (.int .u8 56), .const (.int .u8 57)] (u8s [49, 50, 51, 52, 53, 54, 55, 56, 57]) rfl rfl rfl rfl rfl rfl (by simp [Value.cells]) rfl rfl (fun b8 m8 hb8 hC8 => ⟨_, rfl, ?_⟩)
  have hE8 : Ext m7 [] m8 := hC8.new (by omega)
  refine RL.convSelf (sz := 1) T_ok hC8.blk rfl rfl rfl (by omega) (by unfold maxLen; omega) rfl rfl rfl ?_
  intro m9 hE9 hS9
  refine RL.call (fi := []) (ca := []) rfl rfl rfl rfl (sum_c m9 [] _ [49, 50, 51, 52, 53, 54, 55, 56, 57] (hS9 [] (by simp)) (by simp)) ?_
  rintro _ m10 ⟨rfl, hE10⟩
  refine ⟨_, rfl, ?_⟩
  refine RL.pure T_ok 1 rfl ?_
  refine RL.eqv (v' := .bool false) (congrArg _ (by rw [crc_ex]; rfl)) ?_
  refine RL.auto T_ok rfl ?_
  refine RL.nil ?_; repeat (first | with_reducible refine QN.block_normal ?_ | with_reducible refine QN.next ?_); repeat (first | with_reducible refine WP.seq ?_ | with_reducible refine WP.block ?_ | with_reducible refine WP.region ?_)
  refine WP.condF rfl ?_
  have hE10' : Ext m5 [] m10 := ((hE6.trans hE8 (by simp)).trans hE9 (fun k hk => .inr (by have h9 : k = b8 := (by simpa using hk); have := hE6.size; omega))).trans hE10 (by simp)
  have hR10 := hR5.new hE10'
  have hlt : r < m10.heap.size := hR10.lt
  refine WP.skip ?_; repeat (first | with_reducible refine QN.block_normal ?_ | with_reducible refine QN.next ?_); repeat (first | with_reducible refine WP.seq ?_ | with_reducible refine WP.block ?_ | with_reducible refine WP.region ?_)
  refine RL.auto T_ok rfl ?_
  refine RL.call (fi := []) (ca := []) rfl rfl rfl rfl (ruint_c m10 [r] r _ 0 hR10 (by simp) 1000) ?_
  rintro _ m11 ⟨rfl, hR11, hE11⟩
  rw [gR_ok rd300] at hR11
  refine ⟨_, rfl, ?_⟩
  rw [gR_ok rd300]
  refine RL.auto T_ok rfl ?_
  refine RL.call (fi := []) (ca := []) rfl rfl rfl rfl (rint_c m11 [r] r _ 0 hR11 (by simp)) ?_
  rintro _ m12 ⟨rfl, hR12, hE12⟩
  rw [gR_ok rd1] at hR12
  refine ⟨_, rfl, ?_⟩
  rw [gR_ok rd1]
  refine RL.auto T_ok rfl ?_
  refine RL.nil ?_; repeat (first | with_reducible refine QN.block_normal ?_ | with_reducible refine QN.next ?_); repeat (first | with_reducible refine WP.seq ?_ | with_reducible refine WP.block ?_ | with_reducible refine WP.region ?_)
  refine RL.auto T_ok rfl ?_
  refine RL.call (fi := []) (ca := []) rfl rfl rfl rfl (err_c m12 [r] r _ 0 hR12) ?_
  rintro _ m13 ⟨rfl, rfl⟩
  refine ⟨_, rfl, ?_⟩
  refine RL.auto T_ok rfl ?_
  refine RL.nil ?_; repeat (first | with_reducible refine QN.block_normal ?_ | with_reducible refine QN.next ?_); repeat (first | with_reducible refine WP.seq ?_ | with_reducible refine WP.block ?_ | with_reducible refine WP.region ?_)
  refine RL.auto T_ok rfl ?_
  refine RL.call (fi := []) (ca := []) rfl rfl rfl rfl (rbyte_c m13 [r] r _ 0 hR12 (by simp)) ?_
  rintro _ m14 ⟨rfl, hR14, hE14⟩
  have hR14 : RAt m14 [r] r [] 10 := hR14
  refine ⟨_, rfl, ?_⟩
  refine RL.nil ?_; repeat (first | with_reducible refine QN.block_normal ?_ | with_reducible refine QN.next ?_); repeat (first | with_reducible refine WP.seq ?_ | with_reducible refine WP.block ?_ | with_reducible refine WP.region ?_)
  refine RL.alloc T_ok rfl rfl (fun q m15 hq hC15 => ⟨_, rfl, ?_⟩)
  have hE15 : Ext m14 [] m15 := hC15.new (by omega)
  have hB15 : Blk m15 q 4 [.bool false] := hC15.here
  refine RL.store T_ok hB15 (i := 0) (v := .bool false) (by simp) rfl rfl rfl rfl rfl rfl ?_
  intro m16 hC16
  have hB16 : Blk m16 q 4 [.bool false] := hC16.blk
  have hE16 : Ext m14 [] m16 := hE15.trans hC16.ext (fun k hk => .inr (by have h9 : k = q := (by simpa using hk); omega))
  refine RL.nil ?_; repeat (first | with_reducible refine QN.block_normal ?_ | with_reducible refine QN.next ?_); repeat (first | with_reducible refine WP.seq ?_ | with_reducible refine WP.block ?_ | with_reducible refine WP.region ?_)
  refine RL.auto T_ok rfl ?_
  refine RL.call (fi := []) (ca := []) rfl rfl rfl rfl (try_c m16 38 [] [.pointer (some ⟨q, 0, none⟩)] [.pointer (some ⟨q, 0, none⟩)] rfl (fun m1 ed m2 => ed = .panicked (brk 7) ∧ m2 = m1)
    (fun m1 _ _ => k1_c m1 q) (fun m1 m2 h => by cases h.1) (fun m1 ch m2 h => ⟨7, by injection h.1⟩) (fun m1 ed m2 h _ _ => ⟨[], by rw [h.2]; exact Ext.refl _ _, by simp⟩)) ?_
  rintro v17 m17 ⟨m1, m2, hE1a, hsz1, hE2a, hout⟩
  have hv17 : v17 = .int .i64 7 ∧ m2 = m1 := by
    rcases hout with ⟨u, h, _⟩ | ⟨e, h, h'⟩
    · cases h.1
    · have h1 : brk e = brk 7 := by injection h.1
      have h2 : e = 7 := by simpa [brk] using h1
      exact ⟨by rw [h', h2], h.2⟩
  obtain ⟨rfl, rfl⟩ := hv17
  have hE17 : Ext m16 [] m17 := hE1a.trans hE2a (fun k hk => .inr (by have h9 : k = m16.heap.size := (by simpa using hk); omega))
  have hB17 := hB16.up hE17
  refine ⟨_, rfl, ?_⟩
  refine RL.auto T_ok rfl ?_
  refine RL.nil ?_; repeat (first | with_reducible refine QN.block_normal ?_ | with_reducible refine QN.next ?_); repeat (first | with_reducible refine WP.seq ?_ | with_reducible refine WP.block ?_ | with_reducible refine WP.region ?_)
  refine RL.auto T_ok rfl ?_
  refine RL.call (fi := []) (ca := []) rfl rfl rfl rfl (try_c m17 39 [] [.pointer (some ⟨q, 0, none⟩)] [.pointer (some ⟨q, 0, none⟩)] rfl (fun m1 ed m2 => ed = .returned (.tuple #[]) ∧ Blk m2 q 4 [.bool !false] ∧ Ext m1 [q] m2)
    (fun m1 h1 _ => k2_c m1 q false (hB17.up h1)) (fun m1 m2 h => by cases h.1) (fun m1 ch m2 h => by cases h.1) (fun m1 ed m2 h _ _ => ⟨[q], h.2.2, by have h9 := hB17.lt; simp; omega⟩)) ?_
  rintro v18 m18 ⟨m3a, m4a, hE3a, hsz3, hE4a, hout⟩
  have hq := hB17.lt
  have hv18 : v18 = .int .i64 0 ∧ Blk m4a q 4 [.bool true] ∧ Ext m3a [q] m4a := by
    rcases hout with ⟨u, h, h'⟩ | ⟨e, h, h'⟩
    · exact ⟨h', h.2⟩
    · cases h.1
  obtain ⟨rfl, hB4, hE4b⟩ := hv18
  have hB18 : Blk m18 q 4 [.bool true] := hB4.ext hE4a (by simp; omega)
  have hE18 : Ext m17 [q] m18 := ((hE3a.mono (M' := [q]) (by simp)).trans hE4b (fun k hk => .inl hk)).trans hE4a (fun k hk => .inr (by have h9 : k = m17.heap.size := (by simpa using hk); omega))
  have hrlt := hR14.lt
  have hR16 : RAt m16 [q, r] r [] 10 := hR14.ext hE16 (by simp) (by simp) (fun k hk => by
    rcases List.mem_cons.1 hk with rfl | hk
    · exact .inr (by omega)
    · exact .inl hk)
  have hR18 : RAt m18 [q, r] r [] 10 := (hR16.new hE17).ext hE18 (by simp; omega) (fun k hk _ => by have h9 : k = q := (by simpa using hk); simp [h9]) (fun k hk => .inl hk)
  have hE : Ext m [] m18 := by
    have hr0 : ∀ k ∈ [r], k ∈ ([] : List Nat) ∨ m.heap.size ≤ k := fun k hk => .inr (by have h9 : k = r := (by simpa using hk); have := hE4.size; omega)
    have e14 := ((((hE4.trans hE5 (by simp)).trans hE10' (by simp)).trans hE11 hr0).trans hE12 hr0).trans hE14 hr0
    exact ((e14.trans hE16 (by simp)).trans hE17 (by simp)).trans hE18 (fun k hk => .inr (by have h9 : k = q := (by simpa using hk); have := e14.size; omega))
  refine ⟨_, rfl, ?_⟩
  refine RL.auto T_ok rfl ?_
  refine RL.nil ?_; repeat (first | with_reducible refine QN.block_normal ?_ | with_reducible refine QN.next ?_); repeat (first | with_reducible refine WP.seq ?_ | with_reducible refine WP.block ?_ | with_reducible refine WP.region ?_)
  refine RL.auto T_ok rfl ?_
  refine RL.call (fi := []) (ca := []) rfl rfl rfl rfl (err_c m18 [q, r] r _ 10 hR18) ?_
  rintro _ m19 ⟨rfl, rfl⟩
  refine ⟨_, rfl, ?_⟩
  refine RL.auto T_ok rfl ?_
  refine RL.load T_ok rfl rfl rfl (hB18.cell 0 rfl) rfl ?_
  refine RL.auto T_ok rfl ?_
  refine RL.nil ?_; repeat (first | with_reducible refine QN.block_normal ?_ | with_reducible refine QN.next ?_); repeat (first | with_reducible refine WP.seq ?_ | with_reducible refine WP.block ?_ | with_reducible refine WP.region ?_)
  refine WP.ret ?_; repeat (first | with_reducible refine QN.then_ret ?_ | with_reducible refine QN.block_ret ?_)
  exact QN.ret1 rfl rfl ⟨_, rfl, rfl, hE⟩
end Go.Proofs.Ytaogoblckkmkgaa
