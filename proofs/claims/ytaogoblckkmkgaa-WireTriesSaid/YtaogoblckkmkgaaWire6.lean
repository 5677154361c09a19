/- The Reader's eight bytes and texts. The lengths stay below 2^30. -/
import Derived.Test.YtaogoblckkmkgaaWire5
namespace Go.Proofs.Ytaogoblckkmkgaa
open Go.RowKit Go.Ev

theorem fixed1_c (m m1 : World) (M : List Nat) (b b2 b5 : Nat) (l : List UInt8) (h2 : Blk m1 b2 34 [.pointer (some ⟨b, 0, none⟩)]) (h5 : Blk m1 b5 36 [.int .u64 0])
    (hR : RAt m1 (m.heap.size :: M) b l 0) (hbM : b ∈ M) (h5M : b5 ∈ M) (h5b : b5 ≠ b) :
    FnE Try.prog 55 [.pointer (some ⟨b2, 0, none⟩), .pointer (some ⟨b5, 0, none⟩)] m1
      (GIn m M b [b5] (fun l2 m2 => ∃ n : Nat, rdFixed l = .ok (n, l2) ∧ Blk m2 b5 36 [.int .u64 n]) (fun q m2 => rdFixed l = .error q ∧ Blk m2 b5 36 [.int .u64 0]) m1) := by
  refine FnE.enter ⟨_, Try.func55, by kernel_rfl, by kernel_rfl⟩ Try.func55 rfl rfl ?_
  repeat (first | with_reducible refine WP.seq ?_ | with_reducible refine WP.block ?_ | with_reducible refine WP.region ?_)
  refine RL.load T_ok rfl rfl rfl (h2.cell 0 rfl) rfl ?_
  refine RL.callE (fi := []) (ca := []) rfl rfl rfl rfl (take_c m1 (m.heap.size :: M) b l 0 hR (by simp [hbM]) 8) ?_ ?_ ?_
  rotate_left
  · rintro ch m2 (⟨_, _, h, _⟩ | ⟨hlt, h, rfl⟩)
    · cases h
    injection h with h
    subst h
    repeat (first | with_reducible refine QN.then_panic ?_ | with_reducible refine QN.block_panic ?_)
    exact QN.panic ⟨Ext.refl _ _, .inr ⟨10, l, by omega, rfl, hR, by unfold rdFixed; rw [if_neg (by omega)], h5⟩⟩
  · rintro m2 (⟨_, _, h, _⟩ | ⟨_, h, _⟩) <;> cases h
  rintro v m2 (⟨hle, v', h, hB, hR2, hE⟩ | ⟨_, h, _⟩)
  rotate_left
  · cases h
  injection h with h
  subst h
  have hok : rdFixed l = .ok (be 0 (l.take 8), l.drop 8) := by unfold rdFixed; rw [if_pos hle]
  have h8 : (l.take 8).length = 8 := by simp; omega
  generalize l.take 8 = l8 at *
  obtain ⟨A, c, rfl, _, _⟩ := hB.shape
  refine ⟨_, rfl, ?_⟩
  refine RL.auto T_ok rfl ?_
  refine RL.nil ?_; repeat (first | with_reducible refine QN.block_normal ?_ | with_reducible refine QN.next ?_); repeat (first | with_reducible refine WP.seq ?_ | with_reducible refine WP.block ?_ | with_reducible refine WP.region ?_)
  have h5' := h5.ext hE (by simp [h5b])
  refine WP.loop (X := Nat) (fun k => [(1, .pointer (some ⟨b5, 0, none⟩)), (5, .slice A l8.length c), (6, .int .i64 l8.length), (7, .int .i64 k)])
    (fun k m' => k ≤ 8 ∧ Blk m' b5 36 [.int .u64 (be 0 (l8.take k) : Nat)] ∧ Ext m2 [b5] m') (fun k => 8 - k) 0
    (Sub.cons rfl (Sub.cons rfl (Sub.cons rfl (Sub.cons rfl Sub.nil)))) ⟨by simp, h5', Ext.refl _ _⟩ ?_
  rintro k m3 ⟨hk, hB3, hE3⟩
  have hS3 := Sl.ext hB (hE3.mono (M' := m.heap.size :: M) (by simp [h5M])) (fun _ hk => .inl hk) (by omega)
  repeat (first | with_reducible refine WP.seq ?_ | with_reducible refine WP.block ?_ | with_reducible refine WP.region ?_)
  refine RL.auto T_ok rfl ?_
  refine RL.nil ?_; repeat (first | with_reducible refine QN.block_normal ?_ | with_reducible refine QN.next ?_); repeat (first | with_reducible refine WP.seq ?_ | with_reducible refine WP.block ?_ | with_reducible refine WP.region ?_)
  refine WP.cond rfl (fun hc => ?_) (fun hc => ?_)
  · have hc : k < 8 := by have := of_decide_eq_true hc; omega
    refine WP.skip ?_; repeat (first | with_reducible refine QN.block_normal ?_ | with_reducible refine QN.next ?_); repeat (first | with_reducible refine WP.seq ?_ | with_reducible refine WP.block ?_ | with_reducible refine WP.region ?_)
    refine RL.byteAt T_ok hS3 (k := k) rfl (by omega) rfl rfl rfl rfl rfl rfl (fun p => ?_)
    refine RL.auto T_ok rfl ?_
    refine RL.nil ?_; repeat (first | with_reducible refine QN.block_normal ?_ | with_reducible refine QN.next ?_); repeat (first | with_reducible refine WP.seq ?_ | with_reducible refine WP.block ?_ | with_reducible refine WP.region ?_)
    refine RL.load T_ok rfl rfl rfl (hB3.cell 0 rfl) rfl ?_
    have hlt : be 0 (l8.take k) < 256 ^ 7 := by
      have h1 := be_lt (l8.take k) 0
      have h2 : (l8.take k).length ≤ 7 := by simp; omega
      have : 256 ^ (l8.take k).length ≤ 256 ^ 7 := Nat.pow_le_pow_right (by omega) h2
      omega
    have hsn : be 0 (l8.take (k + 1)) = be 0 (l8.take k) * 256 + (l8[k]'(by omega)).toNat := by
      rw [List.take_succ_eq_append_getElem (by omega), be_snoc]
    refine RL.pure T_ok 4 rfl ?_
    refine RL.eqv (v' := .int .u64 (be 0 (l8.take (k + 1)) : Nat)) (congrArg _ ((shl8_or _ _ hlt).trans (by rw [hsn]))) ?_
    refine RL.store T_ok hB3 (i := 0) (v := .int .u64 (be 0 (l8.take (k + 1)) : Nat)) (by simp) rfl rfl rfl rfl rfl rfl ?_
    intro m4 hC
    refine RL.nil ?_; repeat (first | with_reducible refine QN.block_normal ?_ | with_reducible refine QN.next ?_); repeat (first | with_reducible refine WP.seq ?_ | with_reducible refine WP.block ?_ | with_reducible refine WP.region ?_)
    refine RL.auto T_ok rfl ?_
    refine RL.nil (QN.round (k + 1) ?_ ⟨by omega, hC.blk, hE3.trans hC.ext (fun k hk => .inl hk)⟩ (by omega))
    refine Sub.cons rfl (Sub.cons rfl (Sub.cons rfl (Sub.cons ?_ Sub.nil)))
    show some (Value.int .i64 (IntKind.i64.wrap ((k : Int) + 1))) = some (Value.int .i64 ((k + 1 : Nat) : Int))
    rw [wrap_i64_in _ (by omega) (by omega)]; rfl
  · have hc : k = 8 := by have := of_decide_eq_false hc; omega
    subst hc
    rw [List.take_of_length_le (by omega)] at hB3
    refine WP.exit ?_; repeat (first | with_reducible refine QN.then_exit ?_ | with_reducible refine QN.block_exit ?_ | with_reducible refine QN.block_far rfl ?_ | with_reducible refine QN.block_normal ?_ | with_reducible refine QN.next ?_); repeat (first | with_reducible refine WP.seq ?_ | with_reducible refine WP.block ?_ | with_reducible refine WP.region ?_)
    refine QN.end0 rfl ⟨?_, .inl ⟨_, rfl, hR2.ext hE3 (by simp; omega) (by simp [h5M]) (fun _ hk => .inl hk), _, hok, hB3⟩⟩
    exact (hE.mono (M' := [b, b5]) (by simp)).trans hE3 (by simp)
theorem rfixed_c (m : World) (M : List Nat) (b : Nat) (l : List UInt8) (e : Int) (h : RAt m M b l e) (hbM : b ∈ M) :
    FnR Try.prog 34 [.pointer (some ⟨b, 0, none⟩)] m (RPost m M b (fun n : Nat => .int .u64 n) (gR 0 e l (rdFixed l))) := by
  have hblt := h.lt
  refine FnE.enter ⟨_, Try.func34, by kernel_rfl, by kernel_rfl⟩ Try.func34 rfl rfl ?_
  repeat (first | with_reducible refine WP.seq ?_ | with_reducible refine WP.block ?_ | with_reducible refine WP.region ?_)
  refine RL.box rfl rfl (fun b2 m2 hb2 hC2 => ⟨_, rfl, ?_⟩)
  have hE2 := hC2.new (by omega)
  have s2 := hC2.size
  refine RL.auto T_ok rfl ?_
  refine RL.nil ?_; repeat (first | with_reducible refine QN.block_normal ?_ | with_reducible refine QN.next ?_); repeat (first | with_reducible refine WP.seq ?_ | with_reducible refine WP.block ?_ | with_reducible refine WP.region ?_)
  refine RL.alloc T_ok rfl rfl (fun b5 m5 hb5 hC5 => ⟨_, rfl, ?_⟩)
  have hE5 := hC5.new (by omega)
  have s5 := hC5.size
  have h2 := Blk.up (Chg.blk (cs := [.pointer (some ⟨b, 0, none⟩)]) hC2) hE5
  have h5 : Blk m5 b5 36 [.int .u64 0] := hC5.blk
  have hE : Ext m [] m5 := hE2.trans hE5 (by simp)
  have hR5 : RAt m5 (b5 :: M) b l e := h.ext hE (by simp) (by simp) (fun k hk => by rcases List.mem_cons.1 hk with rfl | hk; exact .inr (by omega); exact .inl hk)
  refine RL.nil ?_; repeat (first | with_reducible refine QN.block_normal ?_ | with_reducible refine QN.next ?_); repeat (first | with_reducible refine WP.seq ?_ | with_reducible refine WP.block ?_ | with_reducible refine WP.region ?_)
  refine RL.load T_ok rfl rfl rfl (h2.cell 0 rfl) rfl ?_
  refine RL.auto T_ok rfl ?_
  have fin : ∀ {m6 : World}, Ext m5 [b, b5] m6 → Ext m [b] m6 := fun hE6 => (hE.mono (M' := [b]) (by simp)).trans hE6 (fun k hk => by rcases List.mem_cons.1 hk with rfl | hk; exact .inl (by simp); exact .inr (by have h9 : k = b5 := (by simpa using hk); omega))
  by_cases he : e = 0
  · subst he
    refine RL.call (fi := []) (ca := []) rfl rfl rfl rfl (guard_on m5 (b5 :: M) b l hR5 [b5] (fun k hk => ?_) _ [] [.pointer (some ⟨b2, 0, none⟩), .pointer (some ⟨b5, 0, none⟩)] _ rfl
      (fun l2 m2 => ∃ n : Nat, rdFixed l = .ok (n, l2) ∧ Blk m2 b5 36 [.int .u64 n]) (fun q m2 => rdFixed l = .error q ∧ Blk m2 b5 36 [.int .u64 0])
      (fun m2 m3 hE => ⟨fun l ⟨n, h1, h2⟩ => ⟨n, h1, blk_st (by omega) (by omega) hE h2⟩, fun q ⟨h1, h2⟩ => ⟨h1, blk_st (by omega) (by omega) hE h2⟩⟩)
      (fun m1 h1 _ h9 => fixed1_c m5 m1 (b5 :: M) b b2 b5 l (h2.up h1) (h5.up h1) h9 (by simp [hbM]) (by simp) (by omega))) ?_
    · rcases List.mem_cons.1 hk with rfl | hk
      · exact ⟨by simp [hbM], by omega⟩
      · have : k = b5 := by simpa using hk
        exact ⟨by simp [this], by omega⟩
    rintro v m6 ⟨hE6, ⟨l2, rfl, hR6, n, hn, h56⟩ | ⟨q, hq, rfl, hR6, hn, h56⟩⟩
    · refine ⟨_, rfl, ?_⟩
      refine RL.nil ?_; repeat (first | with_reducible refine QN.block_normal ?_ | with_reducible refine QN.next ?_); repeat (first | with_reducible refine WP.seq ?_ | with_reducible refine WP.block ?_ | with_reducible refine WP.region ?_)
      refine RL.load T_ok rfl rfl rfl (h56.cell 0 rfl) rfl ?_
      refine RL.auto T_ok rfl ?_
      refine RL.nil ?_; repeat (first | with_reducible refine QN.block_normal ?_ | with_reducible refine QN.next ?_); repeat (first | with_reducible refine WP.seq ?_ | with_reducible refine WP.block ?_ | with_reducible refine WP.region ?_)
      refine WP.ret ?_; repeat (first | with_reducible refine QN.then_ret ?_ | with_reducible refine QN.block_ret ?_)
      refine QN.ret1 rfl rfl ⟨_, rfl, ?_⟩
      rw [gR_ok hn]
      exact ⟨rfl, hR6.ext (Ext.refl m6 []) (by simp) (by simp) (fun k hk => .inl (by simp [hk])), fin hE6⟩
    · refine ⟨_, rfl, ?_⟩
      refine RL.nil ?_; repeat (first | with_reducible refine QN.block_normal ?_ | with_reducible refine QN.next ?_); repeat (first | with_reducible refine WP.seq ?_ | with_reducible refine WP.block ?_ | with_reducible refine WP.region ?_)
      refine RL.load T_ok rfl rfl rfl (h56.cell 0 rfl) rfl ?_
      refine RL.auto T_ok rfl ?_
      refine RL.nil ?_; repeat (first | with_reducible refine QN.block_normal ?_ | with_reducible refine QN.next ?_); repeat (first | with_reducible refine WP.seq ?_ | with_reducible refine WP.block ?_ | with_reducible refine WP.region ?_)
      refine WP.ret ?_; repeat (first | with_reducible refine QN.then_ret ?_ | with_reducible refine QN.block_ret ?_)
      refine QN.ret1 rfl rfl ⟨_, rfl, ?_⟩
      rw [gR_err hn]
      exact ⟨rfl, hR6.ext (Ext.refl m6 []) (by simp) (by simp) (fun k hk => .inl (by simp [hk])), fin hE6⟩
  · refine RL.call (fi := []) (ca := []) rfl rfl rfl rfl (guard_off m5 (b5 :: M) b l e hR5 he _) ?_
    rintro v m6 ⟨rfl, rfl⟩
    refine ⟨_, rfl, ?_⟩
    refine RL.nil ?_; repeat (first | with_reducible refine QN.block_normal ?_ | with_reducible refine QN.next ?_); repeat (first | with_reducible refine WP.seq ?_ | with_reducible refine WP.block ?_ | with_reducible refine WP.region ?_)
    refine RL.load T_ok rfl rfl rfl (h5.cell 0 rfl) rfl ?_
    refine RL.auto T_ok rfl ?_
    refine RL.nil ?_; repeat (first | with_reducible refine QN.block_normal ?_ | with_reducible refine QN.next ?_); repeat (first | with_reducible refine WP.seq ?_ | with_reducible refine WP.block ?_ | with_reducible refine WP.region ?_)
    refine WP.ret ?_; repeat (first | with_reducible refine QN.then_ret ?_ | with_reducible refine QN.block_ret ?_)
    refine QN.ret1 rfl rfl ⟨_, rfl, ?_⟩
    rw [gR_off he]
    exact ⟨rfl, hR5.ext (Ext.refl _ []) (by simp) (by simp) (fun k hk => .inl (by simp [hk])), hE.mono (by simp)⟩

theorem max_zero (most : Int) (h1 : -9223372036854775808 ≤ most) (h2 : most ≤ 9223372036854775807) : IntKind.u64.wrap (if (0 : Int) > most then 0 else most) = ((most.toNat : Nat) : Int) := by
  rw [wrap_u64]; split <;> omega
theorem text1_c (m m1 : World) (M : List Nat) (b b2 b3 b5 : Nat) (l : List UInt8) (hl : l.length < 1000000000) (most : Int) (hm1 : -9223372036854775808 ≤ most) (hm2 : most ≤ 9223372036854775807) (x : Value) (h2 : Blk m1 b2 34 [.pointer (some ⟨b, 0, none⟩)]) (h3 : Blk m1 b3 3 [.int .i64 most]) (h5 : Blk m1 b5 9 [x])
    (hR : RAt m1 (m.heap.size :: M) b l 0) (hbM : b ∈ M) (h5M : b5 ∈ M) (h5b : b5 ≠ b) (h2b : b2 ≠ b) :
    FnE Try.prog 56 [.pointer (some ⟨b2, 0, none⟩), .pointer (some ⟨b3, 0, none⟩), .pointer (some ⟨b5, 0, none⟩)] m1
      (GIn m M b [b5] (fun l2 m2 => ∃ s, rdText most.toNat l = .ok (s, l2) ∧ Blk m2 b5 9 [.string (str s)]) (fun q m2 => rdText most.toNat l = .error q ∧ Blk m2 b5 9 [x]) m1) := by
  refine FnE.enter ⟨_, Try.func56, by kernel_rfl, by kernel_rfl⟩ Try.func56 rfl rfl ?_
  repeat (first | with_reducible refine WP.seq ?_ | with_reducible refine WP.block ?_ | with_reducible refine WP.region ?_)
  refine RL.load T_ok rfl rfl rfl (h2.cell 0 rfl) rfl ?_
  refine RL.load T_ok rfl rfl rfl (h3.cell 0 rfl) rfl ?_
  refine RL.pure T_ok 2 rfl ?_
  refine RL.eqv (v' := .int .u64 ((most.toNat : Nat) : Int)) (congrArg _ (max_zero most hm1 hm2)) ?_
  refine RL.callE (fi := []) (ca := []) rfl rfl rfl rfl (uint_c m1 (m.heap.size :: M) b l 0 hR (by simp [hbM]) most.toNat) ?_ ?_ ?_
  rotate_left
  · rintro ch m2 ⟨hE, ⟨_, _, _, h, _⟩ | ⟨k, l', hr, h, hR2⟩⟩
    · cases h
    injection h with h
    subst h
    have hk := rdU_err _ l 0 0 k hr
    repeat (first | with_reducible refine QN.then_panic ?_ | with_reducible refine QN.block_panic ?_)
    exact QN.panic ⟨hE.mono (by simp), .inr ⟨k, l', by omega, rfl, hR2, by unfold rdText; rw [hr], h5.ext hE (by simp [h5b])⟩⟩
  · rintro m2 ⟨_, ⟨_, _, _, h, _⟩ | ⟨_, _, _, h, _⟩⟩ <;> cases h
  rintro v m2 ⟨hE, ⟨n, l', hr, h, hR2⟩ | ⟨_, _, _, h, _⟩⟩
  rotate_left
  · cases h
  injection h with h
  subst h
  have hn := rdU_most _ l 0 0 n l' hr
  have h22 := h2.ext hE (by simp [h2b])
  have h52 := h5.ext hE (by simp [h5b])
  refine ⟨_, rfl, ?_⟩
  refine RL.auto T_ok rfl ?_
  refine RL.nil ?_; repeat (first | with_reducible refine QN.block_normal ?_ | with_reducible refine QN.next ?_); repeat (first | with_reducible refine WP.seq ?_ | with_reducible refine WP.block ?_ | with_reducible refine WP.region ?_)
  have hR2' := hR2
  obtain ⟨v2, hB2, hS2⟩ := hR2
  obtain ⟨A, c, rfl, _, _⟩ := hS2.shape
  refine RL.auto T_ok rfl ?_
  refine RL.load T_ok rfl rfl rfl (h22.cell 0 rfl) rfl ?_
  refine RL.auto T_ok rfl ?_
  refine RL.load T_ok rfl rfl rfl (hB2.cell 0 rfl) rfl ?_
  refine RL.pure T_ok 2 rfl ?_
  refine RL.eqv (v' := .int .u64 ((l'.length : Nat) : Int)) (congrArg _ (wrap_u64_in _ (by omega) (by omega))) ?_
  refine RL.auto T_ok rfl ?_
  refine RL.nil ?_; repeat (first | with_reducible refine QN.block_normal ?_ | with_reducible refine QN.next ?_); repeat (first | with_reducible refine WP.seq ?_ | with_reducible refine WP.block ?_ | with_reducible refine WP.region ?_)
  refine WP.cond rfl (fun hc => ?_) (fun hc => ?_)
  · have hc : l'.length < n := by have := of_decide_eq_true hc; omega
    repeat (first | with_reducible refine WP.seq ?_ | with_reducible refine WP.block ?_ | with_reducible refine WP.region ?_)
    refine RL.callE (fi := []) (ca := []) rfl rfl rfl rfl (fail_c m2 10) ?_ ?_ ?_
    · rintro v m' ⟨_, h⟩; cases h
    · rintro ch m' ⟨rfl, h⟩
      injection h with h
      subst h
      repeat (first | with_reducible refine QN.then_panic ?_ | with_reducible refine QN.block_panic ?_)
      exact QN.panic ⟨hE.mono (by simp), .inr ⟨10, l', by omega, rfl, hR2', by unfold rdText; rw [hr]; simp only; rw [if_neg (by omega)], h52⟩⟩
    · rintro m' ⟨_, h⟩; cases h
  · have hc : n ≤ l'.length := by have := of_decide_eq_false hc; omega
    have hok : rdText most.toNat l = .ok (l'.take n, l'.drop n) := by unfold rdText; rw [hr]; simp only; rw [if_pos hc]
    refine WP.skip ?_; repeat (first | with_reducible refine QN.block_normal ?_ | with_reducible refine QN.next ?_); repeat (first | with_reducible refine WP.seq ?_ | with_reducible refine WP.block ?_ | with_reducible refine WP.region ?_)
    refine RL.load T_ok rfl rfl rfl (h22.cell 0 rfl) rfl ?_
    refine RL.pure T_ok 2 rfl ?_
    refine RL.eqv (v' := .int .i64 (n : Int)) (congrArg _ (wrap_i64_in _ (by omega) (by omega))) ?_
    refine RL.callE (fi := []) (ca := []) rfl rfl rfl rfl (take_c m2 (m.heap.size :: M) b l' 0 hR2' (by simp [hbM]) n) ?_ ?_ ?_
    rotate_left
    · rintro ch m3 (⟨_, _, h, _⟩ | ⟨hlt, _, _⟩)
      · cases h
      · omega
    · rintro m3 (⟨_, _, h, _⟩ | ⟨_, h, _⟩) <;> cases h
    rintro v m3 (⟨_, v', h, hB3, hR3, hE3⟩ | ⟨hlt, _, _⟩)
    rotate_left
    · omega
    injection h with h
    subst h
    refine ⟨_, rfl, ?_⟩
    have h53 := h52.ext hE3 (by simp [h5b])
    refine RL.bytesString T_ok hB3 rfl rfl rfl rfl rfl rfl ?_
    refine RL.store T_ok h53 (i := 0) (v := .string (str (l'.take n))) (by simp) rfl rfl rfl rfl rfl rfl ?_
    intro m4 hC
    refine RL.nil (QN.end0 rfl ⟨?_, .inl ⟨_, rfl, hR3.ext hC.ext (by simp; omega) (by simp [h5M]) (fun _ hk => .inl hk), _, hok, hC.blk⟩⟩)
    exact ((hE.trans hE3 (fun k hk => .inl hk)).mono (M' := [b, b5]) (by simp)).trans hC.ext (by simp)
theorem rtext_c (m : World) (M : List Nat) (b : Nat) (l : List UInt8) (e : Int) (h : RAt m M b l e) (hbM : b ∈ M) (hl : l.length < 1000000000) (most : Int) (hm1 : -9223372036854775808 ≤ most) (hm2 : most ≤ 9223372036854775807) :
    FnR Try.prog 36 [.pointer (some ⟨b, 0, none⟩), .int .i64 most] m (RPost m M b (fun s : List UInt8 => .string (str s)) (gR [] e l (rdText most.toNat l))) := by
  have hblt := h.lt
  refine FnE.enter ⟨_, Try.func36, by kernel_rfl, by kernel_rfl⟩ Try.func36 rfl rfl ?_
  repeat (first | with_reducible refine WP.seq ?_ | with_reducible refine WP.block ?_ | with_reducible refine WP.region ?_)
  refine RL.box rfl rfl (fun b2 m2 hb2 hC2 => ⟨_, rfl, ?_⟩)
  refine RL.box rfl rfl (fun b3 m3 hb3 hC3 => ⟨_, rfl, ?_⟩)
  have hE2 := hC2.new (by omega)
  have hE3 := hC3.new (by omega)
  have s2 := hC2.size
  have s3 := hC3.size
  refine RL.auto T_ok rfl ?_
  refine RL.nil ?_; repeat (first | with_reducible refine QN.block_normal ?_ | with_reducible refine QN.next ?_); repeat (first | with_reducible refine WP.seq ?_ | with_reducible refine WP.block ?_ | with_reducible refine WP.region ?_)
  refine RL.alloc T_ok rfl rfl (fun b5 m4 hb5 hC4 => ⟨_, rfl, ?_⟩)
  refine RL.store T_ok (b := b5) (i := 0) (cs := [.string ⟨#[]⟩]) (v := .string ⟨#[]⟩) hC4.blk (by simp) rfl rfl rfl rfl rfl rfl ?_
  intro m5 hC5
  have hE4 := hC4.new (by omega)
  have s4 := hC4.size
  have s5 := hC5.size
  have hE5 : Ext m3 [] m5 := hE4.trans hC5.ext (fun k hk => .inr (by have h9 : k = b5 := (by simpa using hk); omega))
  have h2 := Blk.up (Blk.up (Chg.blk (cs := [.pointer (some ⟨b, 0, none⟩)]) hC2) hE3) hE5
  have h3 := Blk.up (Chg.blk (cs := [.int .i64 most]) hC3) hE5
  have h5 : Blk m5 b5 9 [.string (str [])] := hC5.blk
  have hE : Ext m [] m5 := (hE2.trans hE3 (by simp)).trans hE5 (by simp)
  have hR5 : RAt m5 (b5 :: M) b l e := h.ext hE (by simp) (by simp) (fun k hk => by rcases List.mem_cons.1 hk with rfl | hk; exact .inr (by omega); exact .inl hk)
  refine RL.nil ?_; repeat (first | with_reducible refine QN.block_normal ?_ | with_reducible refine QN.next ?_); repeat (first | with_reducible refine WP.seq ?_ | with_reducible refine WP.block ?_ | with_reducible refine WP.region ?_)
  refine RL.load T_ok rfl rfl rfl (h2.cell 0 rfl) rfl ?_
  refine RL.auto T_ok rfl ?_
  have fin : ∀ {m6 : World}, Ext m5 [b, b5] m6 → Ext m [b] m6 := fun hE6 => (hE.mono (M' := [b]) (by simp)).trans hE6 (fun k hk => by rcases List.mem_cons.1 hk with rfl | hk; exact .inl (by simp); exact .inr (by have h9 : k = b5 := (by simpa using hk); omega))
  by_cases he : e = 0
  · subst he
    refine RL.call (fi := []) (ca := []) rfl rfl rfl rfl (guard_on m5 (b5 :: M) b l hR5 [b5] (fun k hk => ?_) _ [] [.pointer (some ⟨b2, 0, none⟩), .pointer (some ⟨b3, 0, none⟩), .pointer (some ⟨b5, 0, none⟩)] _ rfl
      (fun l2 m2 => ∃ s, rdText most.toNat l = .ok (s, l2) ∧ Blk m2 b5 9 [.string (str s)]) (fun q m2 => rdText most.toNat l = .error q ∧ Blk m2 b5 9 [.string (str [])])
      (fun m2 m3 hE => ⟨fun l ⟨n, h1, h2⟩ => ⟨n, h1, blk_st (by omega) (by omega) hE h2⟩, fun q ⟨h1, h2⟩ => ⟨h1, blk_st (by omega) (by omega) hE h2⟩⟩)
      (fun m1 h1 _ h9 => text1_c m5 m1 (b5 :: M) b b2 b3 b5 l hl most hm1 hm2 _ (h2.up h1) (h3.up h1) (h5.up h1) h9 (by simp [hbM]) (by simp) (by omega) (by omega))) ?_
    · rcases List.mem_cons.1 hk with rfl | hk
      · exact ⟨by simp [hbM], by omega⟩
      · have : k = b5 := by simpa using hk
        exact ⟨by simp [this], by omega⟩
    rintro v m6 ⟨hE6, ⟨l2, rfl, hR6, n, hn, h56⟩ | ⟨q, hq, rfl, hR6, hn, h56⟩⟩
    · refine ⟨_, rfl, ?_⟩
      refine RL.nil ?_; repeat (first | with_reducible refine QN.block_normal ?_ | with_reducible refine QN.next ?_); repeat (first | with_reducible refine WP.seq ?_ | with_reducible refine WP.block ?_ | with_reducible refine WP.region ?_)
      refine RL.load T_ok rfl rfl rfl (h56.cell 0 rfl) rfl ?_
      refine RL.auto T_ok rfl ?_
      refine RL.nil ?_; repeat (first | with_reducible refine QN.block_normal ?_ | with_reducible refine QN.next ?_); repeat (first | with_reducible refine WP.seq ?_ | with_reducible refine WP.block ?_ | with_reducible refine WP.region ?_)
      refine WP.ret ?_; repeat (first | with_reducible refine QN.then_ret ?_ | with_reducible refine QN.block_ret ?_)
      refine QN.ret1 rfl rfl ⟨_, rfl, ?_⟩
      rw [gR_ok hn]
      exact ⟨rfl, hR6.ext (Ext.refl m6 []) (by simp) (by simp) (fun k hk => .inl (by simp [hk])), fin hE6⟩
    · refine ⟨_, rfl, ?_⟩
      refine RL.nil ?_; repeat (first | with_reducible refine QN.block_normal ?_ | with_reducible refine QN.next ?_); repeat (first | with_reducible refine WP.seq ?_ | with_reducible refine WP.block ?_ | with_reducible refine WP.region ?_)
      refine RL.load T_ok rfl rfl rfl (h56.cell 0 rfl) rfl ?_
      refine RL.auto T_ok rfl ?_
      refine RL.nil ?_; repeat (first | with_reducible refine QN.block_normal ?_ | with_reducible refine QN.next ?_); repeat (first | with_reducible refine WP.seq ?_ | with_reducible refine WP.block ?_ | with_reducible refine WP.region ?_)
      refine WP.ret ?_; repeat (first | with_reducible refine QN.then_ret ?_ | with_reducible refine QN.block_ret ?_)
      refine QN.ret1 rfl rfl ⟨_, rfl, ?_⟩
      rw [gR_err hn]
      exact ⟨rfl, hR6.ext (Ext.refl m6 []) (by simp) (by simp) (fun k hk => .inl (by simp [hk])), fin hE6⟩
  · refine RL.call (fi := []) (ca := []) rfl rfl rfl rfl (guard_off m5 (b5 :: M) b l e hR5 he _) ?_
    rintro v m6 ⟨rfl, rfl⟩
    refine ⟨_, rfl, ?_⟩
    refine RL.nil ?_; repeat (first | with_reducible refine QN.block_normal ?_ | with_reducible refine QN.next ?_); repeat (first | with_reducible refine WP.seq ?_ | with_reducible refine WP.block ?_ | with_reducible refine WP.region ?_)
    refine RL.load T_ok rfl rfl rfl (h5.cell 0 rfl) rfl ?_
    refine RL.auto T_ok rfl ?_
    refine RL.nil ?_; repeat (first | with_reducible refine QN.block_normal ?_ | with_reducible refine QN.next ?_); repeat (first | with_reducible refine WP.seq ?_ | with_reducible refine WP.block ?_ | with_reducible refine WP.region ?_)
    refine WP.ret ?_; repeat (first | with_reducible refine QN.then_ret ?_ | with_reducible refine QN.block_ret ?_)
    refine QN.ret1 rfl rfl ⟨_, rfl, ?_⟩
    rw [gR_off he]
    exact ⟨rfl, hR5.ext (Ext.refl _ []) (by simp) (by simp) (fun k hk => .inl (by simp [hk])), hE.mono (by simp)⟩
end Go.Proofs.Ytaogoblckkmkgaa
