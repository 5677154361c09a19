/- The Reader's numbers and bytes. The lengths stay below 2^30. -/
import Derived.Test.YtkfakfbndnbpiaaWire4
namespace Go.Proofs.Ytkfakfbndnbpiaa
open Go.RowKit Go.Ev

/-- A variable of the caller's own, while a guarded function runs. -/
theorem blk_st {m0 : World} {b b5 : Nat} {t : TypeId} {cs : List Value} (h5 : b5 < m0.heap.size) (hb : b5 ≠ b) {m2 m3 : World} (hE : Ext m2 [m0.heap.size, b] m3) (h : Blk m2 b5 t cs) : Blk m3 b5 t cs :=
  h.ext hE (by simp; omega)
theorem uint1_c (m m1 : World) (M : List Nat) (b b2 b3 b5 : Nat) (l : List UInt8) (most : Nat) (x : Value) (h2 : Blk m1 b2 117 [.pointer (some ⟨b, 0, none⟩)]) (h3 : Blk m1 b3 37 [.int .u64 most]) (h5 : Blk m1 b5 37 [x])
    (hR : RAt m1 (m.heap.size :: M) b l 0) (hbM : b ∈ M) (h5M : b5 ∈ M) (h5b : b5 ≠ b) :
    FnE Try.prog 112 [.pointer (some ⟨b2, 0, none⟩), .pointer (some ⟨b3, 0, none⟩), .pointer (some ⟨b5, 0, none⟩)] m1
      (GIn m M b [b5] (fun l2 m2 => ∃ n : Nat, rdU most 0 0 l = .ok (n, l2) ∧ Blk m2 b5 37 [.int .u64 n]) (fun q m2 => rdU most 0 0 l = .error q ∧ Blk m2 b5 37 [x]) m1) := by
  refine FnE.enter ⟨_, Try.func112, by kernel_rfl, by kernel_rfl⟩ Try.func112 rfl rfl ?_
  repeat (first | with_reducible refine WP.seq ?_ | with_reducible refine WP.block ?_ | with_reducible refine WP.region ?_)
  refine RL.load T_ok rfl rfl rfl (h2.cell 0 rfl) rfl ?_
  refine RL.load T_ok rfl rfl rfl (h3.cell 0 rfl) rfl ?_
  refine RL.callE (fi := []) (ca := []) rfl rfl rfl rfl (uint_c m1 (m.heap.size :: M) b l 0 hR (by simp [hbM]) most) ?_ ?_ ?_
  · rintro v m2 ⟨hE, ⟨n, l', hr, h, hR2⟩ | ⟨_, _, _, h, _⟩⟩
    rotate_left
    · cases h
    injection h with h
    subst h
    refine ⟨_, rfl, ?_⟩
    have h5' := h5.ext hE (by simp [h5b])
    refine RL.store T_ok h5' (i := 0) (v := .int .u64 n) (by simp) rfl rfl rfl rfl rfl rfl ?_
    intro m3 hC
    refine RL.nil (QN.end0 rfl ⟨?_, .inl ⟨l', rfl, hR2.ext hC.ext (by simp; omega) (by simp [h5M]) (fun _ hk => .inl hk), n, hr, hC.blk⟩⟩)
    exact (hE.mono (M' := [b, b5]) (by simp)).trans hC.ext (by simp)
  · rintro ch m2 ⟨hE, ⟨_, _, _, h, _⟩ | ⟨k, l', hr, h, hR2⟩⟩
    · cases h
    injection h with h
    subst h
    have hk := rdU_err most l 0 0 k hr
    exact QN.panic ⟨hE.mono (by simp), .inr ⟨k, l', by omega, rfl, hR2, hr, h5.ext hE (by simp [h5b])⟩⟩
  · rintro m2 ⟨_, ⟨_, _, _, h, _⟩ | ⟨_, _, _, h, _⟩⟩ <;> cases h
/-- What a reading leaves. -/
def RPost (m : World) (M : List Nat) (b : Nat) {α : Type} (enc : α → Value) (r : α × List UInt8 × Int) (v : Value) (m' : World) : Prop :=
  v = enc r.1 ∧ RAt m' M b r.2.1 r.2.2 ∧ Ext m [b] m'
theorem ruint_c (m : World) (M : List Nat) (b : Nat) (l : List UInt8) (e : Int) (h : RAt m M b l e) (hbM : b ∈ M) (most : Nat) :
    FnR Try.prog 95 [.pointer (some ⟨b, 0, none⟩), .int .u64 most] m (RPost m M b (fun n : Nat => .int .u64 n) (gR 0 e l (rdU most 0 0 l))) := by
  have hblt := h.lt
  refine FnE.enter ⟨_, Try.func95, by kernel_rfl, by kernel_rfl⟩ Try.func95 rfl rfl ?_
  repeat (first | with_reducible refine WP.seq ?_ | with_reducible refine WP.block ?_ | with_reducible refine WP.region ?_)
  refine RL.box rfl rfl (fun b2 m2 hb2 hC2 => ⟨_, rfl, ?_⟩)
  refine RL.box rfl rfl (fun b3 m3 hb3 hC3 => ⟨_, rfl, ?_⟩)
  have hE2 := hC2.new (by omega)
  have hE3 := hC3.new (by omega)
  have s2 := hC2.size
  have s3 := hC3.size
  refine RL.auto T_ok rfl ?_
  refine RL.nil ?_; repeat (first | with_reducible refine QN.block_normal ?_ | with_reducible refine QN.next ?_); repeat (first | with_reducible refine WP.seq ?_ | with_reducible refine WP.block ?_ | with_reducible refine WP.region ?_)
  refine RL.alloc T_ok rfl rfl (fun b5 m5 hb5 hC5 => ⟨_, rfl, ?_⟩)
  have hE5 := hC5.new (by omega)
  have s5 := hC5.size
  have h2 := (Blk.up (Blk.up (Chg.blk (cs := [.pointer (some ⟨b, 0, none⟩)]) hC2) hE3) hE5)
  have h3 := Blk.up (Chg.blk (cs := [.int .u64 most]) hC3) hE5
  have h5 : Blk m5 b5 37 [.int .u64 0] := hC5.blk
  have hE : Ext m [] m5 := (hE2.trans hE3 (by simp)).trans hE5 (by simp)
  have hR5 : RAt m5 (b5 :: M) b l e := h.ext hE (by simp) (by simp) (fun k hk => by rcases List.mem_cons.1 hk with rfl | hk; exact .inr (by omega); exact .inl hk)
  refine RL.nil ?_; repeat (first | with_reducible refine QN.block_normal ?_ | with_reducible refine QN.next ?_); repeat (first | with_reducible refine WP.seq ?_ | with_reducible refine WP.block ?_ | with_reducible refine WP.region ?_)
  refine RL.load T_ok rfl rfl rfl (h2.cell 0 rfl) rfl ?_
  refine RL.auto T_ok rfl ?_
  by_cases he : e = 0
  · subst he
    refine RL.call (fi := []) (ca := []) rfl rfl rfl rfl (guard_on m5 (b5 :: M) b l hR5 [b5] (fun k hk => ?_) _ [] [.pointer (some ⟨b2, 0, none⟩), .pointer (some ⟨b3, 0, none⟩), .pointer (some ⟨b5, 0, none⟩)] _ rfl
      (fun l2 m2 => ∃ n : Nat, rdU most 0 0 l = .ok (n, l2) ∧ Blk m2 b5 37 [.int .u64 n]) (fun q m2 => rdU most 0 0 l = .error q ∧ Blk m2 b5 37 [.int .u64 0])
      (fun m2 m3 hE => ⟨fun l ⟨n, h1, h2⟩ => ⟨n, h1, blk_st (by omega) (by omega) hE h2⟩, fun q ⟨h1, h2⟩ => ⟨h1, blk_st (by omega) (by omega) hE h2⟩⟩)
      (fun m1 h1 _ h9 => uint1_c m5 m1 (b5 :: M) b b2 b3 b5 l most _ (h2.up h1) (h3.up h1) (h5.up h1) h9 (by simp [hbM]) (by simp) (by omega))) ?_
    · rcases List.mem_cons.1 hk with rfl | hk
      · exact ⟨by simp [hbM], by omega⟩
      · have : k = b5 := by simpa using hk
        exact ⟨by simp [this], by omega⟩
    rintro v m6 ⟨hE6, ⟨l2, rfl, hR6, n, hn, h56⟩ | ⟨q, hq, rfl, hR6, hn, h56⟩⟩
    · refine ⟨_, rfl, ?_⟩
      refine RL.auto T_ok rfl ?_
      refine RL.nil ?_; repeat (first | with_reducible refine QN.block_normal ?_ | with_reducible refine QN.next ?_); repeat (first | with_reducible refine WP.seq ?_ | with_reducible refine WP.block ?_ | with_reducible refine WP.region ?_)
      refine WP.condF rfl ?_
      refine WP.skip ?_; repeat (first | with_reducible refine QN.block_normal ?_ | with_reducible refine QN.next ?_); repeat (first | with_reducible refine WP.seq ?_ | with_reducible refine WP.block ?_ | with_reducible refine WP.region ?_)
      refine RL.load T_ok rfl rfl rfl (h56.cell 0 rfl) rfl ?_
      refine RL.auto T_ok rfl ?_
      refine RL.nil ?_; repeat (first | with_reducible refine QN.block_normal ?_ | with_reducible refine QN.next ?_); repeat (first | with_reducible refine WP.seq ?_ | with_reducible refine WP.block ?_ | with_reducible refine WP.region ?_)
      refine WP.ret ?_; repeat (first | with_reducible refine QN.then_ret ?_ | with_reducible refine QN.block_ret ?_)
      refine QN.ret1 rfl rfl ⟨_, rfl, ?_⟩
      rw [gR_ok hn]
      exact ⟨rfl, hR6.ext (Ext.refl m6 []) (by simp) (by simp) (fun k hk => .inl (by simp [hk])), (hE.mono (M' := [b]) (by simp)).trans hE6 (fun k hk => by rcases List.mem_cons.1 hk with rfl | hk; exact .inl (by simp); exact .inr (by have h9 : k = b5 := (by simpa using hk); omega))⟩
    · refine ⟨_, rfl, ?_⟩
      refine RL.auto T_ok rfl ?_
      refine RL.nil ?_; repeat (first | with_reducible refine QN.block_normal ?_ | with_reducible refine QN.next ?_); repeat (first | with_reducible refine WP.seq ?_ | with_reducible refine WP.block ?_ | with_reducible refine WP.region ?_)
      refine WP.condT rfl ?_
      repeat (first | with_reducible refine WP.seq ?_ | with_reducible refine WP.block ?_ | with_reducible refine WP.region ?_)
      refine RL.auto T_ok rfl ?_
      refine RL.nil ?_; repeat (first | with_reducible refine QN.block_normal ?_ | with_reducible refine QN.next ?_); repeat (first | with_reducible refine WP.seq ?_ | with_reducible refine WP.block ?_ | with_reducible refine WP.region ?_)
      refine WP.ret ?_; repeat (first | with_reducible refine QN.then_ret ?_ | with_reducible refine QN.block_ret ?_)
      refine QN.ret1 rfl rfl ⟨_, rfl, ?_⟩
      rw [gR_err hn]
      exact ⟨rfl, hR6.ext (Ext.refl m6 []) (by simp) (by simp) (fun k hk => .inl (by simp [hk])), (hE.mono (M' := [b]) (by simp)).trans hE6 (fun k hk => by rcases List.mem_cons.1 hk with rfl | hk; exact .inl (by simp); exact .inr (by have h9 : k = b5 := (by simpa using hk); omega))⟩
  · refine RL.call (fi := []) (ca := []) rfl rfl rfl rfl (guard_off m5 (b5 :: M) b l e hR5 he _) ?_
    rintro v m6 ⟨rfl, rfl⟩
    refine ⟨_, rfl, ?_⟩
    refine RL.auto T_ok rfl ?_
    refine RL.nil ?_; repeat (first | with_reducible refine QN.block_normal ?_ | with_reducible refine QN.next ?_); repeat (first | with_reducible refine WP.seq ?_ | with_reducible refine WP.block ?_ | with_reducible refine WP.region ?_)
    refine WP.condT rfl ?_
    repeat (first | with_reducible refine WP.seq ?_ | with_reducible refine WP.block ?_ | with_reducible refine WP.region ?_)
    refine RL.auto T_ok rfl ?_
    refine RL.nil ?_; repeat (first | with_reducible refine QN.block_normal ?_ | with_reducible refine QN.next ?_); repeat (first | with_reducible refine WP.seq ?_ | with_reducible refine WP.block ?_ | with_reducible refine WP.region ?_)
    refine WP.ret ?_; repeat (first | with_reducible refine QN.then_ret ?_ | with_reducible refine QN.block_ret ?_)
    refine QN.ret1 rfl rfl ⟨_, rfl, ?_⟩
    rw [gR_off he]
    exact ⟨rfl, hR5.ext (Ext.refl _ []) (by simp) (by simp) (fun k hk => .inl (by simp [hk])), hE.mono (by simp)⟩

/-- A number that may be below 0, read off the one that isn't. -/
def gRI (r : Nat × List UInt8 × Int) : Int × List UInt8 × Int := (unzig r.1, r.2)
theorem gR_lt (most : Nat) (e : Int) (l : List UInt8) : (gR 0 e l (rdU most 0 0 l)).1 ≤ most := by
  unfold gR
  split
  · split
    · rename_i a l' h; exact (rdU_most most l 0 0 a l' h).1
    · exact Nat.zero_le _
  · exact Nat.zero_le _
end Go.Proofs.Ytkfakfbndnbpiaa
