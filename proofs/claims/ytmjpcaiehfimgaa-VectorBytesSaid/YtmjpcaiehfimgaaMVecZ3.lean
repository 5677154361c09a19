/- Texts that belong together: Wire5 Wire6 WireF Conv Help WireJ. -/
import Derived.Test.YtmjpcaiehfimgaaMVecZ2
section
/- The Reader's numbers and bytes. The lengths stay below 2^30. -/
namespace Go.Proofs.Ytmjpcaiehfimgaa
open Go.RowKit Go.Ev

/-- A variable of the caller's own, while a guarded function runs. -/
theorem blk_st {m0 : World} {b b5 : Nat} {t : TypeId} {cs : List Value} (h5 : b5 < m0.heap.size) (hb : b5 ≠ b) {m2 m3 : World} (hE : Ext m2 [m0.heap.size, b] m3) (h : Blk m2 b5 t cs) : Blk m3 b5 t cs :=
  h.ext hE (by simp; omega)
theorem uint1_c (m m1 : World) (M : List Nat) (b b2 b3 b5 : Nat) (l : List UInt8) (most : Nat) (x : Value) (h2 : Blk m1 b2 40 [.pointer (some ⟨b, 0, none⟩)]) (h3 : Blk m1 b3 23 [.int .u64 most]) (h5 : Blk m1 b5 23 [x])
    (hR : RAt m1 (m.heap.size :: M) b l 0) (hbM : b ∈ M) (h5M : b5 ∈ M) (h5b : b5 ≠ b) :
    FnE Try.prog 63 [.pointer (some ⟨b2, 0, none⟩), .pointer (some ⟨b3, 0, none⟩), .pointer (some ⟨b5, 0, none⟩)] m1
      (GIn m M b [b5] (fun l2 m2 => ∃ n : Nat, rdU most 0 0 l = .ok (n, l2) ∧ Blk m2 b5 23 [.int .u64 n]) (fun q m2 => rdU most 0 0 l = .error q ∧ Blk m2 b5 23 [x]) m1) := by
  refine FnE.enter ⟨_, Try.func63, by kernel_rfl, by kernel_rfl⟩ Try.func63 rfl rfl ?_
  repeat (first | with_reducible refine WP.seq ?_ | with_reducible refine WP.block ?_ | with_reducible refine WP.region ?_)
  refine RL.load T_ok rfl rfl rfl (h2.cell 0 rfl) rfl ?_
  refine RL.load T_ok rfl rfl rfl (h3.cell 0 rfl) rfl ?_
  refine RL.callE (fi := []) (ca := []) rfl rfl rfl rfl (uint_c m1 (m.heap.size :: M) b l 0 hR (by simp [hbM]) most) ?_ ?_ ?_
  · rintro v m2 ⟨hE, ⟨n, l', hr, h, hR2⟩ | ⟨_, _, _, h, _⟩⟩
    rotate_left
    · cases h
    injection h with h
    subst h
    refine ⟨_, rfl, ?_⟩
    have h5' := h5.ext hE (by simp [h5b])
    refine RL.store T_ok h5' (i := 0) (v := .int .u64 n) (by simp) rfl rfl rfl rfl rfl rfl ?_
    intro m3 hC
    refine RL.nil (QN.end0 rfl ⟨?_, .inl ⟨l', rfl, hR2.ext hC.ext (by simp; omega) (by simp [h5M]) (fun _ hk => .inl hk), n, hr, hC.blk⟩⟩)
    exact (hE.mono (M' := [b, b5]) (by simp)).trans hC.ext (by simp)
  · rintro ch m2 ⟨hE, ⟨_, _, _, h, _⟩ | ⟨k, l', hr, h, hR2⟩⟩
    · cases h
    injection h with h
    subst h
    have hk := rdU_err most l 0 0 k hr
    exact QN.panic ⟨hE.mono (by simp), .inr ⟨k, l', by omega, rfl, hR2, hr, h5.ext hE (by simp [h5b])⟩⟩
  · rintro m2 ⟨_, ⟨_, _, _, h, _⟩ | ⟨_, _, _, h, _⟩⟩ <;> cases h
/-- What a reading leaves. -/
def RPost (m : World) (M : List Nat) (b : Nat) {α : Type} (enc : α → Value) (r : α × List UInt8 × Int) (v : Value) (m' : World) : Prop :=
  v = enc r.1 ∧ RAt m' M b r.2.1 r.2.2 ∧ Ext m [b] m'
theorem ruint_c (m : World) (M : List Nat) (b : Nat) (l : List UInt8) (e : Int) (h : RAt m M b l e) (hbM : b ∈ M) (most : Nat) :
    FnR Try.prog 47 [.pointer (some ⟨b, 0, none⟩), .int .u64 most] m (RPost m M b (fun n : Nat => .int .u64 n) (gR 0 e l (rdU most 0 0 l))) := by
  have hblt := h.lt
  refine FnE.enter ⟨_, Try.func47, by kernel_rfl, by kernel_rfl⟩ Try.func47 rfl rfl ?_
  repeat (first | with_reducible refine WP.seq ?_ | with_reducible refine WP.block ?_ | with_reducible refine WP.region ?_)
  refine RL.box rfl rfl (fun b2 m2 hb2 hC2 => ⟨_, rfl, ?_⟩)
  refine RL.box rfl rfl (fun b3 m3 hb3 hC3 => ⟨_, rfl, ?_⟩)
  have hE2 := hC2.new (by omega)
  have hE3 := hC3.new (by omega)
  have s2 := hC2.size
  have s3 := hC3.size
  refine RL.auto T_ok rfl ?_
  refine RL.nil ?_; repeat (first | with_reducible refine QN.block_normal ?_ | with_reducible refine QN.next ?_); repeat (first | with_reducible refine WP.seq ?_ | with_reducible refine WP.block ?_ | with_reducible refine WP.region ?_)
  refine RL.alloc T_ok rfl rfl (fun b5 m5 hb5 hC5 => ⟨_, rfl, ?_⟩)
  have hE5 := hC5.new (by omega)
  have s5 := hC5.size
  have h2 := (Blk.up (Blk.up (Chg.blk (cs := [.pointer (some ⟨b, 0, none⟩)]) hC2) hE3) hE5)
  have h3 := Blk.up (Chg.blk (cs := [.int .u64 most]) hC3) hE5
  have h5 : Blk m5 b5 23 [.int .u64 0] := hC5.blk
  have hE : Ext m [] m5 := (hE2.trans hE3 (by simp)).trans hE5 (by simp)
  have hR5 : RAt m5 (b5 :: M) b l e := h.ext hE (by simp) (by simp) (fun k hk => by rcases List.mem_cons.1 hk with rfl | hk; exact .inr (by omega); exact .inl hk)
  refine RL.nil ?_; repeat (first | with_reducible refine QN.block_normal ?_ | with_reducible refine QN.next ?_); repeat (first | with_reducible refine WP.seq ?_ | with_reducible refine WP.block ?_ | with_reducible refine WP.region ?_)
  refine RL.load T_ok rfl rfl rfl (h2.cell 0 rfl) rfl ?_
  refine RL.auto T_ok rfl ?_
  by_cases he : e = 0
  · subst he
    refine RL.call (fi := []) (ca := []) rfl rfl rfl rfl (guard_on m5 (b5 :: M) b l hR5 [b5] (fun k hk => ?_) _ [] [.pointer (some ⟨b2, 0, none⟩), .pointer (some ⟨b3, 0, none⟩), .pointer (some ⟨b5, 0, none⟩)] _ rfl
      (fun l2 m2 => ∃ n : Nat, rdU most 0 0 l = .ok (n, l2) ∧ Blk m2 b5 23 [.int .u64 n]) (fun q m2 => rdU most 0 0 l = .error q ∧ Blk m2 b5 23 [.int .u64 0])
      (fun m2 m3 hE => ⟨fun l ⟨n, h1, h2⟩ => ⟨n, h1, blk_st (by omega) (by omega) hE h2⟩, fun q ⟨h1, h2⟩ => ⟨h1, blk_st (by omega) (by omega) hE h2⟩⟩)
      (fun m1 h1 _ h9 => uint1_c m5 m1 (b5 :: M) b b2 b3 b5 l most _ (h2.up h1) (h3.up h1) (h5.up h1) h9 (by simp [hbM]) (by simp) (by omega))) ?_
    · rcases List.mem_cons.1 hk with rfl | hk
      · exact ⟨by simp [hbM], by omega⟩
      · have : k = b5 := by simpa using hk
        exact ⟨by simp [this], by omega⟩
    rintro v m6 ⟨hE6, ⟨l2, rfl, hR6, n, hn, h56⟩ | ⟨q, hq, rfl, hR6, hn, h56⟩⟩
    · refine ⟨_, rfl, ?_⟩
      refine RL.auto T_ok rfl ?_
      refine RL.nil ?_; repeat (first | with_reducible refine QN.block_normal ?_ | with_reducible refine QN.next ?_); repeat (first | with_reducible refine WP.seq ?_ | with_reducible refine WP.block ?_ | with_reducible refine WP.region ?_)
      refine WP.condF rfl ?_
      refine WP.skip ?_; repeat (first | with_reducible refine QN.block_normal ?_ | with_reducible refine QN.next ?_); repeat (first | with_reducible refine WP.seq ?_ | with_reducible refine WP.block ?_ | with_reducible refine WP.region ?_)
      refine RL.load T_ok rfl rfl rfl (h56.cell 0 rfl) rfl ?_
      refine RL.auto T_ok rfl ?_
      refine RL.nil ?_; repeat (first | with_reducible refine QN.block_normal ?_ | with_reducible refine QN.next ?_); repeat (first | with_reducible refine WP.seq ?_ | with_reducible refine WP.block ?_ | with_reducible refine WP.region ?_)
      refine WP.ret ?_; repeat (first | with_reducible refine QN.then_ret ?_ | with_reducible refine QN.block_ret ?_)
      refine QN.ret1 rfl rfl ⟨_, rfl, ?_⟩
      rw [gR_ok hn]
      exact ⟨rfl, hR6.ext (Ext.refl m6 []) (by simp) (by simp) (fun k hk => .inl (by simp [hk])), (hE.mono (M' := [b]) (by simp)).trans hE6 (fun k hk => by rcases List.mem_cons.1 hk with rfl | hk; exact .inl (by simp); exact .inr (by have h9 : k = b5 := (by simpa using hk); omega))⟩
    · refine ⟨_, rfl, ?_⟩
      refine RL.auto T_ok rfl ?_
      refine RL.nil ?_; repeat (first | with_reducible refine QN.block_normal ?_ | with_reducible refine QN.next ?_); repeat (first | with_reducible refine WP.seq ?_ | with_reducible refine WP.block ?_ | with_reducible refine WP.region ?_)
      refine WP.condT rfl ?_
      repeat (first | with_reducible refine WP.seq ?_ | with_reducible refine WP.block ?_ | with_reducible refine WP.region ?_)
      refine RL.auto T_ok rfl ?_
      refine RL.nil ?_; repeat (first | with_reducible refine QN.block_normal ?_ | with_reducible refine QN.next ?_); repeat (first | with_reducible refine WP.seq ?_ | with_reducible refine WP.block ?_ | with_reducible refine WP.region ?_)
      refine WP.ret ?_; repeat (first | with_reducible refine QN.then_ret ?_ | with_reducible refine QN.block_ret ?_)
      refine QN.ret1 rfl rfl ⟨_, rfl, ?_⟩
      rw [gR_err hn]
      exact ⟨rfl, hR6.ext (Ext.refl m6 []) (by simp) (by simp) (fun k hk => .inl (by simp [hk])), (hE.mono (M' := [b]) (by simp)).trans hE6 (fun k hk => by rcases List.mem_cons.1 hk with rfl | hk; exact .inl (by simp); exact .inr (by have h9 : k = b5 := (by simpa using hk); omega))⟩
  · refine RL.call (fi := []) (ca := []) rfl rfl rfl rfl (guard_off m5 (b5 :: M) b l e hR5 he _) ?_
    rintro v m6 ⟨rfl, rfl⟩
    refine ⟨_, rfl, ?_⟩
    refine RL.auto T_ok rfl ?_
    refine RL.nil ?_; repeat (first | with_reducible refine QN.block_normal ?_ | with_reducible refine QN.next ?_); repeat (first | with_reducible refine WP.seq ?_ | with_reducible refine WP.block ?_ | with_reducible refine WP.region ?_)
    refine WP.condT rfl ?_
    repeat (first | with_reducible refine WP.seq ?_ | with_reducible refine WP.block ?_ | with_reducible refine WP.region ?_)
    refine RL.auto T_ok rfl ?_
    refine RL.nil ?_; repeat (first | with_reducible refine QN.block_normal ?_ | with_reducible refine QN.next ?_); repeat (first | with_reducible refine WP.seq ?_ | with_reducible refine WP.block ?_ | with_reducible refine WP.region ?_)
    refine WP.ret ?_; repeat (first | with_reducible refine QN.then_ret ?_ | with_reducible refine QN.block_ret ?_)
    refine QN.ret1 rfl rfl ⟨_, rfl, ?_⟩
    rw [gR_off he]
    exact ⟨rfl, hR5.ext (Ext.refl _ []) (by simp) (by simp) (fun k hk => .inl (by simp [hk])), hE.mono (by simp)⟩

/-- A number that may be below 0, read off the one that isn't. -/
def gRI (r : Nat × List UInt8 × Int) : Int × List UInt8 × Int := (unzig r.1, r.2)
theorem gR_lt (most : Nat) (e : Int) (l : List UInt8) : (gR 0 e l (rdU most 0 0 l)).1 ≤ most := by
  unfold gR
  split
  · split
    · rename_i a l' h; exact (rdU_most most l 0 0 a l' h).1
    · exact Nat.zero_le _
  · exact Nat.zero_le _
end Go.Proofs.Ytmjpcaiehfimgaa
end

section
/- The Reader's eight bytes and texts. The lengths stay below 2^30. -/
namespace Go.Proofs.Ytmjpcaiehfimgaa
open Go.RowKit Go.Ev

theorem max_zero (most : Int) (h1 : -9223372036854775808 ≤ most) (h2 : most ≤ 9223372036854775807) : IntKind.u64.wrap (if (0 : Int) > most then 0 else most) = ((most.toNat : Nat) : Int) := by
  rw [wrap_u64]; split <;> omega
end Go.Proofs.Ytmjpcaiehfimgaa
end

section
/- The reference's Reader: its numbers, as the plain readings say. -/
namespace Go.Proofs.Ytmjpcaiehfimgaa
open Go.RowKit Go.Ev

/-- A reference Reader: what is left, its error. -/
def QAt (m : World) (M : List Nat) (b : Nat) (l : List UInt8) (e : Int) : Prop := ∃ v, Blk m b 44 [v, .int .i64 e] ∧ Bs m M v l
theorem QAt.lt {m : World} {M : List Nat} {b : Nat} {l : List UInt8} {e : Int} (h : QAt m M b l e) : b < m.heap.size := by obtain ⟨v, h, _⟩ := h; exact h.lt
theorem QAt.ext {m m' : World} {M M' N : List Nat} {b : Nat} {l : List UInt8} {e : Int} (h : QAt m M b l e) (hE : Ext m N m') (hb : b ∉ N) (hN : ∀ k ∈ N, k < m.heap.size → k ∈ M) (hM : ∀ k ∈ M', k ∈ M ∨ m.heap.size ≤ k) : QAt m' M' b l e := by
  obtain ⟨v, hB, hS⟩ := h
  exact ⟨v, hB.ext hE hb, Sl.ext hS (hE.mono hN) hM (by omega)⟩
theorem QAt.new {m m' : World} {M : List Nat} {b : Nat} {l : List UInt8} {e : Int} (h : QAt m M b l e) (hE : Ext m [] m') : QAt m' M b l e := h.ext hE (by simp) (by simp) (fun _ hk => .inl hk)
def QPost (m : World) (M : List Nat) (b : Nat) {α : Type} (enc : α → Value) (r : α × List UInt8 × Int) (v : Value) (m' : World) : Prop :=
  v = enc r.1 ∧ QAt m' M b r.2.1 r.2.2 ∧ Ext m [b] m'

set_option maxRecDepth 4000 in
set_option maxHeartbeats 400000 in
theorem quint_c (m : World) (M : List Nat) (b : Nat) (l : List UInt8) (e : Int) (h : QAt m M b l e) (hbM : b ∈ M) (most : Nat) :
    FnR Try.prog 49 [.pointer (some ⟨b, 0, none⟩), .int .u64 most] m (QPost m M b (fun n : Nat => .int .u64 n) (gR 0 e l (rdU most 0 0 l))) := by
  obtain ⟨v, hB, hS⟩ := h
  obtain ⟨A, c, rfl, hlc, hcm⟩ := hS.shape
  have hlm : l.length ≤ 9223372036854775807 := by unfold maxLen at hcm; omega
  refine FnE.enter ⟨_, Try.func49, by kernel_rfl, by kernel_rfl⟩ Try.func49 rfl rfl ?_
  repeat (first | with_reducible refine WP.seq ?_ | with_reducible refine WP.block ?_ | with_reducible refine WP.region ?_)
  refine RL.auto T_ok rfl ?_
  refine RL.nil ?_; repeat (first | with_reducible refine QN.block_normal ?_ | with_reducible refine QN.next ?_); repeat (first | with_reducible refine WP.seq ?_ | with_reducible refine WP.block ?_ | with_reducible refine WP.region ?_)
  refine RL.auto T_ok rfl ?_
  refine RL.load T_ok rfl rfl rfl (hB.cell 1 rfl) rfl ?_
  refine RL.pure T_ok 1 rfl ?_
  by_cases he : e = 0
  rotate_left
  · refine RL.eqv (v' := .bool true) (congrArg _ (by simp [he])) ?_
    refine RL.auto T_ok rfl ?_
    refine RL.nil ?_; repeat (first | with_reducible refine QN.block_normal ?_ | with_reducible refine QN.next ?_); repeat (first | with_reducible refine WP.seq ?_ | with_reducible refine WP.block ?_ | with_reducible refine WP.region ?_)
    refine WP.condT rfl ?_
    repeat (first | with_reducible refine WP.seq ?_ | with_reducible refine WP.block ?_ | with_reducible refine WP.region ?_)
    refine RL.auto T_ok rfl ?_
    refine RL.nil ?_; repeat (first | with_reducible refine QN.block_normal ?_ | with_reducible refine QN.next ?_); repeat (first | with_reducible refine WP.seq ?_ | with_reducible refine WP.block ?_ | with_reducible refine WP.region ?_)
    refine WP.ret ?_; repeat (first | with_reducible refine QN.then_ret ?_ | with_reducible refine QN.block_ret ?_)
    refine QN.ret1 rfl rfl ⟨_, rfl, ?_⟩
    rw [gR_off he]
    exact ⟨rfl, ⟨_, hB, hS⟩, Ext.refl _ _⟩
  subst he
  have good : ∀ (n : Nat) (l' : List UInt8) (m' : World) (u : Value), rdU most 0 0 l = .ok (n, l') → Chg m b (.cells [u, .int .i64 0].toArray 44 (0, 0)) m' → Bs m' M u l' → QPost m M b (fun n : Nat => .int .u64 n) (gR 0 0 l (rdU most 0 0 l)) (.int .u64 n) m' :=
    fun n l' m' u h1 h2 h3 => by rw [gR_ok h1]; exact ⟨rfl, ⟨u, h2.blk, h3⟩, h2.ext⟩
  have bad : ∀ (k : Int) (m' : World), rdU most 0 0 l = .error k → Chg m b (.cells [.slice A l.length c, .int .i64 k].toArray 44 (0, 0)) m' → QPost m M b (fun n : Nat => .int .u64 n) (gR 0 0 l (rdU most 0 0 l)) (.int .u64 0) m' :=
    fun k m' h1 h2 => by rw [gR_err h1]; exact ⟨rfl, ⟨_, h2.blk, Sl.ext hS (h2.ext.mono (by simp [hbM])) (fun _ hk => .inl hk) (by omega)⟩, h2.ext⟩
  refine RL.eqv (v' := .bool false) (congrArg _ (by simp)) ?_
  refine RL.auto T_ok rfl ?_
  refine RL.nil ?_; repeat (first | with_reducible refine QN.block_normal ?_ | with_reducible refine QN.next ?_); repeat (first | with_reducible refine WP.seq ?_ | with_reducible refine WP.block ?_ | with_reducible refine WP.region ?_)
  refine WP.condF rfl ?_
  refine WP.skip ?_; repeat (first | with_reducible refine QN.block_normal ?_ | with_reducible refine QN.next ?_); repeat (first | with_reducible refine WP.seq ?_ | with_reducible refine WP.block ?_ | with_reducible refine WP.region ?_)
  refine RL.auto T_ok rfl ?_
  refine RL.nil ?_; repeat (first | with_reducible refine QN.block_normal ?_ | with_reducible refine QN.next ?_); repeat (first | with_reducible refine WP.seq ?_ | with_reducible refine WP.block ?_ | with_reducible refine WP.region ?_)
  refine RL.auto T_ok rfl ?_
  refine RL.nil ?_; repeat (first | with_reducible refine QN.block_normal ?_ | with_reducible refine QN.next ?_); repeat (first | with_reducible refine WP.seq ?_ | with_reducible refine WP.block ?_ | with_reducible refine WP.region ?_)
  refine WP.loop (X := Nat × Nat) (fun x => [(0, .pointer (some ⟨b, 0, none⟩)), (1, .int .u64 most), (5, .int .u64 x.2), (6, .int .i64 x.1)])
    (fun x m' => x.1 ≤ 9 ∧ x.1 ≤ l.length ∧ x.2 < 128 ^ x.1 ∧ rdU most x.1 x.2 (l.drop x.1) = rdU most 0 0 l ∧ m' = m) (fun x => 10 - x.1) (0, 0)
    (Sub.cons rfl (Sub.cons rfl (Sub.cons rfl (Sub.cons rfl Sub.nil)))) ⟨by simp, by simp, by simp, by simp, rfl⟩ ?_
  rintro ⟨i, n⟩ m1 ⟨hi, hil, hn, hrd, rfl⟩
  simp only at hi hil hn hrd
  repeat (first | with_reducible refine WP.seq ?_ | with_reducible refine WP.block ?_ | with_reducible refine WP.region ?_)
  refine RL.pure T_ok 2 rfl ?_
  refine RL.eqv (v' := .bool false) (congrArg _ (decide_eq_false (by omega))) ?_
  refine RL.auto T_ok rfl ?_
  refine RL.nil ?_; repeat (first | with_reducible refine QN.block_normal ?_ | with_reducible refine QN.next ?_); repeat (first | with_reducible refine WP.seq ?_ | with_reducible refine WP.block ?_ | with_reducible refine WP.region ?_)
  refine WP.condF rfl ?_
  refine WP.skip ?_; repeat (first | with_reducible refine QN.block_normal ?_ | with_reducible refine QN.next ?_); repeat (first | with_reducible refine WP.seq ?_ | with_reducible refine WP.block ?_ | with_reducible refine WP.region ?_)
  refine RL.auto T_ok rfl ?_
  refine RL.load T_ok rfl rfl rfl (hB.cell 0 rfl) rfl ?_
  refine RL.auto T_ok rfl ?_
  refine RL.nil ?_; repeat (first | with_reducible refine QN.block_normal ?_ | with_reducible refine QN.next ?_); repeat (first | with_reducible refine WP.seq ?_ | with_reducible refine WP.block ?_ | with_reducible refine WP.region ?_)
  refine WP.cond rfl (fun hc => ?_) (fun hc => ?_)
  · have hc : l.length ≤ i := by have := of_decide_eq_true hc; omega
    have h0 : l.drop i = [] := List.drop_eq_nil_of_le hc
    rw [h0] at hrd
    repeat (first | with_reducible refine WP.seq ?_ | with_reducible refine WP.block ?_ | with_reducible refine WP.region ?_)
    refine RL.auto T_ok rfl ?_
    refine RL.store T_ok hB (i := 1) (v := .int .i64 10) (by simp) rfl rfl rfl rfl rfl rfl ?_
    intro m2 hC
    refine RL.nil ?_; repeat (first | with_reducible refine QN.block_normal ?_ | with_reducible refine QN.next ?_); repeat (first | with_reducible refine WP.seq ?_ | with_reducible refine WP.block ?_ | with_reducible refine WP.region ?_)
    refine RL.auto T_ok rfl ?_
    refine RL.nil ?_; repeat (first | with_reducible refine QN.block_normal ?_ | with_reducible refine QN.next ?_); repeat (first | with_reducible refine WP.seq ?_ | with_reducible refine WP.block ?_ | with_reducible refine WP.region ?_)
    refine WP.ret ?_; repeat (first | with_reducible refine QN.then_ret ?_ | with_reducible refine QN.block_ret ?_)
    exact QN.ret1 rfl rfl ⟨_, rfl, bad 10 m2 (by rw [← hrd]; rfl) hC⟩
  have hc : i < l.length := by have := of_decide_eq_false hc; omega
  have hx := l[i].toNat_lt
  rw [List.drop_eq_getElem_cons hc] at hrd
  refine WP.skip ?_; repeat (first | with_reducible refine QN.block_normal ?_ | with_reducible refine QN.next ?_); repeat (first | with_reducible refine WP.seq ?_ | with_reducible refine WP.block ?_ | with_reducible refine WP.region ?_)
  refine RL.auto T_ok rfl ?_
  refine RL.load T_ok rfl rfl rfl (hB.cell 0 rfl) rfl ?_
  refine RL.auto T_ok rfl ?_
  refine RL.byteAt T_ok hS (k := i) rfl hc rfl rfl rfl rfl rfl rfl (fun p => ?_)
  generalize l[i] = x at *
  refine RL.auto T_ok rfl ?_
  refine RL.nil ?_; repeat (first | with_reducible refine QN.block_normal ?_ | with_reducible refine QN.next ?_)
  have hp : 128 ^ i = 2 ^ (7 * i) := by rw [Nat.pow_mul]
  have hi9 : 128 ^ i ≤ 128 ^ 9 := Nat.pow_le_pow_right (by omega) hi
  refine WP.cut (X := Unit) (fun _ => [(0, .pointer (some ⟨b, 0, none⟩)), (1, .int .u64 most), (5, .int .u64 n), (6, .int .i64 i), (7, .int .u8 x.toNat)]) (fun _ m' => m' = m1 ∧ ¬ (i = 9 ∧ 1 < x.toNat)) ?_ ?_
  · repeat (first | with_reducible refine WP.seq ?_ | with_reducible refine WP.block ?_ | with_reducible refine WP.region ?_)
    refine RL.pure T_ok 2 rfl ?_
    by_cases h9 : i = 9
    · refine RL.eqv (v' := .bool true) (by simp [h9]) ?_
      refine RL.auto T_ok rfl ?_
      refine RL.nil ?_; repeat (first | with_reducible refine QN.block_normal ?_ | with_reducible refine QN.next ?_); repeat (first | with_reducible refine WP.seq ?_ | with_reducible refine WP.block ?_ | with_reducible refine WP.region ?_)
      refine WP.cond rfl (fun hc => ?_) (fun hc => ?_)
      · have hc : 1 < x.toNat := by have := of_decide_eq_true hc; omega
        repeat (first | with_reducible refine WP.seq ?_ | with_reducible refine WP.block ?_ | with_reducible refine WP.region ?_)
        refine RL.auto T_ok rfl ?_
        refine RL.store T_ok hB (i := 1) (v := .int .i64 11) (by simp) rfl rfl rfl rfl rfl rfl ?_
        intro m2 hC
        refine RL.nil ?_; repeat (first | with_reducible refine QN.block_normal ?_ | with_reducible refine QN.next ?_); repeat (first | with_reducible refine WP.seq ?_ | with_reducible refine WP.block ?_ | with_reducible refine WP.region ?_)
        refine RL.auto T_ok rfl ?_
        refine RL.nil ?_; repeat (first | with_reducible refine QN.block_normal ?_ | with_reducible refine QN.next ?_); repeat (first | with_reducible refine WP.seq ?_ | with_reducible refine WP.block ?_ | with_reducible refine WP.region ?_)
        refine WP.ret ?_; repeat (first | with_reducible refine QN.then_ret ?_ | with_reducible refine QN.block_ret ?_)
        exact QN.ret1 rfl rfl ⟨_, rfl, bad 11 m2 (by rw [← hrd]; simp [rdU, h9, hc]) hC⟩
      · have hc : ¬ 1 < x.toNat := by have := of_decide_eq_false hc; omega
        refine WP.skip (QN.cutEnd () (Sub.cons rfl (Sub.cons rfl (Sub.cons rfl (Sub.cons rfl (Sub.cons rfl Sub.nil))))) ⟨rfl, fun hh => hc hh.2⟩)
    · refine RL.eqv (v' := .bool false) (by simp; omega) ?_
      refine RL.auto T_ok rfl ?_
      refine RL.nil ?_; repeat (first | with_reducible refine QN.block_normal ?_ | with_reducible refine QN.next ?_); repeat (first | with_reducible refine WP.seq ?_ | with_reducible refine WP.block ?_ | with_reducible refine WP.region ?_)
      refine WP.condF rfl ?_
      refine WP.skip (QN.cutEnd () (Sub.cons rfl (Sub.cons rfl (Sub.cons rfl (Sub.cons rfl (Sub.cons rfl Sub.nil))))) ⟨rfl, fun hh => h9 hh.1⟩)
  rintro _ m2' ⟨rfl, h9⟩
  have hy : i = 9 → x.toNat ≤ 1 := fun h => by
    rcases Nat.lt_or_ge 1 x.toNat with h1 | h1
    · exact absurd ⟨h, h1⟩ h9
    · exact h1
  have hfit : n + x.toNat % 128 * 128 ^ i < 18446744073709551616 ∧ (i < 9 → n + x.toNat % 128 * 128 ^ i < 128 ^ (i + 1)) := by
    have h1 : x.toNat % 128 * 128 ^ i ≤ 127 * 128 ^ i := Nat.mul_le_mul_right _ (by omega)
    refine ⟨?_, fun _ => by rw [Nat.pow_succ]; omega⟩
    rcases Nat.lt_or_ge i 9 with h | h
    · have : 128 ^ i ≤ 128 ^ 8 := Nat.pow_le_pow_right (by omega) (by omega)
      omega
    · have : i = 9 := by omega
      subst this
      have := hy rfl
      have : x.toNat % 128 * 128 ^ 9 ≤ 1 * 128 ^ 9 := Nat.mul_le_mul_right _ (by omega)
      omega
  have hyp : x.toNat % 128 * 128 ^ i = x.toNat % 128 * 2 ^ (7 * i) := by rw [hp]
  repeat (first | with_reducible refine WP.seq ?_ | with_reducible refine WP.block ?_ | with_reducible refine WP.region ?_)
  refine RL.pure T_ok 4 rfl ?_
  refine RL.eqv (v' := .int .u64 ((x.toNat % 128 : Nat) : Int)) (congrArg _ ?_) ?_
  · show IntKind.u64.wrap (bits .and .u8 (x.toNat : Int) 127) = _
    rw [and127, wrap_u64_in _ (by omega) (by omega)]
  refine RL.pure T_ok 2 rfl ?_
  refine RL.eqv (v' := .int .i64 ((7 * i : Nat) : Int)) (congrArg _ ?_) ?_
  · show IntKind.i64.wrap (7 * (i : Int)) = _
    rw [wrap_i64_in _ (by omega) (by omega)]; omega
  refine RL.pure T_ok 1 rfl ?_
  refine RL.eqv (v' := .int .u64 ((x.toNat % 128 * 2 ^ (7 * i) : Nat) : Int)) (congrArg _ ?_) ?_
  · show IntKind.u64.wrap (((x.toNat % 128 : Nat) : Int) * 2 ^ shAmt .u64 (7 * i)) = _
    have h1 : shAmt .u64 (7 * i) = 7 * i := by unfold shAmt; exact Nat.min_eq_left (by show 7 * i ≤ 64; omega)
    have h2 : ((x.toNat % 128 : Nat) : Int) * 2 ^ (7 * i) = ((x.toNat % 128 * 2 ^ (7 * i) : Nat) : Int) := by
      rw [Int.natCast_mul, Int.natCast_pow]; rfl
    rw [h1, h2, wrap_u64_in _ (by omega) (by rw [← hyp]; omega)]
  refine RL.pure T_ok 1 rfl ?_
  refine RL.eqv (v' := .int .u64 ((n + x.toNat % 128 * 128 ^ i : Nat) : Int)) (congrArg _ ?_) ?_
  · show bits .or .u64 (n : Int) ((x.toNat % 128 * 2 ^ (7 * i) : Nat) : Int) = _
    rw [or_add64 _ _ _ (by rw [← hp]; exact hn) (by rw [← hyp]; exact hfit.1), ← hyp]
  refine RL.auto T_ok rfl ?_
  refine RL.nil ?_; repeat (first | with_reducible refine QN.block_normal ?_ | with_reducible refine QN.next ?_); repeat (first | with_reducible refine WP.seq ?_ | with_reducible refine WP.block ?_ | with_reducible refine WP.region ?_)
  refine RL.auto T_ok rfl ?_
  refine RL.nil ?_; repeat (first | with_reducible refine QN.block_normal ?_ | with_reducible refine QN.next ?_); repeat (first | with_reducible refine WP.seq ?_ | with_reducible refine WP.block ?_ | with_reducible refine WP.region ?_)
  clear hyp
  refine WP.cond rfl (fun hc => ?_) (fun hc => ?_)
  · have hc : 128 ≤ x.toNat := by have := of_decide_eq_true hc; omega
    have hi' : i < 9 := by
      rcases Nat.lt_or_ge i 9 with h | h
      · exact h
      · have := hy (by omega); omega
    refine WP.exit ?_; repeat (first | with_reducible refine QN.then_exit ?_ | with_reducible refine QN.block_exit ?_ | with_reducible refine QN.block_far rfl ?_ | with_reducible refine QN.block_normal ?_ | with_reducible refine QN.next ?_); repeat (first | with_reducible refine WP.seq ?_ | with_reducible refine WP.block ?_ | with_reducible refine WP.region ?_)
    refine RL.auto T_ok rfl ?_
    refine RL.nil (QN.round (i + 1, n + x.toNat % 128 * 128 ^ i) ?_ ⟨?_, ?_, hfit.2 hi', ?_, rfl⟩ ?_)
    · refine Sub.cons rfl (Sub.cons rfl (Sub.cons rfl (Sub.cons ?_ Sub.nil)))
      show some (Value.int .i64 (IntKind.i64.wrap ((i : Int) + 1))) = some (Value.int .i64 ((i + 1 : Nat) : Int))
      rw [wrap_i64_in _ (by omega) (by omega)]; rfl
    · show i + 1 ≤ 9
      omega
    · show i + 1 ≤ l.length
      omega
    · rw [← hrd]
      simp only [rdU]
      rw [if_neg h9, if_pos hc]
    · show 10 - (i + 1) < 10 - i
      omega
  have hc128 : x.toNat < 128 := by have := of_decide_eq_false hc; omega
  have hrd1 : rdU most 0 0 l = if x.toNat = 0 ∧ 0 < i then .error 11 else if most < n + x.toNat % 128 * 128 ^ i then .error 12 else .ok (n + x.toNat % 128 * 128 ^ i, l.drop (i + 1)) := by
    rw [← hrd]
    simp only [rdU]
    rw [if_neg h9, if_neg (by omega)]
  generalize hN : n + x.toNat % 128 * 128 ^ i = N at *
  refine WP.skip ?_; repeat (first | with_reducible refine QN.block_normal ?_ | with_reducible refine QN.next ?_)
  refine WP.cut (X := Unit) (fun _ => [(0, .pointer (some ⟨b, 0, none⟩)), (1, .int .u64 most), (5, .int .u64 N), (6, .int .i64 i)]) (fun _ m' => m' = m2' ∧ ¬ (x.toNat = 0 ∧ 0 < i)) ?_ ?_
  · repeat (first | with_reducible refine WP.seq ?_ | with_reducible refine WP.block ?_ | with_reducible refine WP.region ?_)
    refine RL.pure T_ok 2 rfl ?_
    by_cases hx0 : x.toNat = 0
    · refine RL.eqv (v' := .bool true) (by simp [hx0]) ?_
      refine RL.auto T_ok rfl ?_
      refine RL.nil ?_; repeat (first | with_reducible refine QN.block_normal ?_ | with_reducible refine QN.next ?_); repeat (first | with_reducible refine WP.seq ?_ | with_reducible refine WP.block ?_ | with_reducible refine WP.region ?_)
      refine WP.cond rfl (fun hc => ?_) (fun hc => ?_)
      · have hc : 0 < i := by have := of_decide_eq_true hc; omega
        repeat (first | with_reducible refine WP.seq ?_ | with_reducible refine WP.block ?_ | with_reducible refine WP.region ?_)
        refine RL.auto T_ok rfl ?_
        refine RL.store T_ok hB (i := 1) (v := .int .i64 11) (by simp) rfl rfl rfl rfl rfl rfl ?_
        intro m2 hC
        refine RL.nil ?_; repeat (first | with_reducible refine QN.block_normal ?_ | with_reducible refine QN.next ?_); repeat (first | with_reducible refine WP.seq ?_ | with_reducible refine WP.block ?_ | with_reducible refine WP.region ?_)
        refine RL.auto T_ok rfl ?_
        refine RL.nil ?_; repeat (first | with_reducible refine QN.block_normal ?_ | with_reducible refine QN.next ?_); repeat (first | with_reducible refine WP.seq ?_ | with_reducible refine WP.block ?_ | with_reducible refine WP.region ?_)
        refine WP.ret ?_; repeat (first | with_reducible refine QN.then_ret ?_ | with_reducible refine QN.block_ret ?_)
        exact QN.ret1 rfl rfl ⟨_, rfl, bad 11 m2 (by rw [hrd1, if_pos ⟨hx0, hc⟩]) hC⟩
      · have hc : ¬ 0 < i := by have := of_decide_eq_false hc; omega
        refine WP.skip (QN.cutEnd () (Sub.cons rfl (Sub.cons rfl (Sub.cons rfl (Sub.cons rfl Sub.nil)))) ⟨rfl, fun hh => hc hh.2⟩)
    · refine RL.eqv (v' := .bool false) (by simp [hx0]) ?_
      refine RL.auto T_ok rfl ?_
      refine RL.nil ?_; repeat (first | with_reducible refine QN.block_normal ?_ | with_reducible refine QN.next ?_); repeat (first | with_reducible refine WP.seq ?_ | with_reducible refine WP.block ?_ | with_reducible refine WP.region ?_)
      refine WP.condF rfl ?_
      refine WP.skip (QN.cutEnd () (Sub.cons rfl (Sub.cons rfl (Sub.cons rfl (Sub.cons rfl Sub.nil)))) ⟨rfl, fun hh => hx0 hh.1⟩)
  rintro _ m3 ⟨rfl, hz⟩
  rw [if_neg hz] at hrd1
  repeat (first | with_reducible refine WP.seq ?_ | with_reducible refine WP.block ?_ | with_reducible refine WP.region ?_)
  refine RL.auto T_ok rfl ?_
  refine RL.nil ?_; repeat (first | with_reducible refine QN.block_normal ?_ | with_reducible refine QN.next ?_); repeat (first | with_reducible refine WP.seq ?_ | with_reducible refine WP.block ?_ | with_reducible refine WP.region ?_)
  refine WP.cond rfl (fun hc2 => ?_) (fun hc2 => ?_)
  · have hc2 : most < N := by have := of_decide_eq_true hc2; omega
    repeat (first | with_reducible refine WP.seq ?_ | with_reducible refine WP.block ?_ | with_reducible refine WP.region ?_)
    refine RL.auto T_ok rfl ?_
    refine RL.store T_ok hB (i := 1) (v := .int .i64 12) (by simp) rfl rfl rfl rfl rfl rfl ?_
    intro m4 hC
    refine RL.nil ?_; repeat (first | with_reducible refine QN.block_normal ?_ | with_reducible refine QN.next ?_); repeat (first | with_reducible refine WP.seq ?_ | with_reducible refine WP.block ?_ | with_reducible refine WP.region ?_)
    refine RL.auto T_ok rfl ?_
    refine RL.nil ?_; repeat (first | with_reducible refine QN.block_normal ?_ | with_reducible refine QN.next ?_); repeat (first | with_reducible refine WP.seq ?_ | with_reducible refine WP.block ?_ | with_reducible refine WP.region ?_)
    refine WP.ret ?_; repeat (first | with_reducible refine QN.then_ret ?_ | with_reducible refine QN.block_ret ?_)
    exact QN.ret1 rfl rfl ⟨_, rfl, bad 12 m4 (by rw [hrd1, if_pos hc2]) hC⟩
  · have hc2 : ¬ most < N := by have := of_decide_eq_false hc2; omega
    rw [if_neg hc2] at hrd1
    refine WP.skip ?_; repeat (first | with_reducible refine QN.block_normal ?_ | with_reducible refine QN.next ?_); repeat (first | with_reducible refine WP.seq ?_ | with_reducible refine WP.block ?_ | with_reducible refine WP.region ?_)
    refine RL.auto T_ok rfl ?_
    refine RL.load T_ok rfl rfl rfl (hB.cell 0 rfl) rfl ?_
    refine RL.pure T_ok 2 rfl ?_
    refine RL.eqv (v' := .int .i64 ((i + 1 : Nat) : Int)) (congrArg _ (by rw [wrap_i64_in _ (by omega) (by omega)]; rfl)) ?_
    refine RL.sliceFrom (l := i + 1) T_ok rfl rfl rfl rfl rfl (by omega) rfl ?_
    refine RL.auto T_ok rfl ?_
    refine RL.store T_ok hB (i := 0) (by simp) rfl rfl rfl rfl rfl rfl ?_
    intro m4 hC
    have h2 := Sl.from_ hS (l := i + 1) (by omega)
    rw [show (u8s l).drop ((i + 1) * 1) = u8s (l.drop (i + 1)) by rw [Nat.mul_one, u8s_drop]] at h2
    refine RL.nil ?_; repeat (first | with_reducible refine QN.block_normal ?_ | with_reducible refine QN.next ?_); repeat (first | with_reducible refine WP.seq ?_ | with_reducible refine WP.block ?_ | with_reducible refine WP.region ?_)
    refine RL.auto T_ok rfl ?_
    refine RL.nil ?_; repeat (first | with_reducible refine QN.block_normal ?_ | with_reducible refine QN.next ?_); repeat (first | with_reducible refine WP.seq ?_ | with_reducible refine WP.block ?_ | with_reducible refine WP.region ?_)
    refine WP.ret ?_; repeat (first | with_reducible refine QN.then_ret ?_ | with_reducible refine QN.block_ret ?_)
    exact QN.ret1 rfl rfl ⟨_, rfl, good N _ m4 _ hrd1 hC (Sl.ext h2 (hC.ext.mono (by simp [hbM])) (fun _ hk => .inl hk) (by omega))⟩
end Go.Proofs.Ytmjpcaiehfimgaa
end

section
/- A literal's bytes converted to their own type: the row gets a mark behind its last cell; nothing else moves. No conditions. -/
namespace Go.Ev
open Go.RowKit
section
variable {P : Program} {T : Ty} {ops : Array Oper} {Q : Exit → Act → World → Prop} {rest : List Oper} {n : Nat} {e e' : Env} {D : Fr} {m : World}
  {d : Option Tmp} {x : Operand} {t ty : TypeId} {pos : String} {aft : Array Edge} {g : Option (Nat × Bool)}
theorem freeze_heap (w : World) (b k : Nat) {cs : Array Value} {te : TypeId} (h : w.heap[b]? = some (.cells cs te (0, 0))) (j : Nat) :
    (w.freeze ⟨b, k, none⟩ 1).heap[j]? = if j = b then some (.cells cs te (k, k + 1)) else w.heap[j]? := by
  unfold World.freeze
  rw [if_neg (by decide)]
  show (w.heap.modify b _)[j]? = _
  rw [Array.getElem?_modify]
  by_cases hj : b = j
  · subst hj; rw [if_pos rfl, if_pos rfl, h]; rfl
  · rw [if_neg hj, if_neg (fun hh => hj hh.symm)]
theorem Sim.freeze {m w : World} (h : Sim m w) (a : Addr) (k : Nat) : Sim (m.freeze a k) (w.freeze a k) := by
  unfold World.freeze
  split
  · exact h
  · exact ⟨by simp [h.heap], h.os, h.output, h.tape, h.drawn⟩
theorem RL.convSelf (hT : T.Ok P) {b : Nat} {tb te : TypeId} {cs : List Value} {k c sz : Nat} (hB : Blk m b tb cs) (ht : (T.row t).map (·.k) = some (.sli te)) (hte : (T.row te).map (·.k) = some (.int .u8))
    (hlen : cs.length = k * sz) (hkc : k ≤ c) (hc : c ≤ maxLen)
    (hg : gd ops e ⟨d, .convert t t x, ty, pos, aft, g⟩ = some true) (hx : e.ev x = some (.slice (some ⟨b, 0, none⟩) k c)) (hp : putE n d (.slice (some ⟨b, 0, none⟩) k c) e = some e')
    (h : ∀ m', Ext m [b] m' → (∀ M, b ∉ M → Sl m' M sz (.slice (some ⟨b, 0, none⟩) k c) cs) → RL P ops Q rest n e' D m') : RL P ops Q (⟨d, .convert t t x, ty, pos, aft, g⟩ :: rest) n e D m := by
  obtain ⟨r2, hr2, hr2'⟩ := Option.map_eq_some_iff.1 ht
  obtain ⟨r3, hr3, hr3'⟩ := Option.map_eq_some_iff.1 hte
  have h2 := (hT.row hr2).k; rw [hr2'] at h2
  have h3 := (hT.row hr3).k; rw [hr3'] at h3
  have hh := freeze_heap m b cs.length hB
  refine RL.valueW (m' := m.freeze ⟨b, cs.length, none⟩ 1) _ hg (fun a w hf hs => ⟨w.freeze ⟨b, cs.length, none⟩ 1, ?_, hs.freeze _ _⟩) hp (h _ ?_ ?_)
  · have hsh : w.shape? b = some (tb, cs.length) := by
      unfold World.shape?
      rw [hs.heap, hB]; simp
    simp [execOp, convert, hf.ev hx, run_underlying h2, run_underlying h3, markStringish, hsh]
  · refine ⟨?_, ?_, ?_, ?_, fun j hj hn => ?_, by unfold World.freeze; split <;> exact Nat.le_refl _⟩
    · unfold World.freeze; split <;> rfl
    · unfold World.freeze; split <;> rfl
    · unfold World.freeze; split <;> rfl
    · unfold World.freeze; split <;> simp
    · rw [hh, if_neg (by simpa using hn)]
  · refine fun M hM => ⟨_, _, _, rfl, hkc, hc, hlen, (fun hh => by cases hh), fun _ => ⟨_, rfl, hM, fun j u hu => ?_⟩⟩
    rw [add_block]
    have := hh b
    rw [if_pos rfl] at this
    simp [World.cell?, this, hu]
end
end Go.Ev
namespace Go.Ev
open Go.RowKit
/-- A store into an owned row of one-cell elements. -/
theorem Own.put {m : World} {S : List Nat} {t : TypeId} {v : Value} {n j : Nat} {xs : List Value} (h : Own m S t 1 v n xs) (hj : j < n) :
    ∃ g cap cur, v = .slice (some ⟨g, 0, none⟩) n cap ∧ Blk m g t cur ∧ S = [g] ∧ j < cur.length ∧ ∀ m' x, Chg m g (.cells (cur.set j x).toArray t (0, 0)) m' → Own m' S t 1 v n (xs.set j x) := by
  obtain ⟨g, cap, cur, rfl, hB, hcap, hcm, hcl, hct, rfl⟩ := h.at_ (by omega)
  refine ⟨g, cap, cur, rfl, hB, rfl, by omega, fun m' x hC => ⟨?_, .inr ⟨g, cap, _, rfl, hC.blk, hcap, hcm, by simpa using hcl, ?_, rfl⟩⟩⟩
  · rw [List.length_set]; exact h.1
  · rw [List.take_set, hct]
theorem u8s_set (l : List UInt8) (j : Nat) (x : UInt8) : (u8s l).set j (.int .u8 x.toNat) = u8s (l.set j x) := by
  unfold u8s
  rw [List.map_set]
end Go.Ev
end

section
/- The statements' helps: a place, a copy, two rows of bytes held against one another, bytes spoilt. No conditions but that lengths stay below 2^30. -/
namespace Go.Proofs.Ytmjpcaiehfimgaa
open Go.RowKit Go.Ev

theorem tmod_fix (k : Int) (n : Nat) (hn : 0 < n) : (if k.tmod n < 0 then k.tmod n + n else k.tmod n) = k % (n : Int) := by
  have h1 := Int.tmod_eq_emod (a := k) (b := n)
  have h2 := Int.emod_nonneg k (b := (n : Int)) (by omega)
  have h3 := Int.emod_lt_of_pos k (b := (n : Int)) (by omega)
  rw [h1]
  split <;> split <;> omega
theorem copy_c (m : World) (M : List Nat) (v : Value) (l : List UInt8) (h : Bs m M v l) (hl : l.length < 1000000000) :
    FnR Try.prog 37 [v] m fun r m' => ∃ S', Ev.Own m' S' 5 1 r l.length (u8s l) ∧ New m S' m' := by
  obtain ⟨A, c, rfl, hlc, _⟩ := h.shape
  refine FnE.enter ⟨_, Try.func37, by kernel_rfl, by kernel_rfl⟩ Try.func37 rfl rfl ?_
  repeat (first | with_reducible refine WP.seq ?_ | with_reducible refine WP.block ?_ | with_reducible refine WP.region ?_)
  refine RL.auto T_ok rfl ?_
  refine RL.nil ?_; repeat (first | with_reducible refine QN.block_normal ?_ | with_reducible refine QN.next ?_); repeat (first | with_reducible refine WP.seq ?_ | with_reducible refine WP.block ?_ | with_reducible refine WP.region ?_)
  refine RL.auto T_ok rfl ?_
  refine RL.append T_ok (Own.empty _ _ _ none) (u8s l) (Src.of_sl (show Sl m M 1 _ (u8s l) from h)) rfl rfl rfl rfl rfl (by simp [u8s_length]) (u8s_one _) (by unfold maxLen; omega) (by show (_ + _) * 1 ≤ _; omega) ?_
  intro v1 m2 S2 hO1 hE1 hF1
  refine ⟨_, rfl, ?_⟩
  refine RL.auto T_ok rfl ?_
  refine RL.nil ?_; repeat (first | with_reducible refine QN.block_normal ?_ | with_reducible refine QN.next ?_); repeat (first | with_reducible refine WP.seq ?_ | with_reducible refine WP.block ?_ | with_reducible refine WP.region ?_)
  refine WP.ret ?_; repeat (first | with_reducible refine QN.then_ret ?_ | with_reducible refine QN.block_ret ?_)
  refine QN.ret1 rfl rfl ⟨_, rfl, S2, ?_, hE1, hF1⟩
  simpa using hO1
theorem str_eq (a b : List UInt8) : ((str a).toList == (str b).toList) = decide (a = b) := by
  rw [str_toList, str_toList]
  by_cases h : a = b <;> simp [h]
theorem hbytes_c (m : World) (M : List Nat) (v u : Value) (a b : List UInt8) (h : Bs m M v a) (h' : Bs m M u b) :
    FnR Try.prog 35 [v, u] m fun r m' => r = .bool (decide (a = b)) ∧ m' = m := by
  obtain ⟨A, c, rfl, hlc, _⟩ := h.shape
  obtain ⟨A', c', rfl, hlc', _⟩ := h'.shape
  refine FnE.enter ⟨_, Try.func35, by kernel_rfl, by kernel_rfl⟩ Try.func35 rfl rfl ?_
  repeat (first | with_reducible refine WP.seq ?_ | with_reducible refine WP.block ?_ | with_reducible refine WP.region ?_)
  refine RL.auto T_ok rfl ?_
  refine RL.nil ?_; repeat (first | with_reducible refine QN.block_normal ?_ | with_reducible refine QN.next ?_); repeat (first | with_reducible refine WP.seq ?_ | with_reducible refine WP.block ?_ | with_reducible refine WP.region ?_)
  refine RL.pure T_ok 1 rfl ?_
  refine RL.bytesString T_ok h rfl rfl rfl rfl rfl rfl ?_
  refine RL.pure T_ok 1 rfl ?_
  refine RL.bytesString T_ok h' rfl rfl rfl rfl rfl rfl ?_
  refine RL.pure T_ok 1 rfl ?_
  refine RL.eqv (v' := .bool (decide (a = b))) (congrArg _ (str_eq a b)) ?_
  refine RL.auto T_ok rfl ?_
  refine RL.nil ?_; repeat (first | with_reducible refine QN.block_normal ?_ | with_reducible refine QN.next ?_); repeat (first | with_reducible refine WP.seq ?_ | with_reducible refine WP.block ?_ | with_reducible refine WP.region ?_)
  refine WP.ret ?_; repeat (first | with_reducible refine QN.then_ret ?_ | with_reducible refine QN.block_ret ?_)
  exact QN.ret1 rfl rfl ⟨_, rfl, rfl, rfl⟩

theorem xorA5_fin : ∀ x : Fin 256, ∃ y : Fin 256, bits .xor .u8 (x.val : Int) 165 = (y.val : Int) := by
  intro x
  have h := bits_u8 .xor x.val 165
  exact ⟨⟨_, (bop8 .xor (BitVec.ofNat 8 x.val) (BitVec.ofNat 8 165)).isLt⟩, h⟩
theorem xorA5 (x : UInt8) : ∃ y : UInt8, bits .xor .u8 (x.toNat : Int) 165 = (y.toNat : Int) := by
  obtain ⟨y, hy⟩ := xorA5_fin ⟨x.toNat, x.toNat_lt⟩
  refine ⟨UInt8.ofNat y.val, ?_⟩
  rw [UInt8.toNat_ofNat', Nat.mod_eq_of_lt y.isLt]
  exact hy
end Go.Proofs.Ytmjpcaiehfimgaa
end

section
/- The reference's writers; a light script's size; bytes spoilt. -/
namespace Go.Proofs.Ytmjpcaiehfimgaa
open Go.RowKit Go.Ev

/-- An owned row of bytes as it stands behind a call. -/
def OPost (m : World) (S : List Nat) (l : List UInt8) (v : Value) (m' : World) : Prop := ∃ S', Ev.Own m' S' 5 1 v l.length (u8s l) ∧ Ext m S m' ∧ FpNew m S S'
theorem OPost.next {m m1 m2 : World} {S S1 : List Nat} {l : List UInt8} {v : Value} (hE : Ext m S m1) (hF : FpNew m S S1) (h : OPost m1 S1 l v m2) : OPost m S l v m2 := by
  obtain ⟨S', h1, h2, h3⟩ := h
  exact ⟨S', h1, hE.trans h2 hF, hF.trans h3 hE.size⟩
theorem own_more {m m1 : World} {S S2 : List Nat} {v1 : Value} {l : List UInt8} {d : List UInt8} (hO : Ev.Own m1 S2 5 1 v1 (l.length + d.length) (u8s l ++ u8s d)) (hE : Ext m S m1) (hF : FpNew m S S2) : OPost m S (l ++ d) v1 m1 :=
  ⟨S2, by rw [← u8s_append] at hO; rw [List.length_append]; exact hO, hE, hF⟩
theorem refuint_c (m : World) (n : Nat) (hn : n < 18446744073709551616) (S : List Nat) (v : Value) (l : List UInt8) (h : Ev.Own m S 5 1 v l.length (u8s l)) (hl : l.length < 1000000000) :
    FnR Try.prog 52 [v, .int .u64 n] m (OPost m S (l ++ encU n)) := by
  refine FnE.enter ⟨_, Try.func52, by kernel_rfl, by kernel_rfl⟩ Try.func52 rfl rfl ?_
  repeat (first | with_reducible refine WP.seq ?_ | with_reducible refine WP.block ?_ | with_reducible refine WP.region ?_)
  refine RL.auto T_ok rfl ?_
  refine RL.nil ?_; repeat (first | with_reducible refine QN.block_normal ?_ | with_reducible refine QN.next ?_); repeat (first | with_reducible refine WP.seq ?_ | with_reducible refine WP.block ?_ | with_reducible refine WP.region ?_)
  refine WP.loop (X := Nat × List UInt8 × Value) (fun x => [(0, x.2.2), (1, .int .u64 x.1)])
    (fun x m' => x.1 < 18446744073709551616 ∧ x.2.1 ++ encU x.1 = l ++ encU n ∧ OPost m S x.2.1 x.2.2 m') (fun x => x.1) (n, l, v)
    (Sub.cons rfl (Sub.cons rfl Sub.nil)) ⟨hn, rfl, S, h, Ext.refl _ _, FpNew.refl _ _⟩ ?_
  rintro ⟨k, pre, u⟩ m1 ⟨hk, hpre, S', hO, hE, hF⟩
  simp only at hk hpre hO
  have hlen : pre.length + (encU k).length = l.length + (encU n).length := by simpa using congrArg List.length hpre
  have h10 := encU_len10 hn
  repeat (first | with_reducible refine WP.seq ?_ | with_reducible refine WP.block ?_ | with_reducible refine WP.region ?_)
  refine RL.auto T_ok rfl ?_
  refine RL.nil ?_; repeat (first | with_reducible refine QN.block_normal ?_ | with_reducible refine QN.next ?_); repeat (first | with_reducible refine WP.seq ?_ | with_reducible refine WP.block ?_ | with_reducible refine WP.region ?_)
  refine WP.cond rfl (fun hc => ?_) (fun hc => ?_)
  · have hc : 128 ≤ k := by have := of_decide_eq_true hc; omega
    refine WP.skip ?_; repeat (first | with_reducible refine QN.block_normal ?_ | with_reducible refine QN.next ?_); repeat (first | with_reducible refine WP.seq ?_ | with_reducible refine WP.block ?_ | with_reducible refine WP.region ?_)
    refine RL.auto T_ok rfl ?_
    refine RL.append1 T_ok [.tmp 10] hO (u8s [UInt8.ofNat (k % 128 + 128)]) rfl rfl rfl rfl rfl rfl rfl rfl rfl (by simp [Value.cells]) ?_ (u8s_one _) (by unfold maxLen; omega) (by show (_ + 1) * 1 ≤ _; omega) ?_
    · simp [u8s, Value.cells, wrap_u8_nat]
      exact or128 k
    intro v1 m2 S2 hO1 hE1 hF1
    refine ⟨_, rfl, ?_⟩
    refine RL.auto T_ok rfl ?_
    refine RL.nil ?_; repeat (first | with_reducible refine QN.block_normal ?_ | with_reducible refine QN.next ?_); repeat (first | with_reducible refine WP.seq ?_ | with_reducible refine WP.block ?_ | with_reducible refine WP.region ?_)
    refine RL.auto T_ok rfl ?_
    refine RL.nil (QN.block_normal (QN.round (k / 128, pre ++ [UInt8.ofNat (k % 128 + 128)], v1) ?_ ⟨?_, ?_, OPost.next hE hF (own_more (d := [UInt8.ofNat (k % 128 + 128)]) hO1 hE1 hF1)⟩ ?_))
    · refine Sub.cons rfl (Sub.cons ?_ Sub.nil)
      show some (Value.int .u64 ((k : Int).fdiv (2 ^ 7))) = some (Value.int .u64 ((k / 128 : Nat) : Int))
      rw [fdiv_pow k 7]
    · show k / 128 < _
      omega
    · show (pre ++ [_]) ++ encU (k / 128) = _
      rw [← hpre, encU_big hc]; simp
    · show k / 128 < k
      omega
  · have hc : k < 128 := by have := of_decide_eq_false hc; omega
    refine WP.exit ?_; repeat (first | with_reducible refine QN.then_exit ?_ | with_reducible refine QN.block_exit ?_ | with_reducible refine QN.block_far rfl ?_ | with_reducible refine QN.block_normal ?_ | with_reducible refine QN.next ?_); repeat (first | with_reducible refine WP.seq ?_ | with_reducible refine WP.block ?_ | with_reducible refine WP.region ?_)
    refine RL.auto T_ok rfl ?_
    refine RL.append1 T_ok [.tmp 17] hO (u8s [UInt8.ofNat k]) rfl rfl rfl rfl rfl rfl rfl rfl rfl (by simp [Value.cells]) ?_ (u8s_one _) (by unfold maxLen; omega) (by show (_ + 1) * 1 ≤ _; omega) ?_
    · simp only [u8s, List.map_cons, List.map_nil, List.flatMap_cons, List.flatMap_nil, Value.cells, wrap_u8_nat]; rfl
    intro v1 m2 S2 hO1 hE1 hF1
    refine ⟨_, rfl, ?_⟩
    refine RL.auto T_ok rfl ?_
    refine RL.nil ?_; repeat (first | with_reducible refine QN.block_normal ?_ | with_reducible refine QN.next ?_); repeat (first | with_reducible refine WP.seq ?_ | with_reducible refine WP.block ?_ | with_reducible refine WP.region ?_)
    refine WP.ret ?_; repeat (first | with_reducible refine QN.then_ret ?_ | with_reducible refine QN.block_ret ?_)
    refine QN.ret1 rfl rfl ⟨_, rfl, ?_⟩
    rw [← hpre, encU_small hc]
    exact OPost.next hE hF (own_more (d := [UInt8.ofNat k]) hO1 hE1 hF1)
end Go.Proofs.Ytmjpcaiehfimgaa
end
