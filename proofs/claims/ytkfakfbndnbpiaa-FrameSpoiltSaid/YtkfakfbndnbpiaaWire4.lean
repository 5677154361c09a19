/- The Reader's Guard: what fails within a function becomes the reader's failure, and nothing is read. The lengths stay below 2^30. -/
import Derived.Test.YtkfakfbndnbpiaaWire3
namespace Go.Proofs.Ytkfakfbndnbpiaa
open Go.RowKit Go.Ev

theorem err_c (m : World) (M : List Nat) (b : Nat) (l : List UInt8) (e : Int) (h : RAt m M b l e) : FnR Try.prog 96 [.pointer (some ⟨b, 0, none⟩)] m fun v m' => v = .int .i64 e ∧ m' = m := by
  obtain ⟨v, hB, _⟩ := h
  refine FnE.enter ⟨_, Try.func96, by kernel_rfl, by kernel_rfl⟩ Try.func96 rfl rfl ?_
  repeat (first | with_reducible refine WP.seq ?_ | with_reducible refine WP.block ?_ | with_reducible refine WP.region ?_)
  refine RL.auto T_ok rfl ?_
  refine RL.nil ?_; repeat (first | with_reducible refine QN.block_normal ?_ | with_reducible refine QN.next ?_); repeat (first | with_reducible refine WP.seq ?_ | with_reducible refine WP.block ?_ | with_reducible refine WP.region ?_)
  refine RL.auto T_ok rfl ?_
  refine RL.load T_ok rfl rfl rfl (hB.cell 1 rfl) rfl ?_
  refine RL.auto T_ok rfl ?_
  refine RL.nil ?_; repeat (first | with_reducible refine QN.block_normal ?_ | with_reducible refine QN.next ?_); repeat (first | with_reducible refine WP.seq ?_ | with_reducible refine WP.block ?_ | with_reducible refine WP.region ?_)
  refine WP.ret ?_; repeat (first | with_reducible refine QN.then_ret ?_ | with_reducible refine QN.block_ret ?_)
  exact QN.ret1 rfl rfl ⟨_, rfl, rfl, rfl⟩
theorem left_c (m : World) (M : List Nat) (b : Nat) (l : List UInt8) (e : Int) (h : RAt m M b l e) : FnR Try.prog 94 [.pointer (some ⟨b, 0, none⟩)] m fun v m' => v = .int .i64 l.length ∧ m' = m := by
  obtain ⟨v, hB, hS⟩ := h
  obtain ⟨A, c, rfl, _, _⟩ := hS.shape
  refine FnE.enter ⟨_, Try.func94, by kernel_rfl, by kernel_rfl⟩ Try.func94 rfl rfl ?_
  repeat (first | with_reducible refine WP.seq ?_ | with_reducible refine WP.block ?_ | with_reducible refine WP.region ?_)
  refine RL.auto T_ok rfl ?_
  refine RL.nil ?_; repeat (first | with_reducible refine QN.block_normal ?_ | with_reducible refine QN.next ?_); repeat (first | with_reducible refine WP.seq ?_ | with_reducible refine WP.block ?_ | with_reducible refine WP.region ?_)
  refine RL.auto T_ok rfl ?_
  refine RL.load T_ok rfl rfl rfl (hB.cell 0 rfl) rfl ?_
  refine RL.auto T_ok rfl ?_
  refine RL.nil ?_; repeat (first | with_reducible refine QN.block_normal ?_ | with_reducible refine QN.next ?_); repeat (first | with_reducible refine WP.seq ?_ | with_reducible refine WP.block ?_ | with_reducible refine WP.region ?_)
  refine WP.ret ?_; repeat (first | with_reducible refine QN.then_ret ?_ | with_reducible refine QN.block_ret ?_)
  exact QN.ret1 rfl rfl ⟨_, rfl, rfl, rfl⟩
theorem newReader_c (m : World) (M : List Nat) (hM : ∀ k ∈ M, k < m.heap.size) (v : Value) (l : List UInt8) (h : Bs m M v l) (hl : l.length < 1000000000) :
    FnR Try.prog 93 [v] m fun r m' => ∃ b, r = .pointer (some ⟨b, 0, none⟩) ∧ m.heap.size ≤ b ∧ RAt m' (b :: M) b l 0 ∧ Ext m [] m' := by
  refine FnE.enter ⟨_, Try.func93, by kernel_rfl, by kernel_rfl⟩ Try.func93 rfl rfl ?_
  repeat (first | with_reducible refine WP.seq ?_ | with_reducible refine WP.block ?_ | with_reducible refine WP.region ?_)
  refine RL.auto T_ok rfl ?_
  refine RL.nil ?_; repeat (first | with_reducible refine QN.block_normal ?_ | with_reducible refine QN.next ?_); repeat (first | with_reducible refine WP.seq ?_ | with_reducible refine WP.block ?_ | with_reducible refine WP.region ?_)
  refine RL.auto T_ok rfl ?_
  refine RL.call (fi := []) (ca := []) rfl rfl rfl rfl (clone_bytes m M v l h hl) ?_
  rintro r m1 ⟨S', hO, hN⟩
  refine ⟨_, rfl, ?_⟩
  obtain ⟨A, c, rfl, _⟩ := hO.shape
  refine RL.auto T_ok rfl ?_
  refine RL.box rfl rfl (fun b m2 hb hC => ⟨_, rfl, ?_⟩)
  have hE2 := hC.new (by omega)
  refine RL.auto T_ok rfl ?_
  refine RL.nil ?_; repeat (first | with_reducible refine QN.block_normal ?_ | with_reducible refine QN.next ?_); repeat (first | with_reducible refine WP.seq ?_ | with_reducible refine WP.block ?_ | with_reducible refine WP.region ?_)
  refine WP.ret ?_; repeat (first | with_reducible refine QN.then_ret ?_ | with_reducible refine QN.block_ret ?_)
  have hge := hN.ge
  have hlt := hO.lt
  have hs := hN.1.size
  have hO2 := hO.ext hE2 (by simp)
  refine QN.ret1 rfl rfl ⟨_, rfl, b, rfl, by omega, ⟨_, hC.blk, hO2.sl ?_⟩, hN.1.trans hE2 (by simp)⟩
  intro k hk hk'
  have h1 := hge k hk
  have h2 := hlt k hk
  rcases List.mem_cons.1 hk' with h3 | h3
  · omega
  · have := hM k h3; omega
theorem bad_c (m : World) (M : List Nat) (b : Nat) (l : List UInt8) (e k : Int) (h : RAt m M b l e) (hbM : b ∈ M) :
    FnR Try.prog 133 [.pointer (some ⟨b, 0, none⟩), .int .i64 k] m fun v m' => v = .tuple #[] ∧ RAt m' M b l (if e = 0 then k else e) ∧ Ext m [b] m' := by
  obtain ⟨v, hB, hS⟩ := h
  refine FnE.enter ⟨_, Try.func133, by kernel_rfl, by kernel_rfl⟩ Try.func133 rfl rfl ?_
  repeat (first | with_reducible refine WP.seq ?_ | with_reducible refine WP.block ?_ | with_reducible refine WP.region ?_)
  refine RL.auto T_ok rfl ?_
  refine RL.load T_ok rfl rfl rfl (hB.cell 1 rfl) rfl ?_
  refine RL.auto T_ok rfl ?_
  refine RL.nil ?_; repeat (first | with_reducible refine QN.block_normal ?_ | with_reducible refine QN.next ?_); repeat (first | with_reducible refine WP.seq ?_ | with_reducible refine WP.block ?_ | with_reducible refine WP.region ?_)
  refine WP.cond rfl (fun hc => ?_) (fun hc => ?_)
  · have he : e = 0 := by simpa using hc
    subst he
    repeat (first | with_reducible refine WP.seq ?_ | with_reducible refine WP.block ?_ | with_reducible refine WP.region ?_)
    refine RL.auto T_ok rfl ?_
    refine RL.store T_ok hB (i := 1) (v := .int .i64 k) (by simp) rfl rfl rfl rfl rfl rfl ?_
    intro m1 hC
    refine RL.nil (QN.end0 rfl ⟨_, rfl, rfl, ⟨v, hC.blk, Sl.ext hS (hC.ext.mono (by simp [hbM])) (fun _ hk => .inl hk) (by omega)⟩, hC.ext⟩)
  · have he : ¬ e = 0 := by simpa using hc
    refine WP.skip (QN.end0 rfl ⟨_, rfl, rfl, ?_, Ext.refl _ _⟩)
    rw [if_neg he]; exact ⟨v, hB, hS⟩
/-- A reader that has failed: nothing is done. -/
theorem guard_off (m : World) (M : List Nat) (b : Nat) (l : List UInt8) (e : Int) (h : RAt m M b l e) (he : e ≠ 0) (f : Value) :
    FnR Try.prog 111 [.pointer (some ⟨b, 0, none⟩), f] m fun v m' => v = .bool false ∧ m' = m := by
  obtain ⟨v, hB, hS⟩ := h
  refine FnE.enter ⟨_, Try.func111, by kernel_rfl, by kernel_rfl⟩ Try.func111 rfl rfl ?_
  repeat (first | with_reducible refine WP.seq ?_ | with_reducible refine WP.block ?_ | with_reducible refine WP.region ?_)
  refine RL.auto T_ok rfl ?_
  refine RL.nil ?_; repeat (first | with_reducible refine QN.block_normal ?_ | with_reducible refine QN.next ?_); repeat (first | with_reducible refine WP.seq ?_ | with_reducible refine WP.block ?_ | with_reducible refine WP.region ?_)
  refine RL.auto T_ok rfl ?_
  refine RL.load T_ok rfl rfl rfl (hB.cell 1 rfl) rfl ?_
  refine RL.auto T_ok rfl ?_
  refine RL.nil ?_; repeat (first | with_reducible refine QN.block_normal ?_ | with_reducible refine QN.next ?_); repeat (first | with_reducible refine WP.seq ?_ | with_reducible refine WP.block ?_ | with_reducible refine WP.region ?_)
  refine WP.cond rfl (fun hc => ?_) (fun hc => absurd (by simpa using hc) he)
  repeat (first | with_reducible refine WP.seq ?_ | with_reducible refine WP.block ?_ | with_reducible refine WP.region ?_)
  refine RL.auto T_ok rfl ?_
  refine RL.nil ?_; repeat (first | with_reducible refine QN.block_normal ?_ | with_reducible refine QN.next ?_); repeat (first | with_reducible refine WP.seq ?_ | with_reducible refine WP.block ?_ | with_reducible refine WP.region ?_)
  refine WP.ret ?_; repeat (first | with_reducible refine QN.then_ret ?_ | with_reducible refine QN.block_ret ?_)
  exact QN.ret1 rfl rfl ⟨_, rfl, rfl, rfl⟩
/-- What a guarded function does, in a world with one more variable. -/
def GIn (m : World) (M : List Nat) (b : Nat) (N : List Nat) (good : List UInt8 → World → Prop) (bad : Int → World → Prop) (m1 : World) (ed : Ending) (m2 : World) : Prop :=
  Ext m1 (b :: N) m2 ∧ ((∃ l2, ed = .returned (.tuple #[]) ∧ RAt m2 (m.heap.size :: M) b l2 0 ∧ good l2 m2) ∨
    ∃ q l2, q ≠ 0 ∧ ed = .panicked (brk q) ∧ RAt m2 (m.heap.size :: M) b l2 0 ∧ bad q m2)
theorem guard_on (m : World) (M : List Nat) (b : Nat) (l : List UInt8) (h : RAt m M b l 0) (N : List Nat) (hN : ∀ k ∈ b :: N, k ∈ M ∧ k < m.heap.size) (k : FuncId) (fi ca al : List Value) (has : fi ++ ca = al)
    (good : List UInt8 → World → Prop) (bad : Int → World → Prop) (hst : ∀ m2 m3, Ext m2 [m.heap.size, b] m3 → (∀ l, good l m2 → good l m3) ∧ ∀ q, bad q m2 → bad q m3)
    (hf : ∀ m1, Ext m [] m1 → m1.heap.size = m.heap.size + 1 → RAt m1 (m.heap.size :: M) b l 0 → FnE Try.prog k al m1 (GIn m M b N good bad m1)) :
    FnR Try.prog 111 [.pointer (some ⟨b, 0, none⟩), .func (.func k) fi.toArray ca.toArray] m fun v m' => Ext m (b :: N) m' ∧
      ((∃ l2, v = .bool true ∧ RAt m' M b l2 0 ∧ good l2 m') ∨ ∃ q, q ≠ 0 ∧ v = .bool false ∧ RAt m' M b l q ∧ bad q m') := by
  have hbM : b ∈ M := (hN b (by simp)).1
  have h0 := h
  obtain ⟨v, hB, hS⟩ := h
  have hblt := hB.lt
  refine FnE.enter ⟨_, Try.func111, by kernel_rfl, by kernel_rfl⟩ Try.func111 rfl rfl ?_
  repeat (first | with_reducible refine WP.seq ?_ | with_reducible refine WP.block ?_ | with_reducible refine WP.region ?_)
  refine RL.auto T_ok rfl ?_
  refine RL.nil ?_; repeat (first | with_reducible refine QN.block_normal ?_ | with_reducible refine QN.next ?_); repeat (first | with_reducible refine WP.seq ?_ | with_reducible refine WP.block ?_ | with_reducible refine WP.region ?_)
  refine RL.auto T_ok rfl ?_
  refine RL.load T_ok rfl rfl rfl (hB.cell 1 rfl) rfl ?_
  refine RL.auto T_ok rfl ?_
  refine RL.nil ?_; repeat (first | with_reducible refine QN.block_normal ?_ | with_reducible refine QN.next ?_); repeat (first | with_reducible refine WP.seq ?_ | with_reducible refine WP.block ?_ | with_reducible refine WP.region ?_)
  refine WP.condF rfl ?_
  refine WP.skip ?_; repeat (first | with_reducible refine QN.block_normal ?_ | with_reducible refine QN.next ?_); repeat (first | with_reducible refine WP.seq ?_ | with_reducible refine WP.block ?_ | with_reducible refine WP.region ?_)
  refine RL.auto T_ok rfl ?_
  refine RL.load T_ok rfl rfl rfl (hB.cell 0 rfl) rfl ?_
  refine RL.auto T_ok rfl ?_
  refine RL.nil ?_; repeat (first | with_reducible refine QN.block_normal ?_ | with_reducible refine QN.next ?_); repeat (first | with_reducible refine WP.seq ?_ | with_reducible refine WP.block ?_ | with_reducible refine WP.region ?_)
  refine RL.auto T_ok rfl ?_
  refine RL.call (fi := []) (ca := []) rfl rfl rfl rfl (try_c m k fi ca al has (GIn m M b N good bad)
    (fun m1 h1 h2 => hf m1 h1 h2 (h0.ext h1 (by simp) (by simp) (fun k hk => by rcases List.mem_cons.1 hk with rfl | hk; exact .inr (Nat.le_refl _); exact .inl hk))) ?_ ?_ ?_) ?_
  · rintro m1 m2 ⟨_, ⟨_, h, _⟩ | ⟨_, _, _, h, _⟩⟩ <;> cases h
  · rintro m1 ch m2 ⟨_, ⟨_, h, _⟩ | ⟨q, _, _, h, _⟩⟩
    · cases h
    · injection h with h; exact ⟨q, h⟩
  · rintro m1 ed m2 ⟨hE, _⟩ _ _
    exact ⟨_, hE, fun hh => by have := (hN _ hh).2; omega⟩
  rintro tv m3 ⟨m1, m2, hE1, hs1, hE3, hcase⟩
  refine ⟨_, rfl, ?_⟩
  have big : ∀ {m1 : World}, Ext m [] m1 → Ext m1 (b :: N) m2 → Ext m (b :: N) m3 := fun h1 h2 =>
    ((h1.mono (M' := b :: N) (by simp)).trans h2 (fun k hk => .inl hk)).trans hE3 (fun k hk => .inr (by have h9 : k = m.heap.size := (by simpa using hk); omega))
  have carry : ∀ l2 q, RAt m2 (m.heap.size :: M) b l2 q → RAt m3 M b l2 q := fun l2 q hR => hR.ext hE3 (by simp; omega) (by simp) (fun k hk => .inl (by simp [hk]))
  have hst1 := hst m2 m3 (hE3.mono (by simp))
  rcases hcase with ⟨u, ⟨hE2, hin⟩, rfl⟩ | ⟨q, ⟨hE2, hin⟩, rfl⟩
  · rcases hin with ⟨l2, _, hR, hg⟩ | ⟨_, _, _, h, _⟩
    rotate_left
    · cases h
    refine RL.auto T_ok rfl ?_
    refine RL.nil ?_; repeat (first | with_reducible refine QN.block_normal ?_ | with_reducible refine QN.next ?_); repeat (first | with_reducible refine WP.seq ?_ | with_reducible refine WP.block ?_ | with_reducible refine WP.region ?_)
    refine RL.auto T_ok rfl ?_
    refine RL.nil ?_; repeat (first | with_reducible refine QN.block_normal ?_ | with_reducible refine QN.next ?_); repeat (first | with_reducible refine WP.seq ?_ | with_reducible refine WP.block ?_ | with_reducible refine WP.region ?_)
    refine WP.condF rfl ?_
    refine WP.skip ?_; repeat (first | with_reducible refine QN.block_normal ?_ | with_reducible refine QN.next ?_); repeat (first | with_reducible refine WP.seq ?_ | with_reducible refine WP.block ?_ | with_reducible refine WP.region ?_)
    refine RL.auto T_ok rfl ?_
    refine RL.nil ?_; repeat (first | with_reducible refine QN.block_normal ?_ | with_reducible refine QN.next ?_); repeat (first | with_reducible refine WP.seq ?_ | with_reducible refine WP.block ?_ | with_reducible refine WP.region ?_)
    refine WP.ret ?_; repeat (first | with_reducible refine QN.then_ret ?_ | with_reducible refine QN.block_ret ?_)
    exact QN.ret1 rfl rfl ⟨_, rfl, big hE1 hE2, .inl ⟨l2, rfl, carry l2 0 hR, hst1.1 l2 hg⟩⟩
  · rcases hin with ⟨_, h, _⟩ | ⟨q', l2, hq, h, hR, hb⟩
    · cases h
    injection h with h
    have hqq : q' = q := by
      simp only [brk, List.cons.injEq, PanicEntry.mk.injEq, Value.iface.injEq, Value.agg.injEq, and_true, true_and] at h
      simpa using h.symm
    subst hqq
    obtain ⟨v2, hB2, hS2⟩ := carry l2 0 hR
    have hE4 := big hE1 hE2
    have hS3 : Bs m3 M v l := Sl.ext hS (hE4.mono (fun k hk _ => (hN k hk).1)) (fun _ hk => .inl hk) (by omega)
    refine RL.auto T_ok rfl ?_
    refine RL.nil ?_; repeat (first | with_reducible refine QN.block_normal ?_ | with_reducible refine QN.next ?_); repeat (first | with_reducible refine WP.seq ?_ | with_reducible refine WP.block ?_ | with_reducible refine WP.region ?_)
    refine RL.pure T_ok 1 rfl ?_
    refine RL.pure T_ok 1 rfl ?_
    refine RL.eqv (v' := .bool true) (by simp [hq]) ?_
    refine RL.nil ?_; repeat (first | with_reducible refine QN.block_normal ?_ | with_reducible refine QN.next ?_); repeat (first | with_reducible refine WP.seq ?_ | with_reducible refine WP.block ?_ | with_reducible refine WP.region ?_)
    refine WP.condT rfl ?_
    repeat (first | with_reducible refine WP.seq ?_ | with_reducible refine WP.block ?_ | with_reducible refine WP.region ?_)
    refine RL.auto T_ok rfl ?_
    refine RL.store T_ok hB2 (i := 0) (v := v) (by simp) rfl rfl rfl rfl hS3.one rfl ?_
    intro m4 hC4
    have hR4 : RAt m4 M b l 0 := ⟨v, hC4.blk, Sl.ext hS3 (hC4.ext.mono (by simp [hbM])) (fun _ hk => .inl hk) (by omega)⟩
    refine RL.nil ?_; repeat (first | with_reducible refine QN.block_normal ?_ | with_reducible refine QN.next ?_); repeat (first | with_reducible refine WP.seq ?_ | with_reducible refine WP.block ?_ | with_reducible refine WP.region ?_)
    refine RL.auto T_ok rfl ?_
    refine RL.call (fi := []) (ca := []) rfl rfl rfl rfl (bad_c m4 M b l 0 q' hR4 hbM) ?_
    rintro _ m5 ⟨rfl, hR5, hE5⟩
    refine ⟨_, rfl, ?_⟩
    refine RL.nil ?_; repeat (first | with_reducible refine QN.block_normal ?_ | with_reducible refine QN.next ?_); repeat (first | with_reducible refine WP.seq ?_ | with_reducible refine WP.block ?_ | with_reducible refine WP.region ?_)
    refine RL.auto T_ok rfl ?_
    refine RL.nil ?_; repeat (first | with_reducible refine QN.block_normal ?_ | with_reducible refine QN.next ?_); repeat (first | with_reducible refine WP.seq ?_ | with_reducible refine WP.block ?_ | with_reducible refine WP.region ?_)
    refine WP.ret ?_; repeat (first | with_reducible refine QN.then_ret ?_ | with_reducible refine QN.block_ret ?_)
    have hE6 : Ext m3 [b] m5 := hC4.ext.trans hE5 (fun k hk => .inl hk)
    refine QN.ret1 rfl rfl ⟨_, rfl, hE4.trans hE6 (fun k hk => .inl (by simp at hk; simp [hk])), .inr ⟨q', hq, rfl, hR5, ?_⟩⟩
    exact (hst m2 m5 ((hE3.mono (by simp)).trans (M' := [b]) hE6 (by simp))).2 q' hb
end Go.Proofs.Ytkfakfbndnbpiaa
