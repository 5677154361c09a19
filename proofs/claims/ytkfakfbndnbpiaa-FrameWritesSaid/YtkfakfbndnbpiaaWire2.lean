/- Fail and Try of package wire: a failure ends the innermost Try. A function that is tried keeps the variable that Try made. -/
import Derived.Test.YtkfakfbndnbpiaaWire1
namespace Go.Proofs.Ytkfakfbndnbpiaa
open Go.RowKit Go.Ev

/-- A failure on its way. -/
def brk (e : Int) : List PanicEntry := [{ v := .iface 162 (.agg #[.int .i64 e]), recovered := false }]
theorem fail_c (m : World) (e : Int) : FnE Try.prog 135 [.int .i64 e] m fun ed m' => m' = m ∧ ed = .panicked (brk (if e = 0 then 11 else e)) := by
  refine FnE.enter ⟨_, Try.func135, by kernel_rfl, by kernel_rfl⟩ Try.func135 rfl rfl ?_
  repeat (first | with_reducible refine WP.seq ?_ | with_reducible refine WP.block ?_ | with_reducible refine WP.region ?_)
  refine RL.auto T_ok rfl ?_
  refine RL.nil ?_; repeat (first | with_reducible refine QN.block_normal ?_ | with_reducible refine QN.next ?_); repeat (first | with_reducible refine WP.seq ?_ | with_reducible refine WP.block ?_ | with_reducible refine WP.region ?_)
  refine WP.cond rfl (fun hc => ?_) (fun hc => ?_)
  · have he : e = 0 := by simpa using hc
    subst he
    repeat (first | with_reducible refine WP.seq ?_ | with_reducible refine WP.block ?_ | with_reducible refine WP.region ?_)
    refine RL.auto T_ok rfl ?_
    refine RL.nil ?_; repeat (first | with_reducible refine QN.block_normal ?_ | with_reducible refine QN.next ?_); repeat (first | with_reducible refine WP.seq ?_ | with_reducible refine WP.block ?_ | with_reducible refine WP.region ?_)
    refine RL.auto T_ok rfl ?_
    exact RL.panic rfl rfl rfl (QN.panic ⟨rfl, rfl⟩)
  · have he : ¬ e = 0 := by simpa using hc
    refine WP.skip ?_; repeat (first | with_reducible refine QN.block_normal ?_ | with_reducible refine QN.next ?_); repeat (first | with_reducible refine WP.seq ?_ | with_reducible refine WP.block ?_ | with_reducible refine WP.region ?_)
    refine RL.auto T_ok rfl ?_
    refine RL.panic rfl rfl rfl (QN.panic ⟨rfl, ?_⟩)
    rw [if_neg he]; rfl
/-- What Try does behind a function. -/
theorem try1_ret (m : World) (b : Nat) : DfE Try.prog 144 [.pointer (some ⟨b, 0, none⟩)] .returning m fun ed u' m' => ed = .returned (.tuple #[]) ∧ u' = .returning ∧ m' = m := by
  refine DfE.enter ⟨_, Try.func144, by kernel_rfl, by kernel_rfl⟩ Try.func144 rfl rfl rfl ?_
  repeat (first | with_reducible refine WP.seq ?_ | with_reducible refine WP.block ?_ | with_reducible refine WP.region ?_)
  refine RL.auto T_ok rfl ?_
  refine RL.nil ?_; repeat (first | with_reducible refine QN.block_normal ?_ | with_reducible refine QN.next ?_); repeat (first | with_reducible refine WP.seq ?_ | with_reducible refine WP.block ?_ | with_reducible refine WP.region ?_)
  refine WP.condT rfl ?_
  repeat (first | with_reducible refine WP.seq ?_ | with_reducible refine WP.block ?_ | with_reducible refine WP.region ?_)
  refine RL.auto T_ok rfl ?_
  refine RL.nil (QN.block_normal ?_)
  exact QN.end0 rfl ⟨rfl, rfl, rfl⟩
theorem try1_pan (m : World) (b : Nat) (e x : Int) (hB : Blk m b 25 [.int .i64 x]) :
    DfE Try.prog 144 [.pointer (some ⟨b, 0, none⟩)] (.panicking (brk e)) m fun ed u' m' => ed = .returned (.tuple #[]) ∧ settle u' = .returning ∧ Blk m' b 25 [.int .i64 e] ∧ Ext m [b] m' := by
  refine DfE.enter ⟨_, Try.func144, by kernel_rfl, by kernel_rfl⟩ Try.func144 rfl rfl rfl ?_
  repeat (first | with_reducible refine WP.seq ?_ | with_reducible refine WP.block ?_ | with_reducible refine WP.region ?_)
  refine RL.auto T_ok rfl ?_
  refine RL.nil ?_; repeat (first | with_reducible refine QN.block_normal ?_ | with_reducible refine QN.next ?_); repeat (first | with_reducible refine WP.seq ?_ | with_reducible refine WP.block ?_ | with_reducible refine WP.region ?_)
  refine WP.condF rfl ?_
  repeat (first | with_reducible refine WP.seq ?_ | with_reducible refine WP.block ?_ | with_reducible refine WP.region ?_)
  refine RL.auto T_ok rfl ?_
  refine RL.nil ?_; repeat (first | with_reducible refine QN.block_normal ?_ | with_reducible refine QN.next ?_); repeat (first | with_reducible refine WP.seq ?_ | with_reducible refine WP.block ?_ | with_reducible refine WP.region ?_)
  refine WP.condT rfl ?_
  repeat (first | with_reducible refine WP.seq ?_ | with_reducible refine WP.block ?_ | with_reducible refine WP.region ?_)
  refine RL.alloc T_ok rfl rfl (fun b1 m1 hb1 hC1 => ⟨_, rfl, ?_⟩)
  have hne : b ≠ b1 := by have := hB.lt; omega
  have hB1 := hB.far hC1 hne
  refine RL.storeAgg T_ok (b := b1) (i := 0) (vs := [.int .i64 e]) (cs := [.int .i64 0]) hC1.blk rfl rfl rfl rfl rfl (by simp) (by simp [Value.oneCell']) rfl ?_
  intro m2 hC2
  have hB2 := hB1.far hC2 hne
  refine RL.nil ?_; repeat (first | with_reducible refine QN.block_normal ?_ | with_reducible refine QN.next ?_); repeat (first | with_reducible refine WP.seq ?_ | with_reducible refine WP.block ?_ | with_reducible refine WP.region ?_)
  refine RL.auto T_ok rfl ?_
  refine RL.load T_ok rfl rfl rfl (hC2.blk.cell 0 rfl) rfl ?_
  refine RL.store T_ok hB2 (i := 0) (v := .int .i64 e) (by simp) rfl rfl rfl rfl rfl rfl ?_
  intro m3 hC3
  refine RL.nil (QN.block_normal ?_)
  have hE := (hC1.new (by omega)).trans hC2.ext (fun k hk => .inr (by have h9 : k = b1 := (by simpa using hk); omega))
  refine QN.end0 rfl ⟨rfl, rfl, hC3.blk, ?_⟩
  exact (hE.mono (M' := [b]) (by simp)).trans hC3.ext (fun k hk => .inl hk)
/-- Try: the function is called in a world with one more variable; behind it the answer is 0, or the failure's number. -/
theorem try_c (m : World) (k : FuncId) (fi ca al : List Value) (has : fi ++ ca = al) (R : World → Ending → World → Prop)
    (hf : ∀ m1, Ext m [] m1 → m1.heap.size = m.heap.size + 1 → FnE Try.prog k al m1 (R m1)) (hout : ∀ m1 m2, ¬ R m1 .outgrown m2) (hpan : ∀ m1 ch m2, R m1 (.panicked ch) m2 → ∃ e, ch = brk e)
    (hkeep : ∀ m1 ed m2, R m1 ed m2 → Ext m [] m1 → m1.heap.size = m.heap.size + 1 → ∃ N, Ext m1 N m2 ∧ m.heap.size ∉ N) :
    FnR Try.prog 132 [.func (.func k) fi.toArray ca.toArray] m fun v m' => ∃ m1 m2, Ext m [] m1 ∧ m1.heap.size = m.heap.size + 1 ∧ Ext m2 [m.heap.size] m' ∧
      ((∃ u, R m1 (.returned u) m2 ∧ v = .int .i64 0) ∨ ∃ e, R m1 (.panicked (brk e)) m2 ∧ v = .int .i64 e) := by
  refine FnE.enterD ⟨_, Try.func132, by kernel_rfl, by kernel_rfl⟩ Try.func132 rfl rfl ?_
  repeat (first | with_reducible refine WP.seq ?_ | with_reducible refine WP.block ?_ | with_reducible refine WP.region ?_)
  refine RL.alloc T_ok rfl rfl (fun b m1 hb hC1 => ⟨_, rfl, ?_⟩)
  subst hb
  have hE1 := hC1.new (Nat.le_refl _)
  have hs1 : m1.heap.size = m.heap.size + 1 := by rw [hC1.size]; omega
  have hB1 : Blk m1 m.heap.size 25 [.int .i64 0] := hC1.here
  refine RL.nil ?_; repeat (first | with_reducible refine QN.block_normal ?_ | with_reducible refine QN.next ?_); repeat (first | with_reducible refine WP.seq ?_ | with_reducible refine WP.block ?_ | with_reducible refine WP.region ?_)
  refine RL.auto T_ok rfl ?_
  refine RL.defer rfl rfl rfl ?_
  refine RL.nil ?_; repeat (first | with_reducible refine QN.block_normal ?_ | with_reducible refine QN.next ?_); repeat (first | with_reducible refine WP.seq ?_ | with_reducible refine WP.block ?_ | with_reducible refine WP.region ?_)
  refine RL.auto T_ok rfl ?_
  refine RL.callE rfl rfl rfl (by simpa using has) (hf m1 hE1 hs1) ?_ ?_ (hout m1)
  · intro u m2 hR
    obtain ⟨N, hE2, hN⟩ := hkeep m1 _ m2 hR hE1 hs1
    have hB2 := hB1.ext hE2 hN
    refine ⟨_, rfl, ?_⟩
    refine RL.nil ?_; repeat (first | with_reducible refine QN.block_normal ?_ | with_reducible refine QN.next ?_); repeat (first | with_reducible refine WP.seq ?_ | with_reducible refine WP.block ?_ | with_reducible refine WP.region ?_)
    refine RL.store T_ok hB2 (i := 0) (v := .int .i64 0) (by simp) rfl rfl rfl rfl rfl rfl ?_
    intro m3 hC3
    refine RL.nil ?_; repeat (first | with_reducible refine QN.block_normal ?_ | with_reducible refine QN.next ?_); repeat (first | with_reducible refine WP.seq ?_ | with_reducible refine WP.block ?_ | with_reducible refine WP.region ?_)
    refine WP.ret ?_; repeat (first | with_reducible refine QN.then_ret ?_ | with_reducible refine QN.block_ret ?_)
    refine QN.leave (fi := []) (ca := [.pointer (some ⟨m.heap.size, 0, none⟩)]) (.inl ⟨rfl, rfl⟩) rfl (try1_ret m3 m.heap.size) ?_ ?_ ?_
    · rintro v u' m4 ⟨_, rfl, rfl⟩
      refine .inl ⟨rfl, .int .i64 0, Res.cell T_ok rfl rfl rfl (hC3.blk.cell 0 rfl), _, rfl, m1, m2, hE1, hs1, hC3.ext, .inl ⟨u, hR, rfl⟩⟩
    · rintro ch u' m4 ⟨h, _⟩; cases h
    · rintro u' m4 ⟨h, _⟩; cases h
  · intro ch m2 hR
    obtain ⟨e, rfl⟩ := hpan m1 ch m2 hR
    obtain ⟨N, hE2, hN⟩ := hkeep m1 _ m2 hR hE1 hs1
    have hB2 := hB1.ext hE2 hN
    refine QN.then_panic (QN.leave (fi := []) (ca := [.pointer (some ⟨m.heap.size, 0, none⟩)]) (.inr (.inr ⟨_, rfl, rfl⟩)) rfl (try1_pan m2 m.heap.size e 0 hB2) ?_ ?_ ?_)
    · rintro v u' m4 ⟨_, hu, hB4, hE4⟩
      refine .inl ⟨hu, .int .i64 e, Res.cell T_ok rfl rfl rfl (hB4.cell 0 rfl), _, rfl, m1, m2, hE1, hs1, hE4, .inr ⟨e, hR, rfl⟩⟩
    · rintro ch u' m4 ⟨h, _⟩; cases h
    · rintro u' m4 ⟨h, _⟩; cases h
end Go.Proofs.Ytkfakfbndnbpiaa
