/- The Writer of package wire: each call adds its bytes. The lengths stay below 2^30. -/
import Derived.Test.YtkfakfbndnbpiaaTypes
import Derived.Test.YtkfakfbndnbpiaaWireP
import Derived.Test.YtkfakfbndnbpiaaMake
namespace Go.Proofs.Ytkfakfbndnbpiaa
open Go.RowKit Go.Ev

/-- A Writer at block b, which wrote l; S: its blocks. -/
def WAt (m : World) (b : Nat) (S : List Nat) (l : List UInt8) : Prop :=
  ∃ v S1, Blk m b 72 [v] ∧ Own m S1 5 1 v l.length (u8s l) ∧ b ∉ S1 ∧ S = b :: S1
theorem WAt.ext {m m' : World} {b : Nat} {S M : List Nat} {l : List UInt8} (h : WAt m b S l) (hE : Ext m M m') (hM : ∀ k ∈ S, k ∉ M) : WAt m' b S l := by
  obtain ⟨v, S1, h1, h2, h3, rfl⟩ := h
  exact ⟨v, S1, h1.ext hE (hM b (by simp)), h2.ext hE (fun k hk => hM k (by simp [hk])), h3, rfl⟩
theorem WAt.lt {m : World} {b : Nat} {S : List Nat} {l : List UInt8} (h : WAt m b S l) : ∀ k ∈ S, k < m.heap.size := by
  obtain ⟨v, S1, h1, h2, h3, rfl⟩ := h
  intro k hk
  rcases List.mem_cons.1 hk with rfl | hk
  · exact h1.lt
  · exact h2.lt k hk
/-- What a call of a Writer leaves. -/
def WPost (m : World) (b : Nat) (S : List Nat) (l : List UInt8) (v : Value) (m' : World) : Prop :=
  v = .tuple #[] ∧ ∃ S', WAt m' b S' l ∧ Ext m S m' ∧ FpNew m S S'

/-- The row's append and the store behind it, seen from outside. -/
theorem W_step {m m1 m2 : World} {b : Nat} {v v1 : Value} {S1 S2 : List Nat} {l' : List UInt8} (hb : b ∉ S1) (hB : Blk m b 72 [v]) (hO : Own m1 S2 5 1 v1 l'.length (u8s l'))
    (hE : Ext m S1 m1) (hF : FpNew m S1 S2) (hC : Chg m1 b (.cells [v1].toArray 72 (0, 0)) m2) : ∃ S', WAt m2 b S' l' ∧ Ext m (b :: S1) m2 ∧ FpNew m (b :: S1) S' := by
  have hb2 : b ∉ S2 := hF.far hb hB.lt
  refine ⟨b :: S2, ⟨v1, S2, hC.blk, hO.ext hC.ext (fun k hk hk' => ?_), hb2, rfl⟩, ?_, ?_⟩
  · have : k = b := by simpa using hk'
    subst this; exact hb2 hk
  · exact (hE.mono (M' := b :: S1) (fun k hk _ => by simp [hk])).trans hC.ext (fun k hk => .inl (by simp at hk; simp [hk]))
  · exact (hF.more (fun k hk => by simp [hk])).cons b (.inl (by simp))

theorem wuint (m : World) (n : Nat) (hn : n < 18446744073709551616) (b : Nat) (S : List Nat) (l : List UInt8) (h : WAt m b S l) (hl : l.length < 1000000000) :
    FnR Try.prog 56 [.pointer (some ⟨b, 0, none⟩), .int .u64 n] m (WPost m b S (l ++ encU n)) := by
  refine FnE.enter ⟨_, Try.func56, by kernel_rfl, by kernel_rfl⟩ Try.func56 rfl rfl ?_
  refine WP.seq (WP.block (WP.loop (X := Nat × List UInt8) (fun x => [(0, .pointer (some ⟨b, 0, none⟩)), (1, .int .u64 x.1)])
    (fun x m' => x.1 < 18446744073709551616 ∧ x.2 ++ encU x.1 = l ++ encU n ∧ ∃ S', WAt m' b S' x.2 ∧ Ext m S m' ∧ FpNew m S S') (fun x => x.1) (n, l)
    (Sub.cons rfl (Sub.cons rfl Sub.nil)) ⟨hn, rfl, S, h, Ext.refl _ _, FpNew.refl _ _⟩ ?_))
  rintro ⟨k, pre⟩ m1 ⟨hk, hpre, S', hW, hE, hF⟩
  simp only at hk hpre hW
  have hlen : pre.length + (encU k).length = l.length + (encU n).length := by simpa using congrArg List.length hpre
  have h10 := encU_len10 hn
  repeat (first | with_reducible refine WP.seq ?_ | with_reducible refine WP.block ?_ | with_reducible refine WP.region ?_)
  refine RL.auto T_ok rfl ?_
  refine RL.nil ?_; repeat (first | with_reducible refine QN.block_normal ?_ | with_reducible refine QN.next ?_); repeat (first | with_reducible refine WP.seq ?_ | with_reducible refine WP.block ?_ | with_reducible refine WP.region ?_)
  obtain ⟨v, S1, hB, hO, hb, rfl⟩ := hW
  refine WP.cond rfl (fun hc => ?_) (fun hc => ?_)
  · have hc : 128 ≤ k := by have := of_decide_eq_true hc; omega
    refine WP.skip ?_; repeat (first | with_reducible refine QN.block_normal ?_ | with_reducible refine QN.next ?_); repeat (first | with_reducible refine WP.seq ?_ | with_reducible refine WP.block ?_ | with_reducible refine WP.region ?_)
    refine RL.auto T_ok rfl ?_
    refine RL.load T_ok rfl rfl rfl (hB.cell 0 rfl) rfl ?_
    refine RL.auto T_ok rfl ?_
    refine RL.append1 T_ok [.tmp 15] hO (u8s [UInt8.ofNat (k % 128 + 128)]) rfl rfl rfl rfl rfl rfl rfl rfl rfl (by simp [Value.cells]) ?_ (u8s_one _) (by unfold maxLen; omega) (by show (_ + 1) * 1 ≤ _; omega) ?_
    · simp [u8s, Value.cells, wrap_u8_nat]
      exact or128 k
    intro v1 m2 S2 hO1 hE1 hF1
    refine ⟨_, rfl, ?_⟩
    have hB1 := hB.ext hE1 hb
    refine RL.auto T_ok rfl ?_
    refine RL.store T_ok hB1 (i := 0) (v := v1) (by simp) rfl rfl rfl rfl hO1.one rfl ?_
    intro m3 hC
    obtain ⟨S3, hW3, hE3, hF3⟩ := W_step hb hB (l' := pre ++ [UInt8.ofNat (k % 128 + 128)]) (by rw [← u8s_append] at hO1; simpa using hO1) hE1 hF1 hC
    refine RL.nil ?_; repeat (first | with_reducible refine QN.block_normal ?_ | with_reducible refine QN.next ?_); repeat (first | with_reducible refine WP.seq ?_ | with_reducible refine WP.block ?_ | with_reducible refine WP.region ?_)
    refine RL.auto T_ok rfl ?_
    refine RL.nil (QN.round (k / 128, pre ++ [UInt8.ofNat (k % 128 + 128)]) ?_ ⟨?_, ?_, S3, hW3, hE.trans hE3 hF, hF.trans hF3 hE.size⟩ ?_)
    · refine Sub.cons rfl (Sub.cons ?_ Sub.nil)
      show some (Value.int .u64 ((k : Int).fdiv (2 ^ 7))) = some (Value.int .u64 ((k / 128 : Nat) : Int))
      rw [fdiv_pow k 7]
    · show k / 128 < _
      omega
    · show (pre ++ [_]) ++ encU (k / 128) = _
      rw [← hpre, encU_big hc]; simp
    · show k / 128 < k
      omega
  · have hc : k < 128 := by have := of_decide_eq_false hc; omega
    refine WP.exit ?_; repeat (first | with_reducible refine QN.then_exit ?_ | with_reducible refine QN.block_exit ?_ | with_reducible refine QN.block_far rfl ?_ | with_reducible refine QN.block_normal ?_ | with_reducible refine QN.next ?_); repeat (first | with_reducible refine WP.seq ?_ | with_reducible refine WP.block ?_ | with_reducible refine WP.region ?_)
    refine RL.auto T_ok rfl ?_
    refine RL.load T_ok rfl rfl rfl (hB.cell 0 rfl) rfl ?_
    refine RL.auto T_ok rfl ?_
    refine RL.append1 T_ok [.tmp 26] hO (u8s [UInt8.ofNat k]) rfl rfl rfl rfl rfl rfl rfl rfl rfl (by simp [Value.cells]) ?_ (u8s_one _) (by unfold maxLen; omega) (by show (_ + 1) * 1 ≤ _; omega) ?_
    · simp only [u8s, List.map_cons, List.map_nil, List.flatMap_cons, List.flatMap_nil, Value.cells, wrap_u8_nat]; rfl
    intro v1 m2 S2 hO1 hE1 hF1
    refine ⟨_, rfl, ?_⟩
    have hB1 := hB.ext hE1 hb
    refine RL.auto T_ok rfl ?_
    refine RL.store T_ok hB1 (i := 0) (v := v1) (by simp) rfl rfl rfl rfl hO1.one rfl ?_
    intro m3 hC
    obtain ⟨S3, hW3, hE3, hF3⟩ := W_step hb hB (l' := pre ++ [UInt8.ofNat k]) (by rw [← u8s_append] at hO1; simpa using hO1) hE1 hF1 hC
    refine RL.nil (QN.end0 rfl ⟨_, rfl, rfl, S3, ?_, hE.trans hE3 hF, hF.trans hF3 hE.size⟩)
    rw [← hpre, encU_small hc]
    exact hW3

theorem clone_bytes (m : World) (M : List Nat) (v : Value) (l : List UInt8) (h : Bs m M v l) (hl : l.length < 1000000000) :
    FnR Try.prog 66 [v] m fun r m' => ∃ S', Own m' S' 5 1 r l.length (u8s l) ∧ New m S' m' := by
  obtain ⟨A, c, rfl, hlc, _⟩ := h.shape
  refine FnE.enter ⟨_, Try.func66, by kernel_rfl, by kernel_rfl⟩ Try.func66 rfl rfl ?_
  repeat (first | with_reducible refine WP.seq ?_ | with_reducible refine WP.block ?_ | with_reducible refine WP.region ?_)
  refine RL.auto T_ok rfl ?_
  refine RL.nil ?_; repeat (first | with_reducible refine QN.block_normal ?_ | with_reducible refine QN.next ?_); repeat (first | with_reducible refine WP.seq ?_ | with_reducible refine WP.block ?_ | with_reducible refine WP.region ?_)
  refine RL.auto T_ok rfl ?_
  refine RL.nil ?_; repeat (first | with_reducible refine QN.block_normal ?_ | with_reducible refine QN.next ?_); repeat (first | with_reducible refine WP.seq ?_ | with_reducible refine WP.block ?_ | with_reducible refine WP.region ?_)
  refine WP.cond rfl (fun hc => ?_) (fun hc => ?_)
  · have hn : l = [] := by
      rcases Nat.eq_zero_or_pos l.length with h0 | h0
      · exact List.eq_nil_of_length_eq_zero h0
      · obtain ⟨ad, rfl, _⟩ := Sl.addr h h0; cases hc
    subst hn
    repeat (first | with_reducible refine WP.seq ?_ | with_reducible refine WP.block ?_ | with_reducible refine WP.region ?_)
    refine RL.auto T_ok rfl ?_
    refine RL.nil ?_; repeat (first | with_reducible refine QN.block_normal ?_ | with_reducible refine QN.next ?_); repeat (first | with_reducible refine WP.seq ?_ | with_reducible refine WP.block ?_ | with_reducible refine WP.region ?_)
    refine WP.ret ?_; repeat (first | with_reducible refine QN.then_ret ?_ | with_reducible refine QN.block_ret ?_)
    exact QN.ret1 rfl rfl ⟨_, rfl, [], Own.empty _ _ _ _, Ext.refl _ _, FpNew.nil _ _⟩
  · refine WP.skip ?_; repeat (first | with_reducible refine QN.block_normal ?_ | with_reducible refine QN.next ?_); repeat (first | with_reducible refine WP.seq ?_ | with_reducible refine WP.block ?_ | with_reducible refine WP.region ?_)
    refine RL.buildSlice0 T_ok rfl rfl (fun b m1 hb hE => ⟨_, rfl, ?_⟩)
    refine RL.auto T_ok rfl ?_
    have hS1 : Sl m1 [] 1 (.slice A l.length c) (u8s l) := Sl.ext h (hE.mono (M' := M) (by simp)) (by simp) (by omega)
    refine RL.append T_ok (Own.empty m1 _ _ _) _ (Src.of_sl hS1) rfl rfl rfl rfl rfl (by simp [u8s_length]) (u8s_one _) (by simp; unfold maxLen; omega) (by simp; omega) ?_
    intro v2 m2 S2 hO hE2 hF
    refine ⟨_, rfl, ?_⟩
    refine RL.auto T_ok rfl ?_
    refine RL.nil ?_; repeat (first | with_reducible refine QN.block_normal ?_ | with_reducible refine QN.next ?_); repeat (first | with_reducible refine WP.seq ?_ | with_reducible refine WP.block ?_ | with_reducible refine WP.region ?_)
    refine WP.ret ?_; repeat (first | with_reducible refine QN.then_ret ?_ | with_reducible refine QN.block_ret ?_)
    refine QN.ret1 rfl rfl ⟨_, rfl, S2, ?_, hE.trans hE2 (by simp), hF.trans' hE⟩
    simpa using hO
theorem wbytes (m : World) (b : Nat) (S : List Nat) (l : List UInt8) (h : WAt m b S l) (hl : l.length < 1000000000) :
    FnR Try.prog 59 [.pointer (some ⟨b, 0, none⟩)] m fun r m' => ∃ S', Own m' S' 5 1 r l.length (u8s l) ∧ New m S' m' := by
  obtain ⟨v, S1, hB, hO, hb, rfl⟩ := h
  refine FnE.enter ⟨_, Try.func59, by kernel_rfl, by kernel_rfl⟩ Try.func59 rfl rfl ?_
  repeat (first | with_reducible refine WP.seq ?_ | with_reducible refine WP.block ?_ | with_reducible refine WP.region ?_)
  refine RL.auto T_ok rfl ?_
  refine RL.nil ?_; repeat (first | with_reducible refine QN.block_normal ?_ | with_reducible refine QN.next ?_); repeat (first | with_reducible refine WP.seq ?_ | with_reducible refine WP.block ?_ | with_reducible refine WP.region ?_)
  refine RL.auto T_ok rfl ?_
  refine RL.load T_ok rfl rfl rfl (hB.cell 0 rfl) rfl ?_
  refine RL.call (fi := []) (ca := []) rfl rfl rfl rfl (clone_bytes m [] v l (hO.sl (by simp)) hl) ?_
  rintro r m1 ⟨S', hO1, hN⟩
  refine ⟨_, rfl, ?_⟩
  refine RL.auto T_ok rfl ?_
  refine RL.nil ?_; repeat (first | with_reducible refine QN.block_normal ?_ | with_reducible refine QN.next ?_); repeat (first | with_reducible refine WP.seq ?_ | with_reducible refine WP.block ?_ | with_reducible refine WP.region ?_)
  refine WP.ret ?_; repeat (first | with_reducible refine QN.then_ret ?_ | with_reducible refine QN.block_ret ?_)
  exact QN.ret1 rfl rfl ⟨_, rfl, S', hO1, hN⟩
end Go.Proofs.Ytkfakfbndnbpiaa
