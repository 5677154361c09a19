/- The reference's writers; a light script's size; bytes spoilt. -/
import Derived.Test.YtkfakfbndnbpiaaHelp
import Derived.Test.YtkfakfbndnbpiaaNumP
import Derived.Test.YtkfakfbndnbpiaaConv
namespace Go.Proofs.Ytkfakfbndnbpiaa
open Go.RowKit Go.Ev

/-- An owned row of bytes as it stands behind a call. -/
def OPost (m : World) (S : List Nat) (l : List UInt8) (v : Value) (m' : World) : Prop := ∃ S', Own m' S' 5 1 v l.length (u8s l) ∧ Ext m S m' ∧ FpNew m S S'
theorem OPost.next {m m1 m2 : World} {S S1 : List Nat} {l : List UInt8} {v : Value} (hE : Ext m S m1) (hF : FpNew m S S1) (h : OPost m1 S1 l v m2) : OPost m S l v m2 := by
  obtain ⟨S', h1, h2, h3⟩ := h
  exact ⟨S', h1, hE.trans h2 hF, hF.trans h3 hE.size⟩
theorem own_more {m m1 : World} {S S2 : List Nat} {v1 : Value} {l : List UInt8} {d : List UInt8} (hO : Own m1 S2 5 1 v1 (l.length + d.length) (u8s l ++ u8s d)) (hE : Ext m S m1) (hF : FpNew m S S2) : OPost m S (l ++ d) v1 m1 :=
  ⟨S2, by rw [← u8s_append] at hO; rw [List.length_append]; exact hO, hE, hF⟩
theorem refuint_c (m : World) (n : Nat) (hn : n < 18446744073709551616) (S : List Nat) (v : Value) (l : List UInt8) (h : Own m S 5 1 v l.length (u8s l)) (hl : l.length < 1000000000) :
    FnR Try.prog 60 [v, .int .u64 n] m (OPost m S (l ++ encU n)) := by
  refine FnE.enter ⟨_, Try.func60, by kernel_rfl, by kernel_rfl⟩ Try.func60 rfl rfl ?_
  repeat (first | with_reducible refine WP.seq ?_ | with_reducible refine WP.block ?_ | with_reducible refine WP.region ?_)
  refine RL.auto T_ok rfl ?_
  refine RL.nil ?_; repeat (first | with_reducible refine QN.block_normal ?_ | with_reducible refine QN.next ?_); repeat (first | with_reducible refine WP.seq ?_ | with_reducible refine WP.block ?_ | with_reducible refine WP.region ?_)
  refine WP.loop (X := Nat × List UInt8 × Value) (fun x => [(0, x.2.2), (1, .int .u64 x.1)])
    (fun x m' => x.1 < 18446744073709551616 ∧ x.2.1 ++ encU x.1 = l ++ encU n ∧ OPost m S x.2.1 x.2.2 m') (fun x => x.1) (n, l, v)
    (Sub.cons rfl (Sub.cons rfl Sub.nil)) ⟨hn, rfl, S, h, Ext.refl _ _, FpNew.refl _ _⟩ ?_
  rintro ⟨k, pre, u⟩ m1 ⟨hk, hpre, S', hO, hE, hF⟩
  simp only at hk hpre hO
  have hlen : pre.length + (encU k).length = l.length + (encU n).length := by simpa using congrArg List.length hpre
  have h10 := encU_len10 hn
  repeat (first | with_reducible refine WP.seq ?_ | with_reducible refine WP.block ?_ | with_reducible refine WP.region ?_)
  refine RL.auto T_ok rfl ?_
  refine RL.nil ?_; repeat (first | with_reducible refine QN.block_normal ?_ | with_reducible refine QN.next ?_); repeat (first | with_reducible refine WP.seq ?_ | with_reducible refine WP.block ?_ | with_reducible refine WP.region ?_)
  refine WP.cond rfl (fun hc => ?_) (fun hc => ?_)
  · have hc : 128 ≤ k := by have := of_decide_eq_true hc; omega
    refine WP.skip ?_; repeat (first | with_reducible refine QN.block_normal ?_ | with_reducible refine QN.next ?_); repeat (first | with_reducible refine WP.seq ?_ | with_reducible refine WP.block ?_ | with_reducible refine WP.region ?_)
    refine RL.auto T_ok rfl ?_
    refine RL.append1 T_ok [.tmp 10] hO (u8s [UInt8.ofNat (k % 128 + 128)]) rfl rfl rfl rfl rfl rfl rfl rfl rfl (by simp [Value.cells]) ?_ (u8s_one _) (by unfold maxLen; omega) (by show (_ + 1) * 1 ≤ _; omega) ?_
    · simp [u8s, Value.cells, wrap_u8_nat]
      exact or128 k
    intro v1 m2 S2 hO1 hE1 hF1
    refine ⟨_, rfl, ?_⟩
    refine RL.auto T_ok rfl ?_
    refine RL.nil ?_; repeat (first | with_reducible refine QN.block_normal ?_ | with_reducible refine QN.next ?_); repeat (first | with_reducible refine WP.seq ?_ | with_reducible refine WP.block ?_ | with_reducible refine WP.region ?_)
    refine RL.auto T_ok rfl ?_
    refine RL.nil (QN.block_normal (QN.round (k / 128, pre ++ [UInt8.ofNat (k % 128 + 128)], v1) ?_ ⟨?_, ?_, OPost.next hE hF (own_more (d := [UInt8.ofNat (k % 128 + 128)]) hO1 hE1 hF1)⟩ ?_))
    · refine Sub.cons rfl (Sub.cons ?_ Sub.nil)
      show some (Value.int .u64 ((k : Int).fdiv (2 ^ 7))) = some (Value.int .u64 ((k / 128 : Nat) : Int))
      rw [fdiv_pow k 7]
    · show k / 128 < _
      omega
    · show (pre ++ [_]) ++ encU (k / 128) = _
      rw [← hpre, encU_big hc]; simp
    · show k / 128 < k
      omega
  · have hc : k < 128 := by have := of_decide_eq_false hc; omega
    refine WP.exit ?_; repeat (first | with_reducible refine QN.then_exit ?_ | with_reducible refine QN.block_exit ?_ | with_reducible refine QN.block_far rfl ?_ | with_reducible refine QN.block_normal ?_ | with_reducible refine QN.next ?_); repeat (first | with_reducible refine WP.seq ?_ | with_reducible refine WP.block ?_ | with_reducible refine WP.region ?_)
    refine RL.auto T_ok rfl ?_
    refine RL.append1 T_ok [.tmp 17] hO (u8s [UInt8.ofNat k]) rfl rfl rfl rfl rfl rfl rfl rfl rfl (by simp [Value.cells]) ?_ (u8s_one _) (by unfold maxLen; omega) (by show (_ + 1) * 1 ≤ _; omega) ?_
    · simp only [u8s, List.map_cons, List.map_nil, List.flatMap_cons, List.flatMap_nil, Value.cells, wrap_u8_nat]; rfl
    intro v1 m2 S2 hO1 hE1 hF1
    refine ⟨_, rfl, ?_⟩
    refine RL.auto T_ok rfl ?_
    refine RL.nil ?_; repeat (first | with_reducible refine QN.block_normal ?_ | with_reducible refine QN.next ?_); repeat (first | with_reducible refine WP.seq ?_ | with_reducible refine WP.block ?_ | with_reducible refine WP.region ?_)
    refine WP.ret ?_; repeat (first | with_reducible refine QN.then_ret ?_ | with_reducible refine QN.block_ret ?_)
    refine QN.ret1 rfl rfl ⟨_, rfl, ?_⟩
    rw [← hpre, encU_small hc]
    exact OPost.next hE hF (own_more (d := [UInt8.ofNat k]) hO1 hE1 hF1)
end Go.Proofs.Ytkfakfbndnbpiaa
