/- The reference's writers; a light script's size; bytes spoilt. -/
import Derived.Test.YtaogoblckkmkgaaWire9
import Derived.Test.YtaogoblckkmkgaaConv
namespace Go.Proofs.Ytaogoblckkmkgaa
open Go.RowKit Go.Ev

/-- An owned row of bytes as it stands behind a call. -/
def OPost (m : World) (S : List Nat) (l : List UInt8) (v : Value) (m' : World) : Prop := ∃ S', Own m' S' 5 1 v l.length (u8s l) ∧ Ext m S m' ∧ FpNew m S S'
theorem OPost.next {m m1 m2 : World} {S S1 : List Nat} {l : List UInt8} {v : Value} (hE : Ext m S m1) (hF : FpNew m S S1) (h : OPost m1 S1 l v m2) : OPost m S l v m2 := by
  obtain ⟨S', h1, h2, h3⟩ := h
  exact ⟨S', h1, hE.trans h2 hF, hF.trans h3 hE.size⟩
theorem own_more {m m1 : World} {S S2 : List Nat} {v1 : Value} {l : List UInt8} {d : List UInt8} (hO : Own m1 S2 5 1 v1 (l.length + d.length) (u8s l ++ u8s d)) (hE : Ext m S m1) (hF : FpNew m S S2) : OPost m S (l ++ d) v1 m1 :=
  ⟨S2, by rw [← u8s_append] at hO; rw [List.length_append]; exact hO, hE, hF⟩
theorem refuint_c (m : World) (n : Nat) (hn : n < 18446744073709551616) (S : List Nat) (v : Value) (l : List UInt8) (h : Own m S 5 1 v l.length (u8s l)) (hl : l.length < 1000000000) :
    FnR Try.prog 45 [v, .int .u64 n] m (OPost m S (l ++ encU n)) := by
  refine FnE.enter ⟨_, Try.func45, by kernel_rfl, by kernel_rfl⟩ Try.func45 rfl rfl ?_
  repeat (first | with_reducible refine WP.seq ?_ | with_reducible refine WP.block ?_ | with_reducible refine WP.region ?_)
  refine RL.auto T_ok rfl ?_
  refine RL.nil ?_; repeat (first | with_reducible refine QN.block_normal ?_ | with_reducible refine QN.next ?_); repeat (first | with_reducible refine WP.seq ?_ | with_reducible refine WP.block ?_ | with_reducible refine WP.region ?_)
  refine WP.loop (X := Nat × List UInt8 × Value) (fun x => [(0, x.2.2), (1, .int .u64 x.1)])
    (fun x m' => x.1 < 18446744073709551616 ∧ x.2.1 ++ encU x.1 = l ++ encU n ∧ OPost m S x.2.1 x.2.2 m') (fun x => x.1) (n, l, v)
    (Sub.cons rfl (Sub.cons rfl Sub.nil)) ⟨hn, rfl, S, h, Ext.refl _ _, FpNew.refl _ _⟩ ?_
  rintro ⟨k, pre, u⟩ m1 ⟨hk, hpre, S', hO, hE, hF⟩
  simp only at hk hpre hO
  have hlen : pre.length + (encU k).length = l.length + (encU n).length := by simpa using congrArg List.length hpre
  have h10 := encU_len10 hn
  repeat (first | with_reducible refine WP.seq ?_ | with_reducible refine WP.block ?_ | with_reducible refine WP.region ?_)
  refine RL.auto T_ok rfl ?_
  refine RL.nil ?_; repeat (first | with_reducible refine QN.block_normal ?_ | with_reducible refine QN.next ?_); repeat (first | with_reducible refine WP.seq ?_ | with_reducible refine WP.block ?_ | with_reducible refine WP.region ?_)
  refine WP.cond rfl (fun hc => ?_) (fun hc => ?_)
  · have hc : 128 ≤ k := by have := of_decide_eq_true hc; omega
    refine WP.skip ?_; repeat (first | with_reducible refine QN.block_normal ?_ | with_reducible refine QN.next ?_); repeat (first | with_reducible refine WP.seq ?_ | with_reducible refine WP.block ?_ | with_reducible refine WP.region ?_)
    refine RL.auto T_ok rfl ?_
    refine RL.append1 T_ok [.tmp 10] hO (u8s [UInt8.ofNat (k % 128 + 128)]) rfl rfl rfl rfl rfl rfl rfl rfl rfl (by simp [Value.cells]) ?_ (u8s_one _) (by unfold maxLen; omega) (by show (_ + 1) * 1 ≤ _; omega) ?_
    · simp [u8s, Value.cells, wrap_u8_nat]
      exact or128 k
    intro v1 m2 S2 hO1 hE1 hF1
    refine ⟨_, rfl, ?_⟩
    refine RL.auto T_ok rfl ?_
    refine RL.nil ?_; repeat (first | with_reducible refine QN.block_normal ?_ | with_reducible refine QN.next ?_); repeat (first | with_reducible refine WP.seq ?_ | with_reducible refine WP.block ?_ | with_reducible refine WP.region ?_)
    refine RL.auto T_ok rfl ?_
    refine RL.nil (QN.block_normal (QN.round (k / 128, pre ++ [UInt8.ofNat (k % 128 + 128)], v1) ?_ ⟨?_, ?_, OPost.next hE hF (own_more (d := [UInt8.ofNat (k % 128 + 128)]) hO1 hE1 hF1)⟩ ?_))
    · refine Sub.cons rfl (Sub.cons ?_ Sub.nil)
      show some (Value.int .u64 ((k : Int).fdiv (2 ^ 7))) = some (Value.int .u64 ((k / 128 : Nat) : Int))
      rw [fdiv_pow k 7]
    · show k / 128 < _
      omega
    · show (pre ++ [_]) ++ encU (k / 128) = _
      rw [← hpre, encU_big hc]; simp
    · show k / 128 < k
      omega
  · have hc : k < 128 := by have := of_decide_eq_false hc; omega
    refine WP.exit ?_; repeat (first | with_reducible refine QN.then_exit ?_ | with_reducible refine QN.block_exit ?_ | with_reducible refine QN.block_far rfl ?_ | with_reducible refine QN.block_normal ?_ | with_reducible refine QN.next ?_); repeat (first | with_reducible refine WP.seq ?_ | with_reducible refine WP.block ?_ | with_reducible refine WP.region ?_)
    refine RL.auto T_ok rfl ?_
    refine RL.append1 T_ok [.tmp 17] hO (u8s [UInt8.ofNat k]) rfl rfl rfl rfl rfl rfl rfl rfl rfl (by simp [Value.cells]) ?_ (u8s_one _) (by unfold maxLen; omega) (by show (_ + 1) * 1 ≤ _; omega) ?_
    · simp only [u8s, List.map_cons, List.map_nil, List.flatMap_cons, List.flatMap_nil, Value.cells, wrap_u8_nat]; rfl
    intro v1 m2 S2 hO1 hE1 hF1
    refine ⟨_, rfl, ?_⟩
    refine RL.auto T_ok rfl ?_
    refine RL.nil ?_; repeat (first | with_reducible refine QN.block_normal ?_ | with_reducible refine QN.next ?_); repeat (first | with_reducible refine WP.seq ?_ | with_reducible refine WP.block ?_ | with_reducible refine WP.region ?_)
    refine WP.ret ?_; repeat (first | with_reducible refine QN.then_ret ?_ | with_reducible refine QN.block_ret ?_)
    refine QN.ret1 rfl rfl ⟨_, rfl, ?_⟩
    rw [← hpre, encU_small hc]
    exact OPost.next hE hF (own_more (d := [UInt8.ofNat k]) hO1 hE1 hF1)
theorem refint_c (m : World) (n : Int) (h1 : -9223372036854775808 ≤ n) (h2 : n ≤ 9223372036854775807) (S : List Nat) (v : Value) (l : List UInt8) (h : Own m S 5 1 v l.length (u8s l)) (hl : l.length < 1000000000) :
    FnR Try.prog 46 [v, .int .i64 n] m (OPost m S (l ++ encU (zig n))) := by
  have hz := zig_lt n h1 h2
  refine FnE.enter ⟨_, Try.func46, by kernel_rfl, by kernel_rfl⟩ Try.func46 rfl rfl ?_
  repeat (first | with_reducible refine WP.seq ?_ | with_reducible refine WP.block ?_ | with_reducible refine WP.region ?_)
  refine RL.auto T_ok rfl ?_
  refine RL.nil ?_; repeat (first | with_reducible refine QN.block_normal ?_ | with_reducible refine QN.next ?_); repeat (first | with_reducible refine WP.seq ?_ | with_reducible refine WP.block ?_ | with_reducible refine WP.region ?_)
  refine RL.auto T_ok rfl ?_
  refine RL.nil ?_; repeat (first | with_reducible refine QN.block_normal ?_ | with_reducible refine QN.next ?_); repeat (first | with_reducible refine WP.seq ?_ | with_reducible refine WP.block ?_ | with_reducible refine WP.region ?_)
  refine WP.cond rfl (fun hc => ?_) (fun hc => ?_)
  · have hc : n < 0 := of_decide_eq_true hc
    repeat (first | with_reducible refine WP.seq ?_ | with_reducible refine WP.block ?_ | with_reducible refine WP.region ?_)
    refine RL.pure T_ok 7 rfl ?_
    refine RL.eqv (v' := .int .u64 ((zig n : Nat) : Int)) (congrArg _ ?_) ?_
    · show IntKind.u64.wrap (IntKind.u64.wrap (IntKind.u64.wrap (IntKind.i64.wrap (0 - IntKind.i64.wrap (n + 1))) * 2) + 1) = _
      rw [wrap_i64_in (n + 1) (by omega) (by omega), wrap_i64_in (0 - (n + 1)) (by omega) (by omega), wrap_u64_in (0 - (n + 1)) (by omega) (by omega), wrap_u64_in ((0 - (n + 1)) * 2) (by omega) (by omega), wrap_u64_in _ (by omega) (by omega)]
      unfold zig; rw [if_neg (by omega)]; omega
    refine RL.call (fi := []) (ca := []) rfl rfl rfl rfl (refuint_c m (zig n) hz S v l h hl) ?_
    rintro r m1 hP
    refine ⟨_, rfl, ?_⟩
    obtain ⟨S', hO, _, _⟩ := hP
    refine RL.auto T_ok rfl ?_
    refine RL.nil ?_; repeat (first | with_reducible refine QN.block_normal ?_ | with_reducible refine QN.next ?_); repeat (first | with_reducible refine WP.seq ?_ | with_reducible refine WP.block ?_ | with_reducible refine WP.region ?_)
    refine WP.ret ?_; repeat (first | with_reducible refine QN.then_ret ?_ | with_reducible refine QN.block_ret ?_)
    exact QN.ret1 rfl rfl ⟨_, rfl, S', hO, by assumption, by assumption⟩
  · have hc : 0 ≤ n := by have := of_decide_eq_false hc; omega
    refine WP.skip ?_; repeat (first | with_reducible refine QN.block_normal ?_ | with_reducible refine QN.next ?_); repeat (first | with_reducible refine WP.seq ?_ | with_reducible refine WP.block ?_ | with_reducible refine WP.region ?_)
    refine RL.pure T_ok 4 rfl ?_
    refine RL.eqv (v' := .int .u64 ((zig n : Nat) : Int)) (congrArg _ ?_) ?_
    · show IntKind.u64.wrap (IntKind.u64.wrap n * 2) = _
      rw [wrap_u64_in n (by omega) (by omega), wrap_u64_in _ (by omega) (by omega)]
      unfold zig; rw [if_pos hc]; omega
    refine RL.call (fi := []) (ca := []) rfl rfl rfl rfl (refuint_c m (zig n) hz S v l h hl) ?_
    rintro r m1 hP
    refine ⟨_, rfl, ?_⟩
    refine RL.auto T_ok rfl ?_
    refine RL.nil ?_; repeat (first | with_reducible refine QN.block_normal ?_ | with_reducible refine QN.next ?_); repeat (first | with_reducible refine WP.seq ?_ | with_reducible refine WP.block ?_ | with_reducible refine WP.region ?_)
    refine WP.ret ?_; repeat (first | with_reducible refine QN.then_ret ?_ | with_reducible refine QN.block_ret ?_)
    exact QN.ret1 rfl rfl ⟨_, rfl, hP⟩
theorem reffixed_c (m : World) (n : Nat) (S : List Nat) (v : Value) (l : List UInt8) (h : Own m S 5 1 v l.length (u8s l)) (hl : l.length < 1000000000) :
    FnR Try.prog 49 [v, .int .u64 n] m (OPost m S (l ++ enc8 n 8)) := by
  have h8 := enc8_len n
  refine FnE.enter ⟨_, Try.func49, by kernel_rfl, by kernel_rfl⟩ Try.func49 rfl rfl ?_
  repeat (first | with_reducible refine WP.seq ?_ | with_reducible refine WP.block ?_ | with_reducible refine WP.region ?_)
  refine RL.auto T_ok rfl ?_
  refine RL.nil ?_; repeat (first | with_reducible refine QN.block_normal ?_ | with_reducible refine QN.next ?_); repeat (first | with_reducible refine WP.seq ?_ | with_reducible refine WP.block ?_ | with_reducible refine WP.region ?_)
  refine RL.auto T_ok rfl ?_
  refine RL.nil ?_; repeat (first | with_reducible refine QN.block_normal ?_ | with_reducible refine QN.next ?_); repeat (first | with_reducible refine WP.seq ?_ | with_reducible refine WP.block ?_ | with_reducible refine WP.region ?_)
  refine WP.loop (X := Nat × List UInt8 × Value) (fun x => [(0, x.2.2), (1, .int .u64 n), (5, .int .i64 ((x.1 : Int) - 1))])
    (fun x m' => x.1 ≤ 8 ∧ x.2.1 ++ enc8 n x.1 = l ++ enc8 n 8 ∧ OPost m S x.2.1 x.2.2 m') (fun x => x.1) (8, l, v)
    (Sub.cons rfl (Sub.cons rfl (Sub.cons rfl Sub.nil))) ⟨by simp, rfl, S, h, Ext.refl _ _, FpNew.refl _ _⟩ ?_
  rintro ⟨k, pre, u⟩ m1 ⟨hk, hpre, S', hO, hE, hF⟩
  simp only at hk hpre hO
  have hlen : pre.length + k = l.length + 8 := by simpa [h8] using congrArg List.length hpre
  repeat (first | with_reducible refine WP.seq ?_ | with_reducible refine WP.block ?_ | with_reducible refine WP.region ?_)
  refine RL.auto T_ok rfl ?_
  refine RL.nil ?_; repeat (first | with_reducible refine QN.block_normal ?_ | with_reducible refine QN.next ?_); repeat (first | with_reducible refine WP.seq ?_ | with_reducible refine WP.block ?_ | with_reducible refine WP.region ?_)
  refine WP.cond rfl (fun hc => ?_) (fun hc => ?_)
  · have hc : 0 < k := by have := of_decide_eq_true hc; omega
    obtain ⟨j, rfl⟩ : ∃ j, k = j + 1 := ⟨k - 1, by omega⟩
    refine WP.skip ?_; repeat (first | with_reducible refine QN.block_normal ?_ | with_reducible refine QN.next ?_); repeat (first | with_reducible refine WP.seq ?_ | with_reducible refine WP.block ?_ | with_reducible refine WP.region ?_)
    refine RL.pure T_ok 4 rfl ?_
    refine RL.eqv (v' := .int .i64 ((8 * j : Nat) : Int)) (congrArg _ ?_) ?_
    · show IntKind.i64.wrap (8 * (((j + 1 : Nat) : Int) - 1)) = _
      rw [wrap_i64_in _ (by omega) (by omega)]; omega
    refine RL.pure T_ok 1 rfl ?_
    refine RL.eqv (v' := .int .u64 ((n / 256 ^ j : Nat) : Int)) (congrArg _ (shr_8 n j (by omega))) ?_
    refine RL.auto T_ok rfl ?_
    refine RL.append1 T_ok [.tmp 15] hO (u8s [UInt8.ofNat (n / 256 ^ j)]) rfl rfl rfl rfl rfl rfl rfl rfl rfl (by simp [Value.cells]) ?_ (u8s_one _) (by unfold maxLen; omega) (by show (_ + 1) * 1 ≤ _; omega) ?_
    · simp only [u8s, List.map_cons, List.map_nil, List.flatMap_cons, List.flatMap_nil, Value.cells, wrap_u8_nat]; rfl
    intro v1 m2 S2 hO1 hE1 hF1
    refine ⟨_, rfl, ?_⟩
    refine RL.auto T_ok rfl ?_
    refine RL.nil ?_; repeat (first | with_reducible refine QN.block_normal ?_ | with_reducible refine QN.next ?_); repeat (first | with_reducible refine WP.seq ?_ | with_reducible refine WP.block ?_ | with_reducible refine WP.region ?_)
    refine RL.auto T_ok rfl ?_
    refine RL.nil (QN.round (j, pre ++ [UInt8.ofNat (n / 256 ^ j)], v1) ?_ ⟨?_, ?_, OPost.next hE hF (own_more (d := [UInt8.ofNat (n / 256 ^ j)]) hO1 hE1 hF1)⟩ ?_)
    · refine Sub.cons rfl (Sub.cons rfl (Sub.cons ?_ Sub.nil))
      show some (Value.int .i64 (IntKind.i64.wrap (((j + 1 : Nat) : Int) - 1 - 1))) = some (Value.int .i64 ((j : Int) - 1))
      rw [wrap_i64_in _ (by omega) (by omega)]
      congr 2; omega
    · show j ≤ 8
      omega
    · show (pre ++ [_]) ++ enc8 n j = _
      rw [← hpre]; simp [enc8]
    · show j < j + 1
      omega
  · have hc : k = 0 := by have := of_decide_eq_false hc; omega
    subst hc
    refine WP.exit ?_; repeat (first | with_reducible refine QN.then_exit ?_ | with_reducible refine QN.block_exit ?_ | with_reducible refine QN.block_far rfl ?_ | with_reducible refine QN.block_normal ?_ | with_reducible refine QN.next ?_); repeat (first | with_reducible refine WP.seq ?_ | with_reducible refine WP.block ?_ | with_reducible refine WP.region ?_)
    refine RL.auto T_ok rfl ?_
    refine RL.nil ?_; repeat (first | with_reducible refine QN.block_normal ?_ | with_reducible refine QN.next ?_); repeat (first | with_reducible refine WP.seq ?_ | with_reducible refine WP.block ?_ | with_reducible refine WP.region ?_)
    refine WP.ret ?_; repeat (first | with_reducible refine QN.then_ret ?_ | with_reducible refine QN.block_ret ?_)
    refine QN.ret1 rfl rfl ⟨_, rfl, S', ?_, hE, hF⟩
    have : pre = l ++ enc8 n 8 := by rw [← hpre]; simp [enc8]
    rw [← this]; exact hO
theorem reftext_c (m : World) (s : List UInt8) (hs : s.length < 1000000000) (S : List Nat) (v : Value) (l : List UInt8) (h : Own m S 5 1 v l.length (u8s l)) (hl : l.length < 1000000000) :
    FnR Try.prog 51 [v, .string (str s)] m (OPost m S (l ++ encU s.length ++ s)) := by
  have h10 := encU_len10 (n := s.length) (by omega)
  have hsz : (str s).size = s.length := by show s.toArray.size = _; simp
  have hst : (str s).data.toList = s := by show s.toArray.toList = s; simp
  refine FnE.enter ⟨_, Try.func51, by kernel_rfl, by kernel_rfl⟩ Try.func51 rfl rfl ?_
  repeat (first | with_reducible refine WP.seq ?_ | with_reducible refine WP.block ?_ | with_reducible refine WP.region ?_)
  refine RL.auto T_ok rfl ?_
  refine RL.nil ?_; repeat (first | with_reducible refine QN.block_normal ?_ | with_reducible refine QN.next ?_); repeat (first | with_reducible refine WP.seq ?_ | with_reducible refine WP.block ?_ | with_reducible refine WP.region ?_)
  refine RL.pure T_ok 4 rfl ?_
  refine RL.eqv (v' := .int .u64 ((s.length : Nat) : Int)) (congrArg _ ?_) ?_
  · show IntKind.u64.wrap (((str s).size : Nat) : Int) = _
    rw [hsz, wrap_u64_in _ (by omega) (by omega)]
  refine RL.call (fi := []) (ca := []) rfl rfl rfl rfl (refuint_c m s.length (by omega) S v l h hl) ?_
  rintro r m1 ⟨S1, hO1, hE1, hF1⟩
  refine ⟨_, rfl, ?_⟩
  refine RL.auto T_ok rfl ?_
  have hsrc := Src.of_string (P := Try.prog) (m := m1) (str s)
  rw [hst, hsz] at hsrc
  refine RL.append T_ok hO1 (u8s s) hsrc rfl rfl rfl rfl rfl (by simp [u8s_length]) (u8s_one _) (by rw [List.length_append]; unfold maxLen; omega) (by show (_ + _) * 1 ≤ _; rw [List.length_append]; omega) ?_
  intro v2 m2 S2 hO2 hE2 hF2
  refine ⟨_, rfl, ?_⟩
  refine RL.auto T_ok rfl ?_
  refine RL.nil ?_; repeat (first | with_reducible refine QN.block_normal ?_ | with_reducible refine QN.next ?_); repeat (first | with_reducible refine WP.seq ?_ | with_reducible refine WP.block ?_ | with_reducible refine WP.region ?_)
  refine WP.ret ?_; repeat (first | with_reducible refine QN.then_ret ?_ | with_reducible refine QN.block_ret ?_)
  exact QN.ret1 rfl rfl ⟨_, rfl, OPost.next hE1 hF1 (own_more hO2 hE2 hF2)⟩
end Go.Proofs.Ytaogoblckkmkgaa
