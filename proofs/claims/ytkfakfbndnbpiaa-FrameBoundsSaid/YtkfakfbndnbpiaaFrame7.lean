/- FrameBounds, walked: it answers true. -/
import Derived.Test.YtkfakfbndnbpiaaFrame4
namespace Go.Proofs.Ytkfakfbndnbpiaa
open Go.RowKit Go.Ev

theorem feed2_c (m : World) (b : Nat) (M : List Nat) (hM : ∀ k ∈ M, k < m.heap.size) (p q : List UInt8) (e : Int) (u : Value) (h : FAt m M b p e) (hu : Bs m [] u q) (hl : p.length + q.length < 900000000) :
    FnR Try.prog 20 [.pointer (some ⟨b, 0, none⟩), u] m fun r m' => r = .tuple #[] ∧ Ext m [b] m' ∧ FAt m' M b (p ++ q) e := by
  obtain ⟨v, hB, hS⟩ := h
  refine (ffeed_c m b [] p q e v u hB (Sl.less hS (by simp) (by omega)) hu hl).mono ?_
  rintro _ m' ⟨rfl, hE, w, S', hB', hO', hF'⟩
  refine ⟨rfl, hE, w, hB', hO'.sl (fun k hk hk' => ?_)⟩
  have := hM k hk'
  rcases hF' k hk with h9 | h9
  · cases h9
  · omega
theorem nextE_c (m : World) (M : List Nat) (hM : ∀ k ∈ M, k < m.heap.size) (b : Nat) (l : List UInt8) (e q : Int) (h : FAt m M b l e) (hbM : b ∈ M) (hl : l.length < 800000000) (hq : if e = 0 then nextF l = .error q else q = e) :
    FnR Try.prog 21 [.pointer (some ⟨b, 0, none⟩)] m fun r m' => r = .tuple #[.slice none 0 0, .bool false, .int .i64 q] ∧ Ext m [b] m' ∧ FAt m' M b l q := by
  refine (fnextR_c m M hM b l e h hbM hl).mono ?_
  rintro _ m' ⟨hE, ⟨q', hq', rfl, hF⟩ | ⟨rfl, x, k, _, _, hnx, _⟩⟩
  · have : q' = q := by
      by_cases he : e = 0
      · rw [if_pos he] at hq hq'; rw [hq] at hq'; injection hq' with h9; exact h9.symm
      · rw [if_neg he] at hq hq'; rw [hq, hq']
    subst this
    exact ⟨rfl, hE, hF⟩
  · rw [if_pos rfl] at hq
    rw [hq] at hnx; cases hnx
theorem left2_c (m : World) (b : Nat) (M : List Nat) (p : List UInt8) (e : Int) (h : FAt m M b p e) : FnR Try.prog 22 [.pointer (some ⟨b, 0, none⟩)] m fun r m' => r = .int .i64 p.length ∧ m' = m := by
  obtain ⟨v, hB, hS⟩ := h
  exact fleft_c m b M p e v hB hS
theorem nextF_big {n : Nat} (hn : 1048576 < n) (h64 : n < 18446744073709551616) : nextF (encU n) = .error 210 := by
  have h10 := encU_len10 (n := n) h64
  have ht : (encU n).take 10 = encU n := List.take_of_length_le h10
  have hb := rdU_back (most := 18446744073709551615) (n := n) [] (by omega) h64
  rw [List.append_nil] at hb
  unfold nextF
  rw [ht, hb]
  simp only
  rw [if_pos hn]
theorem nextF_wait {n : Nat} (hn : n ≤ 1048576) : nextF (encU n) = .error 0 := by
  have h := nextF_head hn []
  rw [List.append_nil, if_pos (by simp)] at h
  exact h
theorem next_form : nextF [128, 0] = .error 11 := by rfl
theorem next_half : nextF [128] = .error 0 := by rfl
set_option maxRecDepth 4000 in
set_option maxHeartbeats 1000000 in
theorem bounds_c (m : World) (n : Nat) (h64 : n < 18446744073709551616) (u : Value) (more : List UInt8) (hu : Bs m [] u more) :
    FnR Try.prog 5 [.int .u64 n, u] m fun r m' => r = .bool true ∧ Ext m [] m' := by
  obtain ⟨B, c', rfl, _, _⟩ := hu.shape
  have h10 := encU_len10 h64
  refine FnE.enter ⟨_, Try.func5, by kernel_rfl, by kernel_rfl⟩ Try.func5 rfl rfl ?_
  repeat (first | with_reducible refine WP.seq ?_ | with_reducible refine WP.block ?_ | with_reducible refine WP.region ?_)
  refine RL.auto T_ok rfl ?_
  refine RL.nil ?_; repeat (first | with_reducible refine QN.block_normal ?_ | with_reducible refine QN.next ?_); repeat (first | with_reducible refine WP.seq ?_ | with_reducible refine WP.block ?_ | with_reducible refine WP.region ?_)
  refine RL.call (fi := []) (ca := []) rfl rfl rfl rfl (fknown_c m) ?_
  rintro _ m1 ⟨rfl, hE1⟩
  refine ⟨_, rfl, ?_⟩
  refine RL.auto T_ok rfl ?_
  refine RL.nil ?_; repeat (first | with_reducible refine QN.block_normal ?_ | with_reducible refine QN.next ?_); repeat (first | with_reducible refine WP.seq ?_ | with_reducible refine WP.block ?_ | with_reducible refine WP.region ?_)
  refine WP.condF rfl ?_
  refine WP.skip ?_; repeat (first | with_reducible refine QN.block_normal ?_ | with_reducible refine QN.next ?_); repeat (first | with_reducible refine WP.seq ?_ | with_reducible refine WP.block ?_ | with_reducible refine WP.region ?_)
  refine RL.auto T_ok rfl ?_
  refine RL.nil ?_; repeat (first | with_reducible refine QN.block_normal ?_ | with_reducible refine QN.next ?_); repeat (first | with_reducible refine WP.seq ?_ | with_reducible refine WP.block ?_ | with_reducible refine WP.region ?_)
  refine WP.cond rfl (fun hc => ?_) (fun hc => ?_)
  · repeat (first | with_reducible refine WP.seq ?_ | with_reducible refine WP.block ?_ | with_reducible refine WP.region ?_)
    refine RL.auto T_ok rfl ?_
    refine RL.nil ?_; repeat (first | with_reducible refine QN.block_normal ?_ | with_reducible refine QN.next ?_); repeat (first | with_reducible refine WP.seq ?_ | with_reducible refine WP.block ?_ | with_reducible refine WP.region ?_)
    refine WP.ret ?_; repeat (first | with_reducible refine QN.then_ret ?_ | with_reducible refine QN.block_ret ?_)
    exact QN.ret1 rfl rfl ⟨_, rfl, rfl, hE1⟩
  have hml : more.length ≤ 100 := by have := of_decide_eq_false hc; omega
  refine WP.skip ?_; repeat (first | with_reducible refine QN.block_normal ?_ | with_reducible refine QN.next ?_); repeat (first | with_reducible refine WP.seq ?_ | with_reducible refine WP.block ?_ | with_reducible refine WP.region ?_)
  refine RL.auto T_ok rfl ?_
  refine RL.nil ?_; repeat (first | with_reducible refine QN.block_normal ?_ | with_reducible refine QN.next ?_); repeat (first | with_reducible refine WP.seq ?_ | with_reducible refine WP.block ?_ | with_reducible refine WP.region ?_)
  refine RL.auto T_ok rfl ?_
  refine RL.nil ?_; repeat (first | with_reducible refine QN.block_normal ?_ | with_reducible refine QN.next ?_); repeat (first | with_reducible refine WP.seq ?_ | with_reducible refine WP.block ?_ | with_reducible refine WP.region ?_)
  refine WP.loop (X := Nat × List Nat × Value × List UInt8) (fun (k, So, bv, pre) => [(0, .int .u64 n), (1, .slice B more.length c'), (5, bv), (6, .int .u64 k)])
    (fun (k, So, bv, pre) m' => k < 18446744073709551616 ∧ pre ++ encU k = encU n ∧ Ext m [] m' ∧ (∀ q ∈ So, m.heap.size ≤ q) ∧ Own m' So 5 1 bv pre.length (u8s pre)) (fun (k, _, _, _) => k) (n, [], .slice none 0 0, [])
    (Sub.cons rfl (Sub.cons rfl (Sub.cons rfl (Sub.cons rfl Sub.nil)))) ⟨h64, rfl, hE1, by simp, Own.empty _ _ _ _⟩ ?_
  rintro ⟨k, So, bv, pre⟩ m2 ⟨hk, hpre, hE2, hSo, hO⟩
  have hlen : pre.length + (encU k).length = (encU n).length := by simpa using congrArg List.length hpre
  repeat (first | with_reducible refine WP.seq ?_ | with_reducible refine WP.block ?_ | with_reducible refine WP.region ?_)
  refine RL.auto T_ok rfl ?_
  refine RL.nil ?_; repeat (first | with_reducible refine QN.block_normal ?_ | with_reducible refine QN.next ?_); repeat (first | with_reducible refine WP.seq ?_ | with_reducible refine WP.block ?_ | with_reducible refine WP.region ?_)
  refine WP.cond rfl (fun hc => ?_) (fun hc => ?_)
  rotate_left
  · have hc : 128 ≤ k := by have := of_decide_eq_false hc; omega
    refine WP.skip ?_; repeat (first | with_reducible refine QN.block_normal ?_ | with_reducible refine QN.next ?_); repeat (first | with_reducible refine WP.seq ?_ | with_reducible refine WP.block ?_ | with_reducible refine WP.region ?_)
    refine RL.auto T_ok rfl ?_
    refine RL.append1 T_ok [.tmp 40] hO (u8s [UInt8.ofNat (k % 128 + 128)]) rfl rfl rfl rfl rfl rfl rfl rfl rfl (by simp [Value.cells]) ?_ (u8s_one _) (by unfold maxLen; omega) (by show (_ + 1) * 1 ≤ _; omega) ?_
    · simp [u8s, Value.cells, wrap_u8_nat]
      exact or128 k
    intro v1 m3 S3 hO3 hE3 hF3
    refine ⟨_, rfl, ?_⟩
    refine RL.auto T_ok rfl ?_
    refine RL.nil ?_; repeat (first | with_reducible refine QN.block_normal ?_ | with_reducible refine QN.next ?_); repeat (first | with_reducible refine WP.seq ?_ | with_reducible refine WP.block ?_ | with_reducible refine WP.region ?_)
    refine RL.auto T_ok rfl ?_
    refine RL.nil (QN.round (k / 128, S3, v1, pre ++ [UInt8.ofNat (k % 128 + 128)]) (Sub.cons rfl (Sub.cons rfl (Sub.cons rfl (Sub.cons ?_ Sub.nil)))) ⟨by omega, ?_, hE2.trans hE3 (fun q hq => .inr (hSo q hq)), fun q hq => ?_, ?_⟩ (by show k / 128 < k; omega))
    · show some (Value.int .u64 ((k : Int).fdiv (2 ^ 7))) = some (Value.int .u64 ((k / 128 : Nat) : Int))
      rw [fdiv_pow k 7]
    · rw [← hpre, encU_big hc]; simp
    · rcases hF3 q hq with h9 | h9
      · exact hSo q h9
      · have := hE2.size; omega
    · rw [← u8s_append] at hO3; simpa using hO3
  have hc : k < 128 := by have := of_decide_eq_true hc; omega
  repeat (first | with_reducible refine WP.seq ?_ | with_reducible refine WP.block ?_ | with_reducible refine WP.region ?_)
  refine RL.auto T_ok rfl ?_
  refine RL.append1 T_ok [.tmp 34] hO (u8s [UInt8.ofNat k]) rfl rfl rfl rfl rfl rfl rfl rfl rfl (by simp [Value.cells]) ?_ (u8s_one _) (by unfold maxLen; omega) (by show (_ + 1) * 1 ≤ _; omega) ?_
  · simp only [u8s, List.map_cons, List.map_nil, List.flatMap_cons, List.flatMap_nil, Value.cells, wrap_u8_nat]; rfl
  intro v1 m3 S3 hO3 hE3 hF3
  refine ⟨_, rfl, ?_⟩
  have hO4 : Own m3 S3 5 1 v1 (encU n).length (u8s (encU n)) := by
    rw [← hpre, encU_small hc, List.length_append, u8s_append]; exact hO3
  have hE4 : Ext m [] m3 := hE2.trans hE3 (fun q hq => .inr (hSo q hq))
  have hS3 : ∀ q ∈ S3, m.heap.size ≤ q := fun q hq => by
    rcases hF3 q hq with h9 | h9
    · exact hSo q h9
    · have := hE2.size; omega
  clear hO3 hE3 hF3 hO hE2 hSo hpre hlen
  refine RL.auto T_ok rfl ?_
  refine RL.nil ?_; repeat (first | with_reducible refine QN.block_normal ?_ | with_reducible refine QN.next ?_); repeat (first | with_reducible refine WP.seq ?_ | with_reducible refine WP.block ?_ | with_reducible refine WP.region ?_)
  refine WP.exit ?_; repeat (first | with_reducible refine QN.then_exit ?_ | with_reducible refine QN.block_exit ?_ | with_reducible refine QN.block_far rfl ?_ | with_reducible refine QN.block_normal ?_ | with_reducible refine QN.next ?_); repeat (first | with_reducible refine WP.seq ?_ | with_reducible refine WP.block ?_ | with_reducible refine WP.region ?_)
  refine RL.alloc T_ok rfl rfl (fun b m4 hb hC4 => ⟨_, rfl, ?_⟩)
  have hE5 : Ext m3 [] m4 := hC4.new (by omega)
  have hR4 : FAt m4 [b] b [] 0 := ⟨.slice none 0 0, hC4.here, Sl.nil _ _ _⟩
  have hbm : m.heap.size ≤ b := by have := hE4.size; omega
  have hb1 : ∀ q ∈ [b], q ∈ ([] : List Nat) ∨ m.heap.size ≤ q := fun q hq => .inr (by have h9 : q = b := (by simpa using hq); omega)
  obtain ⟨A1, c1, rfl, _⟩ := hO4.shape
  have hone : ∀ {w : World} {l : List UInt8} {e : Int}, FAt w [b] b l e → ∀ q ∈ [b], q < w.heap.size := fun h q hq => by have h9 : q = b := (by simpa using hq); rw [h9]; exact h.lt
  refine RL.nil ?_; repeat (first | with_reducible refine QN.block_normal ?_ | with_reducible refine QN.next ?_); repeat (first | with_reducible refine WP.seq ?_ | with_reducible refine WP.block ?_ | with_reducible refine WP.region ?_)
  refine RL.auto T_ok rfl ?_
  refine RL.call (fi := []) (ca := []) rfl rfl rfl rfl (feed2_c m4 b [b] (hone hR4) [] (encU n) 0 _ hR4 ((Own.sl hO4 (by simp)).ext hE5 (by simp) (by omega)) (by simp; omega)) ?_
  rintro _ m5 ⟨rfl, hE6, hR5⟩
  rw [List.nil_append] at hR5
  refine ⟨_, rfl, ?_⟩
  have hEm5 : Ext m [] m5 := (hE4.trans hE5 (by simp)).trans hE6 hb1
  by_cases hbig : 1048576 < n
  · refine RL.nil ?_; repeat (first | with_reducible refine QN.block_normal ?_ | with_reducible refine QN.next ?_); repeat (first | with_reducible refine WP.seq ?_ | with_reducible refine WP.block ?_ | with_reducible refine WP.region ?_)
    refine RL.call (fi := []) (ca := []) rfl rfl rfl rfl (nextE_c m5 [b] (hone hR5) b (encU n) 0 210 hR5 (by simp) (by omega) (by rw [if_pos rfl]; exact nextF_big hbig h64)) ?_
    rintro _ m6 ⟨rfl, hE7, hR6⟩
    refine ⟨_, rfl, ?_⟩
    have hEm6 := hEm5.trans hE7 hb1
    refine RL.auto T_ok rfl ?_
    refine RL.nil ?_; repeat (first | with_reducible refine QN.block_normal ?_ | with_reducible refine QN.next ?_); repeat (first | with_reducible refine WP.seq ?_ | with_reducible refine WP.block ?_ | with_reducible refine WP.region ?_)
    refine RL.auto T_ok rfl ?_
    refine RL.nil ?_; repeat (first | with_reducible refine QN.block_normal ?_ | with_reducible refine QN.next ?_); repeat (first | with_reducible refine WP.seq ?_ | with_reducible refine WP.block ?_ | with_reducible refine WP.region ?_)
    refine WP.condT (by exact congrArg (fun q => some (Value.bool q)) (decide_eq_true (by omega))) ?_
    repeat (first | with_reducible refine WP.seq ?_ | with_reducible refine WP.block ?_ | with_reducible refine WP.region ?_)
    refine RL.auto T_ok rfl ?_
    refine RL.call (fi := []) (ca := []) rfl rfl rfl rfl (feed2_c m6 b [b] (hone hR6) _ more 210 _ hR6 (Sl.ext hu hEm6 (by simp) (by omega)) (by omega)) ?_
    rintro _ m7 ⟨rfl, hE8, hR7⟩
    refine ⟨_, rfl, ?_⟩
    refine RL.nil ?_; repeat (first | with_reducible refine QN.block_normal ?_ | with_reducible refine QN.next ?_); repeat (first | with_reducible refine WP.seq ?_ | with_reducible refine WP.block ?_ | with_reducible refine WP.region ?_)
    refine RL.call (fi := []) (ca := []) rfl rfl rfl rfl (nextE_c m7 [b] (hone hR7) b _ 210 210 hR7 (by simp) (by rw [List.length_append]; omega) (by rw [if_neg (by decide)])) ?_
    rintro _ m8 ⟨rfl, hE9, hR8⟩
    refine ⟨_, rfl, ?_⟩
    refine RL.auto T_ok rfl ?_
    refine RL.nil ?_; repeat (first | with_reducible refine QN.block_normal ?_ | with_reducible refine QN.next ?_); repeat (first | with_reducible refine WP.seq ?_ | with_reducible refine WP.block ?_ | with_reducible refine WP.region ?_)
    refine RL.auto T_ok rfl ?_
    refine RL.nil ?_; repeat (first | with_reducible refine QN.block_normal ?_ | with_reducible refine QN.next ?_); repeat (first | with_reducible refine WP.seq ?_ | with_reducible refine WP.block ?_ | with_reducible refine WP.region ?_)
    refine WP.ret ?_; repeat (first | with_reducible refine QN.then_ret ?_ | with_reducible refine QN.block_ret ?_)
    exact QN.ret1 rfl rfl ⟨_, rfl, rfl, (hEm6.trans hE8 hb1).trans hE9 hb1⟩
  · refine RL.nil ?_; repeat (first | with_reducible refine QN.block_normal ?_ | with_reducible refine QN.next ?_); repeat (first | with_reducible refine WP.seq ?_ | with_reducible refine WP.block ?_ | with_reducible refine WP.region ?_)
    refine RL.call (fi := []) (ca := []) rfl rfl rfl rfl (nextE_c m5 [b] (hone hR5) b (encU n) 0 0 hR5 (by simp) (by omega) (by rw [if_pos rfl]; exact nextF_wait (by omega))) ?_
    rintro _ m6 ⟨rfl, hE7, hR6⟩
    refine ⟨_, rfl, ?_⟩
    have hEm6 := hEm5.trans hE7 hb1
    refine RL.auto T_ok rfl ?_
    refine RL.nil ?_; repeat (first | with_reducible refine QN.block_normal ?_ | with_reducible refine QN.next ?_); repeat (first | with_reducible refine WP.seq ?_ | with_reducible refine WP.block ?_ | with_reducible refine WP.region ?_)
    refine RL.auto T_ok rfl ?_
    refine RL.nil ?_; repeat (first | with_reducible refine QN.block_normal ?_ | with_reducible refine QN.next ?_); repeat (first | with_reducible refine WP.seq ?_ | with_reducible refine WP.block ?_ | with_reducible refine WP.region ?_)
    refine WP.condF (by exact congrArg (fun q => some (Value.bool q)) (decide_eq_false (by omega))) ?_
    refine WP.skip ?_; repeat (first | with_reducible refine QN.block_normal ?_ | with_reducible refine QN.next ?_); repeat (first | with_reducible refine WP.seq ?_ | with_reducible refine WP.block ?_ | with_reducible refine WP.region ?_)
    refine RL.auto T_ok rfl ?_
    refine RL.call (fi := []) (ca := []) rfl rfl rfl rfl (left2_c m6 b [b] _ 0 hR6) ?_
    rintro _ m7 ⟨rfl, rfl⟩
    refine ⟨_, rfl, ?_⟩
    refine RL.pure T_ok 2 rfl ?_
    refine RL.pure T_ok 1 rfl ?_
    refine RL.eqv (v' := .bool false) (congrArg _ (by simp)) ?_
    refine RL.auto T_ok rfl ?_
    refine RL.nil ?_; repeat (first | with_reducible refine QN.block_normal ?_ | with_reducible refine QN.next ?_); repeat (first | with_reducible refine WP.seq ?_ | with_reducible refine WP.block ?_ | with_reducible refine WP.region ?_)
    refine WP.condF rfl ?_
    refine WP.skip ?_; repeat (first | with_reducible refine QN.block_normal ?_ | with_reducible refine QN.next ?_); repeat (first | with_reducible refine WP.seq ?_ | with_reducible refine WP.block ?_ | with_reducible refine WP.region ?_)
    refine RL.alloc T_ok rfl rfl (fun b2 m8 hb2 hC8 => ⟨_, rfl, ?_⟩)
    have hE8 : Ext m7 [] m8 := hC8.new (by omega)
    have hR8 : FAt m8 [b2] b2 [] 0 := ⟨.slice none 0 0, hC8.here, Sl.nil _ _ _⟩
    have hone2 : ∀ {w : World} {l : List UInt8} {e : Int} {b : Nat}, FAt w [b] b l e → ∀ q ∈ [b], q < w.heap.size := fun {w l e b} h q hq => by have h9 : q = b := (by simpa using hq); rw [h9]; exact h.lt
    have hb22 : ∀ q ∈ [b2], q ∈ ([] : List Nat) ∨ m.heap.size ≤ q := fun q hq => .inr (by have h9 : q = b2 := (by simpa using hq); have := hEm6.size; omega)
    refine RL.nil ?_; repeat (first | with_reducible refine QN.block_normal ?_ | with_reducible refine QN.next ?_); repeat (first | with_reducible refine WP.seq ?_ | with_reducible refine WP.block ?_ | with_reducible refine WP.region ?_)
    refine RL.buildSlice T_ok [.const (.int .u8 128), .const (.int .u8 0)] (u8s [128, 0]) rfl rfl rfl rfl rfl rfl (by simp [Value.cells]) rfl rfl (fun b9 m9 hb9 hC9 => ⟨_, rfl, ?_⟩)
    have hE9 : Ext m8 [] m9 := hC9.new (by omega)
    have hW9 : Bs m9 [] _ [128, 0] := Sl.of_blk (M := []) (n := 2) (c := 2) (sz := 1) hC9.blk (by simp) (by simp [u8s]) (by omega) (by unfold maxLen; omega)
    have hR9 := hR8.ext hE9 (by simp) (by simp) (M' := [b2]) (fun _ hk => .inl hk)
    refine RL.call (fi := []) (ca := []) rfl rfl rfl rfl (feed2_c m9 b2 [b2] (hone2 hR9) [] [128, 0] 0 _ hR9 hW9 (by simp)) ?_
    rintro _ m10 ⟨rfl, hE10, hR10⟩
    refine ⟨_, rfl, ?_⟩
    refine RL.nil ?_; repeat (first | with_reducible refine QN.block_normal ?_ | with_reducible refine QN.next ?_); repeat (first | with_reducible refine WP.seq ?_ | with_reducible refine WP.block ?_ | with_reducible refine WP.region ?_)
    refine RL.call (fi := []) (ca := []) rfl rfl rfl rfl (nextE_c m10 [b2] (hone2 hR10) b2 _ 0 11 hR10 (by simp) (by simp) (by rw [if_pos rfl]; exact next_form)) ?_
    rintro _ m11 ⟨rfl, hE11, _⟩
    refine ⟨_, rfl, ?_⟩
    have hEm11 : Ext m [] m11 := (((hEm6.trans hE8 (by simp)).trans hE9 (by simp)).trans hE10 hb22).trans hE11 hb22
    refine RL.auto T_ok rfl ?_
    refine RL.nil ?_; repeat (first | with_reducible refine QN.block_normal ?_ | with_reducible refine QN.next ?_); repeat (first | with_reducible refine WP.seq ?_ | with_reducible refine WP.block ?_ | with_reducible refine WP.region ?_)
    refine RL.alloc T_ok rfl rfl (fun b3 m12 hb3 hC12 => ⟨_, rfl, ?_⟩)
    have hE12 : Ext m11 [] m12 := hC12.new (by omega)
    have hR12 : FAt m12 [b3] b3 [] 0 := ⟨.slice none 0 0, hC12.here, Sl.nil _ _ _⟩
    have hb33 : ∀ q ∈ [b3], q ∈ ([] : List Nat) ∨ m.heap.size ≤ q := fun q hq => .inr (by have h9 : q = b3 := (by simpa using hq); have := hEm11.size; omega)
    refine RL.nil ?_; repeat (first | with_reducible refine QN.block_normal ?_ | with_reducible refine QN.next ?_); repeat (first | with_reducible refine WP.seq ?_ | with_reducible refine WP.block ?_ | with_reducible refine WP.region ?_)
    refine RL.buildSlice T_ok [.const (.int .u8 128)] (u8s [128]) rfl rfl rfl rfl rfl rfl (by simp [Value.cells]) rfl rfl (fun b13 m13 hb13 hC13 => ⟨_, rfl, ?_⟩)
    have hE13 : Ext m12 [] m13 := hC13.new (by omega)
    have hW13 : Bs m13 [] _ [128] := Sl.of_blk (M := []) (n := 1) (c := 1) (sz := 1) hC13.blk (by simp) (by simp [u8s]) (by omega) (by unfold maxLen; omega)
    have hR13 := hR12.ext hE13 (by simp) (by simp) (M' := [b3]) (fun _ hk => .inl hk)
    refine RL.call (fi := []) (ca := []) rfl rfl rfl rfl (feed2_c m13 b3 [b3] (hone2 hR13) [] [128] 0 _ hR13 hW13 (by simp)) ?_
    rintro _ m14 ⟨rfl, hE14, hR14⟩
    refine ⟨_, rfl, ?_⟩
    refine RL.nil ?_; repeat (first | with_reducible refine QN.block_normal ?_ | with_reducible refine QN.next ?_); repeat (first | with_reducible refine WP.seq ?_ | with_reducible refine WP.block ?_ | with_reducible refine WP.region ?_)
    refine RL.call (fi := []) (ca := []) rfl rfl rfl rfl (nextE_c m14 [b3] (hone2 hR14) b3 _ 0 0 hR14 (by simp) (by simp) (by rw [if_pos rfl]; exact next_half)) ?_
    rintro _ m15 ⟨rfl, hE15, _⟩
    refine ⟨_, rfl, ?_⟩
    refine RL.auto T_ok rfl ?_
    refine RL.nil ?_; repeat (first | with_reducible refine QN.block_normal ?_ | with_reducible refine QN.next ?_); repeat (first | with_reducible refine WP.seq ?_ | with_reducible refine WP.block ?_ | with_reducible refine WP.region ?_)
    refine RL.auto T_ok rfl ?_
    refine RL.nil ?_; repeat (first | with_reducible refine QN.block_normal ?_ | with_reducible refine QN.next ?_); repeat (first | with_reducible refine WP.seq ?_ | with_reducible refine WP.block ?_ | with_reducible refine WP.region ?_)
    refine WP.ret ?_; repeat (first | with_reducible refine QN.then_ret ?_ | with_reducible refine QN.block_ret ?_)
    exact QN.ret1 rfl rfl ⟨_, rfl, rfl, (((hEm11.trans hE12 (by simp)).trans hE13 (by simp)).trans hE14 hb33).trans hE15 hb33⟩
end Go.Proofs.Ytkfakfbndnbpiaa
