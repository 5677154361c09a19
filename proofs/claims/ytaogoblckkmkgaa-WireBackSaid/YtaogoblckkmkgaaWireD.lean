/- WireOnce, walked: it answers true. -/
import Derived.Test.YtaogoblckkmkgaaWireA
import Derived.Test.YtaogoblckkmkgaaNumP
import Derived.Test.YtaogoblckkmkgaaArr
namespace Go.Proofs.Ytaogoblckkmkgaa
open Go.RowKit Go.Ev

theorem grow {m m' : World} {M M' N : List Nat} {v : Value} {l : List UInt8} (h : Bs m M v l) (hE : Ext m N m') (hN : ∀ k ∈ N, k ∈ M) (hM : ∀ k ∈ M', k ∈ M ∨ m.heap.size ≤ k) : Bs m' M' v l :=
  Sl.ext h (hE.mono fun k hk _ => hN k hk) hM (by omega)
set_option maxRecDepth 4000 in
set_option maxHeartbeats 400000 in
theorem once_c (m : World) (v : Value) (l : List UInt8) (h : Bs m [] v l) : FnR Try.prog 5 [v] m fun r m' => r = .bool true ∧ Ext m [] m' := by
  obtain ⟨A, c, rfl, hlc, _⟩ := h.shape
  refine FnE.enter ⟨_, Try.func5, by kernel_rfl, by kernel_rfl⟩ Try.func5 rfl rfl ?_
  repeat (first | with_reducible refine WP.seq ?_ | with_reducible refine WP.block ?_ | with_reducible refine WP.region ?_)
  refine RL.auto T_ok rfl ?_
  refine RL.nil ?_; repeat (first | with_reducible refine QN.block_normal ?_ | with_reducible refine QN.next ?_); repeat (first | with_reducible refine WP.seq ?_ | with_reducible refine WP.block ?_ | with_reducible refine WP.region ?_)
  refine RL.call (fi := []) (ca := []) rfl rfl rfl rfl (known_c m) ?_
  rintro _ m1 ⟨rfl, hE1⟩
  refine ⟨_, rfl, ?_⟩
  have h1 := grow h hE1 (M' := []) (by simp) (by simp)
  refine RL.auto T_ok rfl ?_
  refine RL.nil ?_; repeat (first | with_reducible refine QN.block_normal ?_ | with_reducible refine QN.next ?_); repeat (first | with_reducible refine WP.seq ?_ | with_reducible refine WP.block ?_ | with_reducible refine WP.region ?_)
  refine WP.condF rfl ?_
  refine WP.skip ?_; repeat (first | with_reducible refine QN.block_normal ?_ | with_reducible refine QN.next ?_); repeat (first | with_reducible refine WP.seq ?_ | with_reducible refine WP.block ?_ | with_reducible refine WP.region ?_)
  refine RL.auto T_ok rfl ?_
  refine RL.nil ?_; repeat (first | with_reducible refine QN.block_normal ?_ | with_reducible refine QN.next ?_); repeat (first | with_reducible refine WP.seq ?_ | with_reducible refine WP.block ?_ | with_reducible refine WP.region ?_)
  refine WP.cond rfl (fun hc => ?_) (fun hc => ?_)
  · repeat (first | with_reducible refine WP.seq ?_ | with_reducible refine WP.block ?_ | with_reducible refine WP.region ?_)
    refine RL.auto T_ok rfl ?_
    refine RL.nil ?_; repeat (first | with_reducible refine QN.block_normal ?_ | with_reducible refine QN.next ?_); repeat (first | with_reducible refine WP.seq ?_ | with_reducible refine WP.block ?_ | with_reducible refine WP.region ?_)
    refine WP.ret ?_; repeat (first | with_reducible refine QN.then_ret ?_ | with_reducible refine QN.block_ret ?_)
    exact QN.ret1 rfl rfl ⟨_, rfl, rfl, hE1⟩
  have hl : l.length ≤ 100 := by have := of_decide_eq_false hc; omega
  refine WP.skip ?_; repeat (first | with_reducible refine QN.block_normal ?_ | with_reducible refine QN.next ?_); repeat (first | with_reducible refine WP.seq ?_ | with_reducible refine WP.block ?_ | with_reducible refine WP.region ?_)
  refine RL.auto T_ok rfl ?_
  refine RL.call (fi := []) (ca := []) rfl rfl rfl rfl (newReader_c m1 [] (by simp) _ l h1 (by omega)) ?_
  rintro _ m2 ⟨b1, rfl, hb1, hR2, hE2⟩
  refine ⟨_, rfl, ?_⟩
  have hB2 := grow h1 hE2 (M' := [b1]) (by simp) (fun k hk => .inr (by have h9 : k = b1 := (by simpa using hk); omega))
  refine RL.auto T_ok rfl ?_
  refine RL.nil ?_; repeat (first | with_reducible refine QN.block_normal ?_ | with_reducible refine QN.next ?_); repeat (first | with_reducible refine WP.seq ?_ | with_reducible refine WP.block ?_ | with_reducible refine WP.region ?_)
  refine RL.auto T_ok rfl ?_
  refine RL.call (fi := []) (ca := []) rfl rfl rfl rfl (ruint_c m2 [b1] b1 l 0 hR2 (by simp) 18446744073709551615) ?_
  rintro _ m3 ⟨rfl, hR3, hE3⟩
  refine ⟨_, rfl, ?_⟩
  have hB3 := grow hB2 hE3 (M' := [b1]) (fun _ hk => hk) (fun _ hk => .inl hk)
  have hE3' : Ext m [] m3 := (hE1.trans hE2 (by simp)).trans hE3 (fun k hk => .inr (by have h9 : k = b1 := (by simpa using hk); have := hE1.size; omega))
  refine RL.auto T_ok rfl ?_
  refine RL.nil ?_; repeat (first | with_reducible refine QN.block_normal ?_ | with_reducible refine QN.next ?_); repeat (first | with_reducible refine WP.seq ?_ | with_reducible refine WP.block ?_ | with_reducible refine WP.region ?_)
  refine RL.auto T_ok rfl ?_
  refine RL.call (fi := []) (ca := []) rfl rfl rfl rfl (err_c m3 [b1] b1 _ _ hR3) ?_
  rintro _ m3' ⟨rfl, rfl⟩
  refine ⟨_, rfl, ?_⟩
  cases hr : rdU 18446744073709551615 0 0 l with
  | error k =>
    have hk := rdU_err _ _ _ _ _ hr
    rw [hr, gR_err rfl] at hR3
    rw [gR_err rfl]
    simp only at hR3
    refine RL.pure T_ok 1 rfl ?_
    refine RL.eqv (v' := .bool true) (congrArg _ (by simp; omega)) ?_
    refine RL.auto T_ok rfl ?_
    refine RL.nil ?_; repeat (first | with_reducible refine QN.block_normal ?_ | with_reducible refine QN.next ?_); repeat (first | with_reducible refine WP.seq ?_ | with_reducible refine WP.block ?_ | with_reducible refine WP.region ?_)
    refine WP.condT rfl ?_
    repeat (first | with_reducible refine WP.seq ?_ | with_reducible refine WP.block ?_ | with_reducible refine WP.region ?_)
    refine RL.auto T_ok rfl ?_
    refine RL.call (fi := []) (ca := []) rfl rfl rfl rfl (left_c m3' [b1] b1 _ _ hR3) ?_
    rintro _ m3'' ⟨rfl, rfl⟩
    refine ⟨_, rfl, ?_⟩
    refine RL.pure T_ok 3 rfl ?_
    refine RL.eqv (v' := .bool true) (congrArg _ (by simp)) ?_
    refine RL.auto T_ok rfl ?_
    refine RL.nil ?_; repeat (first | with_reducible refine QN.block_normal ?_ | with_reducible refine QN.next ?_); repeat (first | with_reducible refine WP.seq ?_ | with_reducible refine WP.block ?_ | with_reducible refine WP.region ?_)
    refine WP.ret ?_; repeat (first | with_reducible refine QN.then_ret ?_ | with_reducible refine QN.block_ret ?_)
    exact QN.ret1 rfl rfl ⟨_, rfl, rfl, hE3'⟩
  | ok p =>
    obtain ⟨n, l'⟩ := p
    have hn := rdU_once hr
    have hnm := (rdU_most _ _ _ _ _ _ hr).1
    have hlen : l.length = (encU n).length + l'.length := by rw [hn]; simp
    have h10 := encU_len10 (n := n) (by omega)
    rw [hr, gR_ok rfl] at hR3
    rw [gR_ok rfl]
    simp only at hR3
    refine RL.auto T_ok rfl ?_
    refine RL.nil ?_; repeat (first | with_reducible refine QN.block_normal ?_ | with_reducible refine QN.next ?_); repeat (first | with_reducible refine WP.seq ?_ | with_reducible refine WP.block ?_ | with_reducible refine WP.region ?_)
    refine WP.condF rfl ?_
    refine WP.skip ?_; repeat (first | with_reducible refine QN.block_normal ?_ | with_reducible refine QN.next ?_); repeat (first | with_reducible refine WP.seq ?_ | with_reducible refine WP.block ?_ | with_reducible refine WP.region ?_)
    refine RL.alloc T_ok rfl rfl (fun bw m4 hbw hC4 => ⟨_, rfl, ?_⟩)
    have hE4 : Ext m3' [] m4 := hC4.new (by omega)
    have hW4 := newW hC4
    have hnew4 : ∀ k ∈ [bw, b1], k ∈ [b1] ∨ m3'.heap.size ≤ k := fun k hk => by
      rcases List.mem_cons.1 hk with rfl | hk
      · exact .inr (by omega)
      · exact .inl hk
    have hB4 := grow hB3 hE4 (M' := [bw, b1]) (by simp) hnew4
    have hR4 : RAt m4 [bw, b1] b1 l' 0 := hR3.ext hE4 (by simp) (by simp) hnew4
    have hb1bw : b1 < bw := by have := hR3.lt; omega
    refine RL.nil ?_; repeat (first | with_reducible refine QN.block_normal ?_ | with_reducible refine QN.next ?_); repeat (first | with_reducible refine WP.seq ?_ | with_reducible refine WP.block ?_ | with_reducible refine WP.region ?_)
    refine RL.auto T_ok rfl ?_
    refine RL.call (fi := []) (ca := []) rfl rfl rfl rfl (wuint m4 n (by omega) bw [bw] [] hW4 (by simp)) ?_
    rintro _ m5 ⟨rfl, S5, hW5, hE5, hF5⟩
    refine ⟨_, rfl, ?_⟩
    have hnew5 : ∀ k ∈ b1 :: S5, k ∈ [bw, b1] ∨ m4.heap.size ≤ k := fun k hk => by
      rcases List.mem_cons.1 hk with rfl | hk
      · exact .inl (by simp)
      · rcases hF5 k hk with h9 | h9
        · exact .inl (by have h9 : k = bw := (by simpa using h9); simp [h9])
        · exact .inr h9
    have hB5 := grow hB4 hE5 (M' := b1 :: S5) (fun k hk => by have h9 : k = bw := (by simpa using hk); simp [h9]) hnew5
    have hR5 : RAt m5 (b1 :: S5) b1 l' 0 := hR4.ext hE5 (by simp; omega) (fun k hk _ => by have h9 : k = bw := (by simpa using hk); simp [h9]) hnew5
    refine RL.nil ?_; repeat (first | with_reducible refine QN.block_normal ?_ | with_reducible refine QN.next ?_); repeat (first | with_reducible refine WP.seq ?_ | with_reducible refine WP.block ?_ | with_reducible refine WP.region ?_)
    refine RL.auto T_ok rfl ?_
    refine RL.call (fi := []) (ca := []) rfl rfl rfl rfl (newReader_c m5 (b1 :: S5) (fun k hk => by
      rcases List.mem_cons.1 hk with rfl | hk
      · exact hR5.lt
      · exact hW5.lt k hk) _ l hB5 (by omega)) ?_
    rintro _ m6 ⟨b2, rfl, hb2, hR6, hE6⟩
    refine ⟨_, rfl, ?_⟩
    have hnew6 : ∀ k ∈ b2 :: b1 :: S5, k ∈ b1 :: S5 ∨ m5.heap.size ≤ k := fun k hk => by
      rcases List.mem_cons.1 hk with rfl | hk
      · exact .inr hb2
      · exact .inl hk
    have hB6 := grow hB5 hE6 (M' := b2 :: b1 :: S5) (by simp) hnew6
    have hQ6 : RAt m6 (b2 :: b1 :: S5) b1 l' 0 := hR5.ext hE6 (by simp) (by simp) hnew6
    have hW6 := hW5.ext hE6 (by simp)
    have hb2S : b2 ∉ S5 := fun hh => by have := hW5.lt b2 hh; omega
    have hb21 : b1 ≠ b2 := by have := hR5.lt; omega
    refine RL.auto T_ok rfl ?_
    refine RL.nil ?_; repeat (first | with_reducible refine QN.block_normal ?_ | with_reducible refine QN.next ?_); repeat (first | with_reducible refine WP.seq ?_ | with_reducible refine WP.block ?_ | with_reducible refine WP.region ?_)
    refine RL.auto T_ok rfl ?_
    refine RL.call (fi := []) (ca := []) rfl rfl rfl rfl (rint_c m6 (b2 :: b1 :: S5) b2 l 0 hR6 (by simp)) ?_
    rintro _ m7 ⟨rfl, hR7, hE7⟩
    refine ⟨_, rfl, ?_⟩
    rw [hr, gR_ok rfl] at hR7
    rw [hr, gR_ok rfl]
    have hR7 : RAt m7 (b2 :: b1 :: S5) b2 l' 0 := hR7
    have hB7 := grow hB6 hE7 (M' := b2 :: b1 :: S5) (fun k hk => by have h9 : k = b2 := (by simpa using hk); simp [h9]) (fun _ hk => .inl hk)
    have hQ7 : RAt m7 (b2 :: b1 :: S5) b1 l' 0 := hQ6.ext hE7 (by simp; exact hb21) (fun k hk _ => by have h9 : k = b2 := (by simpa using hk); simp [h9]) (fun _ hk => .inl hk)
    have hW7 := hW6.ext hE7 (fun k hk => by intro h9; have h9 : k = b2 := (by simpa using h9); exact hb2S (h9 ▸ hk))
    show RL _ _ _ _ _ ((_, .int .i64 (unzig n)) :: _) _ _
    refine RL.auto T_ok rfl ?_
    refine RL.nil ?_; repeat (first | with_reducible refine QN.block_normal ?_ | with_reducible refine QN.next ?_); repeat (first | with_reducible refine WP.seq ?_ | with_reducible refine WP.block ?_ | with_reducible refine WP.region ?_)
    refine RL.alloc T_ok rfl rfl (fun bv m8 hbv hC8 => ⟨_, rfl, ?_⟩)
    have hE8 : Ext m7 [] m8 := hC8.new (by omega)
    have hV8 := newW hC8
    have hnew8 : ∀ k ∈ bv :: b2 :: b1 :: S5, k ∈ b2 :: b1 :: S5 ∨ m7.heap.size ≤ k := fun k hk => by
      rcases List.mem_cons.1 hk with rfl | hk
      · exact .inr (by omega)
      · exact .inl hk
    have hB8 := grow hB7 hE8 (M' := bv :: b2 :: b1 :: S5) (by simp) hnew8
    have hQ8 : RAt m8 (bv :: b2 :: b1 :: S5) b1 l' 0 := hQ7.ext hE8 (by simp) (by simp) hnew8
    have hR8 : RAt m8 (bv :: b2 :: b1 :: S5) b2 l' 0 := hR7.ext hE8 (by simp) (by simp) hnew8
    have hW8 := hW7.ext hE8 (by simp)
    have hbvl : b1 < bv ∧ b2 < bv := by have := hQ7.lt; have := hR7.lt; omega
    have hub := unzig_bounds n (by omega)
    refine RL.nil ?_; repeat (first | with_reducible refine QN.block_normal ?_ | with_reducible refine QN.next ?_); repeat (first | with_reducible refine WP.seq ?_ | with_reducible refine WP.block ?_ | with_reducible refine WP.region ?_)
    refine RL.auto T_ok rfl ?_
    refine RL.call (fi := []) (ca := []) rfl rfl rfl rfl (wint m8 (unzig n) hub.1 hub.2 bv [bv] [] hV8 (by simp)) ?_
    rintro _ m9 ⟨rfl, S9, hV9, hE9, hF9⟩
    refine ⟨_, rfl, ?_⟩
    rw [zig_unzig] at hV9
    have hN9 : ∀ k ∈ [bv], k ∈ bv :: b2 :: b1 :: S5 := fun k hk => by have h9 : k = bv := (by simpa using hk); simp [h9]
    have hB9 := grow hB8 hE9 (M' := []) hN9 (by simp)
    have hQ9 : RAt m9 [] b1 l' 0 := hQ8.ext hE9 (by simp; omega) (fun k hk _ => hN9 k hk) (by simp)
    have hR9 : RAt m9 [] b2 l' 0 := hR8.ext hE9 (by simp; omega) (fun k hk _ => hN9 k hk) (by simp)
    have hW9 := hW8.ext hE9 (fun k hk => by intro h9; have h9 : k = bv := (by simpa using h9); have := hW7.lt k hk; omega)
    have hE9' : Ext m [] m9 := by
      have e1 := hE3'.size
      have e3 := (hE3'.trans hE4 (by simp)).trans hE5 (M := []) (fun k hk => .inr (by have h9 : k = bw := (by simpa using hk); omega))
      have e5 := (e3.trans hE6 (by simp)).trans hE7 (M := []) (fun k hk => .inr (by have h9 : k = b2 := (by simpa using hk); have := e3.size; omega))
      exact (e5.trans hE8 (by simp)).trans hE9 (M := []) (fun k hk => .inr (by have h9 : k = bv := (by simpa using hk); have := e5.size; omega))
    refine RL.nil ?_; repeat (first | with_reducible refine QN.block_normal ?_ | with_reducible refine QN.next ?_); repeat (first | with_reducible refine WP.seq ?_ | with_reducible refine WP.block ?_ | with_reducible refine WP.region ?_)
    refine RL.auto T_ok rfl ?_
    refine RL.call (fi := []) (ca := []) rfl rfl rfl rfl (left_c m9 [] b1 _ _ hQ9) ?_
    rintro _ m9' ⟨rfl, rfl⟩
    refine ⟨_, rfl, ?_⟩
    refine RL.pure T_ok 1 rfl ?_
    refine RL.eqv (v' := .int .i64 ((encU n).length : Int)) (congrArg _ (by rw [wrap_i64_in _ (by omega) (by omega)]; omega)) ?_
    refine RL.auto T_ok rfl ?_
    refine RL.nil (QN.next (WP.seq ?_))
    obtain ⟨A9, c9, hv9, hlc9, hc9⟩ := hB9.shape
    injection hv9 with hv1 hv2 hv3
    subst hv1; subst hv3
    have hcut : (u8s l).take ((encU n).length * 1) = u8s (encU n) := by
      rw [Nat.mul_one, ← u8s_take, hn, List.take_left]
    refine WP.drawQ (fun _ => True) [] (by kernel_rfl) trivial (by repeat (first | with_reducible exact PanicOk.body | with_reducible refine PanicOk.then_ ?_ | with_reducible refine PanicOk.block_ ?_)) (fun hQ => ?_)
    refine RH.pure T_ok hQ [1, 2] (by kernel_rfl) rfl ?_
    refine RH.sliceTo T_ok hQ 3 (l := (encU n).length) rfl (by kernel_rfl) rfl rfl rfl rfl rfl (by omega) rfl ?_
    refine RH.only 0 rfl (by kernel_rfl) (fun _ => ?_)
    refine RL.call (fi := []) (ca := []) rfl rfl rfl rfl (wbytes m9' bw S5 _ hW9 (by simp; omega)) ?_
    rintro v10 m10 ⟨S10, hO10, hN10⟩
    obtain ⟨A10, c10, rfl, _⟩ := hO10.shape
    refine ⟨_, rfl, RL.nil (RH.cont trivial ?_)⟩
    have hB10 := grow hB9 hN10.1 (M' := []) (by simp) (by simp)
    have hcutB : Bs m10 [] (.slice A (encU n).length c) (encU n) := by
      have := Sl.upto hB10 (l := (encU n).length) (k := c) (by omega) (by omega) (Nat.le_refl _)
      rw [hcut] at this
      exact this
    refine RH.only 4 rfl (by kernel_rfl) (fun _ => ?_)
    refine RL.call (fi := []) (ca := []) rfl rfl rfl rfl (hbytes_c m10 [] _ _ _ _ (Own.sl hO10 (by simp)) hcutB) ?_
    rintro _ m11 ⟨rfl, rfl⟩
    refine ⟨_, rfl, ?_⟩
    refine RL.eqv (v' := .bool true) (congrArg _ (by simp)) ?_
    refine RL.nil (RH.cont trivial ?_)
    refine RH.pure T_ok hQ [5, 7, 8] (by kernel_rfl) rfl ?_
    refine RH.sliceTo T_ok hQ 9 (l := (encU n).length) rfl (by kernel_rfl) rfl rfl rfl rfl rfl (by omega) rfl ?_
    refine RH.only 6 rfl (by kernel_rfl) (fun _ => ?_)
    refine RL.call (fi := []) (ca := []) rfl rfl rfl rfl (wbytes m11 bv S9 _ (hV9.ext hN10.1 (by simp)) (by simp; omega)) ?_
    rintro v12 m12 ⟨S12, hO12, hN12⟩
    obtain ⟨A12, c12, rfl, _⟩ := hO12.shape
    refine ⟨_, rfl, RL.nil (RH.cont trivial ?_)⟩
    have hcutB2 := grow hcutB hN12.1 (M' := []) (by simp) (by simp)
    refine RH.only 10 rfl (by kernel_rfl) (fun _ => ?_)
    refine RL.call (fi := []) (ca := []) rfl rfl rfl rfl (hbytes_c m12 [] _ _ _ _ (Own.sl hO12 (by simp)) hcutB2) ?_
    rintro _ m13 ⟨rfl, rfl⟩
    refine ⟨_, rfl, ?_⟩
    refine RL.eqv (v' := .bool true) (congrArg _ (by simp)) ?_
    refine RL.nil (RH.cont trivial ?_)
    refine RH.pure T_ok hQ [11, 12, 13, 15] (by kernel_rfl) rfl ?_
    have hE13 : Ext m9' [] m13 := hN10.1.trans hN12.1 (by simp)
    refine RH.only 14 rfl (by kernel_rfl) (fun _ => ?_)
    refine RL.call (fi := []) (ca := []) rfl rfl rfl rfl (left_c m13 [] b1 _ _ (hQ9.new hE13)) ?_
    rintro _ m14 ⟨rfl, rfl⟩
    refine ⟨_, rfl, RL.nil (RH.cont trivial ?_)⟩
    refine RH.only 16 rfl (by kernel_rfl) (fun _ => ?_)
    refine RL.call (fi := []) (ca := []) rfl rfl rfl rfl (left_c m14 [] b2 _ _ (hR9.new hE13)) ?_
    rintro _ m15 ⟨rfl, rfl⟩
    refine ⟨_, rfl, RL.nil (RH.cont trivial ?_)⟩
    refine RH.pure T_ok hQ [17] (by kernel_rfl) rfl ?_
    refine RH.eqv (v' := .bool true) (congrArg _ (by simp)) ?_
    refine RH.pure T_ok hQ [18, 19] (by kernel_rfl) rfl ?_
    refine RH.done (by kernel_rfl) (fun _ => ?_)
    refine QN.next ?_
    refine WP.ret ?_; repeat (first | with_reducible refine QN.then_ret ?_ | with_reducible refine QN.block_ret ?_)
    exact QN.ret1 rfl rfl ⟨_, rfl, rfl, hE9'.trans hE13 (by simp)⟩
end Go.Proofs.Ytaogoblckkmkgaa
