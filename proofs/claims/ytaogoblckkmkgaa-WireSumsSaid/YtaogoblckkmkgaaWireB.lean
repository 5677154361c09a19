/- WireSums, walked: it answers true. -/
import Derived.Test.YtaogoblckkmkgaaWireA
namespace Go.Proofs.Ytaogoblckkmkgaa
open Go.RowKit Go.Ev

def flip8 (x : UInt8) (k : Nat) : UInt8 := UInt8.ofNat (BitVec.ofNat 8 x.toNat ^^^ BitVec.ofNat 8 (2 ^ k)).toNat
theorem flip8_fin : ∀ (x : Fin 256) (k : Fin 8), (BitVec.ofNat 8 x.val ^^^ BitVec.ofNat 8 (2 ^ k.val)).toNat ≠ x.val := by decide +kernel
theorem flip8_ne (x : UInt8) (k : Nat) (hk : k < 8) : x ≠ flip8 x k := by
  intro h
  have h1 := congrArg UInt8.toNat h
  have h2 := flip8_fin ⟨x.toNat, x.toNat_lt⟩ ⟨k, hk⟩
  unfold flip8 at h1
  have h3 := (BitVec.ofNat 8 x.toNat ^^^ BitVec.ofNat 8 (2 ^ k)).isLt
  rw [UInt8.toNat_ofNat', Nat.mod_eq_of_lt (by omega)] at h1
  exact h2 h1.symm
theorem and7_fin : ∀ x : Fin 256, (BitVec.ofNat 8 x.val &&& BitVec.ofNat 8 7).toNat = x.val % 8 := by decide +kernel
theorem and7 (x : UInt8) : bits .and .u8 (x.toNat : Int) 7 = ((x.toNat % 8 : Nat) : Int) := by
  refine (bits_u8 .and x.toNat 7).trans ?_
  show ((BitVec.ofNat 8 x.toNat &&& BitVec.ofNat 8 7).toNat : Int) = _
  rw [and7_fin ⟨x.toNat, x.toNat_lt⟩]
theorem shl_one : ∀ k : Fin 8, IntKind.u8.wrap ((1 : Int) * 2 ^ shAmt .u8 k.val) = ((2 ^ k.val : Nat) : Int) := by decide +kernel
theorem flip8_bits (x : UInt8) (k : Nat) : bits .xor .u8 (x.toNat : Int) ((2 ^ k : Nat) : Int) = ((flip8 x k).toNat : Int) := by
  refine (bits_u8 .xor x.toNat (2 ^ k)).trans ?_
  show ((BitVec.ofNat 8 x.toNat ^^^ BitVec.ofNat 8 (2 ^ k)).toNat : Int) = _
  unfold flip8
  have h3 := (BitVec.ofNat 8 x.toNat ^^^ BitVec.ofNat 8 (2 ^ k)).isLt
  rw [UInt8.toNat_ofNat', Nat.mod_eq_of_lt (by omega)]
theorem v32_ne {x y : BitVec 32} (h : x ≠ y) : ((x.toNat : Int) != (y.toNat : Int)) = true := by
  have : x.toNat ≠ y.toNat := fun hh => h (BitVec.eq_of_toNat_eq hh)
  simp only [bne_iff_ne, ne_eq]; omega
set_option maxRecDepth 4000 in
set_option maxHeartbeats 400000 in
theorem sums_c (m : World) (M : List Nat) (v : Value) (l : List UInt8) (h : Bs m M v l) (k : Int) (bit : UInt8) :
    FnR Try.prog 4 [v, .int .i64 k, .int .u8 bit.toNat] m fun r m' => r = .bool true ∧ Ext m [] m' := by
  obtain ⟨A, c, rfl, _, _⟩ := h.shape
  refine FnE.enter ⟨_, Try.func4, by kernel_rfl, by kernel_rfl⟩ Try.func4 rfl rfl ?_
  repeat (first | with_reducible refine WP.seq ?_ | with_reducible refine WP.block ?_ | with_reducible refine WP.region ?_)
  refine RL.auto T_ok rfl ?_
  refine RL.nil ?_; repeat (first | with_reducible refine QN.block_normal ?_ | with_reducible refine QN.next ?_); repeat (first | with_reducible refine WP.seq ?_ | with_reducible refine WP.block ?_ | with_reducible refine WP.region ?_)
  refine RL.call (fi := []) (ca := []) rfl rfl rfl rfl (known_c m) ?_
  rintro _ m1 ⟨rfl, hE1⟩
  refine ⟨_, rfl, ?_⟩
  have h1 : Bs m1 M _ l := Sl.ext h (hE1.mono (M' := M) (by simp)) (fun _ hk => .inl hk) (by omega)
  refine RL.auto T_ok rfl ?_
  refine RL.nil ?_; repeat (first | with_reducible refine QN.block_normal ?_ | with_reducible refine QN.next ?_); repeat (first | with_reducible refine WP.seq ?_ | with_reducible refine WP.block ?_ | with_reducible refine WP.region ?_)
  refine WP.condF rfl ?_
  refine WP.skip ?_; repeat (first | with_reducible refine QN.block_normal ?_ | with_reducible refine QN.next ?_); repeat (first | with_reducible refine WP.seq ?_ | with_reducible refine WP.block ?_ | with_reducible refine WP.region ?_)
  refine RL.auto T_ok rfl ?_
  refine RL.nil ?_; repeat (first | with_reducible refine QN.block_normal ?_ | with_reducible refine QN.next ?_); repeat (first | with_reducible refine WP.seq ?_ | with_reducible refine WP.block ?_ | with_reducible refine WP.region ?_)
  refine WP.cond rfl (fun hc => ?_) (fun hc => ?_)
  · repeat (first | with_reducible refine WP.seq ?_ | with_reducible refine WP.block ?_ | with_reducible refine WP.region ?_)
    refine RL.auto T_ok rfl ?_
    refine RL.nil ?_; repeat (first | with_reducible refine QN.block_normal ?_ | with_reducible refine QN.next ?_); repeat (first | with_reducible refine WP.seq ?_ | with_reducible refine WP.block ?_ | with_reducible refine WP.region ?_)
    refine WP.ret ?_; repeat (first | with_reducible refine QN.then_ret ?_ | with_reducible refine QN.block_ret ?_)
    exact QN.ret1 rfl rfl ⟨_, rfl, rfl, hE1⟩
  have hl : l.length ≤ 4000 := by have := of_decide_eq_false hc; omega
  refine WP.skip ?_; repeat (first | with_reducible refine QN.block_normal ?_ | with_reducible refine QN.next ?_); repeat (first | with_reducible refine WP.seq ?_ | with_reducible refine WP.block ?_ | with_reducible refine WP.region ?_)
  refine RL.auto T_ok rfl ?_
  refine RL.call (fi := []) (ca := []) rfl rfl rfl rfl (sum_c m1 M _ l h1 (by omega)) ?_
  rintro _ m2 ⟨rfl, hE2⟩
  refine ⟨_, rfl, ?_⟩
  have h2 : Bs m2 M _ l := Sl.ext h1 (hE2.mono (M' := M) (by simp)) (fun _ hk => .inl hk) (by omega)
  refine RL.auto T_ok rfl ?_
  refine RL.nil ?_; repeat (first | with_reducible refine QN.block_normal ?_ | with_reducible refine QN.next ?_); repeat (first | with_reducible refine WP.seq ?_ | with_reducible refine WP.block ?_ | with_reducible refine WP.region ?_)
  refine RL.auto T_ok rfl ?_
  refine RL.call (fi := []) (ca := []) rfl rfl rfl rfl (refsum_c m2 M _ l h2 (by omega)) ?_
  rintro _ m3 ⟨rfl, hE3⟩
  refine ⟨_, rfl, ?_⟩
  have h3 : Bs m3 M _ l := Sl.ext h2 (hE3.mono (M' := M) (by simp)) (fun _ hk => .inl hk) (by omega)
  refine RL.pure T_ok 1 rfl ?_
  refine RL.eqv (v' := .bool false) (congrArg _ (by simp)) ?_
  by_cases hn : l.length = 0
  · refine RL.pure T_ok 4 rfl ?_
    refine RL.eqv (v' := .bool true) (congrArg _ (by simp [hn])) ?_
    refine RL.auto T_ok rfl ?_
    refine RL.nil ?_; repeat (first | with_reducible refine QN.block_normal ?_ | with_reducible refine QN.next ?_); repeat (first | with_reducible refine WP.seq ?_ | with_reducible refine WP.block ?_ | with_reducible refine WP.region ?_)
    refine WP.condT rfl ?_
    repeat (first | with_reducible refine WP.seq ?_ | with_reducible refine WP.block ?_ | with_reducible refine WP.region ?_)
    refine RL.auto T_ok rfl ?_
    refine RL.call (fi := []) (ca := []) rfl rfl rfl rfl (refsum_c m3 M _ l h3 (by omega)) ?_
    rintro _ m4 ⟨rfl, hE4⟩
    refine ⟨_, rfl, ?_⟩
    refine RL.pure T_ok 1 rfl ?_
    refine RL.eqv (v' := .bool true) (congrArg _ (by simp)) ?_
    refine RL.auto T_ok rfl ?_
    refine RL.nil ?_; repeat (first | with_reducible refine QN.block_normal ?_ | with_reducible refine QN.next ?_); repeat (first | with_reducible refine WP.seq ?_ | with_reducible refine WP.block ?_ | with_reducible refine WP.region ?_)
    refine WP.ret ?_; repeat (first | with_reducible refine QN.then_ret ?_ | with_reducible refine QN.block_ret ?_)
    exact QN.ret1 rfl rfl ⟨_, rfl, rfl, ((hE1.trans hE2 (by simp)).trans hE3 (by simp)).trans hE4 (by simp)⟩
  · refine RL.pure T_ok 4 rfl ?_
    refine RL.eqv (v' := .bool false) (congrArg _ (by simp; intro h9; exact hn (by simp [h9]))) ?_
    refine RL.auto T_ok rfl ?_
    refine RL.nil ?_; repeat (first | with_reducible refine QN.block_normal ?_ | with_reducible refine QN.next ?_); repeat (first | with_reducible refine WP.seq ?_ | with_reducible refine WP.block ?_ | with_reducible refine WP.region ?_)
    refine WP.condF rfl ?_
    refine WP.skip ?_; repeat (first | with_reducible refine QN.block_normal ?_ | with_reducible refine QN.next ?_); repeat (first | with_reducible refine WP.seq ?_ | with_reducible refine WP.block ?_ | with_reducible refine WP.region ?_)
    refine RL.auto T_ok rfl ?_
    refine RL.call (fi := []) (ca := []) rfl rfl rfl rfl (copy_c m3 M _ l h3 (by omega)) ?_
    rintro u m4 ⟨S4, hO4, hN4⟩
    obtain ⟨A4, cap, rfl, _⟩ := hO4.shape
    refine ⟨_, rfl, ?_⟩
    refine RL.auto T_ok rfl ?_
    refine RL.nil ?_; repeat (first | with_reducible refine QN.block_normal ?_ | with_reducible refine QN.next ?_); repeat (first | with_reducible refine WP.seq ?_ | with_reducible refine WP.block ?_ | with_reducible refine WP.region ?_)
    refine RL.auto T_ok rfl ?_
    obtain ⟨nn, hnn⟩ : ∃ nn, l.length = nn + 1 := ⟨l.length - 1, by omega⟩
    refine RL.call (fi := []) (ca := []) rfl rfl rfl rfl (by rw [hnn]; exact place_c m4 k nn (by omega)) ?_
    rintro _ m5 ⟨rfl, rfl⟩
    refine ⟨_, rfl, ?_⟩
    have hk1 := Int.emod_nonneg k (b := ((nn + 1 : Nat) : Int)) (by omega)
    have hk2 := Int.emod_lt_of_pos k (b := ((nn + 1 : Nat) : Int)) (by omega)
    obtain ⟨j, hj⟩ : ∃ j : Nat, k % ((nn + 1 : Nat) : Int) = (j : Int) := ⟨(k % ((nn + 1 : Nat) : Int)).toNat, by omega⟩
    have hjl : j < l.length := by omega
    rw [hj]
    refine RL.auto T_ok rfl ?_
    refine RL.nil ?_; repeat (first | with_reducible refine QN.block_normal ?_ | with_reducible refine QN.next ?_); repeat (first | with_reducible refine WP.seq ?_ | with_reducible refine WP.block ?_ | with_reducible refine WP.region ?_)
    refine RL.auto T_ok rfl ?_
    have hS4 : Bs m5 [] _ l := Own.sl hO4 (by simp)
    refine RL.byteAt T_ok hS4 (k := j) rfl hjl rfl rfl rfl rfl rfl rfl (fun p => ?_)
    obtain ⟨g, _, cur, hv, hB4, rfl, hcj, hput⟩ := hO4.put hjl
    injection hv with hv1 hv2 hv3
    subst hv1; subst hv3
    refine RL.pure T_ok 2 rfl ?_
    refine RL.eqv (v' := .int .u8 ((bit.toNat % 8 : Nat) : Int)) (congrArg _ (and7 bit)) ?_
    have hb8 : bit.toNat % 8 < 8 := by omega
    generalize bit.toNat % 8 = q at *
    refine RL.pure T_ok 1 rfl ?_
    refine RL.eqv (v' := .int .u8 ((2 ^ q : Nat) : Int)) (congrArg _ (shl_one ⟨q, hb8⟩)) ?_
    refine RL.pure T_ok 1 rfl ?_
    refine RL.eqv (v' := .int .u8 ((flip8 l[j] q).toNat : Int)) (congrArg _ (flip8_bits _ _)) ?_
    refine RL.indexAddr (k := j) T_ok rfl rfl rfl rfl rfl rfl rfl hjl rfl ?_
    refine RL.eqv (v' := .pointer (some ⟨g, j, none⟩)) (congrArg _ (by rw [add_block]; simp)) ?_
    refine RL.store T_ok hB4 (i := j) (v := .int .u8 ((flip8 l[j] q).toNat : Int)) hcj rfl rfl rfl rfl rfl rfl ?_
    intro m6 hC6
    have hE : Ext m [] m6 := by
      have h9 := (((hE1.trans hE2 (by simp)).trans hE3 (by simp)).trans hN4.1 (by simp))
      exact h9.trans hC6.ext (fun k hk => .inr (by have := hN4.ge k (by simpa using hk); have := ((hE1.trans hE2 (by simp)).trans hE3 (by simp)).size; omega))
    have hO6 := hput m6 _ hC6
    rw [u8s_set] at hO6
    have hS6 : Bs m6 [] _ (l.set j (flip8 l[j] q)) := Own.sl hO6 (by simp)
    have hne := crc_set l j hjl (flip8 l[j] q) (flip8_ne _ _ hb8)
    refine RL.nil ?_; repeat (first | with_reducible refine QN.block_normal ?_ | with_reducible refine QN.next ?_); repeat (first | with_reducible refine WP.seq ?_ | with_reducible refine WP.block ?_ | with_reducible refine WP.region ?_)
    refine RL.auto T_ok rfl ?_
    refine RL.call (fi := []) (ca := []) rfl rfl rfl rfl (sum_c m6 [] _ _ hS6 (by simp; omega)) ?_
    rintro _ m7 ⟨rfl, hE7⟩
    refine ⟨_, rfl, ?_⟩
    refine RL.pure T_ok 2 rfl ?_
    refine RL.eqv (v' := .bool true) (congrArg _ (v32_ne hne)) ?_
    refine RL.auto T_ok rfl ?_
    refine RL.nil ?_; repeat (first | with_reducible refine QN.block_normal ?_ | with_reducible refine QN.next ?_); repeat (first | with_reducible refine WP.seq ?_ | with_reducible refine WP.block ?_ | with_reducible refine WP.region ?_)
    refine WP.ret ?_; repeat (first | with_reducible refine QN.then_ret ?_ | with_reducible refine QN.block_ret ?_)
    exact QN.ret1 rfl rfl ⟨_, rfl, rfl, hE.trans hE7 (by simp)⟩
end Go.Proofs.Ytaogoblckkmkgaa
