/- The reference's Reader: the other readings. -/
import Derived.Test.YtaogoblckkmkgaaWireF
namespace Go.Proofs.Ytaogoblckkmkgaa
open Go.RowKit Go.Ev

theorem gR_u64 (e : Int) (l : List UInt8) : (gR 0 e l (rdU 18446744073709551615 0 0 l)).1 < 18446744073709551616 := by
  have := gR_lt 18446744073709551615 e l
  omega
theorem qint_c (m : World) (M : List Nat) (b : Nat) (l : List UInt8) (e : Int) (h : QAt m M b l e) (hbM : b ∈ M) :
    FnR Try.prog 31 [.pointer (some ⟨b, 0, none⟩)] m (QPost m M b (fun n : Int => .int .i64 n) (gRI (gR 0 e l (rdU 18446744073709551615 0 0 l)))) := by
  refine FnE.enter ⟨_, Try.func31, by kernel_rfl, by kernel_rfl⟩ Try.func31 rfl rfl ?_
  repeat (first | with_reducible refine WP.seq ?_ | with_reducible refine WP.block ?_ | with_reducible refine WP.region ?_)
  refine RL.auto T_ok rfl ?_
  refine RL.nil ?_; repeat (first | with_reducible refine QN.block_normal ?_ | with_reducible refine QN.next ?_); repeat (first | with_reducible refine WP.seq ?_ | with_reducible refine WP.block ?_ | with_reducible refine WP.region ?_)
  refine RL.auto T_ok rfl ?_
  refine RL.call (fi := []) (ca := []) rfl rfl rfl rfl (quint_c m M b l e h hbM 18446744073709551615) ?_
  rintro _ m1 ⟨rfl, hR, hE⟩
  refine ⟨_, rfl, ?_⟩
  have hlt := gR_u64 e l
  generalize gR 0 e l (rdU 18446744073709551615 0 0 l) = r at *
  obtain ⟨n, l', e'⟩ := r
  simp only at hlt hR
  refine RL.auto T_ok rfl ?_
  refine RL.nil ?_; repeat (first | with_reducible refine QN.block_normal ?_ | with_reducible refine QN.next ?_); repeat (first | with_reducible refine WP.seq ?_ | with_reducible refine WP.block ?_ | with_reducible refine WP.region ?_)
  by_cases hn : n % 2 = 1
  · refine RL.pure T_ok 3 rfl ?_
    refine RL.eqv (v' := .bool true) (congrArg _ (by
      show ((n : Int).tmod 2 == 1) = true
      rw [Int.tmod_eq_emod_of_nonneg (by omega)]; simp; omega)) ?_
    refine RL.auto T_ok rfl ?_
    refine RL.nil ?_; repeat (first | with_reducible refine QN.block_normal ?_ | with_reducible refine QN.next ?_); repeat (first | with_reducible refine WP.seq ?_ | with_reducible refine WP.block ?_ | with_reducible refine WP.region ?_)
    refine WP.condT rfl ?_
    repeat (first | with_reducible refine WP.seq ?_ | with_reducible refine WP.block ?_ | with_reducible refine WP.region ?_)
    refine RL.pure T_ok 5 rfl ?_
    refine RL.eqv (v' := .int .i64 (unzig n)) (congrArg _ ?_) ?_
    · show IntKind.i64.wrap (IntKind.i64.wrap (0 - IntKind.i64.wrap (IntKind.u64.wrap ((n : Int).tdiv 2))) - 1) = unzig n
      have h2 : (n : Int).tdiv 2 = ((n / 2 : Nat) : Int) := by rw [Int.tdiv_eq_ediv_of_nonneg (by omega)]; omega
      rw [h2, wrap_u64_in _ (by omega) (by omega), wrap_i64_in ((n / 2 : Nat) : Int) (by omega) (by omega), wrap_i64_in (0 - ((n / 2 : Nat) : Int)) (by omega) (by omega), wrap_i64_in _ (by omega) (by omega)]
      unfold unzig
      rw [if_neg (by omega)]; omega
    refine RL.auto T_ok rfl ?_
    refine RL.nil ?_; repeat (first | with_reducible refine QN.block_normal ?_ | with_reducible refine QN.next ?_); repeat (first | with_reducible refine WP.seq ?_ | with_reducible refine WP.block ?_ | with_reducible refine WP.region ?_)
    refine WP.ret ?_; repeat (first | with_reducible refine QN.then_ret ?_ | with_reducible refine QN.block_ret ?_)
    exact QN.ret1 rfl rfl ⟨_, rfl, rfl, hR, hE⟩
  · refine RL.pure T_ok 3 rfl ?_
    refine RL.eqv (v' := .bool false) (congrArg _ (by
      show ((n : Int).tmod 2 == 1) = false
      rw [Int.tmod_eq_emod_of_nonneg (by omega)]; simp; omega)) ?_
    refine RL.auto T_ok rfl ?_
    refine RL.nil ?_; repeat (first | with_reducible refine QN.block_normal ?_ | with_reducible refine QN.next ?_); repeat (first | with_reducible refine WP.seq ?_ | with_reducible refine WP.block ?_ | with_reducible refine WP.region ?_)
    refine WP.condF rfl ?_
    refine WP.skip ?_; repeat (first | with_reducible refine QN.block_normal ?_ | with_reducible refine QN.next ?_); repeat (first | with_reducible refine WP.seq ?_ | with_reducible refine WP.block ?_ | with_reducible refine WP.region ?_)
    refine RL.pure T_ok 3 rfl ?_
    refine RL.eqv (v' := .int .i64 (unzig n)) (congrArg _ ?_) ?_
    · show IntKind.i64.wrap (IntKind.u64.wrap ((n : Int).tdiv 2)) = unzig n
      have h2 : (n : Int).tdiv 2 = ((n / 2 : Nat) : Int) := by rw [Int.tdiv_eq_ediv_of_nonneg (by omega)]; omega
      rw [h2, wrap_u64_in _ (by omega) (by omega), wrap_i64_in _ (by omega) (by omega)]
      unfold unzig
      rw [if_pos (by omega)]
    refine RL.auto T_ok rfl ?_
    refine RL.nil ?_; repeat (first | with_reducible refine QN.block_normal ?_ | with_reducible refine QN.next ?_); repeat (first | with_reducible refine WP.seq ?_ | with_reducible refine WP.block ?_ | with_reducible refine WP.region ?_)
    refine WP.ret ?_; repeat (first | with_reducible refine QN.then_ret ?_ | with_reducible refine QN.block_ret ?_)
    exact QN.ret1 rfl rfl ⟨_, rfl, rfl, hR, hE⟩

/-- How a taking ends. -/
def TakeP (m : World) (M : List Nat) (b : Nat) (l : List UInt8) (e : Int) (n : Nat) (r : Value) (m' : World) : Prop :=
  Ext m [b] m' ∧ ((e = 0 ∧ n ≤ l.length ∧ Bs m' M r (l.take n) ∧ QAt m' M b (l.drop n) 0) ∨ (e = 0 ∧ l.length < n ∧ r = .slice none 0 0 ∧ QAt m' M b l 10) ∨ (e ≠ 0 ∧ r = .slice none 0 0 ∧ QAt m' M b l e))
theorem qtake_c (m : World) (M : List Nat) (b : Nat) (l : List UInt8) (e : Int) (h : QAt m M b l e) (hbM : b ∈ M) (n : Nat) :
    FnR Try.prog 54 [.pointer (some ⟨b, 0, none⟩), .int .i64 n] m (TakeP m M b l e n) := by
  obtain ⟨v, hB, hS⟩ := h
  obtain ⟨A, c, rfl, hlc, hcm⟩ := hS.shape
  refine FnE.enter ⟨_, Try.func54, by kernel_rfl, by kernel_rfl⟩ Try.func54 rfl rfl ?_
  repeat (first | with_reducible refine WP.seq ?_ | with_reducible refine WP.block ?_ | with_reducible refine WP.region ?_)
  refine RL.auto T_ok rfl ?_
  refine RL.nil ?_; repeat (first | with_reducible refine QN.block_normal ?_ | with_reducible refine QN.next ?_); repeat (first | with_reducible refine WP.seq ?_ | with_reducible refine WP.block ?_ | with_reducible refine WP.region ?_)
  refine RL.auto T_ok rfl ?_
  refine RL.load T_ok rfl rfl rfl (hB.cell 1 rfl) rfl ?_
  refine RL.pure T_ok 1 rfl ?_
  by_cases he : e = 0
  rotate_left
  · refine RL.eqv (v' := .bool false) (congrArg _ (by simp [he])) ?_
    refine RL.auto T_ok rfl ?_
    refine RL.nil ?_; repeat (first | with_reducible refine QN.block_normal ?_ | with_reducible refine QN.next ?_); repeat (first | with_reducible refine WP.seq ?_ | with_reducible refine WP.block ?_ | with_reducible refine WP.region ?_)
    refine WP.condF rfl ?_
    refine WP.skip ?_; repeat (first | with_reducible refine QN.block_normal ?_ | with_reducible refine QN.next ?_); repeat (first | with_reducible refine WP.seq ?_ | with_reducible refine WP.block ?_ | with_reducible refine WP.region ?_)
    refine RL.auto T_ok rfl ?_
    refine RL.load T_ok rfl rfl rfl (hB.cell 1 rfl) rfl ?_
    refine RL.pure T_ok 1 rfl ?_
    refine RL.eqv (v' := .bool true) (congrArg _ (by simp [he])) ?_
    refine RL.auto T_ok rfl ?_
    refine RL.nil ?_; repeat (first | with_reducible refine QN.block_normal ?_ | with_reducible refine QN.next ?_); repeat (first | with_reducible refine WP.seq ?_ | with_reducible refine WP.block ?_ | with_reducible refine WP.region ?_)
    refine WP.condT rfl ?_
    repeat (first | with_reducible refine WP.seq ?_ | with_reducible refine WP.block ?_ | with_reducible refine WP.region ?_)
    refine RL.auto T_ok rfl ?_
    refine RL.nil ?_; repeat (first | with_reducible refine QN.block_normal ?_ | with_reducible refine QN.next ?_); repeat (first | with_reducible refine WP.seq ?_ | with_reducible refine WP.block ?_ | with_reducible refine WP.region ?_)
    refine WP.ret ?_; repeat (first | with_reducible refine QN.then_ret ?_ | with_reducible refine QN.block_ret ?_)
    exact QN.ret1 rfl rfl ⟨_, rfl, Ext.refl _ _, .inr (.inr ⟨he, rfl, _, hB, hS⟩)⟩
  subst he
  refine RL.eqv (v' := .bool true) (congrArg _ (by simp)) ?_
  refine RL.auto T_ok rfl ?_
  refine RL.load T_ok rfl rfl rfl (hB.cell 0 rfl) rfl ?_
  refine RL.auto T_ok rfl ?_
  refine RL.nil ?_; repeat (first | with_reducible refine QN.block_normal ?_ | with_reducible refine QN.next ?_); repeat (first | with_reducible refine WP.seq ?_ | with_reducible refine WP.block ?_ | with_reducible refine WP.region ?_)
  refine WP.cond rfl (fun hc => ?_) (fun hc => ?_)
  · have hc : l.length < n := by have := of_decide_eq_true hc; omega
    repeat (first | with_reducible refine WP.seq ?_ | with_reducible refine WP.block ?_ | with_reducible refine WP.region ?_)
    refine RL.auto T_ok rfl ?_
    refine RL.store T_ok hB (i := 1) (v := .int .i64 10) (by simp) rfl rfl rfl rfl rfl rfl ?_
    intro m2 hC
    have hB2 : Blk m2 b 55 [.slice A l.length c, .int .i64 10] := hC.blk
    refine RL.nil ?_; repeat (first | with_reducible refine QN.block_normal ?_ | with_reducible refine QN.next ?_); repeat (first | with_reducible refine WP.seq ?_ | with_reducible refine WP.block ?_ | with_reducible refine WP.region ?_)
    refine RL.auto T_ok rfl ?_
    refine RL.load T_ok rfl rfl rfl (hB2.cell 1 rfl) rfl ?_
    refine RL.auto T_ok rfl ?_
    refine RL.nil ?_; repeat (first | with_reducible refine QN.block_normal ?_ | with_reducible refine QN.next ?_); repeat (first | with_reducible refine WP.seq ?_ | with_reducible refine WP.block ?_ | with_reducible refine WP.region ?_)
    refine WP.condT rfl ?_
    repeat (first | with_reducible refine WP.seq ?_ | with_reducible refine WP.block ?_ | with_reducible refine WP.region ?_)
    refine RL.auto T_ok rfl ?_
    refine RL.nil ?_; repeat (first | with_reducible refine QN.block_normal ?_ | with_reducible refine QN.next ?_); repeat (first | with_reducible refine WP.seq ?_ | with_reducible refine WP.block ?_ | with_reducible refine WP.region ?_)
    refine WP.ret ?_; repeat (first | with_reducible refine QN.then_ret ?_ | with_reducible refine QN.block_ret ?_)
    exact QN.ret1 rfl rfl ⟨_, rfl, hC.ext, .inr (.inl ⟨rfl, hc, rfl, _, hB2, Sl.ext hS (hC.ext.mono (by simp [hbM])) (fun _ hk => .inl hk) (by omega)⟩)⟩
  · have hc : n ≤ l.length := by have := of_decide_eq_false hc; omega
    refine WP.skip ?_; repeat (first | with_reducible refine QN.block_normal ?_ | with_reducible refine QN.next ?_); repeat (first | with_reducible refine WP.seq ?_ | with_reducible refine WP.block ?_ | with_reducible refine WP.region ?_)
    refine RL.auto T_ok rfl ?_
    refine RL.load T_ok rfl rfl rfl (hB.cell 1 rfl) rfl ?_
    refine RL.auto T_ok rfl ?_
    refine RL.nil ?_; repeat (first | with_reducible refine QN.block_normal ?_ | with_reducible refine QN.next ?_); repeat (first | with_reducible refine WP.seq ?_ | with_reducible refine WP.block ?_ | with_reducible refine WP.region ?_)
    refine WP.condF rfl ?_
    refine WP.skip ?_; repeat (first | with_reducible refine QN.block_normal ?_ | with_reducible refine QN.next ?_); repeat (first | with_reducible refine WP.seq ?_ | with_reducible refine WP.block ?_ | with_reducible refine WP.region ?_)
    refine RL.auto T_ok rfl ?_
    refine RL.load T_ok rfl rfl rfl (hB.cell 0 rfl) rfl ?_
    refine RL.auto T_ok rfl ?_
    refine RL.sliceTo (l := n) T_ok rfl rfl rfl rfl rfl (by omega) rfl ?_
    refine RL.auto T_ok rfl ?_
    refine RL.nil ?_; repeat (first | with_reducible refine QN.block_normal ?_ | with_reducible refine QN.next ?_); repeat (first | with_reducible refine WP.seq ?_ | with_reducible refine WP.block ?_ | with_reducible refine WP.region ?_)
    refine RL.auto T_ok rfl ?_
    refine RL.load T_ok rfl rfl rfl (hB.cell 0 rfl) rfl ?_
    refine RL.auto T_ok rfl ?_
    refine RL.sliceFrom (l := n) T_ok rfl rfl rfl rfl rfl hc rfl ?_
    refine RL.auto T_ok rfl ?_
    refine RL.store T_ok hB (i := 0) (by simp) rfl rfl rfl rfl rfl rfl ?_
    intro m1 hC
    have hE := hC.ext
    have h1 := Sl.upto hS (k := c) hc (by omega) (Nat.le_refl c)
    have h2 := Sl.from_ hS hc
    rw [show (u8s l).take (n * 1) = u8s (l.take n) by rw [Nat.mul_one, u8s_take]] at h1
    rw [show (u8s l).drop (n * 1) = u8s (l.drop n) by rw [Nat.mul_one, u8s_drop]] at h2
    have hEM : Ext m M m1 := hE.mono (by simp [hbM])
    refine RL.nil ?_; repeat (first | with_reducible refine QN.block_normal ?_ | with_reducible refine QN.next ?_); repeat (first | with_reducible refine WP.seq ?_ | with_reducible refine WP.block ?_ | with_reducible refine WP.region ?_)
    refine RL.auto T_ok rfl ?_
    refine RL.nil ?_; repeat (first | with_reducible refine QN.block_normal ?_ | with_reducible refine QN.next ?_); repeat (first | with_reducible refine WP.seq ?_ | with_reducible refine WP.block ?_ | with_reducible refine WP.region ?_)
    refine WP.ret ?_; repeat (first | with_reducible refine QN.then_ret ?_ | with_reducible refine QN.block_ret ?_)
    refine QN.ret1 rfl rfl ⟨_, rfl, hE, .inl ⟨rfl, hc, Sl.ext h1 hEM (fun _ hk => .inl hk) (by omega), ⟨_, hC.blk, Sl.ext h2 hEM (fun _ hk => .inl hk) (by omega)⟩⟩⟩
theorem qbyte_c (m : World) (M : List Nat) (b : Nat) (l : List UInt8) (e : Int) (h : QAt m M b l e) (hbM : b ∈ M) :
    FnR Try.prog 33 [.pointer (some ⟨b, 0, none⟩)] m (QPost m M b (fun n : UInt8 => .int .u8 n.toNat) (gR 0 e l (rdByte l))) := by
  refine FnE.enter ⟨_, Try.func33, by kernel_rfl, by kernel_rfl⟩ Try.func33 rfl rfl ?_
  repeat (first | with_reducible refine WP.seq ?_ | with_reducible refine WP.block ?_ | with_reducible refine WP.region ?_)
  refine RL.auto T_ok rfl ?_
  refine RL.nil ?_; repeat (first | with_reducible refine QN.block_normal ?_ | with_reducible refine QN.next ?_); repeat (first | with_reducible refine WP.seq ?_ | with_reducible refine WP.block ?_ | with_reducible refine WP.region ?_)
  refine RL.auto T_ok rfl ?_
  refine RL.call (fi := []) (ca := []) rfl rfl rfl rfl (qtake_c m M b l e h hbM 1) ?_
  rintro r m1 ⟨hE, ⟨rfl, hn, hB, hQ⟩ | ⟨rfl, hn, rfl, hQ⟩ | ⟨he, rfl, hQ⟩⟩
  · match l, hn with
    | x :: l2, _ =>
    have hB : Bs m1 M r [x] := hB
    obtain ⟨A, c, rfl, _, _⟩ := hB.shape
    refine ⟨_, rfl, ?_⟩
    refine RL.auto T_ok rfl ?_
    refine RL.nil ?_; repeat (first | with_reducible refine QN.block_normal ?_ | with_reducible refine QN.next ?_); repeat (first | with_reducible refine WP.seq ?_ | with_reducible refine WP.block ?_ | with_reducible refine WP.region ?_)
    refine RL.auto T_ok rfl ?_
    refine RL.nil ?_; repeat (first | with_reducible refine QN.block_normal ?_ | with_reducible refine QN.next ?_); repeat (first | with_reducible refine WP.seq ?_ | with_reducible refine WP.block ?_ | with_reducible refine WP.region ?_)
    refine WP.condF rfl ?_
    refine WP.skip ?_; repeat (first | with_reducible refine QN.block_normal ?_ | with_reducible refine QN.next ?_); repeat (first | with_reducible refine WP.seq ?_ | with_reducible refine WP.block ?_ | with_reducible refine WP.region ?_)
    refine RL.auto T_ok rfl ?_
    refine RL.index T_ok hB (k := 0) rfl (by simp) rfl rfl rfl rfl (fun ad _ _ hcell => ⟨_, rfl, ?_⟩)
    have hx := hcell 0 (.int .u8 x.toNat) rfl
    refine RL.load T_ok rfl rfl rfl (by rw [add_add] at hx; exact hx) rfl ?_
    refine RL.auto T_ok rfl ?_
    refine RL.nil ?_; repeat (first | with_reducible refine QN.block_normal ?_ | with_reducible refine QN.next ?_); repeat (first | with_reducible refine WP.seq ?_ | with_reducible refine WP.block ?_ | with_reducible refine WP.region ?_)
    refine WP.ret ?_; repeat (first | with_reducible refine QN.then_ret ?_ | with_reducible refine QN.block_ret ?_)
    exact QN.ret1 rfl rfl ⟨_, rfl, rfl, hQ, hE⟩
  · have h0 : l = [] := List.eq_nil_of_length_eq_zero (by omega)
    subst h0
    refine ⟨_, rfl, ?_⟩
    refine RL.auto T_ok rfl ?_
    refine RL.nil ?_; repeat (first | with_reducible refine QN.block_normal ?_ | with_reducible refine QN.next ?_); repeat (first | with_reducible refine WP.seq ?_ | with_reducible refine WP.block ?_ | with_reducible refine WP.region ?_)
    refine RL.auto T_ok rfl ?_
    refine RL.nil ?_; repeat (first | with_reducible refine QN.block_normal ?_ | with_reducible refine QN.next ?_); repeat (first | with_reducible refine WP.seq ?_ | with_reducible refine WP.block ?_ | with_reducible refine WP.region ?_)
    refine WP.condT rfl ?_
    repeat (first | with_reducible refine WP.seq ?_ | with_reducible refine WP.block ?_ | with_reducible refine WP.region ?_)
    refine RL.auto T_ok rfl ?_
    refine RL.nil ?_; repeat (first | with_reducible refine QN.block_normal ?_ | with_reducible refine QN.next ?_); repeat (first | with_reducible refine WP.seq ?_ | with_reducible refine WP.block ?_ | with_reducible refine WP.region ?_)
    refine WP.ret ?_; repeat (first | with_reducible refine QN.then_ret ?_ | with_reducible refine QN.block_ret ?_)
    exact QN.ret1 rfl rfl ⟨_, rfl, rfl, hQ, hE⟩
  · refine ⟨_, rfl, ?_⟩
    refine RL.auto T_ok rfl ?_
    refine RL.nil ?_; repeat (first | with_reducible refine QN.block_normal ?_ | with_reducible refine QN.next ?_); repeat (first | with_reducible refine WP.seq ?_ | with_reducible refine WP.block ?_ | with_reducible refine WP.region ?_)
    refine RL.auto T_ok rfl ?_
    refine RL.nil ?_; repeat (first | with_reducible refine QN.block_normal ?_ | with_reducible refine QN.next ?_); repeat (first | with_reducible refine WP.seq ?_ | with_reducible refine WP.block ?_ | with_reducible refine WP.region ?_)
    refine WP.condT rfl ?_
    repeat (first | with_reducible refine WP.seq ?_ | with_reducible refine WP.block ?_ | with_reducible refine WP.region ?_)
    refine RL.auto T_ok rfl ?_
    refine RL.nil ?_; repeat (first | with_reducible refine QN.block_normal ?_ | with_reducible refine QN.next ?_); repeat (first | with_reducible refine WP.seq ?_ | with_reducible refine WP.block ?_ | with_reducible refine WP.region ?_)
    refine WP.ret ?_; repeat (first | with_reducible refine QN.then_ret ?_ | with_reducible refine QN.block_ret ?_)
    refine QN.ret1 rfl rfl ⟨_, rfl, ?_⟩
    rw [gR_off he]
    exact ⟨rfl, hQ, hE⟩
theorem qfixed_c (m : World) (M : List Nat) (b : Nat) (l : List UInt8) (e : Int) (h : QAt m M b l e) (hbM : b ∈ M) :
    FnR Try.prog 35 [.pointer (some ⟨b, 0, none⟩)] m (QPost m M b (fun n : Nat => .int .u64 n) (gR 0 e l (rdFixed l))) := by
  refine FnE.enter ⟨_, Try.func35, by kernel_rfl, by kernel_rfl⟩ Try.func35 rfl rfl ?_
  repeat (first | with_reducible refine WP.seq ?_ | with_reducible refine WP.block ?_ | with_reducible refine WP.region ?_)
  refine RL.auto T_ok rfl ?_
  refine RL.nil ?_; repeat (first | with_reducible refine QN.block_normal ?_ | with_reducible refine QN.next ?_); repeat (first | with_reducible refine WP.seq ?_ | with_reducible refine WP.block ?_ | with_reducible refine WP.region ?_)
  refine RL.auto T_ok rfl ?_
  refine RL.nil ?_; repeat (first | with_reducible refine QN.block_normal ?_ | with_reducible refine QN.next ?_); repeat (first | with_reducible refine WP.seq ?_ | with_reducible refine WP.block ?_ | with_reducible refine WP.region ?_)
  refine RL.auto T_ok rfl ?_
  refine RL.call (fi := []) (ca := []) rfl rfl rfl rfl (qtake_c m M b l e h hbM 8) ?_
  intro r m1 hT
  obtain ⟨t, ht8, hB, hpost⟩ : ∃ t, t.length ≤ 8 ∧ Bs m1 M r t ∧ QPost m M b (fun n : Nat => .int .u64 n) (gR 0 e l (rdFixed l)) (.int .u64 (be 0 t : Nat)) m1 := by
    obtain ⟨hE, ⟨rfl, hn, hB, hQ⟩ | ⟨rfl, hn, rfl, hQ⟩ | ⟨he, rfl, hQ⟩⟩ := hT
    · refine ⟨l.take 8, by simp; omega, hB, ?_⟩
      rw [gR_ok (a := be 0 (l.take 8)) (l' := l.drop 8) (by unfold rdFixed; rw [if_pos hn])]
      exact ⟨rfl, hQ, hE⟩
    · refine ⟨[], by simp, Sl.nil _ _ _, ?_⟩
      rw [gR_err (k := 10) (by unfold rdFixed; rw [if_neg (by omega)])]
      exact ⟨rfl, hQ, hE⟩
    · refine ⟨[], by simp, Sl.nil _ _ _, ?_⟩
      rw [gR_off he]
      exact ⟨rfl, hQ, hE⟩
  clear hT
  obtain ⟨A, c, rfl, _, _⟩ := hB.shape
  refine ⟨_, rfl, ?_⟩
  refine RL.auto T_ok rfl ?_
  refine RL.nil ?_; repeat (first | with_reducible refine QN.block_normal ?_ | with_reducible refine QN.next ?_); repeat (first | with_reducible refine WP.seq ?_ | with_reducible refine WP.block ?_ | with_reducible refine WP.region ?_)
  refine RL.auto T_ok rfl ?_
  refine RL.nil ?_; repeat (first | with_reducible refine QN.block_normal ?_ | with_reducible refine QN.next ?_); repeat (first | with_reducible refine WP.seq ?_ | with_reducible refine WP.block ?_ | with_reducible refine WP.region ?_)
  refine WP.loop (X := Nat) (fun k => [(3, .int .u64 (be 0 (t.take k) : Nat)), (4, .slice A t.length c), (5, .int .i64 k)])
    (fun k m' => k ≤ t.length ∧ m' = m1) (fun k => t.length - k) 0
    (Sub.cons rfl (Sub.cons rfl (Sub.cons rfl Sub.nil))) ⟨by simp, rfl⟩ ?_
  rintro k m3 ⟨hk, rfl⟩
  repeat (first | with_reducible refine WP.seq ?_ | with_reducible refine WP.block ?_ | with_reducible refine WP.region ?_)
  refine RL.auto T_ok rfl ?_
  refine RL.nil ?_; repeat (first | with_reducible refine QN.block_normal ?_ | with_reducible refine QN.next ?_); repeat (first | with_reducible refine WP.seq ?_ | with_reducible refine WP.block ?_ | with_reducible refine WP.region ?_)
  refine WP.cond rfl (fun hc => ?_) (fun hc => ?_)
  · have hc : k < t.length := by have := of_decide_eq_true hc; omega
    have hlt : be 0 (t.take k) < 256 ^ 7 := by
      have h1 := be_lt (t.take k) 0
      have h2 : (t.take k).length ≤ 7 := by simp; omega
      have : 256 ^ (t.take k).length ≤ 256 ^ 7 := Nat.pow_le_pow_right (by omega) h2
      omega
    have hsn : be 0 (t.take (k + 1)) = be 0 (t.take k) * 256 + (t[k]'(by omega)).toNat := by
      rw [List.take_succ_eq_append_getElem (by omega), be_snoc]
    refine WP.skip ?_; repeat (first | with_reducible refine QN.block_normal ?_ | with_reducible refine QN.next ?_); repeat (first | with_reducible refine WP.seq ?_ | with_reducible refine WP.block ?_ | with_reducible refine WP.region ?_)
    refine RL.auto T_ok rfl ?_
    refine RL.byteAt T_ok hB (k := k) rfl (by omega) rfl rfl rfl rfl rfl rfl (fun p => ?_)
    refine RL.pure T_ok 2 rfl ?_
    refine RL.eqv (v' := .int .u64 (be 0 (t.take (k + 1)) : Nat)) (congrArg _ ((shl8_or _ _ hlt).trans (by rw [hsn]))) ?_
    refine RL.auto T_ok rfl ?_
    refine RL.nil ?_; repeat (first | with_reducible refine QN.block_normal ?_ | with_reducible refine QN.next ?_); repeat (first | with_reducible refine WP.seq ?_ | with_reducible refine WP.block ?_ | with_reducible refine WP.region ?_)
    refine RL.auto T_ok rfl ?_
    refine RL.nil (QN.round (k + 1) ?_ ⟨by omega, rfl⟩ (by omega))
    refine Sub.cons rfl (Sub.cons rfl (Sub.cons ?_ Sub.nil))
    show some (Value.int .i64 (IntKind.i64.wrap ((k : Int) + 1))) = some (Value.int .i64 ((k + 1 : Nat) : Int))
    rw [wrap_i64_in _ (by omega) (by omega)]; rfl
  · have hc : k = t.length := by have := of_decide_eq_false hc; omega
    subst hc
    rw [List.take_length]
    refine WP.exit ?_; repeat (first | with_reducible refine QN.then_exit ?_ | with_reducible refine QN.block_exit ?_ | with_reducible refine QN.block_far rfl ?_ | with_reducible refine QN.block_normal ?_ | with_reducible refine QN.next ?_); repeat (first | with_reducible refine WP.seq ?_ | with_reducible refine WP.block ?_ | with_reducible refine WP.region ?_)
    refine RL.auto T_ok rfl ?_
    refine RL.nil ?_; repeat (first | with_reducible refine QN.block_normal ?_ | with_reducible refine QN.next ?_); repeat (first | with_reducible refine WP.seq ?_ | with_reducible refine WP.block ?_ | with_reducible refine WP.region ?_)
    refine WP.ret ?_; repeat (first | with_reducible refine QN.then_ret ?_ | with_reducible refine QN.block_ret ?_)
    exact QN.ret1 rfl rfl ⟨_, rfl, hpost⟩
theorem qtext_c (m : World) (M : List Nat) (b : Nat) (l : List UInt8) (e : Int) (h : QAt m M b l e) (hbM : b ∈ M) (most : Int) (hm1 : -9223372036854775808 ≤ most) (hm2 : most ≤ 9223372036854775807) :
    FnR Try.prog 37 [.pointer (some ⟨b, 0, none⟩), .int .i64 most] m (QPost m M b (fun s : List UInt8 => .string (str s)) (gR [] e l (rdText most.toNat l))) := by
  have hQ0 := h
  obtain ⟨v, hB, hS⟩ := h
  obtain ⟨A, c, rfl, hlc, hcm⟩ := hS.shape
  have hlm : l.length ≤ 9223372036854775807 := by unfold maxLen at hcm; omega
  refine FnE.enter ⟨_, Try.func37, by kernel_rfl, by kernel_rfl⟩ Try.func37 rfl rfl ?_
  repeat (first | with_reducible refine WP.seq ?_ | with_reducible refine WP.block ?_ | with_reducible refine WP.region ?_)
  refine RL.auto T_ok rfl ?_
  refine RL.nil ?_; repeat (first | with_reducible refine QN.block_normal ?_ | with_reducible refine QN.next ?_); repeat (first | with_reducible refine WP.seq ?_ | with_reducible refine WP.block ?_ | with_reducible refine WP.region ?_)
  refine RL.auto T_ok rfl ?_
  refine RL.load T_ok rfl rfl rfl (hB.cell 0 rfl) rfl ?_
  refine RL.auto T_ok rfl ?_
  refine RL.nil ?_; repeat (first | with_reducible refine QN.block_normal ?_ | with_reducible refine QN.next ?_); repeat (first | with_reducible refine WP.seq ?_ | with_reducible refine WP.block ?_ | with_reducible refine WP.region ?_)
  refine RL.pure T_ok 4 rfl ?_
  refine RL.eqv (v' := .int .u64 ((most.toNat : Nat) : Int)) (congrArg _ ?_) ?_
  · refine Eq.trans ?_ (max_zero most hm1 hm2)
    congr 1
  refine RL.call (fi := []) (ca := []) rfl rfl rfl rfl (quint_c m M b l e hQ0 hbM most.toNat) ?_
  rintro _ m1 ⟨rfl, hR1, hE1⟩
  refine ⟨_, rfl, ?_⟩
  have hS1 := Sl.ext hS (hE1.mono (M' := M) (by simp [hbM])) (fun _ hk => .inl hk) (by omega)
  by_cases he : e = 0
  rotate_left
  · rw [gR_off he] at hR1 ⊢
    simp only at hR1
    have hR1' := hR1
    obtain ⟨v1, hB1, _⟩ := hR1
    refine RL.auto T_ok rfl ?_
    refine RL.nil ?_; repeat (first | with_reducible refine QN.block_normal ?_ | with_reducible refine QN.next ?_); repeat (first | with_reducible refine WP.seq ?_ | with_reducible refine WP.block ?_ | with_reducible refine WP.region ?_)
    refine RL.auto T_ok rfl ?_
    refine RL.load T_ok rfl rfl rfl (hB1.cell 1 rfl) rfl ?_
    refine RL.pure T_ok 1 rfl ?_
    refine RL.eqv (v' := .bool true) (congrArg _ (by simp [he])) ?_
    refine RL.auto T_ok rfl ?_
    refine RL.nil ?_; repeat (first | with_reducible refine QN.block_normal ?_ | with_reducible refine QN.next ?_); repeat (first | with_reducible refine WP.seq ?_ | with_reducible refine WP.block ?_ | with_reducible refine WP.region ?_)
    refine WP.condT rfl ?_
    repeat (first | with_reducible refine WP.seq ?_ | with_reducible refine WP.block ?_ | with_reducible refine WP.region ?_)
    refine RL.auto T_ok rfl ?_
    refine RL.nil ?_; repeat (first | with_reducible refine QN.block_normal ?_ | with_reducible refine QN.next ?_); repeat (first | with_reducible refine WP.seq ?_ | with_reducible refine WP.block ?_ | with_reducible refine WP.region ?_)
    refine WP.ret ?_; repeat (first | with_reducible refine QN.then_ret ?_ | with_reducible refine QN.block_ret ?_)
    exact QN.ret1 rfl rfl ⟨_, rfl, rfl, hR1', hE1⟩
  subst he
  cases hr : rdU most.toNat 0 0 l with
  | error k =>
    have hk := rdU_err _ _ _ _ _ hr
    rw [hr, gR_err rfl] at hR1
    rw [gR_err rfl]
    simp only at hR1
    have hR1' := hR1
    obtain ⟨v1, hB1, _⟩ := hR1
    refine RL.auto T_ok rfl ?_
    refine RL.nil ?_; repeat (first | with_reducible refine QN.block_normal ?_ | with_reducible refine QN.next ?_); repeat (first | with_reducible refine WP.seq ?_ | with_reducible refine WP.block ?_ | with_reducible refine WP.region ?_)
    refine RL.auto T_ok rfl ?_
    refine RL.load T_ok rfl rfl rfl (hB1.cell 1 rfl) rfl ?_
    refine RL.pure T_ok 1 rfl ?_
    refine RL.eqv (v' := .bool true) (congrArg _ (by simp; omega)) ?_
    refine RL.auto T_ok rfl ?_
    refine RL.nil ?_; repeat (first | with_reducible refine QN.block_normal ?_ | with_reducible refine QN.next ?_); repeat (first | with_reducible refine WP.seq ?_ | with_reducible refine WP.block ?_ | with_reducible refine WP.region ?_)
    refine WP.condT rfl ?_
    repeat (first | with_reducible refine WP.seq ?_ | with_reducible refine WP.block ?_ | with_reducible refine WP.region ?_)
    refine RL.auto T_ok rfl ?_
    refine RL.nil ?_; repeat (first | with_reducible refine QN.block_normal ?_ | with_reducible refine QN.next ?_); repeat (first | with_reducible refine WP.seq ?_ | with_reducible refine WP.block ?_ | with_reducible refine WP.region ?_)
    refine WP.ret ?_; repeat (first | with_reducible refine QN.then_ret ?_ | with_reducible refine QN.block_ret ?_)
    refine QN.ret1 rfl rfl ⟨_, rfl, ?_⟩
    rw [gR_err (k := k) (by unfold rdText; rw [hr])]
    exact ⟨rfl, hR1', hE1⟩
  | ok p =>
    obtain ⟨n, l'⟩ := p
    have hn := rdU_most _ _ _ _ _ _ hr
    rw [hr, gR_ok rfl] at hR1
    rw [gR_ok rfl]
    simp only at hR1
    have hR1' := hR1
    obtain ⟨v1, hB1, _⟩ := hR1
    refine RL.auto T_ok rfl ?_
    refine RL.nil ?_; repeat (first | with_reducible refine QN.block_normal ?_ | with_reducible refine QN.next ?_); repeat (first | with_reducible refine WP.seq ?_ | with_reducible refine WP.block ?_ | with_reducible refine WP.region ?_)
    refine RL.auto T_ok rfl ?_
    refine RL.load T_ok rfl rfl rfl (hB1.cell 1 rfl) rfl ?_
    refine RL.auto T_ok rfl ?_
    refine RL.nil ?_; repeat (first | with_reducible refine QN.block_normal ?_ | with_reducible refine QN.next ?_); repeat (first | with_reducible refine WP.seq ?_ | with_reducible refine WP.block ?_ | with_reducible refine WP.region ?_)
    refine WP.condF rfl ?_
    refine WP.skip ?_; repeat (first | with_reducible refine QN.block_normal ?_ | with_reducible refine QN.next ?_); repeat (first | with_reducible refine WP.seq ?_ | with_reducible refine WP.block ?_ | with_reducible refine WP.region ?_)
    refine RL.pure T_ok 3 rfl ?_
    refine RL.eqv (v' := .int .i64 (n : Int)) (congrArg _ (wrap_i64_in _ (by omega) (by omega))) ?_
    refine RL.call (fi := []) (ca := []) rfl rfl rfl rfl (qtake_c m1 M b l' 0 hR1' hbM n) ?_
    rintro r m2 ⟨hE2, ⟨_, hnl, hB, hQ⟩ | ⟨_, hnl, rfl, hQ⟩ | ⟨h9, _⟩⟩
    · obtain ⟨A', c', rfl, _, _⟩ := hB.shape
      refine ⟨_, rfl, ?_⟩
      refine RL.bytesString T_ok hB rfl rfl rfl rfl rfl rfl ?_
      have hQ' := hQ
      obtain ⟨v2, hB2, _⟩ := hQ
      refine RL.auto T_ok rfl ?_
      refine RL.nil ?_; repeat (first | with_reducible refine QN.block_normal ?_ | with_reducible refine QN.next ?_); repeat (first | with_reducible refine WP.seq ?_ | with_reducible refine WP.block ?_ | with_reducible refine WP.region ?_)
      refine RL.auto T_ok rfl ?_
      refine RL.load T_ok rfl rfl rfl (hB2.cell 1 rfl) rfl ?_
      refine RL.auto T_ok rfl ?_
      refine RL.nil ?_; repeat (first | with_reducible refine QN.block_normal ?_ | with_reducible refine QN.next ?_); repeat (first | with_reducible refine WP.seq ?_ | with_reducible refine WP.block ?_ | with_reducible refine WP.region ?_)
      refine WP.condF rfl ?_
      refine WP.skip ?_; repeat (first | with_reducible refine QN.block_normal ?_ | with_reducible refine QN.next ?_); repeat (first | with_reducible refine WP.seq ?_ | with_reducible refine WP.block ?_ | with_reducible refine WP.region ?_)
      refine RL.auto T_ok rfl ?_
      refine RL.nil ?_; repeat (first | with_reducible refine QN.block_normal ?_ | with_reducible refine QN.next ?_); repeat (first | with_reducible refine WP.seq ?_ | with_reducible refine WP.block ?_ | with_reducible refine WP.region ?_)
      refine WP.ret ?_; repeat (first | with_reducible refine QN.then_ret ?_ | with_reducible refine QN.block_ret ?_)
      refine QN.ret1 rfl rfl ⟨_, rfl, ?_⟩
      rw [gR_ok (a := l'.take n) (l' := l'.drop n) (by unfold rdText; rw [hr]; simp only; rw [if_pos hnl])]
      exact ⟨rfl, hQ', hE1.trans hE2 (fun _ hk => .inl hk)⟩
    · refine ⟨_, rfl, ?_⟩
      refine RL.bytesString T_ok (l := []) (Sl.nil m2 M 1) rfl rfl rfl rfl rfl rfl ?_
      obtain ⟨v2, hB2, _⟩ := hQ
      refine RL.auto T_ok rfl ?_
      refine RL.nil ?_; repeat (first | with_reducible refine QN.block_normal ?_ | with_reducible refine QN.next ?_); repeat (first | with_reducible refine WP.seq ?_ | with_reducible refine WP.block ?_ | with_reducible refine WP.region ?_)
      refine RL.auto T_ok rfl ?_
      refine RL.load T_ok rfl rfl rfl (hB2.cell 1 rfl) rfl ?_
      refine RL.auto T_ok rfl ?_
      refine RL.nil ?_; repeat (first | with_reducible refine QN.block_normal ?_ | with_reducible refine QN.next ?_); repeat (first | with_reducible refine WP.seq ?_ | with_reducible refine WP.block ?_ | with_reducible refine WP.region ?_)
      refine WP.condT rfl ?_
      refine WP.region ?_
      refine RL.auto T_ok rfl ?_
      refine RL.store T_ok hB2 (i := 0) (v := .slice A l.length c) (by simp) rfl rfl rfl rfl rfl rfl ?_
      intro m3 hC
      refine RL.nil ?_; repeat (first | with_reducible refine QN.block_normal ?_ | with_reducible refine QN.next ?_); repeat (first | with_reducible refine WP.seq ?_ | with_reducible refine WP.block ?_ | with_reducible refine WP.region ?_)
      refine RL.auto T_ok rfl ?_
      refine RL.nil ?_; repeat (first | with_reducible refine QN.block_normal ?_ | with_reducible refine QN.next ?_); repeat (first | with_reducible refine WP.seq ?_ | with_reducible refine WP.block ?_ | with_reducible refine WP.region ?_)
      refine WP.ret ?_; repeat (first | with_reducible refine QN.then_ret ?_ | with_reducible refine QN.block_ret ?_)
      refine QN.ret1 rfl rfl ⟨_, rfl, ?_⟩
      rw [gR_err (k := 10) (by unfold rdText; rw [hr]; simp only; rw [if_neg (by omega)])]
      have hE13 := hE2.trans hC.ext (M := [b]) (fun _ hk => .inl hk)
      exact ⟨rfl, ⟨_, hC.blk, Sl.ext hS1 (hE13.mono (by simp [hbM])) (fun _ hk => .inl hk) (by omega)⟩, hE1.trans hE13 (fun _ hk => .inl hk)⟩
    · exact absurd rfl h9
end Go.Proofs.Ytaogoblckkmkgaa
