/- A light script's size; bytes spoilt; a script written both ways. -/
import Derived.Test.YtaogoblckkmkgaaWireJ
import Derived.Test.YtaogoblckkmkgaaSteps
import Derived.Test.YtaogoblckkmkgaaWireA
namespace Go.Proofs.Ytaogoblckkmkgaa
open Go.RowKit Go.Ev

def tot (l : List Stp) : Nat := (l.map fun x => 1 + x.s.length).sum
theorem tot_take (l : List Stp) (k : Nat) (h : k < l.length) : tot (l.take (k + 1)) = tot (l.take k) + (1 + l[k].s.length) := by
  unfold tot
  rw [List.take_succ_eq_append_getElem h, List.map_append, List.sum_append]; simp
theorem tot_le (l : List Stp) (k : Nat) : tot (l.take k) ≤ tot l := by
  unfold tot
  conv => rhs; rw [← List.take_append_drop k l, List.map_append, List.sum_append]
  exact Nat.le_add_right _ _
theorem tot_mem {l : List Stp} {k : Nat} (h : k < l.length) : 1 + l[k].s.length ≤ tot l := by
  have h1 := tot_take l k h
  have h2 := tot_le l (k + 1)
  omega
theorem light2_c (m : World) (M : List Nat) (v : Value) (l : List Stp) (h : Sts m M v l) (hb : ∀ x ∈ l, x.s.length ≤ reachBytes) :
    FnR Try.prog 27 [v] m fun r m' => (∃ q, r = .bool q ∧ (q = true → tot l ≤ 20000)) ∧ m' = m := by
  obtain ⟨A, c, rfl, hlc, hcm⟩ := h.shape
  have hmx : l.length ≤ 9223372036854775807 := by unfold maxLen at hcm; omega
  have hrb : reachBytes = 140737488351232 := rfl
  refine FnE.enter ⟨_, Try.func27, by kernel_rfl, by kernel_rfl⟩ Try.func27 rfl rfl ?_
  repeat (first | with_reducible refine WP.seq ?_ | with_reducible refine WP.block ?_ | with_reducible refine WP.region ?_)
  refine RL.auto T_ok rfl ?_
  refine RL.nil ?_; repeat (first | with_reducible refine QN.block_normal ?_ | with_reducible refine QN.next ?_); repeat (first | with_reducible refine WP.seq ?_ | with_reducible refine WP.block ?_ | with_reducible refine WP.region ?_)
  refine RL.auto T_ok rfl ?_
  refine RL.nil ?_; repeat (first | with_reducible refine QN.block_normal ?_ | with_reducible refine QN.next ?_); repeat (first | with_reducible refine WP.seq ?_ | with_reducible refine WP.block ?_ | with_reducible refine WP.region ?_)
  refine RL.auto T_ok rfl ?_
  refine RL.nil ?_; repeat (first | with_reducible refine QN.block_normal ?_ | with_reducible refine QN.next ?_); repeat (first | with_reducible refine WP.seq ?_ | with_reducible refine WP.block ?_ | with_reducible refine WP.region ?_)
  refine WP.loop (X := Nat) (fun x => [(0, .slice A l.length c), (3, .int .i64 (tot (l.take x))), (4, .int .i64 x)])
    (fun x m' => x ≤ l.length ∧ tot (l.take x) ≤ 140737488400000 ∧ m' = m) (fun x => l.length - x) 0
    (Sub.cons rfl (Sub.cons rfl (Sub.cons rfl Sub.nil))) ⟨by simp, by simp [tot], rfl⟩ ?_
  rintro k m5 ⟨hk, hn, rfl⟩
  repeat (first | with_reducible refine WP.seq ?_ | with_reducible refine WP.block ?_ | with_reducible refine WP.region ?_)
  by_cases hc : k < l.length
  · have hl := hb l[k] (List.getElem_mem hc)
    have ht := tot_take l k hc
    by_cases hn : tot (l.take k) ≤ 20000
    · refine RL.pure T_ok 4 rfl ?_
      refine RL.eqv (v' := .bool true) (congrArg _ (decide_eq_true (by omega))) ?_
      refine RL.pure T_ok 3 rfl ?_
      refine RL.eqv (v' := .bool true) (congrArg _ (decide_eq_true (by omega))) ?_
      refine RL.auto T_ok rfl ?_
      refine RL.nil ?_; repeat (first | with_reducible refine QN.block_normal ?_ | with_reducible refine QN.next ?_); repeat (first | with_reducible refine WP.seq ?_ | with_reducible refine WP.block ?_ | with_reducible refine WP.region ?_)
      refine WP.cond rfl (fun _ => ?_) (fun hh => by cases hh)
      refine WP.skip ?_; repeat (first | with_reducible refine QN.block_normal ?_ | with_reducible refine QN.next ?_); repeat (first | with_reducible refine WP.seq ?_ | with_reducible refine WP.block ?_ | with_reducible refine WP.region ?_)
      refine RL.pure T_ok 2 rfl ?_
      refine RL.eqv (v' := .int .i64 ((tot (l.take k) + 1 : Nat) : Int)) (congrArg _ (by rw [wrap_i64_in _ (by omega) (by omega)]; rfl)) ?_
      refine RL.auto T_ok rfl ?_
      refine RL.index T_ok (show Sl m5 M 3 _ _ from h) (k := k) rfl hc rfl rfl rfl rfl (fun ad _ _ hcell => ⟨_, rfl, ?_⟩)
      have h3 := hcell 2 (.string (str l[k].s)) (stC_get l k hc 2 (by omega))
      have hsz : (str l[k].s).size = l[k].s.length := by show l[k].s.toArray.size = _; simp
      refine RL.auto T_ok rfl ?_
      refine RL.load T_ok rfl rfl rfl (h3) rfl ?_
      refine RL.pure T_ok 2 rfl ?_
      refine RL.eqv (v' := .int .i64 ((tot (l.take (k + 1)) : Nat) : Int)) (congrArg _ (by
        show IntKind.i64.wrap (((tot (l.take k) + 1 : Nat) : Int) + (((str l[k].s).size : Nat) : Int)) = _
        rw [hsz, wrap_i64_in _ (by omega) (by omega)]; omega)) ?_
      refine RL.auto T_ok rfl ?_
      refine RL.nil ?_; repeat (first | with_reducible refine QN.block_normal ?_ | with_reducible refine QN.next ?_); repeat (first | with_reducible refine WP.seq ?_ | with_reducible refine WP.block ?_ | with_reducible refine WP.region ?_)
      refine RL.auto T_ok rfl ?_
      exact RL.nil (QN.round (k + 1) (Sub.cons rfl (Sub.cons rfl (Sub.cons (by
        show some (Value.int .i64 (IntKind.i64.wrap ((k : Int) + 1))) = some (Value.int .i64 ((k + 1 : Nat) : Int))
        rw [wrap_i64_in _ (by omega) (by omega)]; rfl) Sub.nil))) ⟨by show k + 1 ≤ _; omega, by omega, rfl⟩ (by show _ - (k + 1) < _ - k; omega))
    · refine RL.pure T_ok 4 rfl ?_
      refine RL.eqv (v' := .bool true) (congrArg _ (decide_eq_true (by omega))) ?_
      refine RL.pure T_ok 3 rfl ?_
      refine RL.eqv (v' := .bool false) (congrArg _ (decide_eq_false (by omega))) ?_
      refine RL.auto T_ok rfl ?_
      refine RL.nil ?_; repeat (first | with_reducible refine QN.block_normal ?_ | with_reducible refine QN.next ?_); repeat (first | with_reducible refine WP.seq ?_ | with_reducible refine WP.block ?_ | with_reducible refine WP.region ?_)
      refine WP.cond rfl (fun hh => by cases hh) (fun _ => ?_)
      refine WP.exit ?_; repeat (first | with_reducible refine QN.then_exit ?_ | with_reducible refine QN.block_exit ?_ | with_reducible refine QN.block_far rfl ?_ | with_reducible refine QN.block_normal ?_ | with_reducible refine QN.next ?_); repeat (first | with_reducible refine WP.seq ?_ | with_reducible refine WP.block ?_ | with_reducible refine WP.region ?_)
      refine RL.auto T_ok rfl ?_
      refine RL.nil ?_; repeat (first | with_reducible refine QN.block_normal ?_ | with_reducible refine QN.next ?_); repeat (first | with_reducible refine WP.seq ?_ | with_reducible refine WP.block ?_ | with_reducible refine WP.region ?_)
      refine WP.ret ?_; repeat (first | with_reducible refine QN.then_ret ?_ | with_reducible refine QN.block_ret ?_)
      refine QN.ret1 rfl rfl ⟨_, rfl, ⟨_, rfl, fun hh => ?_⟩, rfl⟩
      have := of_decide_eq_true hh
      omega
  · refine RL.pure T_ok 4 rfl ?_
    refine RL.eqv (v' := .bool false) (congrArg _ (decide_eq_false (by omega))) ?_
    refine RL.auto T_ok rfl ?_
    refine RL.nil ?_; repeat (first | with_reducible refine QN.block_normal ?_ | with_reducible refine QN.next ?_); repeat (first | with_reducible refine WP.seq ?_ | with_reducible refine WP.block ?_ | with_reducible refine WP.region ?_)
    refine WP.cond rfl (fun hh => by cases hh) (fun _ => ?_)
    refine WP.exit ?_; repeat (first | with_reducible refine QN.then_exit ?_ | with_reducible refine QN.block_exit ?_ | with_reducible refine QN.block_far rfl ?_ | with_reducible refine QN.block_normal ?_ | with_reducible refine QN.next ?_); repeat (first | with_reducible refine WP.seq ?_ | with_reducible refine WP.block ?_ | with_reducible refine WP.region ?_)
    refine RL.auto T_ok rfl ?_
    refine RL.nil ?_; repeat (first | with_reducible refine QN.block_normal ?_ | with_reducible refine QN.next ?_); repeat (first | with_reducible refine WP.seq ?_ | with_reducible refine WP.block ?_ | with_reducible refine WP.region ?_)
    refine WP.ret ?_; repeat (first | with_reducible refine QN.then_ret ?_ | with_reducible refine QN.block_ret ?_)
    refine QN.ret1 rfl rfl ⟨_, rfl, ⟨_, rfl, fun hh => ?_⟩, rfl⟩
    have := of_decide_eq_true hh
    rw [List.take_of_length_le (by omega)] at this
    omega

theorem xorA5_fin : ∀ x : Fin 256, ∃ y : Fin 256, bits .xor .u8 (x.val : Int) 165 = (y.val : Int) := by
  intro x
  have h := bits_u8 .xor x.val 165
  exact ⟨⟨_, (bop8 .xor (BitVec.ofNat 8 x.val) (BitVec.ofNat 8 165)).isLt⟩, h⟩
theorem xorA5 (x : UInt8) : ∃ y : UInt8, bits .xor .u8 (x.toNat : Int) 165 = (y.toNat : Int) := by
  obtain ⟨y, hy⟩ := xorA5_fin ⟨x.toNat, x.toNat_lt⟩
  refine ⟨UInt8.ofNat y.val, ?_⟩
  rw [UInt8.toNat_ofNat', Nat.mod_eq_of_lt y.isLt]
  exact hy
theorem spoil_c (m : World) (S : List Nat) (v : Value) (l : List UInt8) (h : Own m S 5 1 v l.length (u8s l)) (hl : l.length < 1000000000) :
    FnR Try.prog 29 [v] m fun r m' => r = .tuple #[] ∧ Ext m S m' := by
  obtain ⟨A, c, rfl, hlc⟩ := h.shape
  refine FnE.enter ⟨_, Try.func29, by kernel_rfl, by kernel_rfl⟩ Try.func29 rfl rfl ?_
  repeat (first | with_reducible refine WP.seq ?_ | with_reducible refine WP.block ?_ | with_reducible refine WP.region ?_)
  refine RL.auto T_ok rfl ?_
  refine RL.nil ?_; repeat (first | with_reducible refine QN.block_normal ?_ | with_reducible refine QN.next ?_); repeat (first | with_reducible refine WP.seq ?_ | with_reducible refine WP.block ?_ | with_reducible refine WP.region ?_)
  refine WP.loop (X := Nat × List UInt8) (fun x => [(0, .slice A l.length c), (2, .int .i64 x.1)])
    (fun x m' => x.1 ≤ l.length ∧ x.2.length = l.length ∧ Own m' S 5 1 (.slice A l.length c) l.length (u8s x.2) ∧ Ext m S m') (fun x => l.length - x.1) (0, l)
    (Sub.cons rfl (Sub.cons rfl Sub.nil)) ⟨by simp, rfl, h, Ext.refl _ _⟩ ?_
  rintro ⟨k, p⟩ m5 ⟨hk, hp, hO, hE⟩
  simp only at hk hp hO
  repeat (first | with_reducible refine WP.seq ?_ | with_reducible refine WP.block ?_ | with_reducible refine WP.region ?_)
  refine RL.auto T_ok rfl ?_
  refine RL.nil ?_; repeat (first | with_reducible refine QN.block_normal ?_ | with_reducible refine QN.next ?_); repeat (first | with_reducible refine WP.seq ?_ | with_reducible refine WP.block ?_ | with_reducible refine WP.region ?_)
  refine WP.cond rfl (fun hc => ?_) (fun hc => ?_)
  · have hc : k < l.length := by have := of_decide_eq_true hc; omega
    obtain ⟨g, cap, cur, hv, hB, rfl, hj, hput⟩ := hO.put hc
    injection hv with hv1 _ hv3
    subst hv1; subst hv3
    have hS : Bs m5 [] (.slice (some ⟨g, 0, none⟩) p.length c) p := by
      have := Own.sl hO (M := []) (by simp)
      rw [hp]; exact this
    rw [← hp] at *
    obtain ⟨y, hy⟩ := xorA5 p[k]
    refine WP.skip ?_; repeat (first | with_reducible refine QN.block_normal ?_ | with_reducible refine QN.next ?_); repeat (first | with_reducible refine WP.seq ?_ | with_reducible refine WP.block ?_ | with_reducible refine WP.region ?_)
    refine RL.auto T_ok rfl ?_
    refine RL.byteAt T_ok hS (k := k) rfl hc rfl rfl rfl rfl rfl rfl (fun p => ?_)
    refine RL.pure T_ok 1 rfl ?_
    refine RL.eqv (v' := .int .u8 (y.toNat : Int)) (congrArg _ hy) ?_
    refine RL.indexAddr (k := k) T_ok rfl rfl rfl rfl rfl rfl rfl hc rfl ?_
    refine RL.eqv (v' := .pointer (some ⟨g, k, none⟩)) (congrArg _ (by rw [add_block]; simp)) ?_
    refine RL.store T_ok hB (i := k) (v := .int .u8 (y.toNat : Int)) hj rfl rfl rfl rfl rfl rfl ?_
    intro m6 hC
    have hO6 := hput m6 _ hC
    rw [u8s_set] at hO6
    refine RL.nil ?_; repeat (first | with_reducible refine QN.block_normal ?_ | with_reducible refine QN.next ?_); repeat (first | with_reducible refine WP.seq ?_ | with_reducible refine WP.block ?_ | with_reducible refine WP.region ?_)
    refine RL.auto T_ok rfl ?_
    refine RL.nil (QN.round (k + 1, _) ?_ ⟨?_, ?_, hO6, hE.trans hC.ext (fun k hk => .inl hk)⟩ (by show _ - (k + 1) < _ - k; omega))
    · refine Sub.cons rfl (Sub.cons ?_ Sub.nil)
      show some (Value.int .i64 (IntKind.i64.wrap ((k : Int) + 1))) = some (Value.int .i64 ((k + 1 : Nat) : Int))
      rw [wrap_i64_in _ (by omega) (by omega)]; rfl
    · show k + 1 ≤ _
      omega
    · simp
  · refine WP.exit ?_; repeat (first | with_reducible refine QN.then_exit ?_ | with_reducible refine QN.block_exit ?_ | with_reducible refine QN.block_far rfl ?_ | with_reducible refine QN.block_normal ?_ | with_reducible refine QN.next ?_); repeat (first | with_reducible refine WP.seq ?_ | with_reducible refine WP.block ?_ | with_reducible refine WP.region ?_)
    exact QN.end0 rfl ⟨_, rfl, rfl, hE⟩
end Go.Proofs.Ytaogoblckkmkgaa
