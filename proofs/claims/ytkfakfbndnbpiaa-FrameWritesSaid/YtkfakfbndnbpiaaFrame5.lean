/- FrameWrites, walked: it answers true. -/
import Derived.Test.YtkfakfbndnbpiaaFrame4
namespace Go.Proofs.Ytkfakfbndnbpiaa
open Go.RowKit Go.Ev

theorem flat_len (ls : List (List UInt8)) (h : ∀ x ∈ ls, x.length ≤ 1000) : (ls.flatMap frm).length ≤ ls.length * 1014 := by
  induction ls with
  | nil => simp
  | cons x ls ih =>
    have h1 := ih (fun y hy => h y (List.mem_cons_of_mem _ hy))
    have h2 := h x (List.mem_cons_self ..)
    have h3 := encU_len10 (n := x.length) (by omega)
    have h4 := frm_len x
    simp only [List.flatMap_cons, List.length_append, List.length_cons]
    omega
set_option maxRecDepth 4000 in
set_option maxHeartbeats 400000 in
theorem writes_c (m : World) (v u : Value) (ls : List (List UInt8)) (cuts : List UInt8) (h : Bss m v ls) (hu : Bs m [] u cuts) :
    FnR Try.prog 3 [v, u] m fun r m' => r = .bool true ∧ Ext m [] m' := by
  obtain ⟨A, c, rfl, _, _⟩ := h.shape
  obtain ⟨B, c', rfl, _, _⟩ := hu.shape
  refine FnE.enter ⟨_, Try.func3, by kernel_rfl, by kernel_rfl⟩ Try.func3 rfl rfl ?_
  repeat (first | with_reducible refine WP.seq ?_ | with_reducible refine WP.block ?_ | with_reducible refine WP.region ?_)
  refine RL.auto T_ok rfl ?_
  refine RL.nil ?_; repeat (first | with_reducible refine QN.block_normal ?_ | with_reducible refine QN.next ?_); repeat (first | with_reducible refine WP.seq ?_ | with_reducible refine WP.block ?_ | with_reducible refine WP.region ?_)
  refine RL.call (fi := []) (ca := []) rfl rfl rfl rfl (fknown_c m) ?_
  rintro _ m1 ⟨rfl, hE1⟩
  refine ⟨_, rfl, ?_⟩
  refine RL.auto T_ok rfl ?_
  refine RL.nil ?_; repeat (first | with_reducible refine QN.block_normal ?_ | with_reducible refine QN.next ?_); repeat (first | with_reducible refine WP.seq ?_ | with_reducible refine WP.block ?_ | with_reducible refine WP.region ?_)
  refine WP.condF rfl ?_
  refine WP.skip ?_; repeat (first | with_reducible refine QN.block_normal ?_ | with_reducible refine QN.next ?_); repeat (first | with_reducible refine WP.seq ?_ | with_reducible refine WP.block ?_ | with_reducible refine WP.region ?_)
  by_cases hl : ls.length ≤ 40
  rotate_left
  · refine RL.pure T_ok 3 rfl ?_
    refine RL.eqv (v' := .bool true) (congrArg _ (decide_eq_true (by omega))) ?_
    refine RL.auto T_ok rfl ?_
    refine RL.nil ?_; repeat (first | with_reducible refine QN.block_normal ?_ | with_reducible refine QN.next ?_); repeat (first | with_reducible refine WP.seq ?_ | with_reducible refine WP.block ?_ | with_reducible refine WP.region ?_)
    refine WP.condT rfl ?_
    repeat (first | with_reducible refine WP.seq ?_ | with_reducible refine WP.block ?_ | with_reducible refine WP.region ?_)
    refine RL.auto T_ok rfl ?_
    refine RL.nil ?_; repeat (first | with_reducible refine QN.block_normal ?_ | with_reducible refine QN.next ?_); repeat (first | with_reducible refine WP.seq ?_ | with_reducible refine WP.block ?_ | with_reducible refine WP.region ?_)
    refine WP.ret ?_; repeat (first | with_reducible refine QN.then_ret ?_ | with_reducible refine QN.block_ret ?_)
    exact QN.ret1 rfl rfl ⟨_, rfl, rfl, hE1⟩
  refine RL.pure T_ok 3 rfl ?_
  refine RL.eqv (v' := .bool false) (congrArg _ (decide_eq_false (by omega))) ?_
  refine RL.auto T_ok rfl ?_
  refine RL.nil ?_; repeat (first | with_reducible refine QN.block_normal ?_ | with_reducible refine QN.next ?_); repeat (first | with_reducible refine WP.seq ?_ | with_reducible refine WP.block ?_ | with_reducible refine WP.region ?_)
  refine WP.cond rfl (fun hc => ?_) (fun hc => ?_)
  · repeat (first | with_reducible refine WP.seq ?_ | with_reducible refine WP.block ?_ | with_reducible refine WP.region ?_)
    refine RL.auto T_ok rfl ?_
    refine RL.nil ?_; repeat (first | with_reducible refine QN.block_normal ?_ | with_reducible refine QN.next ?_); repeat (first | with_reducible refine WP.seq ?_ | with_reducible refine WP.block ?_ | with_reducible refine WP.region ?_)
    refine WP.ret ?_; repeat (first | with_reducible refine QN.then_ret ?_ | with_reducible refine QN.block_ret ?_)
    exact QN.ret1 rfl rfl ⟨_, rfl, rfl, hE1⟩
  have hcl : cuts.length ≤ 400 := by have := of_decide_eq_false hc; omega
  refine WP.skip ?_; repeat (first | with_reducible refine QN.block_normal ?_ | with_reducible refine QN.next ?_); repeat (first | with_reducible refine WP.seq ?_ | with_reducible refine WP.block ?_ | with_reducible refine WP.region ?_)
  refine RL.auto T_ok rfl ?_
  refine RL.nil ?_; repeat (first | with_reducible refine QN.block_normal ?_ | with_reducible refine QN.next ?_); repeat (first | with_reducible refine WP.seq ?_ | with_reducible refine WP.block ?_ | with_reducible refine WP.region ?_)
  refine RL.auto T_ok rfl ?_
  refine RL.nil ?_; repeat (first | with_reducible refine QN.block_normal ?_ | with_reducible refine QN.next ?_); repeat (first | with_reducible refine WP.seq ?_ | with_reducible refine WP.block ?_ | with_reducible refine WP.region ?_)
  refine WP.loop (X := Nat × List Nat × Value) (fun (i, So, bv) => [(0, .slice A ls.length c), (1, .slice B cuts.length c'), (5, bv), (6, .int .i64 i)])
    (fun (i, So, bv) m' => i ≤ ls.length ∧ Ext m [] m' ∧ (∀ k ∈ So, m.heap.size ≤ k) ∧ (∀ x ∈ ls.take i, x.length ≤ 1000) ∧ Own m' So 5 1 bv ((ls.take i).flatMap frm).length (u8s ((ls.take i).flatMap frm))) (fun (i, So, bv) => ls.length - i) (0, [], .slice none 0 0)
    (Sub.cons rfl (Sub.cons rfl (Sub.cons rfl (Sub.cons rfl Sub.nil)))) ⟨by simp, hE1, by simp, by simp, Own.empty _ _ _ _⟩ ?_
  rintro ⟨i, So, bv⟩ m2 ⟨hi, hE2, hSo, hle, hO⟩
  have hfl := flat_len _ hle
  have htl : (ls.take i).length ≤ 40 := by simp; omega
  have h2 := h.ext hE2
  repeat (first | with_reducible refine WP.seq ?_ | with_reducible refine WP.block ?_ | with_reducible refine WP.region ?_)
  refine RL.auto T_ok rfl ?_
  refine RL.nil ?_; repeat (first | with_reducible refine QN.block_normal ?_ | with_reducible refine QN.next ?_); repeat (first | with_reducible refine WP.seq ?_ | with_reducible refine WP.block ?_ | with_reducible refine WP.region ?_)
  refine WP.cond rfl (fun hc => ?_) (fun hc => ?_)
  rotate_left
  · have hc : i = ls.length := by have := of_decide_eq_false hc; omega
    subst hc
    rw [List.take_length] at hO hle hfl
    refine WP.exit ?_; repeat (first | with_reducible refine QN.then_exit ?_ | with_reducible refine QN.block_exit ?_ | with_reducible refine QN.block_far rfl ?_ | with_reducible refine QN.block_normal ?_ | with_reducible refine QN.next ?_); repeat (first | with_reducible refine WP.seq ?_ | with_reducible refine WP.block ?_ | with_reducible refine WP.region ?_)
    refine RL.auto T_ok rfl ?_
    have hu2 : Bs m2 [] (.slice B cuts.length c') cuts := Sl.ext hu hE2 (by simp) (by omega)
    have ht : Tells ls 0 (ls.flatMap frm) := by
      have := Tells.frames ls 0 [] (fun x hx => by have := hle x hx; omega) (.inl ⟨rfl, rfl⟩)
      rwa [List.append_nil] at this
    refine RL.call (fi := []) (ca := []) rfl rfl rfl rfl (all_c m2 _ _ _ cuts (Own.sl hO (by simp)) hu2 (by omega) (by omega) ls 0 ht) ?_
    rintro _ m3 ⟨hE3, ov, rfl, hov⟩
    refine ⟨_, rfl, ?_⟩
    refine RL.auto T_ok rfl ?_
    refine RL.nil ?_; repeat (first | with_reducible refine QN.block_normal ?_ | with_reducible refine QN.next ?_); repeat (first | with_reducible refine WP.seq ?_ | with_reducible refine WP.block ?_ | with_reducible refine WP.region ?_)
    refine RL.auto T_ok rfl ?_
    refine RL.call (fi := []) (ca := []) rfl rfl rfl rfl (same_c m3 _ _ ls ls hov (h2.ext hE3) (by omega)) ?_
    rintro _ m4 ⟨rfl, rfl⟩
    refine ⟨_, rfl, ?_⟩
    rw [decide_eq_true rfl]
    refine RL.auto T_ok rfl ?_
    refine RL.nil ?_; repeat (first | with_reducible refine QN.block_normal ?_ | with_reducible refine QN.next ?_); repeat (first | with_reducible refine WP.seq ?_ | with_reducible refine WP.block ?_ | with_reducible refine WP.region ?_)
    refine WP.ret ?_; repeat (first | with_reducible refine QN.then_ret ?_ | with_reducible refine QN.block_ret ?_)
    exact QN.ret1 rfl rfl ⟨_, rfl, rfl, hE2.trans hE3 (by simp)⟩
  have hc : i < ls.length := by have := of_decide_eq_true hc; omega
  obtain ⟨ad, x, rfl, hx, hcell⟩ := h2.at_ i hc
  obtain ⟨Ax, cx, rfl, _, _⟩ := hx.shape
  refine WP.skip ?_; repeat (first | with_reducible refine QN.block_normal ?_ | with_reducible refine QN.next ?_); repeat (first | with_reducible refine WP.seq ?_ | with_reducible refine WP.block ?_ | with_reducible refine WP.region ?_)
  refine RL.auto T_ok rfl ?_
  refine RL.indexAddr (k := i) T_ok rfl rfl rfl rfl rfl rfl rfl hc rfl ?_
  refine RL.load T_ok rfl rfl rfl (hcell) rfl ?_
  refine RL.auto T_ok rfl ?_
  refine RL.nil ?_; repeat (first | with_reducible refine QN.block_normal ?_ | with_reducible refine QN.next ?_); repeat (first | with_reducible refine WP.seq ?_ | with_reducible refine WP.block ?_ | with_reducible refine WP.region ?_)
  refine WP.cond rfl (fun hc2 => ?_) (fun hc2 => ?_)
  · repeat (first | with_reducible refine WP.seq ?_ | with_reducible refine WP.block ?_ | with_reducible refine WP.region ?_)
    refine RL.auto T_ok rfl ?_
    refine RL.nil ?_; repeat (first | with_reducible refine QN.block_normal ?_ | with_reducible refine QN.next ?_); repeat (first | with_reducible refine WP.seq ?_ | with_reducible refine WP.block ?_ | with_reducible refine WP.region ?_)
    refine WP.ret ?_; repeat (first | with_reducible refine QN.then_ret ?_ | with_reducible refine QN.block_ret ?_)
    exact QN.ret1 rfl rfl ⟨_, rfl, rfl, hE2⟩
  have hxl : (ls[i]).length ≤ 1000 := by have := of_decide_eq_false hc2; omega
  refine WP.skip ?_; repeat (first | with_reducible refine QN.block_normal ?_ | with_reducible refine QN.next ?_); repeat (first | with_reducible refine WP.seq ?_ | with_reducible refine WP.block ?_ | with_reducible refine WP.region ?_)
  refine RL.auto T_ok rfl ?_
  refine RL.indexAddr (k := i) T_ok rfl rfl rfl rfl rfl rfl rfl hc rfl ?_
  refine RL.load T_ok rfl rfl rfl (hcell) rfl ?_
  refine RL.call (fi := []) (ca := []) rfl rfl rfl rfl (fwrite_c m2 [] _ _ hx (by omega)) ?_
  rintro _ m3 (⟨h3, _⟩ | ⟨_, x3, S3, rfl, hO3, hN3⟩)
  · omega
  refine ⟨_, rfl, ?_⟩
  refine RL.auto T_ok rfl ?_
  refine RL.nil ?_; repeat (first | with_reducible refine QN.block_normal ?_ | with_reducible refine QN.next ?_); repeat (first | with_reducible refine WP.seq ?_ | with_reducible refine WP.block ?_ | with_reducible refine WP.region ?_)
  refine RL.auto T_ok rfl ?_
  have hcell3 := hN3.1.cell (by simp) hcell
  refine RL.indexAddr (k := i) T_ok rfl rfl rfl rfl rfl rfl rfl hc rfl ?_
  refine RL.load T_ok rfl rfl rfl (hcell3) rfl ?_
  refine RL.call (fi := []) (ca := []) rfl rfl rfl rfl (refwrite_c m3 [] _ _ (Sl.ext hx hN3.1 (by simp) (by omega)) (by omega)) ?_
  rintro _ m4 (⟨h4, _⟩ | ⟨_, x4, S4, rfl, hO4, hN4⟩)
  · omega
  refine ⟨_, rfl, ?_⟩
  have hO34 := hO3.ext hN4.1 (by simp)
  have hx34 : Bs m4 [] x3 (frm ls[i]) := Own.sl hO34 (by simp)
  refine RL.auto T_ok rfl ?_
  refine RL.nil ?_; repeat (first | with_reducible refine QN.block_normal ?_ | with_reducible refine QN.next ?_); repeat (first | with_reducible refine WP.seq ?_ | with_reducible refine WP.block ?_ | with_reducible refine WP.region ?_)
  refine RL.auto T_ok rfl ?_
  refine RL.call (fi := []) (ca := []) rfl rfl rfl rfl (hbytes_c m4 [] _ _ _ _ hx34 (Own.sl hO4 (by simp))) ?_
  rintro _ m5 ⟨rfl, rfl⟩
  refine ⟨_, rfl, ?_⟩
  rw [decide_eq_true rfl]
  refine RL.auto T_ok rfl ?_
  refine RL.nil ?_; repeat (first | with_reducible refine QN.block_normal ?_ | with_reducible refine QN.next ?_); repeat (first | with_reducible refine WP.seq ?_ | with_reducible refine WP.block ?_ | with_reducible refine WP.region ?_)
  refine WP.condF rfl ?_
  refine WP.skip ?_; repeat (first | with_reducible refine QN.block_normal ?_ | with_reducible refine QN.next ?_); repeat (first | with_reducible refine WP.seq ?_ | with_reducible refine WP.block ?_ | with_reducible refine WP.region ?_)
  have hNE : Ext m2 [] m5 := hN3.1.trans hN4.1 (by simp)
  have hO5 := hO.ext hNE (by simp)
  obtain ⟨A3, c3, rfl, _⟩ := hO34.shape
  have h10 := encU_len10 (n := (ls[i]).length) (by omega)
  have hfx := frm_len ls[i]
  refine RL.auto T_ok rfl ?_
  refine RL.append T_ok hO5 _ (Src.of_sl (show Sl m5 [] 1 _ (u8s (frm ls[i])) from hx34)) rfl rfl rfl rfl rfl (by simp [u8s_length]) (u8s_one _) (by unfold maxLen; omega) (by show (_ + _) * 1 ≤ _; omega) ?_
  intro v6 m6 S6 hO6 hE6 hF6
  refine ⟨_, rfl, ?_⟩
  refine RL.auto T_ok rfl ?_
  refine RL.nil ?_; repeat (first | with_reducible refine QN.block_normal ?_ | with_reducible refine QN.next ?_); repeat (first | with_reducible refine WP.seq ?_ | with_reducible refine WP.block ?_ | with_reducible refine WP.region ?_)
  refine RL.pure T_ok 2 rfl ?_
  refine RL.eqv (v' := .int .i64 ((i + 1 : Nat) : Int)) (congrArg _ (by rw [wrap_i64_in _ (by omega) (by omega)]; rfl)) ?_
  refine RL.auto T_ok rfl ?_
  have hE5 : Ext m [] m5 := hE2.trans hNE (by simp)
  have e1 : (ls.take (i + 1)).flatMap frm = (ls.take i).flatMap frm ++ frm ls[i] := by rw [List.take_succ_eq_append_getElem hc, List.flatMap_append]; simp
  refine RL.nil (QN.round (i + 1, S6, v6) (Sub.cons rfl (Sub.cons rfl (Sub.cons rfl (Sub.cons rfl Sub.nil)))) ⟨by omega, hE5.trans hE6 (fun k hk => .inr (hSo k hk)), fun k hk => ?_, fun y hy => ?_, ?_⟩ (by show _ - (i + 1) < _ - i; omega))
  · rcases hF6 k hk with h9 | h9
    · exact hSo k h9
    · have := hE5.size; omega
  · rw [List.take_succ_eq_append_getElem hc] at hy
    rcases List.mem_append.1 hy with h9 | h9
    · exact hle y h9
    · have h9 : y = ls[i] := (by simpa using h9)
      subst h9; exact hxl
  · rw [e1, u8s_append, List.length_append]
    exact hO6
end Go.Proofs.Ytkfakfbndnbpiaa
