/- The statements' helps: a place, a copy, two rows of bytes held against one another, whether a script is light. -/
import Derived.Test.YtaogoblckkmkgaaWire8
import Derived.Test.YtaogoblckkmkgaaWire6
namespace Go.Proofs.Ytaogoblckkmkgaa
open Go.RowKit Go.Ev

theorem tmod_fix (k : Int) (n : Nat) (hn : 0 < n) : (if k.tmod n < 0 then k.tmod n + n else k.tmod n) = k % (n : Int) := by
  have h1 := Int.tmod_eq_emod (a := k) (b := n)
  have h2 := Int.emod_nonneg k (b := (n : Int)) (by omega)
  have h3 := Int.emod_lt_of_pos k (b := (n : Int)) (by omega)
  rw [h1]
  split <;> split <;> omega
theorem place_c (m : World) (k : Int) (n : Nat) (hn : n < 1000000000) :
    FnR Try.prog 10 [.int .i64 k, .int .i64 ((n + 1 : Nat) : Int)] m fun r m' => r = .int .i64 (k % ((n + 1 : Nat) : Int)) ∧ m' = m := by
  have h1 := tmod_fix k (n + 1) (by omega)
  have h2 := Int.emod_nonneg k (b := ((n + 1 : Nat) : Int)) (by omega)
  have h3 := Int.emod_lt_of_pos k (b := ((n + 1 : Nat) : Int)) (by omega)
  refine FnE.enter ⟨_, Try.func10, by kernel_rfl, by kernel_rfl⟩ Try.func10 rfl rfl ?_
  repeat (first | with_reducible refine WP.seq ?_ | with_reducible refine WP.block ?_ | with_reducible refine WP.region ?_)
  refine RL.auto T_ok rfl ?_
  refine RL.nil ?_; repeat (first | with_reducible refine QN.block_normal ?_ | with_reducible refine QN.next ?_); repeat (first | with_reducible refine WP.seq ?_ | with_reducible refine WP.block ?_ | with_reducible refine WP.region ?_)
  refine RL.auto T_ok rfl ?_
  refine RL.nil ?_; repeat (first | with_reducible refine QN.block_normal ?_ | with_reducible refine QN.next ?_); repeat (first | with_reducible refine WP.seq ?_ | with_reducible refine WP.block ?_ | with_reducible refine WP.region ?_)
  refine RL.auto T_ok rfl ?_
  refine RL.nil ?_; repeat (first | with_reducible refine QN.block_normal ?_ | with_reducible refine QN.next ?_); repeat (first | with_reducible refine WP.seq ?_ | with_reducible refine WP.block ?_ | with_reducible refine WP.region ?_)
  refine WP.cond rfl (fun hc => ?_) (fun hc => ?_)
  · have hc : k.tmod ((n + 1 : Nat) : Int) < 0 := of_decide_eq_true hc
    rw [if_pos hc] at h1
    refine WP.region ?_
    refine RL.pure T_ok 3 rfl ?_
    refine RL.eqv (v' := .int .i64 (k % ((n + 1 : Nat) : Int))) (congrArg _ (by rw [h1, wrap_i64_in _ (by omega) (by omega)])) ?_
    refine RL.auto T_ok rfl ?_
    refine RL.nil ?_; repeat (first | with_reducible refine QN.block_normal ?_ | with_reducible refine QN.next ?_); repeat (first | with_reducible refine WP.seq ?_ | with_reducible refine WP.block ?_ | with_reducible refine WP.region ?_)
    refine RL.auto T_ok rfl ?_
    refine RL.nil ?_; repeat (first | with_reducible refine QN.block_normal ?_ | with_reducible refine QN.next ?_); repeat (first | with_reducible refine WP.seq ?_ | with_reducible refine WP.block ?_ | with_reducible refine WP.region ?_)
    refine WP.ret ?_; repeat (first | with_reducible refine QN.then_ret ?_ | with_reducible refine QN.block_ret ?_)
    exact QN.ret1 rfl rfl ⟨_, rfl, rfl, rfl⟩
  · have hc : ¬ k.tmod ((n + 1 : Nat) : Int) < 0 := of_decide_eq_false hc
    rw [if_neg hc] at h1
    refine WP.skip ?_; repeat (first | with_reducible refine QN.block_normal ?_ | with_reducible refine QN.next ?_); repeat (first | with_reducible refine WP.seq ?_ | with_reducible refine WP.block ?_ | with_reducible refine WP.region ?_)
    refine RL.auto T_ok rfl ?_
    refine RL.nil ?_; repeat (first | with_reducible refine QN.block_normal ?_ | with_reducible refine QN.next ?_); repeat (first | with_reducible refine WP.seq ?_ | with_reducible refine WP.block ?_ | with_reducible refine WP.region ?_)
    refine WP.ret ?_; repeat (first | with_reducible refine QN.then_ret ?_ | with_reducible refine QN.block_ret ?_)
    exact QN.ret1 rfl rfl ⟨_, rfl, congrArg _ h1, rfl⟩
theorem copy_c (m : World) (M : List Nat) (v : Value) (l : List UInt8) (h : Bs m M v l) (hl : l.length < 1000000000) :
    FnR Try.prog 17 [v] m fun r m' => ∃ S', Own m' S' 5 1 r l.length (u8s l) ∧ New m S' m' := by
  obtain ⟨A, c, rfl, hlc, _⟩ := h.shape
  refine FnE.enter ⟨_, Try.func17, by kernel_rfl, by kernel_rfl⟩ Try.func17 rfl rfl ?_
  repeat (first | with_reducible refine WP.seq ?_ | with_reducible refine WP.block ?_ | with_reducible refine WP.region ?_)
  refine RL.auto T_ok rfl ?_
  refine RL.nil ?_; repeat (first | with_reducible refine QN.block_normal ?_ | with_reducible refine QN.next ?_); repeat (first | with_reducible refine WP.seq ?_ | with_reducible refine WP.block ?_ | with_reducible refine WP.region ?_)
  refine RL.auto T_ok rfl ?_
  refine RL.append T_ok (Own.empty _ _ _ none) (u8s l) (Src.of_sl (show Sl m M 1 _ (u8s l) from h)) rfl rfl rfl rfl rfl (by simp [u8s_length]) (u8s_one _) (by unfold maxLen; omega) (by show (_ + _) * 1 ≤ _; omega) ?_
  intro v1 m2 S2 hO1 hE1 hF1
  refine ⟨_, rfl, ?_⟩
  refine RL.auto T_ok rfl ?_
  refine RL.nil ?_; repeat (first | with_reducible refine QN.block_normal ?_ | with_reducible refine QN.next ?_); repeat (first | with_reducible refine WP.seq ?_ | with_reducible refine WP.block ?_ | with_reducible refine WP.region ?_)
  refine WP.ret ?_; repeat (first | with_reducible refine QN.then_ret ?_ | with_reducible refine QN.block_ret ?_)
  refine QN.ret1 rfl rfl ⟨_, rfl, S2, ?_, hE1, hF1⟩
  simpa using hO1
theorem str_eq (a b : List UInt8) : ((str a).toList == (str b).toList) = decide (a = b) := by
  rw [str_toList, str_toList]
  by_cases h : a = b <;> simp [h]
theorem hbytes_c (m : World) (M : List Nat) (v u : Value) (a b : List UInt8) (h : Bs m M v a) (h' : Bs m M u b) :
    FnR Try.prog 25 [v, u] m fun r m' => r = .bool (decide (a = b)) ∧ m' = m := by
  obtain ⟨A, c, rfl, hlc, _⟩ := h.shape
  obtain ⟨A', c', rfl, hlc', _⟩ := h'.shape
  refine FnE.enter ⟨_, Try.func25, by kernel_rfl, by kernel_rfl⟩ Try.func25 rfl rfl ?_
  repeat (first | with_reducible refine WP.seq ?_ | with_reducible refine WP.block ?_ | with_reducible refine WP.region ?_)
  refine RL.auto T_ok rfl ?_
  refine RL.nil ?_; repeat (first | with_reducible refine QN.block_normal ?_ | with_reducible refine QN.next ?_); repeat (first | with_reducible refine WP.seq ?_ | with_reducible refine WP.block ?_ | with_reducible refine WP.region ?_)
  refine RL.pure T_ok 1 rfl ?_
  refine RL.bytesString T_ok h rfl rfl rfl rfl rfl rfl ?_
  refine RL.pure T_ok 1 rfl ?_
  refine RL.bytesString T_ok h' rfl rfl rfl rfl rfl rfl ?_
  refine RL.pure T_ok 1 rfl ?_
  refine RL.eqv (v' := .bool (decide (a = b))) (congrArg _ (str_eq a b)) ?_
  refine RL.auto T_ok rfl ?_
  refine RL.nil ?_; repeat (first | with_reducible refine QN.block_normal ?_ | with_reducible refine QN.next ?_); repeat (first | with_reducible refine WP.seq ?_ | with_reducible refine WP.block ?_ | with_reducible refine WP.region ?_)
  refine WP.ret ?_; repeat (first | with_reducible refine QN.then_ret ?_ | with_reducible refine QN.block_ret ?_)
  exact QN.ret1 rfl rfl ⟨_, rfl, rfl, rfl⟩

/-- A step of a script. -/
structure Stp where
  what : Int
  n : Nat
  s : List UInt8
def stC (x : Stp) : List Value := [.int .i64 x.what, .int .u64 x.n, .string (str x.s)]
theorem stC_len : ∀ l : List Stp, (l.flatMap stC).length = l.length * 3
  | [] => rfl
  | x :: l => by rw [List.flatMap_cons, List.length_append, stC_len l, List.length_cons]; show 3 + _ = _; omega
theorem stC_get : ∀ (l : List Stp) (k : Nat) (h : k < l.length) (j : Nat), j < 3 → (l.flatMap stC)[k * 3 + j]? = (stC l[k])[j]?
  | x :: l, 0, h, j, hj => by
    rw [List.flatMap_cons, List.getElem?_append_left (by show _ < 3; omega)]; simp
  | x :: l, k + 1, h, j, hj => by
    rw [List.flatMap_cons, List.getElem?_append_right (by show 3 ≤ _; omega)]
    have h3 : (k + 1) * 3 + j - (stC x).length = k * 3 + j := by show _ - 3 = _; omega
    rw [h3, stC_get l k (by simpa using h) j hj]; rfl
def Sts (m : World) (M : List Nat) (v : Value) (l : List Stp) : Prop := Sl m M 3 v (l.flatMap stC)
theorem Sts.shape {m : World} {M : List Nat} {v : Value} {l : List Stp} (h : Sts m M v l) : ∃ A c, v = .slice A l.length c ∧ l.length ≤ c ∧ c ≤ maxLen := Sl.shape h (stC_len l) (by omega)
theorem light_c (m : World) (M : List Nat) (v : Value) (l : List Stp) (h : Sts m M v l) :
    FnR Try.prog 27 [v] m fun r m' => (∃ q, r = .bool q) ∧ m' = m := by
  obtain ⟨A, c, rfl, hlc, hcm⟩ := h.shape
  have hmx : l.length ≤ 9223372036854775807 := by unfold maxLen at hcm; omega
  refine FnE.enter ⟨_, Try.func27, by kernel_rfl, by kernel_rfl⟩ Try.func27 rfl rfl ?_
  repeat (first | with_reducible refine WP.seq ?_ | with_reducible refine WP.block ?_ | with_reducible refine WP.region ?_)
  refine RL.auto T_ok rfl ?_
  refine RL.nil ?_; repeat (first | with_reducible refine QN.block_normal ?_ | with_reducible refine QN.next ?_); repeat (first | with_reducible refine WP.seq ?_ | with_reducible refine WP.block ?_ | with_reducible refine WP.region ?_)
  refine RL.auto T_ok rfl ?_
  refine RL.nil ?_; repeat (first | with_reducible refine QN.block_normal ?_ | with_reducible refine QN.next ?_); repeat (first | with_reducible refine WP.seq ?_ | with_reducible refine WP.block ?_ | with_reducible refine WP.region ?_)
  refine RL.auto T_ok rfl ?_
  refine RL.nil ?_; repeat (first | with_reducible refine QN.block_normal ?_ | with_reducible refine QN.next ?_); repeat (first | with_reducible refine WP.seq ?_ | with_reducible refine WP.block ?_ | with_reducible refine WP.region ?_)
  refine WP.loop (X := Nat × Int) (fun x => [(0, .slice A l.length c), (3, .int .i64 x.2), (4, .int .i64 x.1)])
    (fun x m' => x.1 ≤ l.length ∧ m' = m) (fun x => l.length - x.1) (0, 0)
    (Sub.cons rfl (Sub.cons rfl (Sub.cons rfl Sub.nil))) ⟨by simp, rfl⟩ ?_
  rintro ⟨k, n⟩ m5 ⟨hk, rfl⟩
  simp only at hk
  repeat (first | with_reducible refine WP.seq ?_ | with_reducible refine WP.block ?_ | with_reducible refine WP.region ?_)
  by_cases hc : k < l.length
  · by_cases hn : n ≤ 20000
    · refine RL.pure T_ok 4 rfl ?_
      refine RL.eqv (v' := .bool true) (congrArg _ (decide_eq_true (by omega))) ?_
      refine RL.pure T_ok 3 rfl ?_
      refine RL.eqv (v' := .bool true) (congrArg _ (decide_eq_true hn)) ?_
      refine RL.auto T_ok rfl ?_
      refine RL.nil ?_; repeat (first | with_reducible refine QN.block_normal ?_ | with_reducible refine QN.next ?_); repeat (first | with_reducible refine WP.seq ?_ | with_reducible refine WP.block ?_ | with_reducible refine WP.region ?_)
      refine WP.cond rfl (fun _ => ?_) (fun hh => by cases hh)
      refine WP.skip ?_; repeat (first | with_reducible refine QN.block_normal ?_ | with_reducible refine QN.next ?_); repeat (first | with_reducible refine WP.seq ?_ | with_reducible refine WP.block ?_ | with_reducible refine WP.region ?_)
      refine RL.auto T_ok rfl ?_
      refine RL.index T_ok (show Sl m5 M 3 _ _ from h) (k := k) rfl hc rfl rfl rfl rfl (fun ad _ _ hcell => ⟨_, rfl, ?_⟩)
      have h3 := hcell 2 (.string (str l[k].s)) (stC_get l k hc 2 (by omega))
      refine RL.auto T_ok rfl ?_
      refine RL.load T_ok rfl rfl rfl (h3) rfl ?_
      refine RL.auto T_ok rfl ?_
      refine RL.nil ?_; repeat (first | with_reducible refine QN.block_normal ?_ | with_reducible refine QN.next ?_); repeat (first | with_reducible refine WP.seq ?_ | with_reducible refine WP.block ?_ | with_reducible refine WP.region ?_)
      refine RL.auto T_ok rfl ?_
      exact RL.nil (QN.round (k + 1, _) (Sub.cons rfl (Sub.cons rfl (Sub.cons (by
        show some (Value.int .i64 (IntKind.i64.wrap ((k : Int) + 1))) = some (Value.int .i64 ((k + 1 : Nat) : Int))
        rw [wrap_i64_in _ (by omega) (by omega)]; rfl) Sub.nil))) ⟨by show k + 1 ≤ _; omega, rfl⟩ (by show _ - (k + 1) < _ - k; omega))
    · refine RL.pure T_ok 4 rfl ?_
      refine RL.eqv (v' := .bool true) (congrArg _ (decide_eq_true (by omega))) ?_
      refine RL.pure T_ok 3 rfl ?_
      refine RL.eqv (v' := .bool false) (congrArg _ (decide_eq_false hn)) ?_
      refine RL.auto T_ok rfl ?_
      refine RL.nil ?_; repeat (first | with_reducible refine QN.block_normal ?_ | with_reducible refine QN.next ?_); repeat (first | with_reducible refine WP.seq ?_ | with_reducible refine WP.block ?_ | with_reducible refine WP.region ?_)
      refine WP.cond rfl (fun hh => by cases hh) (fun _ => ?_)
      refine WP.exit ?_; repeat (first | with_reducible refine QN.then_exit ?_ | with_reducible refine QN.block_exit ?_ | with_reducible refine QN.block_far rfl ?_ | with_reducible refine QN.block_normal ?_ | with_reducible refine QN.next ?_); repeat (first | with_reducible refine WP.seq ?_ | with_reducible refine WP.block ?_ | with_reducible refine WP.region ?_)
      refine RL.auto T_ok rfl ?_
      refine RL.nil ?_; repeat (first | with_reducible refine QN.block_normal ?_ | with_reducible refine QN.next ?_); repeat (first | with_reducible refine WP.seq ?_ | with_reducible refine WP.block ?_ | with_reducible refine WP.region ?_)
      refine WP.ret ?_; repeat (first | with_reducible refine QN.then_ret ?_ | with_reducible refine QN.block_ret ?_)
      exact QN.ret1 rfl rfl ⟨_, rfl, ⟨_, rfl⟩, rfl⟩
  · refine RL.pure T_ok 4 rfl ?_
    refine RL.eqv (v' := .bool false) (congrArg _ (decide_eq_false (by omega))) ?_
    refine RL.auto T_ok rfl ?_
    refine RL.nil ?_; repeat (first | with_reducible refine QN.block_normal ?_ | with_reducible refine QN.next ?_); repeat (first | with_reducible refine WP.seq ?_ | with_reducible refine WP.block ?_ | with_reducible refine WP.region ?_)
    refine WP.cond rfl (fun hh => by cases hh) (fun _ => ?_)
    refine WP.exit ?_; repeat (first | with_reducible refine QN.then_exit ?_ | with_reducible refine QN.block_exit ?_ | with_reducible refine QN.block_far rfl ?_ | with_reducible refine QN.block_normal ?_ | with_reducible refine QN.next ?_); repeat (first | with_reducible refine WP.seq ?_ | with_reducible refine WP.block ?_ | with_reducible refine WP.region ?_)
    refine RL.auto T_ok rfl ?_
    refine RL.nil ?_; repeat (first | with_reducible refine QN.block_normal ?_ | with_reducible refine QN.next ?_); repeat (first | with_reducible refine WP.seq ?_ | with_reducible refine WP.block ?_ | with_reducible refine WP.region ?_)
    refine WP.ret ?_; repeat (first | with_reducible refine QN.then_ret ?_ | with_reducible refine QN.block_ret ?_)
    exact QN.ret1 rfl rfl ⟨_, rfl, ⟨_, rfl⟩, rfl⟩
end Go.Proofs.Ytaogoblckkmkgaa
