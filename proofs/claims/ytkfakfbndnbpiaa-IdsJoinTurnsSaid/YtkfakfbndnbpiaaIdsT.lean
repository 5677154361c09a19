/- A number put into a sorted row, once. -/
import Derived.Test.YtkfakfbndnbpiaaIdsS
namespace Go.Proofs.Ytkfakfbndnbpiaa
open Go.RowKit Go.Ev Go.Ids

def nC (l : List Nat) : List Value := l.map fun (n : Nat) => Value.int .u64 n
theorem nC_len (l : List Nat) : (nC l).length = l.length := by simp [nC]
theorem nC_one (l : List Nat) : ∀ u ∈ nC l, u.oneCell' = true := by intro u hu; obtain ⟨n, _, rfl⟩ := List.mem_map.1 hu; rfl
theorem nC_get (l : List Nat) (i : Nat) (h : i < l.length) : (nC l)[i]? = some (.int .u64 l[i]) := by simp [nC, h]
theorem nC_app (a b : List Nat) : nC a ++ nC b = nC (a ++ b) := by simp [nC]
theorem nC_set (l : List Nat) (i n : Nat) : (nC l).set i (.int .u64 n) = nC (l.set i n) := by unfold nC; rw [List.map_set]
/-- A number put in at place i, where all before are smaller and none behind is. -/
theorem sput_sorted {l : List Nat} {i x : Nat} (hs : l.Pairwise (· < ·)) (hi : i ≤ l.length) (h1 : ∀ j (h : j < l.length), j < i → l[j] < x) (h2 : ∀ h : i < l.length, x < l[i]) : (l.take i ++ x :: l.drop i).Pairwise (· < ·) := by
  have hsplit : (l.take i ++ l.drop i).Pairwise (· < ·) := by rw [List.take_append_drop]; exact hs
  rw [List.pairwise_append] at hsplit
  obtain ⟨p1, p2, p3⟩ := hsplit
  have f1 : ∀ a ∈ l.take i, a < x := fun a ha => by
    obtain ⟨j, hj, rfl⟩ := List.mem_iff_getElem.1 ha
    rw [List.getElem_take]
    rw [List.length_take] at hj
    exact h1 j (by omega) (by omega)
  have f2 : ∀ a ∈ l.drop i, x < a := fun a ha => by
    obtain ⟨j, hj, rfl⟩ := List.mem_iff_getElem.1 ha
    rw [List.length_drop] at hj
    rw [List.getElem_drop]
    have h3 := h2 (by omega)
    rcases Nat.eq_zero_or_pos j with rfl | hj0
    · simpa using h3
    · have := List.pairwise_iff_getElem.1 hs i (i + j) (by omega) (by omega) (by omega)
      omega
  rw [List.pairwise_append]
  refine ⟨p1, List.pairwise_cons.2 ⟨f2, p2⟩, fun a ha b hb => ?_⟩
  rcases List.mem_cons.1 hb with rfl | hb
  · exact f1 a ha
  · exact p3 a ha b hb
theorem zip_set (l : List Nat) (w q : Nat) (h : q < l.length) : (l.take (q + 1) ++ w :: l.drop (q + 1)).set (q + 1) l[q] = l.take q ++ l[q] :: l.drop q := by
  rw [List.set_append_right _ _ (by rw [List.length_take]; omega), List.length_take, Nat.min_eq_left (by omega), Nat.sub_self, List.set_cons_zero]
  conv => rhs; rw [List.drop_eq_getElem_cons h]
  rw [List.take_succ_eq_append_getElem h, List.append_assoc]
  rfl
theorem zip_end (l : List Nat) (w x i : Nat) (h : i ≤ l.length) : (l.take i ++ w :: l.drop i).set i x = l.take i ++ x :: l.drop i := by
  rw [List.set_append_right _ _ (by rw [List.length_take]; omega), List.length_take, Nat.min_eq_left h, Nat.sub_self, List.set_cons_zero]
theorem zip_at (l : List Nat) (w q : Nat) (h : q < l.length) (h' : q < (l.take (q + 1) ++ w :: l.drop (q + 1)).length) : (l.take (q + 1) ++ w :: l.drop (q + 1))[q] = l[q] := by
  rw [List.getElem_append_left (by simp; omega), List.getElem_take]
theorem sorted_c (m : World) (S : List Nat) (v : Value) (l : List Nat) (x : Nat) (h : Ev.Own m S 37 1 v l.length (nC l)) (hl : l.length < 1000000000) (hs : l.Pairwise (· < ·)) :
    FnR Try.prog 110 [v, .int .u64 x] m fun r m' => ∃ L S', Ev.Own m' S' 37 1 r L.length (nC L) ∧ Ext m S m' ∧ FpNew m S S' ∧ L.Pairwise (· < ·) ∧ (∀ z, z ∈ L ↔ z ∈ l ∨ z = x) ∧ L.length ≤ l.length + 1 := by
  obtain ⟨A, c, rfl, _⟩ := h.shape
  have hS : Sl m [] 1 (.slice A l.length c) (nC l) := h.sl (by simp)
  refine FnE.enter ⟨_, Try.func110, by kernel_rfl, by kernel_rfl⟩ Try.func110 rfl rfl ?_
  repeat (first | with_reducible refine WP.seq ?_ | with_reducible refine WP.block ?_ | with_reducible refine WP.region ?_)
  refine RL.auto T_ok rfl ?_
  refine RL.nil ?_; repeat (first | with_reducible refine QN.block_normal ?_ | with_reducible refine QN.next ?_); repeat (first | with_reducible refine WP.seq ?_ | with_reducible refine WP.block ?_ | with_reducible refine WP.region ?_)
  refine RL.auto T_ok rfl ?_
  refine RL.nil ?_; repeat (first | with_reducible refine QN.block_normal ?_ | with_reducible refine QN.next ?_)
  refine WP.cut (X := Nat) (fun i => [(0, .slice A l.length c), (1, .int .u64 x), (5, .int .i64 i)]) (fun i m' => m' = m ∧ i ≤ l.length ∧ (∀ j (h : j < l.length), j < i → l[j] < x) ∧ ∀ h : i < l.length, x ≤ l[i]) ?_ ?_
  · refine WP.block ?_
    refine (WP.loop (X := Nat) (fun i => [(0, .slice A l.length c), (1, .int .u64 x), (5, .int .i64 i)])
      (fun i m' => m' = m ∧ i ≤ l.length ∧ (∀ j (h : j < l.length), j < i → l[j] < x)) (fun i => l.length - i) 0
      (Sub.cons rfl (Sub.cons rfl (Sub.cons rfl Sub.nil))) ⟨rfl, by simp, (fun j _ hj => absurd hj (by omega))⟩ ?_)
    rintro i m1 ⟨rfl, hi, hlt⟩
    repeat (first | with_reducible refine WP.seq ?_ | with_reducible refine WP.block ?_ | with_reducible refine WP.region ?_)
    refine RL.pure T_ok 4 rfl ?_
    by_cases hc : i < l.length
    rotate_left
    · refine RL.eqv (v' := .bool false) (congrArg _ (decide_eq_false (by omega))) ?_
      refine RL.auto T_ok rfl ?_
      refine RL.nil ?_; repeat (first | with_reducible refine QN.block_normal ?_ | with_reducible refine QN.next ?_)
      refine WP.condF rfl ?_
      refine WP.exit ?_
      repeat (first | with_reducible refine QN.then_exit ?_ | with_reducible refine QN.block_exit ?_ | with_reducible refine QN.block_normal ?_)
      exact QN.cutEnd i (Sub.cons rfl (Sub.cons rfl (Sub.cons rfl Sub.nil))) ⟨rfl, hi, hlt, fun h => absurd h hc⟩
    refine RL.eqv (v' := .bool true) (congrArg _ (decide_eq_true (by omega))) ?_
    refine RL.pure T_ok 3 rfl ?_
    refine RL.index T_ok hS (k := i) rfl hc rfl rfl rfl rfl (fun ad _ _ hcell => ⟨_, rfl, ?_⟩)
    have hx := hcell 0 _ (by rw [Nat.mul_one]; exact nC_get l i hc)
    refine RL.load T_ok rfl rfl rfl (by rw [add_add] at hx; exact hx) rfl ?_
    refine RL.pure T_ok 2 rfl ?_
    by_cases hcx : l[i] < x
    rotate_left
    · refine RL.eqv (v' := .bool false) (congrArg _ (by rw [dlt]; exact decide_eq_false hcx)) ?_
      refine RL.auto T_ok rfl ?_
      refine RL.nil ?_; repeat (first | with_reducible refine QN.block_normal ?_ | with_reducible refine QN.next ?_)
      refine WP.condF rfl ?_
      refine WP.exit ?_
      repeat (first | with_reducible refine QN.then_exit ?_ | with_reducible refine QN.block_exit ?_ | with_reducible refine QN.block_normal ?_)
      exact QN.cutEnd i (Sub.cons rfl (Sub.cons rfl (Sub.cons rfl Sub.nil))) ⟨rfl, hi, hlt, fun _ => by omega⟩
    refine RL.eqv (v' := .bool true) (congrArg _ (by rw [dlt]; exact decide_eq_true hcx)) ?_
    refine RL.auto T_ok rfl ?_
    refine RL.nil ?_; repeat (first | with_reducible refine QN.block_normal ?_ | with_reducible refine QN.next ?_); repeat (first | with_reducible refine WP.seq ?_ | with_reducible refine WP.block ?_ | with_reducible refine WP.region ?_)
    refine WP.condT rfl ?_
    refine WP.skip ?_; repeat (first | with_reducible refine QN.block_normal ?_ | with_reducible refine QN.next ?_); repeat (first | with_reducible refine WP.seq ?_ | with_reducible refine WP.block ?_ | with_reducible refine WP.region ?_)
    refine RL.pure T_ok 2 rfl ?_
    refine RL.eqv (v' := .int .i64 ((i + 1 : Nat) : Int)) (congrArg _ (by rw [wrap_i64_in _ (by omega) (by omega)]; rfl)) ?_
    refine RL.auto T_ok rfl ?_
    refine RL.nil ?_
    repeat (first | with_reducible refine QN.block_normal ?_ | with_reducible refine QN.next ?_)
    refine QN.round (i + 1) (Sub.cons rfl (Sub.cons rfl (Sub.cons rfl Sub.nil))) ⟨rfl, by omega, fun j hj hji => ?_⟩ (by omega)
    by_cases hj2 : j = i
    · subst hj2; exact hcx
    · exact hlt j hj (by omega)
  · rintro i m1 ⟨rfl, hi, hlt, hge⟩
    refine WP.cut (X := Unit) (fun _ => [(0, .slice A l.length c), (1, .int .u64 x), (5, .int .i64 i)]) (fun _ m' => m' = m1 ∧ ∀ h : i < l.length, x < l[i]) ?_ ?_
    · repeat (first | with_reducible refine WP.seq ?_ | with_reducible refine WP.block ?_ | with_reducible refine WP.region ?_)
      refine RL.pure T_ok 4 rfl ?_
      by_cases hc : i < l.length
      rotate_left
      · refine RL.eqv (v' := .bool false) (congrArg _ (decide_eq_false (by omega))) ?_
        refine RL.auto T_ok rfl ?_
        refine RL.nil ?_; repeat (first | with_reducible refine QN.block_normal ?_ | with_reducible refine QN.next ?_)
        refine WP.condF rfl ?_
        refine WP.skip ?_
        exact QN.cutEnd () (Sub.cons rfl (Sub.cons rfl (Sub.cons rfl Sub.nil))) ⟨rfl, fun h => absurd h hc⟩
      refine RL.eqv (v' := .bool true) (congrArg _ (decide_eq_true (by omega))) ?_
      refine RL.pure T_ok 3 rfl ?_
      refine RL.index T_ok hS (k := i) rfl hc rfl rfl rfl rfl (fun ad _ _ hcell => ⟨_, rfl, ?_⟩)
      have hx := hcell 0 _ (by rw [Nat.mul_one]; exact nC_get l i hc)
      refine RL.load T_ok rfl rfl rfl (by rw [add_add] at hx; exact hx) rfl ?_
      refine RL.pure T_ok 2 rfl ?_
      by_cases hcx : l[i] = x
      · refine RL.eqv (v' := .bool true) (congrArg _ (by rw [deq]; exact decide_eq_true hcx)) ?_
        refine RL.auto T_ok rfl ?_
        refine RL.nil ?_; repeat (first | with_reducible refine QN.block_normal ?_ | with_reducible refine QN.next ?_)
        refine WP.condT rfl ?_
        repeat (first | with_reducible refine WP.seq ?_ | with_reducible refine WP.block ?_ | with_reducible refine WP.region ?_)
        refine RL.auto T_ok rfl ?_
        refine RL.nil ?_; repeat (first | with_reducible refine QN.block_normal ?_ | with_reducible refine QN.next ?_); repeat (first | with_reducible refine WP.seq ?_ | with_reducible refine WP.block ?_ | with_reducible refine WP.region ?_)
        refine WP.ret ?_; repeat (first | with_reducible refine QN.then_ret ?_ | with_reducible refine QN.block_ret ?_)
        exact QN.ret1 rfl rfl ⟨_, rfl, l, S, h, Ext.refl _ _, FpNew.refl _ _, hs, (fun z => ⟨.inl, fun hz => hz.elim id fun hz => by rw [hz, ← hcx]; exact List.getElem_mem _⟩), by omega⟩
      · refine RL.eqv (v' := .bool false) (congrArg _ (by rw [deq]; exact decide_eq_false hcx)) ?_
        refine RL.auto T_ok rfl ?_
        refine RL.nil ?_; repeat (first | with_reducible refine QN.block_normal ?_ | with_reducible refine QN.next ?_)
        refine WP.condF rfl ?_
        refine WP.skip ?_
        have h1 := hge hc
        exact QN.cutEnd () (Sub.cons rfl (Sub.cons rfl (Sub.cons rfl Sub.nil))) ⟨rfl, fun _ => by omega⟩
    rintro _ mc ⟨rfl, hgt⟩
    repeat (first | with_reducible refine WP.seq ?_ | with_reducible refine WP.block ?_ | with_reducible refine WP.region ?_)
    refine RL.auto T_ok rfl ?_
    refine RL.append1 T_ok [.const (.int .u64 0)] h (us := [.int .u64 0]) [.int .u64 0] rfl rfl rfl rfl rfl rfl rfl rfl rfl (by simp [Value.cells]) (by simp [Value.cells]) (by simp [Value.oneCell']) (by unfold maxLen; omega) (by show (_ + 1) * 8 ≤ _; omega) ?_
    intro v4 m4 S4 hO4 hE4 hF4
    refine ⟨_, rfl, ?_⟩
    obtain ⟨A4, c4, rfl, _⟩ := hO4.shape
    have hO4 : Ev.Own m4 S4 37 1 (.slice A4 (l.length + 1) c4) (l.length + 1) (nC (l.take l.length ++ 0 :: l.drop l.length)) := by
      have e : nC l ++ [Value.int .u64 0] = nC (l.take l.length ++ 0 :: l.drop l.length) := by simp [nC]
      rw [← e]; exact hO4
    refine RL.auto T_ok rfl ?_
    refine RL.nil ?_; repeat (first | with_reducible refine QN.block_normal ?_ | with_reducible refine QN.next ?_); repeat (first | with_reducible refine WP.seq ?_ | with_reducible refine WP.block ?_ | with_reducible refine WP.region ?_)
    refine RL.pure T_ok 3 rfl ?_
    refine RL.eqv (v' := .int .i64 (l.length : Int)) (congrArg _ (by rw [wrap_i64_in _ (by omega) (by omega)]; omega)) ?_
    refine RL.auto T_ok rfl ?_
    refine RL.nil ?_; repeat (first | with_reducible refine QN.block_normal ?_ | with_reducible refine QN.next ?_); repeat (first | with_reducible refine WP.seq ?_ | with_reducible refine WP.block ?_ | with_reducible refine WP.region ?_)
    refine (WP.loop (X := Nat × Nat) (fun q => [(0, .slice A4 (l.length + 1) c4), (1, .int .u64 x), (5, .int .i64 i), (6, .int .i64 q.1)])
      (fun q m' => i ≤ q.1 ∧ q.1 ≤ l.length ∧ Ev.Own m' S4 37 1 (.slice A4 (l.length + 1) c4) (l.length + 1) (nC (l.take q.1 ++ q.2 :: l.drop q.1)) ∧ Ext m4 S4 m') (fun q => q.1) (l.length, 0)
      (Sub.cons rfl (Sub.cons rfl (Sub.cons rfl (Sub.cons rfl Sub.nil)))) ⟨hi, Nat.le_refl _, hO4, Ext.refl _ _⟩ ?_)
    rintro ⟨k, w⟩ m5 ⟨k1, k2, hO5, hE5⟩
    simp only at k1 k2 hO5
    have hS5 : Sl m5 [] 1 (.slice A4 (l.length + 1) c4) (nC (l.take k ++ w :: l.drop k)) := hO5.sl (by simp)
    repeat (first | with_reducible refine WP.seq ?_ | with_reducible refine WP.block ?_ | with_reducible refine WP.region ?_)
    refine RL.auto T_ok rfl ?_
    refine RL.nil ?_; repeat (first | with_reducible refine QN.block_normal ?_ | with_reducible refine QN.next ?_); repeat (first | with_reducible refine WP.seq ?_ | with_reducible refine WP.block ?_ | with_reducible refine WP.region ?_)
    refine WP.cond rfl (fun hck => ?_) (fun hck => ?_)
    · replace hck : i < k := by have := of_decide_eq_true hck; simp only at this; omega
      obtain ⟨q, rfl⟩ : ∃ q, k = q + 1 := ⟨k - 1, by omega⟩
      refine WP.skip ?_; repeat (first | with_reducible refine QN.block_normal ?_ | with_reducible refine QN.next ?_); repeat (first | with_reducible refine WP.seq ?_ | with_reducible refine WP.block ?_ | with_reducible refine WP.region ?_)
      refine RL.pure T_ok 5 rfl ?_
      refine RL.eqv (v' := .int .i64 (q : Int)) (congrArg _ (by rw [wrap_i64_in _ (by omega) (by omega)]; omega)) ?_
      refine RL.index T_ok hS5 (k := q) rfl (by omega) rfl rfl rfl rfl (fun ad had _ hcell => ⟨_, rfl, ?_⟩)
      have hg := nC_get (l.take (q + 1) ++ w :: l.drop (q + 1)) q (by simp; omega)
      rw [zip_at l w q (by omega)] at hg
      have hx := hcell 0 (.int .u64 l[q]) (by rw [Nat.mul_one]; exact hg)
      refine RL.load T_ok rfl rfl rfl (by rw [add_add] at hx; exact hx) rfl ?_
      obtain ⟨g, cap, cur, hv8, hB8, hS8, hj8, hset⟩ := hO5.putN (j := q + 1) (by omega)
      injection hv8 with hv8 hv8'
      subst hv8
      refine RL.indexAddr (k := q + 1) T_ok rfl rfl rfl rfl rfl rfl rfl (by omega) rfl ?_
      refine RL.eqv (v' := .pointer (some ⟨g, q + 1, none⟩)) (congrArg (fun q => Value.pointer (some q)) (by rw [add_block]; show (⟨g, 0 + (q + 1) * 1, none⟩ : Addr) = _; rw [Nat.zero_add, Nat.mul_one])) ?_
      refine RL.store T_ok hB8 (i := q + 1) (v := .int .u64 l[q]) hj8 rfl rfl rfl rfl rfl rfl ?_
      intro m6 hC6
      have hO6 := hset m6 _ hC6
      rw [nC_set, zip_set l w q (by omega)] at hO6
      refine RL.nil ?_; repeat (first | with_reducible refine QN.block_normal ?_ | with_reducible refine QN.next ?_); repeat (first | with_reducible refine WP.seq ?_ | with_reducible refine WP.block ?_ | with_reducible refine WP.region ?_)
      refine RL.pure T_ok 2 rfl ?_
      refine RL.eqv (v' := .int .i64 (q : Int)) (congrArg _ (by rw [wrap_i64_in _ (by omega) (by omega)]; omega)) ?_
      refine RL.auto T_ok rfl ?_
      exact RL.nil (QN.round (q, l[q]) (Sub.cons rfl (Sub.cons rfl (Sub.cons rfl (Sub.cons rfl Sub.nil)))) ⟨by show i ≤ q; omega, by show q ≤ _; omega, hO6, hE5.trans hC6.ext (fun k hk => .inl (by rw [hS8]; exact hk))⟩ (by show q < q + 1; omega))
    · replace hck : k = i := by have := of_decide_eq_false hck; simp only at this; omega
      subst hck
      obtain ⟨g, cap, cur, hv8, hB8, hS8, hj8, hset⟩ := hO5.putN (j := k) (by omega)
      injection hv8 with hv8 hv8'
      subst hv8
      refine WP.exit ?_; repeat (first | with_reducible refine QN.then_exit ?_ | with_reducible refine QN.block_exit ?_ | with_reducible refine QN.block_far rfl ?_ | with_reducible refine QN.block_normal ?_ | with_reducible refine QN.next ?_); repeat (first | with_reducible refine WP.seq ?_ | with_reducible refine WP.block ?_ | with_reducible refine WP.region ?_)
      refine RL.auto T_ok rfl ?_
      refine RL.indexAddr (k := k) T_ok rfl rfl rfl rfl rfl rfl rfl (by omega) rfl ?_
      refine RL.eqv (v' := .pointer (some ⟨g, k, none⟩)) (congrArg (fun q => Value.pointer (some q)) (by rw [add_block]; show (⟨g, 0 + k * 1, none⟩ : Addr) = _; rw [Nat.zero_add, Nat.mul_one])) ?_
      refine RL.store T_ok hB8 (i := k) (v := .int .u64 x) hj8 rfl rfl rfl rfl rfl rfl ?_
      intro m6 hC6
      have hO6 := hset m6 _ hC6
      rw [nC_set, zip_end l w x k k2] at hO6
      have hlen6 : (l.take k ++ x :: l.drop k).length = l.length + 1 := by simp; omega
      have hE6 : Ext m4 S4 m6 := hE5.trans hC6.ext (fun k hk => .inl (by rw [hS8]; exact hk))
      refine RL.nil ?_; repeat (first | with_reducible refine QN.block_normal ?_ | with_reducible refine QN.next ?_); repeat (first | with_reducible refine WP.seq ?_ | with_reducible refine WP.block ?_ | with_reducible refine WP.region ?_)
      refine RL.auto T_ok rfl ?_
      refine RL.nil ?_; repeat (first | with_reducible refine QN.block_normal ?_ | with_reducible refine QN.next ?_); repeat (first | with_reducible refine WP.seq ?_ | with_reducible refine WP.block ?_ | with_reducible refine WP.region ?_)
      refine WP.ret ?_; repeat (first | with_reducible refine QN.then_ret ?_ | with_reducible refine QN.block_ret ?_)
      refine QN.ret1 rfl rfl ⟨_, rfl, l.take k ++ x :: l.drop k, S4, by rw [hlen6]; exact hO6, hE4.trans hE6 hF4, hF4, sput_sorted hs k2 hlt hgt, fun z => ?_, by omega⟩
      have : z ∈ l ↔ z ∈ l.take k ∨ z ∈ l.drop k := by conv => lhs; rw [← List.take_append_drop k l, List.mem_append]
      rw [List.mem_append, List.mem_cons, this]
      constructor
      · rintro (h | h | h)
        · exact .inl (.inl h)
        · exact .inr h
        · exact .inl (.inr h)
      · rintro ((h | h) | h)
        · exact .inl h
        · exact .inr (.inr h)
        · exact .inr (.inl h)
end Go.Proofs.Ytkfakfbndnbpiaa
