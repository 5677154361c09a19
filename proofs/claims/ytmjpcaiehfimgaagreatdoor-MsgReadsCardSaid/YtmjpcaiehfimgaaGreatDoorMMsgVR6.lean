/- Texts that belong together. -/
import Derived.Test.YtmjpcaiehfimgaaGreatDoorMMsgVR5
section
namespace Go.Proofs.YtmjpcaiehfimgaaGreatDoor
open Go.RowKit Go.Ev Go.Ids
def nC (l : List Nat) : List Value := l.map fun (n : Nat) => Value.int .u64 n
theorem nC_len (l : List Nat) : (nC l).length = l.length := by simp [nC]
theorem nC_get (l : List Nat) (i : Nat) (h : i < l.length) : (nC l)[i]? = some (.int .u64 l[i]) := by simp [nC, h]
theorem nC_set (l : List Nat) (i n : Nat) : (nC l).set i (.int .u64 n) = nC (l.set i n) := by unfold nC; rw [List.map_set]
theorem sput_sorted {l : List Nat} {i x : Nat} (hs : l.Pairwise (· < ·)) (hi : i ≤ l.length) (h1 : ∀ j (h : j < l.length), j < i → l[j] < x) (h2 : ∀ h : i < l.length, x < l[i]) : (l.take i ++ x :: l.drop i).Pairwise (· < ·) := by
  have hsplit : (l.take i ++ l.drop i).Pairwise (· < ·) := by rw [List.take_append_drop]; exact hs
  rw [List.pairwise_append] at hsplit
  obtain ⟨p1, p2, p3⟩ := hsplit
  have f1 : ∀ a ∈ l.take i, a < x := fun a ha => by
    obtain ⟨j, hj, rfl⟩ := List.mem_iff_getElem.1 ha
    rw [List.getElem_take]
    rw [List.length_take] at hj
    exact h1 j (by omega) (by omega)
  have f2 : ∀ a ∈ l.drop i, x < a := fun a ha => by
    obtain ⟨j, hj, rfl⟩ := List.mem_iff_getElem.1 ha
    rw [List.length_drop] at hj
    rw [List.getElem_drop]
    have h3 := h2 (by omega)
    rcases Nat.eq_zero_or_pos j with rfl | hj0
    · simpa using h3
    · have := List.pairwise_iff_getElem.1 hs i (i + j) (by omega) (by omega) (by omega)
      omega
  rw [List.pairwise_append]
  refine ⟨p1, List.pairwise_cons.2 ⟨f2, p2⟩, fun a ha b hb => ?_⟩
  rcases List.mem_cons.1 hb with rfl | hb
  · exact f1 a ha
  · exact p3 a ha b hb
theorem zip_set (l : List Nat) (w q : Nat) (h : q < l.length) : (l.take (q + 1) ++ w :: l.drop (q + 1)).set (q + 1) l[q] = l.take q ++ l[q] :: l.drop q := by
  rw [List.set_append_right _ _ (by rw [List.length_take]; omega), List.length_take, Nat.min_eq_left (by omega), Nat.sub_self, List.set_cons_zero]
  conv => rhs; rw [List.drop_eq_getElem_cons h]
  rw [List.take_succ_eq_append_getElem h, List.append_assoc]
  rfl
theorem zip_end (l : List Nat) (w x i : Nat) (h : i ≤ l.length) : (l.take i ++ w :: l.drop i).set i x = l.take i ++ x :: l.drop i := by
  rw [List.set_append_right _ _ (by rw [List.length_take]; omega), List.length_take, Nat.min_eq_left h, Nat.sub_self, List.set_cons_zero]
theorem zip_at (l : List Nat) (w q : Nat) (h : q < l.length) (h' : q < (l.take (q + 1) ++ w :: l.drop (q + 1)).length) : (l.take (q + 1) ++ w :: l.drop (q + 1))[q] = l[q] := by
  rw [List.getElem_append_left (by simp; omega), List.getElem_take]
theorem sorted_c (m : World) (S : List Nat) (v : Value) (l : List Nat) (x : Nat) (h : Ev.Own m S 22 1 v l.length (nC l)) (hl : l.length < 1000000000) (hs : l.Pairwise (· < ·)) :
    FnR Tryz.prog 95 [v, .int .u64 x] m fun r m' => ∃ L S', Ev.Own m' S' 22 1 r L.length (nC L) ∧ Ext m S m' ∧ FpNew m S S' ∧ L.Pairwise (· < ·) ∧ (∀ z, z ∈ L ↔ z ∈ l ∨ z = x) ∧ L.length ≤ l.length + 1 := by
  obtain ⟨A, c, rfl, _⟩ := h.shape
  have hS : Sl m [] 1 (.slice A l.length c) (nC l) := h.sl (by simp)
  refine FnE.enter ⟨_, Tryz.func95, by kernel_rfl, by kernel_rfl⟩ Tryz.func95 rfl rfl ?_
  (with_reducible repeat (first | refine WP.S1 ?_ | refine WP.B1 ?_ | refine WP.R1 ?_))
  refine RL.A1 T_ok rfl ?_
  refine RL.N1 ?_; (with_reducible repeat (first | refine QN.B1 ?_ | refine QN.N1 ?_ | refine WP.S1 ?_ | refine WP.B1 ?_ | refine WP.R1 ?_))
  refine RL.A1 T_ok rfl ?_
  refine RL.N1 ?_; (with_reducible repeat (first | refine QN.B1 ?_ | refine QN.N1 ?_))
  refine WP.cut (X := Nat) (fun i => [(0, .slice A l.length c), (1, .int .u64 x), (5, .int .i64 i)]) (fun i m' => m' = m ∧ i ≤ l.length ∧ (∀ j (h : j < l.length), j < i → l[j] < x) ∧ ∀ h : i < l.length, x ≤ l[i]) ?_ ?_
  · refine WP.B1 ?_
    refine (WP.loop (X := Nat) (fun i => [(0, .slice A l.length c), (1, .int .u64 x), (5, .int .i64 i)])
      (fun i m' => m' = m ∧ i ≤ l.length ∧ (∀ j (h : j < l.length), j < i → l[j] < x)) (fun i => l.length - i) 0
      (Sub.C1 rfl (Sub.C1 rfl (Sub.C1 rfl Sub.nil))) ⟨rfl, by simp, (fun j _ hj => absurd hj (by omega))⟩ ?_)
    rintro i m1 ⟨rfl, hi, hlt⟩
    (with_reducible repeat (first | refine WP.S1 ?_ | refine WP.B1 ?_ | refine WP.R1 ?_))
    refine RL.pure T_ok 4 rfl ?_
    by_cases hc : i < l.length
    rotate_left
    · refine RL.eqv (v' := .bool false) (congrArg _ (decide_eq_false (by omega))) ?_
      refine RL.A1 T_ok rfl ?_
      refine RL.N1 ?_; (with_reducible repeat (first | refine QN.B1 ?_ | refine QN.N1 ?_))
      refine WP.condF rfl ?_
      refine WP.exit ?_
      (with_reducible repeat (first | refine QN.tx ?_ | refine QN.bx ?_ | refine QN.B1 ?_))
      exact QN.cutEnd i (Sub.C1 rfl (Sub.C1 rfl (Sub.C1 rfl Sub.nil))) ⟨rfl, hi, hlt, fun h => absurd h hc⟩
    refine RL.eqv (v' := .bool true) (congrArg _ (decide_eq_true (by omega))) ?_
    refine RL.pure T_ok 3 rfl ?_
    refine RL.index T_ok hS (k := i) rfl hc rfl rfl rfl rfl (fun ad _ _ hcell => ⟨_, rfl, ?_⟩)
    have hx := hcell 0 _ (by rw [Nat.mul_one]; exact nC_get l i hc)
    refine RL.load T_ok rfl rfl rfl (by rw [add_add] at hx; exact hx) rfl ?_
    refine RL.pure T_ok 2 rfl ?_
    by_cases hcx : l[i] < x
    rotate_left
    · refine RL.eqv (v' := .bool false) (congrArg _ (by rw [dlt]; exact decide_eq_false hcx)) ?_
      refine RL.A1 T_ok rfl ?_
      refine RL.N1 ?_; (with_reducible repeat (first | refine QN.B1 ?_ | refine QN.N1 ?_))
      refine WP.condF rfl ?_
      refine WP.exit ?_
      (with_reducible repeat (first | refine QN.tx ?_ | refine QN.bx ?_ | refine QN.B1 ?_))
      exact QN.cutEnd i (Sub.C1 rfl (Sub.C1 rfl (Sub.C1 rfl Sub.nil))) ⟨rfl, hi, hlt, fun _ => by omega⟩
    refine RL.eqv (v' := .bool true) (congrArg _ (by rw [dlt]; exact decide_eq_true hcx)) ?_
    refine RL.A1 T_ok rfl ?_
    refine RL.N1 ?_; (with_reducible repeat (first | refine QN.B1 ?_ | refine QN.N1 ?_ | refine WP.S1 ?_ | refine WP.B1 ?_ | refine WP.R1 ?_))
    refine WP.condT rfl ?_
    refine WP.skip ?_; (with_reducible repeat (first | refine QN.B1 ?_ | refine QN.N1 ?_ | refine WP.S1 ?_ | refine WP.B1 ?_ | refine WP.R1 ?_))
    refine RL.pure T_ok 2 rfl ?_
    refine RL.eqv (v' := .int .i64 ((i + 1 : Nat) : Int)) (congrArg _ (by rw [wrap_i64_in _ (by omega) (by omega)]; rfl)) ?_
    refine RL.A1 T_ok rfl ?_
    refine RL.N1 ?_
    (with_reducible repeat (first | refine QN.B1 ?_ | refine QN.N1 ?_))
    refine QN.round (i + 1) (Sub.C1 rfl (Sub.C1 rfl (Sub.C1 rfl Sub.nil))) ⟨rfl, by omega, fun j hj hji => ?_⟩ (by omega)
    by_cases hj2 : j = i
    · subst hj2; exact hcx
    · exact hlt j hj (by omega)
  · rintro i m1 ⟨rfl, hi, hlt, hge⟩
    refine WP.cut (X := Unit) (fun _ => [(0, .slice A l.length c), (1, .int .u64 x), (5, .int .i64 i)]) (fun _ m' => m' = m1 ∧ ∀ h : i < l.length, x < l[i]) ?_ ?_
    · (with_reducible repeat (first | refine WP.S1 ?_ | refine WP.B1 ?_ | refine WP.R1 ?_))
      refine RL.pure T_ok 4 rfl ?_
      by_cases hc : i < l.length
      rotate_left
      · refine RL.eqv (v' := .bool false) (congrArg _ (decide_eq_false (by omega))) ?_
        refine RL.A1 T_ok rfl ?_
        refine RL.N1 ?_; (with_reducible repeat (first | refine QN.B1 ?_ | refine QN.N1 ?_))
        refine WP.condF rfl ?_
        refine WP.skip ?_
        exact QN.cutEnd () (Sub.C1 rfl (Sub.C1 rfl (Sub.C1 rfl Sub.nil))) ⟨rfl, fun h => absurd h hc⟩
      refine RL.eqv (v' := .bool true) (congrArg _ (decide_eq_true (by omega))) ?_
      refine RL.pure T_ok 3 rfl ?_
      refine RL.index T_ok hS (k := i) rfl hc rfl rfl rfl rfl (fun ad _ _ hcell => ⟨_, rfl, ?_⟩)
      have hx := hcell 0 _ (by rw [Nat.mul_one]; exact nC_get l i hc)
      refine RL.load T_ok rfl rfl rfl (by rw [add_add] at hx; exact hx) rfl ?_
      refine RL.pure T_ok 2 rfl ?_
      by_cases hcx : l[i] = x
      · refine RL.eqv (v' := .bool true) (congrArg _ (by rw [deq]; exact decide_eq_true hcx)) ?_
        refine RL.A1 T_ok rfl ?_
        refine RL.N1 ?_; (with_reducible repeat (first | refine QN.B1 ?_ | refine QN.N1 ?_))
        refine WP.condT rfl ?_
        (with_reducible repeat (first | refine WP.S1 ?_ | refine WP.B1 ?_ | refine WP.R1 ?_))
        refine RL.A1 T_ok rfl ?_
        refine RL.N1 ?_; (with_reducible repeat (first | refine QN.B1 ?_ | refine QN.N1 ?_ | refine WP.S1 ?_ | refine WP.B1 ?_ | refine WP.R1 ?_))
        refine WP.ret ?_; (with_reducible repeat (first | refine QN.tr ?_ | refine QN.br ?_))
        exact QN.ret1 rfl rfl ⟨_, rfl, l, S, h, Ext.refl _ _, FpNew.refl _ _, hs, (fun z => ⟨.inl, fun hz => hz.elim id fun hz => by rw [hz, ← hcx]; exact List.getElem_mem _⟩), by omega⟩
      · refine RL.eqv (v' := .bool false) (congrArg _ (by rw [deq]; exact decide_eq_false hcx)) ?_
        refine RL.A1 T_ok rfl ?_
        refine RL.N1 ?_; (with_reducible repeat (first | refine QN.B1 ?_ | refine QN.N1 ?_))
        refine WP.condF rfl ?_
        refine WP.skip ?_
        have h1 := hge hc
        exact QN.cutEnd () (Sub.C1 rfl (Sub.C1 rfl (Sub.C1 rfl Sub.nil))) ⟨rfl, fun _ => by omega⟩
    rintro _ mc ⟨rfl, hgt⟩
    (with_reducible repeat (first | refine WP.S1 ?_ | refine WP.B1 ?_ | refine WP.R1 ?_))
    refine RL.A1 T_ok rfl ?_
    refine RL.append1 T_ok [.const (.int .u64 0)] h (us := [.int .u64 0]) [.int .u64 0] rfl rfl rfl rfl rfl rfl rfl rfl rfl (by simp [Value.cells]) (by simp [Value.cells]) (by simp [Value.oneCell']) (by unfold maxLen; omega) (by show (_ + 1) * 8 ≤ _; omega) ?_
    intro v4 m4 S4 hO4 hE4 hF4
    refine ⟨_, rfl, ?_⟩
    obtain ⟨A4, c4, rfl, _⟩ := hO4.shape
    have hO4 : Ev.Own m4 S4 22 1 (.slice A4 (l.length + 1) c4) (l.length + 1) (nC (l.take l.length ++ 0 :: l.drop l.length)) := by
      have e : nC l ++ [Value.int .u64 0] = nC (l.take l.length ++ 0 :: l.drop l.length) := by simp [nC]
      rw [← e]; exact hO4
    refine RL.A1 T_ok rfl ?_
    refine RL.N1 ?_; (with_reducible repeat (first | refine QN.B1 ?_ | refine QN.N1 ?_ | refine WP.S1 ?_ | refine WP.B1 ?_ | refine WP.R1 ?_))
    refine RL.pure T_ok 3 rfl ?_
    refine RL.eqv (v' := .int .i64 (l.length : Int)) (congrArg _ (by rw [wrap_i64_in _ (by omega) (by omega)]; omega)) ?_
    refine RL.A1 T_ok rfl ?_
    refine RL.N1 ?_; (with_reducible repeat (first | refine QN.B1 ?_ | refine QN.N1 ?_ | refine WP.S1 ?_ | refine WP.B1 ?_ | refine WP.R1 ?_))
    refine (WP.loop (X := Nat × Nat) (fun q => [(0, .slice A4 (l.length + 1) c4), (1, .int .u64 x), (5, .int .i64 i), (6, .int .i64 q.1)])
      (fun q m' => i ≤ q.1 ∧ q.1 ≤ l.length ∧ Ev.Own m' S4 22 1 (.slice A4 (l.length + 1) c4) (l.length + 1) (nC (l.take q.1 ++ q.2 :: l.drop q.1)) ∧ Ext m4 S4 m') (fun q => q.1) (l.length, 0)
      (Sub.C1 rfl (Sub.C1 rfl (Sub.C1 rfl (Sub.C1 rfl Sub.nil)))) ⟨hi, Nat.le_refl _, hO4, Ext.refl _ _⟩ ?_)
    rintro ⟨k, w⟩ m5 ⟨k1, k2, hO5, hE5⟩
    simp only at k1 k2 hO5
    have hS5 : Sl m5 [] 1 (.slice A4 (l.length + 1) c4) (nC (l.take k ++ w :: l.drop k)) := hO5.sl (by simp)
    (with_reducible repeat (first | refine WP.S1 ?_ | refine WP.B1 ?_ | refine WP.R1 ?_))
    refine RL.A1 T_ok rfl ?_
    refine RL.N1 ?_; (with_reducible repeat (first | refine QN.B1 ?_ | refine QN.N1 ?_ | refine WP.S1 ?_ | refine WP.B1 ?_ | refine WP.R1 ?_))
    refine WP.cond rfl (fun hck => ?_) (fun hck => ?_)
    · replace hck : i < k := by have := of_decide_eq_true hck; simp only at this; omega
      obtain ⟨q, rfl⟩ : ∃ q, k = q + 1 := ⟨k - 1, by omega⟩
      refine WP.skip ?_; (with_reducible repeat (first | refine QN.B1 ?_ | refine QN.N1 ?_ | refine WP.S1 ?_ | refine WP.B1 ?_ | refine WP.R1 ?_))
      refine RL.pure T_ok 5 rfl ?_
      refine RL.eqv (v' := .int .i64 (q : Int)) (congrArg _ (by rw [wrap_i64_in _ (by omega) (by omega)]; omega)) ?_
      refine RL.index T_ok hS5 (k := q) rfl (by omega) rfl rfl rfl rfl (fun ad had _ hcell => ⟨_, rfl, ?_⟩)
      have hg := nC_get (l.take (q + 1) ++ w :: l.drop (q + 1)) q (by simp; omega)
      rw [zip_at l w q (by omega)] at hg
      have hx := hcell 0 (.int .u64 l[q]) (by rw [Nat.mul_one]; exact hg)
      refine RL.load T_ok rfl rfl rfl (by rw [add_add] at hx; exact hx) rfl ?_
      obtain ⟨g, cap, cur, hv8, hB8, hS8, hj8, hset⟩ := hO5.putN (j := q + 1) (by omega)
      injection hv8 with hv8 hv8'
      subst hv8
      refine RL.indexAddr (k := q + 1) T_ok rfl rfl rfl rfl rfl rfl rfl (by omega) rfl ?_
      refine RL.eqv (v' := .pointer (some ⟨g, q + 1, none⟩)) (congrArg (fun q => Value.pointer (some q)) (by rw [add_block]; show (⟨g, 0 + (q + 1) * 1, none⟩ : Addr) = _; rw [Nat.zero_add, Nat.mul_one])) ?_
      refine RL.store T_ok hB8 (i := q + 1) (v := .int .u64 l[q]) hj8 rfl rfl rfl rfl rfl rfl ?_
      intro m6 hC6
      have hO6 := hset m6 _ hC6
      rw [nC_set, zip_set l w q (by omega)] at hO6
      refine RL.N1 ?_; (with_reducible repeat (first | refine QN.B1 ?_ | refine QN.N1 ?_ | refine WP.S1 ?_ | refine WP.B1 ?_ | refine WP.R1 ?_))
      refine RL.pure T_ok 2 rfl ?_
      refine RL.eqv (v' := .int .i64 (q : Int)) (congrArg _ (by rw [wrap_i64_in _ (by omega) (by omega)]; omega)) ?_
      refine RL.A1 T_ok rfl ?_
      exact RL.N1 (QN.round (q, l[q]) (Sub.C1 rfl (Sub.C1 rfl (Sub.C1 rfl (Sub.C1 rfl Sub.nil)))) ⟨by show i ≤ q; omega, by show q ≤ _; omega, hO6, hE5.trans hC6.ext (fun k hk => .inl (by rw [hS8]; exact hk))⟩ (by show q < q + 1; omega))
    · replace hck : k = i := by have := of_decide_eq_false hck; simp only at this; omega
      subst hck
      obtain ⟨g, cap, cur, hv8, hB8, hS8, hj8, hset⟩ := hO5.putN (j := k) (by omega)
      injection hv8 with hv8 hv8'
      subst hv8
      refine WP.exit ?_; (with_reducible repeat (first | refine QN.tx ?_ | refine QN.bx ?_ | refine QN.block_far rfl ?_ | refine QN.B1 ?_ | refine QN.N1 ?_)); (with_reducible repeat (first | refine WP.S1 ?_ | refine WP.B1 ?_ | refine WP.R1 ?_))
      refine RL.A1 T_ok rfl ?_
      refine RL.indexAddr (k := k) T_ok rfl rfl rfl rfl rfl rfl rfl (by omega) rfl ?_
      refine RL.eqv (v' := .pointer (some ⟨g, k, none⟩)) (congrArg (fun q => Value.pointer (some q)) (by rw [add_block]; show (⟨g, 0 + k * 1, none⟩ : Addr) = _; rw [Nat.zero_add, Nat.mul_one])) ?_
      refine RL.store T_ok hB8 (i := k) (v := .int .u64 x) hj8 rfl rfl rfl rfl rfl rfl ?_
      intro m6 hC6
      have hO6 := hset m6 _ hC6
      rw [nC_set, zip_end l w x k k2] at hO6
      have hlen6 : (l.take k ++ x :: l.drop k).length = l.length + 1 := by simp; omega
      have hE6 : Ext m4 S4 m6 := hE5.trans hC6.ext (fun k hk => .inl (by rw [hS8]; exact hk))
      refine RL.N1 ?_; (with_reducible repeat (first | refine QN.B1 ?_ | refine QN.N1 ?_ | refine WP.S1 ?_ | refine WP.B1 ?_ | refine WP.R1 ?_))
      refine RL.A1 T_ok rfl ?_
      refine RL.N1 ?_; (with_reducible repeat (first | refine QN.B1 ?_ | refine QN.N1 ?_ | refine WP.S1 ?_ | refine WP.B1 ?_ | refine WP.R1 ?_))
      refine WP.ret ?_; (with_reducible repeat (first | refine QN.tr ?_ | refine QN.br ?_))
      refine QN.ret1 rfl rfl ⟨_, rfl, l.take k ++ x :: l.drop k, S4, by rw [hlen6]; exact hO6, hE4.trans hE6 hF4, hF4, sput_sorted hs k2 hlt hgt, fun z => ?_, by omega⟩
      have : z ∈ l ↔ z ∈ l.take k ∨ z ∈ l.drop k := by conv => lhs; rw [← List.take_append_drop k l, List.mem_append]
      rw [List.mem_append, List.mem_cons, this]
      constructor
      · rintro (h | h | h)
        · exact .inl (.inl h)
        · exact .inr h
        · exact .inl (.inr h)
      · rintro ((h | h) | h)
        · exact .inl h
        · exact .inr (.inr h)
        · exact .inr (.inl h)
end Go.Proofs.YtmjpcaiehfimgaaGreatDoor
end
section
namespace Go.Proofs.YtmjpcaiehfimgaaGreatDoor
open Go.RowKit Go.Ev Go.Ids
def edge (l : List Trn) (c z : Nat) : Prop := ∃ x ∈ l, x.right = true ∧ x.c = c ∧ (z = x.f ∨ z = x.t)
theorem edge_snoc (l : List Trn) (x : Trn) (c z : Nat) : edge (l ++ [x]) c z ↔ edge l c z ∨ (x.right = true ∧ x.c = c ∧ (z = x.f ∨ z = x.t)) := by
  constructor
  · rintro ⟨y, hy, h⟩
    rcases List.mem_append.1 hy with hy | hy
    · exact .inl ⟨y, hy, h⟩
    · have : y = x := by simpa using hy
      subst this; exact .inr h
  · rintro (⟨y, hy, h⟩ | h)
    · exact ⟨y, List.mem_append_left _ hy, h⟩
    · exact ⟨x, by simp, h⟩
theorem edges_c (m : World) (v : Value) (l : List Trn) (c : Nat) (h : Ts m [] v l) (hl : l.length < 400000000) :
    FnR Tryz.prog 70 [v, .int .u64 c] m fun r m' => ∃ L S', Ev.Own m' S' 22 1 r L.length (nC L) ∧ New m S' m' ∧ L.Pairwise (· < ·) ∧ (∀ z, z ∈ L ↔ edge l c z) ∧ L.length ≤ 2 * l.length := by
  obtain ⟨A, ca, rfl, _, _⟩ := h.shape
  refine FnE.enter ⟨_, Tryz.func70, by kernel_rfl, by kernel_rfl⟩ Tryz.func70 rfl rfl ?_
  (with_reducible repeat (first | refine WP.S1 ?_ | refine WP.B1 ?_ | refine WP.R1 ?_))
  refine RL.A1 T_ok rfl ?_
  refine RL.N1 ?_; (with_reducible repeat (first | refine QN.B1 ?_ | refine QN.N1 ?_ | refine WP.S1 ?_ | refine WP.B1 ?_ | refine WP.R1 ?_))
  refine RL.A1 T_ok rfl ?_
  refine RL.N1 ?_; (with_reducible repeat (first | refine QN.B1 ?_ | refine QN.N1 ?_ | refine WP.S1 ?_ | refine WP.B1 ?_ | refine WP.R1 ?_))
  refine RL.A1 T_ok rfl ?_
  refine RL.N1 ?_; (with_reducible repeat (first | refine QN.B1 ?_ | refine QN.N1 ?_ | refine WP.S1 ?_ | refine WP.B1 ?_ | refine WP.R1 ?_))
  refine (WP.loop (X := Nat × Value × List Nat × List Nat) (fun q => [(0, .slice A l.length ca), (1, .int .u64 c), (5, q.2.1), (6, .int .i64 q.1)])
    (fun q m' => q.1 ≤ l.length ∧ Ev.Own m' q.2.2.1 22 1 q.2.1 q.2.2.2.length (nC q.2.2.2) ∧ New m q.2.2.1 m' ∧ q.2.2.2.Pairwise (· < ·) ∧ (∀ z, z ∈ q.2.2.2 ↔ edge (l.take q.1) c z) ∧ q.2.2.2.length ≤ 2 * q.1) (fun q => l.length - q.1) (0, .slice none 0 0, [], [])
    (Sub.C1 rfl (Sub.C1 rfl (Sub.C1 rfl (Sub.C1 rfl Sub.nil)))) ⟨by simp, Own.empty _ _ _ _, ⟨Ext.refl _ _, FpNew.nil _ _⟩, List.Pairwise.nil, (fun z => ⟨(fun h => by cases h), (fun ⟨y, hy, _⟩ => by simp at hy)⟩), by simp⟩ ?_)
  rintro ⟨i, w, S, L⟩ m1 ⟨hi, hO, hN, hs, hm, hn⟩
  simp only at hi hO hN hs hm hn
  (with_reducible repeat (first | refine WP.S1 ?_ | refine WP.B1 ?_ | refine WP.R1 ?_))
  refine RL.A1 T_ok rfl ?_
  refine RL.N1 ?_; (with_reducible repeat (first | refine QN.B1 ?_ | refine QN.N1 ?_ | refine WP.S1 ?_ | refine WP.B1 ?_ | refine WP.R1 ?_))
  refine WP.cond rfl (fun hc => ?_) (fun hc => ?_)
  · replace hc : i < l.length := by have := of_decide_eq_true hc; simp only at this; omega
    obtain ⟨ad, rfl, _⟩ := h.cell i hc
    obtain ⟨x, hxe⟩ : ∃ x, l[i] = x := ⟨_, rfl⟩
    have hx : ∀ m', Ext m [] m' → ∀ j u, (tC x)[j]? = some u → m'.cell? ((ad.add (i * 4)).add j) = some u := fun m' hE => by
      obtain ⟨ad', h1, h2⟩ := (h.ext0 hE).cell i hc
      injection h1 with h1
      subst h1
      rw [hxe] at h2; exact h2
    have htake : l.take (i + 1) = l.take i ++ [x] := by rw [List.take_succ_eq_append_getElem hc, hxe]
    have hskip : ¬ (x.right = true ∧ x.c = c) → ∀ z, z ∈ L ↔ edge (l.take (i + 1)) c z := fun hh z => by
      rw [htake, edge_snoc, hm]
      exact ⟨.inl, fun h => h.elim id fun h => absurd ⟨h.1, h.2.1⟩ hh⟩
    refine WP.skip ?_; (with_reducible repeat (first | refine QN.B1 ?_ | refine QN.N1 ?_ | refine WP.S1 ?_ | refine WP.B1 ?_ | refine WP.R1 ?_))
    refine RL.A1 T_ok rfl ?_
    refine RL.indexAddr (k := i) T_ok rfl rfl rfl rfl rfl rfl rfl hc rfl ?_
    refine RL.loadAgg T_ok (tC x) rfl rfl rfl (hx m1 hN.1) rfl ?_
    refine RL.call (fi := []) (ca := []) rfl rfl rfl rfl (refturn_c m1 x) ?_
    rintro _ m2 ⟨rfl, hE2⟩
    refine ⟨_, rfl, ?_⟩
    have hO2 := hO.ext hE2 (by simp)
    have hN2 : New m S m2 := ⟨hN.1.trans hE2 (by simp), hN.2⟩
    by_cases c1 : x.right = true
    rotate_left
    · refine RL.eqv (v' := .bool false) (congrArg _ (Bool.not_eq_true _ ▸ c1)) ?_
      refine RL.A1 T_ok rfl ?_
      refine RL.N1 ?_; (with_reducible repeat (first | refine QN.B1 ?_ | refine QN.N1 ?_ | refine WP.S1 ?_ | refine WP.B1 ?_ | refine WP.R1 ?_))
      refine WP.condF rfl ?_
      refine WP.skip ?_; (with_reducible repeat (first | refine QN.B1 ?_ | refine QN.N1 ?_ | refine WP.S1 ?_ | refine WP.B1 ?_ | refine WP.R1 ?_))
      refine RL.pure T_ok 2 rfl ?_
      refine RL.eqv (v' := .int .i64 ((i + 1 : Nat) : Int)) (congrArg _ (by rw [wrap_i64_in _ (by omega) (by omega)]; rfl)) ?_
      refine RL.A1 T_ok rfl ?_
      exact RL.N1 (QN.round (i + 1, w, S, L) (Sub.C1 rfl (Sub.C1 rfl (Sub.C1 rfl (Sub.C1 rfl Sub.nil)))) ⟨by show i + 1 ≤ _; omega, hO2, hN2, hs, hskip (fun hh => c1 hh.1), by show L.length ≤ 2 * (i + 1); omega⟩ (by show _ - (i + 1) < _ - i; omega))
    refine RL.eqv (v' := .bool true) (congrArg _ c1) ?_
    refine RL.pure T_ok 3 rfl ?_
    refine RL.indexAddr (k := i) T_ok rfl rfl rfl rfl rfl rfl rfl hc rfl ?_
    refine RL.pure T_ok 1 rfl ?_
    refine RL.load T_ok rfl rfl rfl (hx m2 hN2.1 0 _ rfl) rfl ?_
    refine RL.pure T_ok 2 rfl ?_
    by_cases c2 : x.c = c
    rotate_left
    · refine RL.eqv (v' := .bool false) (congrArg _ (by rw [deq]; exact decide_eq_false c2)) ?_
      refine RL.A1 T_ok rfl ?_
      refine RL.N1 ?_; (with_reducible repeat (first | refine QN.B1 ?_ | refine QN.N1 ?_ | refine WP.S1 ?_ | refine WP.B1 ?_ | refine WP.R1 ?_))
      refine WP.condF rfl ?_
      refine WP.skip ?_; (with_reducible repeat (first | refine QN.B1 ?_ | refine QN.N1 ?_ | refine WP.S1 ?_ | refine WP.B1 ?_ | refine WP.R1 ?_))
      refine RL.pure T_ok 2 rfl ?_
      refine RL.eqv (v' := .int .i64 ((i + 1 : Nat) : Int)) (congrArg _ (by rw [wrap_i64_in _ (by omega) (by omega)]; rfl)) ?_
      refine RL.A1 T_ok rfl ?_
      exact RL.N1 (QN.round (i + 1, w, S, L) (Sub.C1 rfl (Sub.C1 rfl (Sub.C1 rfl (Sub.C1 rfl Sub.nil)))) ⟨by show i + 1 ≤ _; omega, hO2, hN2, hs, hskip (fun hh => c2 hh.2), by show L.length ≤ 2 * (i + 1); omega⟩ (by show _ - (i + 1) < _ - i; omega))
    refine RL.eqv (v' := .bool true) (congrArg _ (by rw [deq]; exact decide_eq_true c2)) ?_
    refine RL.A1 T_ok rfl ?_
    refine RL.N1 ?_; (with_reducible repeat (first | refine QN.B1 ?_ | refine QN.N1 ?_))
    refine WP.condT rfl ?_
    refine WP.drawQ (fun m' => Ext m [] m') [] (by kernel_rfl) hN2.1 (by with_reducible repeat (first | exact PanicOk.body | refine PanicOk.then_ ?_ | refine PanicOk.block_ ?_)) (fun hQ => ?_)
    refine RH.pure T_ok hQ [0, 1, 2] (by kernel_rfl) rfl ?_
    refine RH.indexAddr T_ok hQ 3 (k := i) rfl (by kernel_rfl) rfl rfl rfl rfl rfl rfl rfl hc rfl ?_
    refine RH.pure T_ok hQ [4] (by kernel_rfl) rfl ?_
    refine RH.load T_ok hQ 5 (fun m' hm' => hx m' hm' 1 _ rfl) rfl (by kernel_rfl) rfl rfl rfl rfl ?_
    refine RH.pure T_ok hQ [7, 8] (by kernel_rfl) rfl ?_
    refine RH.indexAddr T_ok hQ 9 (k := i) rfl (by kernel_rfl) rfl rfl rfl rfl rfl rfl rfl hc rfl ?_
    refine RH.pure T_ok hQ [10] (by kernel_rfl) rfl ?_
    refine RH.load T_ok hQ 11 (fun m' hm' => hx m' hm' 2 _ rfl) rfl (by kernel_rfl) rfl rfl rfl rfl ?_
    refine RH.only 6 rfl (by kernel_rfl) (fun _ => ?_)
    refine RL.call (fi := []) (ca := []) rfl rfl rfl rfl (sorted_c m2 S w L x.f hO2 (by omega) hs) ?_
    rintro u3 m3 ⟨L3, S3, hO3, hE3, hF3, hs3, hm3, hn3⟩
    have hN3 : New m S3 m3 := ⟨hN2.1.trans hE3 (fun k hk => .inr (hN2.ge k hk)), hN2.2.trans hF3 hN2.1.size⟩
    refine ⟨_, rfl, RL.N1 (RH.cont hN3.1 ?_)⟩
    refine RH.only 12 rfl (by kernel_rfl) (fun _ => ?_)
    refine RL.call (fi := []) (ca := []) rfl rfl rfl rfl (sorted_c m3 S3 u3 L3 x.t hO3 (by omega) hs3) ?_
    rintro u4 m4 ⟨L4, S4, hO4, hE4, hF4, hs4, hm4, hn4⟩
    have hN4 : New m S4 m4 := ⟨hN3.1.trans hE4 (fun k hk => .inr (hN3.ge k hk)), hN3.2.trans hF4 hN3.1.size⟩
    refine ⟨_, rfl, RL.N1 (RH.cont hN4.1 ?_)⟩
    refine RH.pure T_ok hQ [13] (by kernel_rfl) rfl ?_
    refine RH.done (by kernel_rfl) (fun _ => ?_)
    (with_reducible repeat (first | refine QN.B1 ?_ | refine QN.N1 ?_))
    (with_reducible repeat (first | refine WP.S1 ?_ | refine WP.B1 ?_ | refine WP.R1 ?_))
    refine RL.pure T_ok 2 rfl ?_
    refine RL.eqv (v' := .int .i64 ((i + 1 : Nat) : Int)) (congrArg _ (by rw [wrap_i64_in _ (by omega) (by omega)]; rfl)) ?_
    refine RL.A1 T_ok rfl ?_
    refine RL.N1 (QN.round (i + 1, u4, S4, L4) (Sub.C1 rfl (Sub.C1 rfl (Sub.C1 rfl (Sub.C1 rfl Sub.nil)))) ⟨by show i + 1 ≤ _; omega, hO4, hN4, hs4, fun z => ?_, by show L4.length ≤ 2 * (i + 1); omega⟩ (by show _ - (i + 1) < _ - i; omega))
    show z ∈ L4 ↔ edge (l.take (i + 1)) c z
    rw [htake, edge_snoc, hm4, hm3, hm, or_assoc]
    exact ⟨fun h => h.imp id fun h => ⟨c1, c2, h⟩, fun h => h.imp id fun h => h.2.2⟩
  · replace hc : i = l.length := by have := of_decide_eq_false hc; simp only at this; omega
    subst hc
    rw [List.take_length] at hm
    refine WP.exit ?_; (with_reducible repeat (first | refine QN.tx ?_ | refine QN.bx ?_ | refine QN.block_far rfl ?_ | refine QN.B1 ?_ | refine QN.N1 ?_)); (with_reducible repeat (first | refine WP.S1 ?_ | refine WP.B1 ?_ | refine WP.R1 ?_))
    refine RL.A1 T_ok rfl ?_
    refine RL.N1 ?_; (with_reducible repeat (first | refine QN.B1 ?_ | refine QN.N1 ?_ | refine WP.S1 ?_ | refine WP.B1 ?_ | refine WP.R1 ?_))
    refine WP.ret ?_; (with_reducible repeat (first | refine QN.tr ?_ | refine QN.br ?_))
    exact QN.ret1 rfl rfl ⟨_, rfl, L, S, hO, hN, hs, hm, hn⟩
theorem clients_c (m : World) (v : Value) (l : List Trn) (h : Ts m [] v l) (hl : l.length < 400000000) :
    FnR Tryz.prog 69 [v] m fun r m' => ∃ L S', Ev.Own m' S' 22 1 r L.length (nC L) ∧ New m S' m' ∧ L.Pairwise (· < ·) ∧ (∀ z, z ∈ L ↔ ∃ x ∈ l, x.right = true ∧ x.c = z) ∧ L.length ≤ l.length := by
  obtain ⟨A, ca, rfl, _, _⟩ := h.shape
  refine FnE.enter ⟨_, Tryz.func69, by kernel_rfl, by kernel_rfl⟩ Tryz.func69 rfl rfl ?_
  (with_reducible repeat (first | refine WP.S1 ?_ | refine WP.B1 ?_ | refine WP.R1 ?_))
  refine RL.A1 T_ok rfl ?_
  refine RL.N1 ?_; (with_reducible repeat (first | refine QN.B1 ?_ | refine QN.N1 ?_ | refine WP.S1 ?_ | refine WP.B1 ?_ | refine WP.R1 ?_))
  refine RL.A1 T_ok rfl ?_
  refine RL.N1 ?_; (with_reducible repeat (first | refine QN.B1 ?_ | refine QN.N1 ?_ | refine WP.S1 ?_ | refine WP.B1 ?_ | refine WP.R1 ?_))
  refine RL.A1 T_ok rfl ?_
  refine RL.N1 ?_; (with_reducible repeat (first | refine QN.B1 ?_ | refine QN.N1 ?_ | refine WP.S1 ?_ | refine WP.B1 ?_ | refine WP.R1 ?_))
  refine (WP.loop (X := Nat × Value × List Nat × List Nat) (fun q => [(0, .slice A l.length ca), (3, q.2.1), (4, .int .i64 q.1)])
    (fun q m' => q.1 ≤ l.length ∧ Ev.Own m' q.2.2.1 22 1 q.2.1 q.2.2.2.length (nC q.2.2.2) ∧ New m q.2.2.1 m' ∧ q.2.2.2.Pairwise (· < ·) ∧ (∀ z, z ∈ q.2.2.2 ↔ ∃ x ∈ l.take q.1, x.right = true ∧ x.c = z) ∧ q.2.2.2.length ≤ q.1) (fun q => l.length - q.1) (0, .slice none 0 0, [], [])
    (Sub.C1 rfl (Sub.C1 rfl (Sub.C1 rfl Sub.nil))) ⟨by simp, Own.empty _ _ _ _, ⟨Ext.refl _ _, FpNew.nil _ _⟩, List.Pairwise.nil, (fun z => ⟨(fun h => by cases h), (fun ⟨y, hy, _⟩ => by simp at hy)⟩), by simp⟩ ?_)
  rintro ⟨i, w, S, L⟩ m1 ⟨hi, hO, hN, hs, hm, hn⟩
  simp only at hi hO hN hs hm hn
  (with_reducible repeat (first | refine WP.S1 ?_ | refine WP.B1 ?_ | refine WP.R1 ?_))
  refine RL.A1 T_ok rfl ?_
  refine RL.N1 ?_; (with_reducible repeat (first | refine QN.B1 ?_ | refine QN.N1 ?_ | refine WP.S1 ?_ | refine WP.B1 ?_ | refine WP.R1 ?_))
  refine WP.cond rfl (fun hc => ?_) (fun hc => ?_)
  · replace hc : i < l.length := by have := of_decide_eq_true hc; simp only at this; omega
    obtain ⟨ad, rfl, _⟩ := h.cell i hc
    obtain ⟨x, hxe⟩ : ∃ x, l[i] = x := ⟨_, rfl⟩
    have hx : ∀ m', Ext m [] m' → ∀ j u, (tC x)[j]? = some u → m'.cell? ((ad.add (i * 4)).add j) = some u := fun m' hE => by
      obtain ⟨ad', h1, h2⟩ := (h.ext0 hE).cell i hc
      injection h1 with h1
      subst h1
      rw [hxe] at h2; exact h2
    have htake : l.take (i + 1) = l.take i ++ [x] := by rw [List.take_succ_eq_append_getElem hc, hxe]
    have hmore : ∀ z, (∃ y ∈ l.take (i + 1), y.right = true ∧ y.c = z) ↔ (∃ y ∈ l.take i, y.right = true ∧ y.c = z) ∨ (x.right = true ∧ x.c = z) := fun z => by
      rw [htake]
      constructor
      · rintro ⟨y, hy, h⟩
        rcases List.mem_append.1 hy with hy | hy
        · exact .inl ⟨y, hy, h⟩
        · have : y = x := by simpa using hy
          subst this; exact .inr h
      · rintro (⟨y, hy, h⟩ | h)
        · exact ⟨y, List.mem_append_left _ hy, h⟩
        · exact ⟨x, by simp, h⟩
    refine WP.skip ?_; (with_reducible repeat (first | refine QN.B1 ?_ | refine QN.N1 ?_ | refine WP.S1 ?_ | refine WP.B1 ?_ | refine WP.R1 ?_))
    refine RL.A1 T_ok rfl ?_
    refine RL.indexAddr (k := i) T_ok rfl rfl rfl rfl rfl rfl rfl hc rfl ?_
    refine RL.loadAgg T_ok (tC x) rfl rfl rfl (hx m1 hN.1) rfl ?_
    refine RL.call (fi := []) (ca := []) rfl rfl rfl rfl (refturn_c m1 x) ?_
    rintro _ m2 ⟨rfl, hE2⟩
    refine ⟨_, rfl, ?_⟩
    have hO2 := hO.ext hE2 (by simp)
    have hN2 : New m S m2 := ⟨hN.1.trans hE2 (by simp), hN.2⟩
    refine RL.N1 ?_; (with_reducible repeat (first | refine QN.B1 ?_ | refine QN.N1 ?_ | refine WP.S1 ?_ | refine WP.B1 ?_ | refine WP.R1 ?_))
    refine WP.cond rfl (fun c1 => ?_) (fun c1 => ?_)
    · replace c1 : x.right = true := c1
      (with_reducible repeat (first | refine WP.S1 ?_ | refine WP.B1 ?_ | refine WP.R1 ?_))
      refine RL.pure T_ok 3 rfl ?_
      refine RL.indexAddr (k := i) T_ok rfl rfl rfl rfl rfl rfl rfl hc rfl ?_
      refine RL.pure T_ok 1 rfl ?_
      refine RL.load T_ok rfl rfl rfl (hx m2 hN2.1 0 _ rfl) rfl ?_
      refine RL.call (fi := []) (ca := []) rfl rfl rfl rfl (sorted_c m2 S w L x.c hO2 (by omega) hs) ?_
      rintro u3 m3 ⟨L3, S3, hO3, hE3, hF3, hs3, hm3, hn3⟩
      have hN3 : New m S3 m3 := ⟨hN2.1.trans hE3 (fun k hk => .inr (hN2.ge k hk)), hN2.2.trans hF3 hN2.1.size⟩
      refine ⟨_, rfl, ?_⟩
      refine RL.A1 T_ok rfl ?_
      refine RL.N1 ?_; (with_reducible repeat (first | refine QN.B1 ?_ | refine QN.N1 ?_ | refine WP.S1 ?_ | refine WP.B1 ?_ | refine WP.R1 ?_))
      refine RL.pure T_ok 2 rfl ?_
      refine RL.eqv (v' := .int .i64 ((i + 1 : Nat) : Int)) (congrArg _ (by rw [wrap_i64_in _ (by omega) (by omega)]; rfl)) ?_
      refine RL.A1 T_ok rfl ?_
      refine RL.N1 (QN.round (i + 1, u3, S3, L3) (Sub.C1 rfl (Sub.C1 rfl (Sub.C1 rfl Sub.nil))) ⟨by show i + 1 ≤ _; omega, hO3, hN3, hs3, fun z => ?_, by show L3.length ≤ i + 1; omega⟩ (by show _ - (i + 1) < _ - i; omega))
      show z ∈ L3 ↔ ∃ y ∈ l.take (i + 1), y.right = true ∧ y.c = z
      rw [hm3, hm, hmore]
      exact ⟨fun h => h.imp id fun h => ⟨c1, h.symm⟩, fun h => h.imp id fun h => h.2.symm⟩
    · replace c1 : ¬ x.right = true := by rw [Bool.not_eq_true]; exact c1
      refine WP.skip ?_; (with_reducible repeat (first | refine QN.B1 ?_ | refine QN.N1 ?_ | refine WP.S1 ?_ | refine WP.B1 ?_ | refine WP.R1 ?_))
      refine RL.pure T_ok 2 rfl ?_
      refine RL.eqv (v' := .int .i64 ((i + 1 : Nat) : Int)) (congrArg _ (by rw [wrap_i64_in _ (by omega) (by omega)]; rfl)) ?_
      refine RL.A1 T_ok rfl ?_
      refine RL.N1 (QN.round (i + 1, w, S, L) (Sub.C1 rfl (Sub.C1 rfl (Sub.C1 rfl Sub.nil))) ⟨by show i + 1 ≤ _; omega, hO2, hN2, hs, fun z => ?_, by show L.length ≤ i + 1; omega⟩ (by show _ - (i + 1) < _ - i; omega))
      show z ∈ L ↔ ∃ y ∈ l.take (i + 1), y.right = true ∧ y.c = z
      rw [hm, hmore]
      exact ⟨.inl, fun h => h.elim id fun h => absurd h.1 c1⟩
  · replace hc : i = l.length := by have := of_decide_eq_false hc; simp only at this; omega
    subst hc
    rw [List.take_length] at hm
    refine WP.exit ?_; (with_reducible repeat (first | refine QN.tx ?_ | refine QN.bx ?_ | refine QN.block_far rfl ?_ | refine QN.B1 ?_ | refine QN.N1 ?_)); (with_reducible repeat (first | refine WP.S1 ?_ | refine WP.B1 ?_ | refine WP.R1 ?_))
    refine RL.A1 T_ok rfl ?_
    refine RL.N1 ?_; (with_reducible repeat (first | refine QN.B1 ?_ | refine QN.N1 ?_ | refine WP.S1 ?_ | refine WP.B1 ?_ | refine WP.R1 ?_))
    refine WP.ret ?_; (with_reducible repeat (first | refine QN.tr ?_ | refine QN.br ?_))
    exact QN.ret1 rfl rfl ⟨_, rfl, L, S, hO, hN, hs, hm, hn⟩
end Go.Proofs.YtmjpcaiehfimgaaGreatDoor
end
section
namespace Go.Proofs.YtmjpcaiehfimgaaGreatDoor
open Go.RowKit Go.Ev Go.Ids
end Go.Proofs.YtmjpcaiehfimgaaGreatDoor
end
section
namespace Go.Proofs.YtmjpcaiehfimgaaGreatDoor
open Go.RowKit Go.Ev Go.Ids
theorem nS_cell {m : World} {M : List Nat} {A : Option Addr} {n c : Nat} {l : List Nat} (h : Sl m M 1 (.slice A n c) (nC l)) (k : Nat) (hk : k < l.length) : ∃ ad, A = some ad ∧ m.cell? (ad.add (k * 1)) = some (.int .u64 l[k]) := by
  obtain ⟨hl, _⟩ := Sl.len h
  rw [nC_len] at hl
  obtain ⟨ad, rfl, _, hc⟩ := Sl.addr h (by omega)
  refine ⟨ad, rfl, ?_⟩
  rw [Nat.mul_one]
  exact hc _ _ (nC_get l k hk)
theorem nS_at {m : World} {M : List Nat} {ad : Addr} {n c : Nat} {l : List Nat} (h : Sl m M 1 (.slice (some ad) n c) (nC l)) (k : Nat) (hk : k < l.length) : m.cell? (ad.add (k * 1)) = some (.int .u64 l[k]) := by
  obtain ⟨_, h1, h2⟩ := nS_cell h k hk
  cases h1; exact h2
def AForm (rs than L : List Trn) : Prop := TCanon L ∧ (∀ c k, turnOf L c k = aboveOf rs than c k) ∧ L.length ≤ rs.length * (2 * (rs.length + than.length))
theorem pairs_step (rs than : List Trn) (c : Nat) (R : List Trn) (M : List Nat) (k : Nat) (h : k + 1 < M.length) : pairsA rs than c R (M.drop k) = pairsA rs than c (stepA rs than R c M[k] M[k + 1]) (M.drop (k + 1)) := by
  rw [List.drop_eq_getElem_cons (show k < M.length by omega), List.drop_eq_getElem_cons h]
  rfl
theorem pairs_end (rs than : List Trn) (c : Nat) (R : List Trn) (M : List Nat) (k : Nat) (h : ¬ k + 1 < M.length) : pairsA rs than c R (M.drop k) = R := by
  have h1 : (M.drop k).length ≤ 1 := by rw [List.length_drop]; omega
  match M.drop k, h1 with
  | [], _ => rfl
  | [_], _ => rfl
theorem step_len (rs than R : List Trn) (c a b : Nat) : (stepA rs than R c a b).length ≤ R.length + 1 := by
  unfold stepA
  split
  · omega
  · exact tj_len _ _
def jn (R : List Trn) (x : Trn) : Bool := match R with
  | y :: _ => decide (y.c = x.c) && (decide (y.t = x.f) && decide (y.n = x.n))
  | [] => false
theorem jn_true {R : List Trn} {x : Trn} (h : jn R x = true) : ∃ y r, R = y :: r ∧ tj R x = { y with t := x.t } :: r := by
  cases R with
  | nil => cases h
  | cons y r =>
    simp only [jn, Bool.and_eq_true, decide_eq_true_eq] at h
    exact ⟨y, r, rfl, by rw [tj_cons, if_pos h]⟩
theorem jn_false {R : List Trn} {x : Trn} (h : jn R x = false) : tj R x = x :: R := by
  cases R with
  | nil => rfl
  | cons y r =>
    rw [tj_cons, if_neg]
    intro hh
    rw [show jn (y :: r) x = true by simp [jn, hh]] at h
    cases h
structure AbI (rs than : List Trn) (cs : List Nat) (W i : Nat) (R : List Trn) : Prop where
  canon : TCanonR R
  told : ∀ c k, turnOf R c k = if c ∈ cs.take i then aboveOf rs than c k else 0
  behind : ∀ y ∈ R, ∀ c ∈ cs.drop i, y.c < c
  len : R.length ≤ i * W
theorem AbI.next {rs than : List Trn} {cs M : List Nat} {W i : Nat} {R : List Trn} (h : AbI rs than cs W i R) (hi : i < cs.length) (hs : cs.Pairwise (· < ·)) (hc : 1 ≤ cs[i] ∧ cs[i] ≤ 9007199254740991) (hM : EdgesOf rs than cs[i] M)
    (hl : (pairsA rs than cs[i] R M).length ≤ R.length + W) : AbI rs than cs W (i + 1) (pairsA rs than cs[i] R M) := by
  obtain ⟨p1, p2, p3⟩ := client_spec hc hM h.canon (fun y hy => h.behind y hy _ (by rw [List.drop_eq_getElem_cons hi]; exact zS ..))
  refine ⟨p1, fun c k => ?_, fun y hy c hc => ?_, ?_⟩
  · rw [p2, h.told, List.take_succ_eq_append_getElem hi]
    by_cases h1 : cs[i] = c
    · rw [if_pos h1, if_pos (List.mem_append_right _ (by simp [h1]))]
      split <;> omega
    · rw [if_neg h1]
      by_cases h2 : c ∈ cs.take i
      · rw [if_pos h2, if_pos (List.mem_append_left _ h2)]; omega
      · rw [if_neg h2, if_neg (fun hh => (List.mem_append.1 hh).elim h2 (fun h3 => h1 (by simpa using h3 : c = cs[i]).symm))]; omega
  · have h1 := p3 y hy
    have h2 : cs[i] < c := by
      have := List.pairwise_iff_getElem.1 hs
      obtain ⟨j, hj, rfl⟩ := List.mem_iff_getElem.1 hc
      rw [List.length_drop] at hj
      rw [List.getElem_drop]
      exact this i (i + 1 + j) hi (by omega) (by omega)
    omega
  · have := h.len
    rw [Nat.succ_mul]; omega
theorem edges_of {rs than : List Trn} {c : Nat} {M : List Nat} (hp : M.Pairwise (· < ·)) (hM : ∀ z, z ∈ M ↔ edge (rs ++ than) c z) : EdgesOf rs than c M := by
  refine ⟨hp, fun z hz => ?_, fun x hx h1 h2 => ⟨(hM _).2 ⟨x, hx, h1, h2, .inl rfl⟩, (hM _).2 ⟨x, hx, h1, h2, .inr rfl⟩⟩⟩
  obtain ⟨x, _, h1, _, h3⟩ := (hM z).1 hz
  have := tright_iff.1 h1
  rcases h3 with h3 | h3 <;> omega
set_option maxHeartbeats 1000000 in
theorem refabove_c (m : World) (v u : Value) (rs than : List Trn) (h : Ts m [] v rs) (h' : Ts m [] u than) (hla : rs.length + than.length < 100000000) (hl : rs.length * (2 * (rs.length + than.length)) < 100000000) :
    FnR Tryz.prog 37 [v, u] m fun r m' => ∃ L, AForm rs than L ∧ TMade m r L m' := by
  obtain ⟨A, cA, rfl, _, _⟩ := h.shape
  obtain ⟨B, cB, rfl, _, _⟩ := h'.shape
  refine FnE.enter ⟨_, Tryz.func37, by kernel_rfl, by kernel_rfl⟩ Tryz.func37 rfl rfl ?_
  (with_reducible repeat (first | refine WP.S1 ?_ | refine WP.B1 ?_ | refine WP.R1 ?_))
  refine RL.A1 T_ok rfl ?_
  refine RL.N1 ?_; (with_reducible repeat (first | refine QN.B1 ?_ | refine QN.N1 ?_ | refine WP.S1 ?_ | refine WP.B1 ?_ | refine WP.R1 ?_))
  refine RL.A1 T_ok rfl ?_
  refine RL.N1 ?_; (with_reducible repeat (first | refine QN.B1 ?_ | refine QN.N1 ?_ | refine WP.S1 ?_ | refine WP.B1 ?_ | refine WP.R1 ?_))
  refine RL.A1 T_ok rfl ?_
  refine RL.call (fi := []) (ca := []) rfl rfl rfl rfl (clients_c m _ rs h (by omega)) ?_
  rintro vc m1 ⟨cs, Sc, hOc, hNc, hsc, hmc, hlc⟩
  refine ⟨_, rfl, ?_⟩
  obtain ⟨AC, cC, rfl, _⟩ := hOc.shape
  have hSc : Sl m1 [] 1 (.slice AC cs.length cC) (nC cs) := hOc.sl (by simp)
  replace h := h.ext0 hNc.1
  replace h' := h'.ext0 hNc.1
  have hE1 := hNc.1
  clear hOc hNc
  have hcr : ∀ c ∈ cs, 1 ≤ c ∧ c ≤ 9007199254740991 := fun c hc => by
    obtain ⟨x, _, h1, h2⟩ := (hmc c).1 hc
    have := tright_iff.1 h1
    omega
  refine RL.A1 T_ok rfl ?_
  refine RL.N1 ?_; (with_reducible repeat (first | refine QN.B1 ?_ | refine QN.N1 ?_ | refine WP.S1 ?_ | refine WP.B1 ?_ | refine WP.R1 ?_))
  refine RL.A1 T_ok rfl ?_
  refine RL.N1 ?_; (with_reducible repeat (first | refine QN.B1 ?_ | refine QN.N1 ?_ | refine WP.S1 ?_ | refine WP.B1 ?_ | refine WP.R1 ?_))
  generalize hW : 2 * (rs.length + than.length) = W at hl
  refine (WP.loop (X := Nat × Value × List Nat × List Trn) (fun q => [(0, .slice A rs.length cA), (1, .slice B than.length cB), (5, q.2.1), (6, .slice AC cs.length cC), (7, .int .i64 q.1)])
    (fun q m' => q.1 ≤ cs.length ∧ Ev.Own m' q.2.2.1 57 4 q.2.1 q.2.2.2.length (q.2.2.2.reverse.flatMap tC) ∧ New m1 q.2.2.1 m' ∧ AbI rs than cs W q.1 q.2.2.2) (fun q => cs.length - q.1) (0, .slice none 0 0, [], [])
    (Sub.C1 rfl (Sub.C1 rfl (Sub.C1 rfl (Sub.C1 rfl (Sub.C1 rfl Sub.nil))))) ⟨by simp, Own.empty _ _ _ _, ⟨Ext.refl _ _, FpNew.nil _ _⟩, ⟨⟨(fun _ hh => by cases hh), List.Pairwise.nil⟩, (fun c k => by simp [turnOf]), (fun _ hh => by cases hh), by simp⟩⟩ ?_)
  rintro ⟨i, ov, S, R⟩ m2 ⟨hi, hO, hN, hI⟩
  simp only at hi hO hN hI
  (with_reducible repeat (first | refine WP.S1 ?_ | refine WP.B1 ?_ | refine WP.R1 ?_))
  refine RL.A1 T_ok rfl ?_
  refine RL.N1 ?_; (with_reducible repeat (first | refine QN.B1 ?_ | refine QN.N1 ?_ | refine WP.S1 ?_ | refine WP.B1 ?_ | refine WP.R1 ?_))
  refine WP.cond rfl (fun hc => ?_) (fun hc => ?_)
  · replace hc : i < cs.length := by have := of_decide_eq_true hc; simp only at this; omega
    obtain ⟨adc, rfl, _⟩ := nS_cell hSc i hc
    have hiW : i * W + W ≤ rs.length * W := by rw [← Nat.succ_mul]; exact Nat.mul_le_mul_right _ (by omega)
    have hRl := hI.len
    obtain ⟨c, hce⟩ : ∃ c, cs[i] = c := ⟨_, rfl⟩
    have hcc : ∀ m', Ext m1 [] m' → m'.cell? (adc.add (i * 1)) = some (.int .u64 c) := fun m' hE => by
      rw [← hce]
      exact nS_at (Sl.ext hSc hE (M' := []) (by simp) (by omega)) i hc
    refine WP.skip ?_; (with_reducible repeat (first | refine QN.B1 ?_ | refine QN.N1 ?_))
    refine WP.S1 ?_
    refine WP.B1 ?_
    refine WP.S1 ?_
    have hA2 : Ts m2 [] (.slice A rs.length cA) rs := h.ext0 hN.1
    have hB2 : Ts m2 [] (.slice B than.length cB) than := h'.ext0 hN.1
    refine WP.drawQ (fun m' => Ext m2 [] m') [] (by kernel_rfl) (Ext.refl _ _) (by with_reducible repeat (first | exact PanicOk.body | refine PanicOk.then_ ?_ | refine PanicOk.block_ ?_)) (fun hQ => ?_)
    refine RH.pure T_ok hQ [0, 2, 4, 5] (by kernel_rfl) rfl ?_
    refine RH.indexAddr T_ok hQ 6 (k := i) rfl (by kernel_rfl) rfl rfl rfl rfl rfl rfl rfl hc rfl ?_
    refine RH.load T_ok hQ 7 (fun m' hm' => hcc m' (hN.1.trans hm' (by simp))) rfl (by kernel_rfl) rfl rfl rfl rfl ?_
    refine RH.only 1 rfl (by kernel_rfl) (fun _ => ?_)
    have hSa : Sl m2 [] 4 (.slice A rs.length cA) (rs.flatMap tC) := hA2
    refine RL.append T_ok (Own.empty _ _ _ _) (rs.flatMap tC) (Src.of_sl hSa) rfl rfl rfl rfl rfl (tsC_len rs) (tsC_one rs) (by unfold maxLen; omega) (by show (0 + _) * 32 ≤ _; omega) ?_
    intro v3 m3 S3 hO3 hE3 hF3
    refine ⟨_, rfl, RL.N1 (RH.cont hE3 ?_)⟩
    have hSb : Sl m3 [] 4 (.slice B than.length cB) (than.flatMap tC) := hB2.ext0 hE3
    have hN3 : New m2 S3 m3 := ⟨hE3, hF3⟩
    refine RH.only 3 rfl (by kernel_rfl) (fun _ => ?_)
    refine RL.append T_ok hO3 (than.flatMap tC) (Src.of_sl hSb) rfl rfl rfl rfl rfl (tsC_len than) (tsC_one than) (by unfold maxLen; omega) (by show (0 + _ + _) * 32 ≤ _; omega) ?_
    intro v4 m4 S4 hO4 hE4 hF4
    have hE24 : Ext m2 [] m4 := hE3.trans hE4 (fun k hk => .inr (hN3.ge k hk))
    refine ⟨_, rfl, RL.N1 (RH.cont hE24 ?_)⟩
    have hR4 : Ts m4 [] v4 (rs ++ than) := by
      have h9 := hO4.sl (M := []) (by simp)
      rw [List.nil_append, tsC_app] at h9
      exact h9
    refine RH.only 8 rfl (by kernel_rfl) (fun _ => ?_)
    refine RL.call (fi := []) (ca := []) rfl rfl rfl rfl (edges_c m4 v4 _ c hR4 (by rw [List.length_append]; omega)) ?_
    rintro ve m5 ⟨M, Se, hOe, hNe, hse, hme, hlm⟩
    have hE25 : Ext m2 [] m5 := hE24.trans hNe.1 (by simp)
    rw [List.length_append] at hlm
    refine ⟨_, rfl, RL.N1 (RH.cont hE25 ?_)⟩
    refine RH.pure T_ok hQ [9] (by kernel_rfl) rfl ?_
    refine RH.done (by kernel_rfl) (fun _ => ?_)
    (with_reducible repeat (first | refine QN.B1 ?_ | refine QN.N1 ?_))
    obtain ⟨AE, cE, rfl, _⟩ := hOe.shape
    have hdis : ∀ k ∈ Se, k ∉ S := fun k hk hh => by
      have h1 := hNe.ge k hk
      have h2 := hO.lt k hh
      have h3 := hE24.size
      omega
    have hSe5 : Sl m5 S 1 (.slice AE M.length cE) (nC M) := hOe.sl hdis
    have hO5 := hO.ext hE25 (by simp)
    have hN5 : New m1 S m5 := ⟨hN.1.trans hE25 (by simp), hN.2⟩
    have hEd : EdgesOf rs than c M := edges_of hse hme
    clear hO3 hE3 hF3 hSb hN3 hO4 hE4 hF4 hR4 hOe hNe hdis hO hN hSa hA2 hB2 hE24 hE25
    (with_reducible repeat (first | refine WP.S1 ?_ | refine WP.B1 ?_ | refine WP.R1 ?_))
    refine RL.A1 T_ok rfl ?_
    refine RL.N1 ?_; (with_reducible repeat (first | refine QN.B1 ?_ | refine QN.N1 ?_ | refine WP.S1 ?_ | refine WP.B1 ?_ | refine WP.R1 ?_))
    refine (WP.loop (X := Nat × Value × List Nat × List Trn) (fun q => [(0, .slice A rs.length cA), (1, .slice B than.length cB), (5, q.2.1), (6, .slice (some adc) cs.length cC), (7, .int .i64 i), (8, .slice AE M.length cE), (9, .int .i64 q.1)])
      (fun q m' => q.1 ≤ M.length ∧ Ev.Own m' q.2.2.1 57 4 q.2.1 q.2.2.2.length (q.2.2.2.reverse.flatMap tC) ∧ New m1 q.2.2.1 m' ∧ Sl m' q.2.2.1 1 (.slice AE M.length cE) (nC M) ∧ pairsA rs than c q.2.2.2 (M.drop q.1) = pairsA rs than c R M ∧ q.2.2.2.length ≤ R.length + q.1) (fun q => M.length - q.1) (0, ov, S, R)
      (Sub.C1 rfl (Sub.C1 rfl (Sub.C1 rfl (Sub.C1 rfl (Sub.C1 rfl (Sub.C1 rfl (Sub.C1 rfl Sub.nil))))))) ⟨by simp, hO5, hN5, hSe5, by simp, by simp⟩ ?_)
    clear hO5 hN5 hSe5
    rintro ⟨k, ow, S, Rk⟩ m2 ⟨hk, hO, hN, hSe, hP, hkl⟩
    simp only at hk hO hN hSe hP hkl
    (with_reducible repeat (first | refine WP.S1 ?_ | refine WP.B1 ?_ | refine WP.R1 ?_))
    refine RL.pure T_ok 2 rfl ?_
    refine RL.eqv (v' := .int .i64 ((k + 1 : Nat) : Int)) (congrArg _ (by rw [wrap_i64_in _ (by omega) (by omega)]; rfl)) ?_
    refine RL.A1 T_ok rfl ?_
    refine RL.N1 ?_; (with_reducible repeat (first | refine QN.B1 ?_ | refine QN.N1 ?_ | refine WP.S1 ?_ | refine WP.B1 ?_ | refine WP.R1 ?_))
    refine WP.cond rfl (fun hck => ?_) (fun hck => ?_)
    · replace hck : k + 1 < M.length := by have := of_decide_eq_true hck; omega
      have hst := pairs_step rs than c Rk M k hck
      have hslen := step_len rs than Rk c M[k] M[k + 1]
      obtain ⟨ade, rfl, _⟩ := nS_cell hSe k (by omega)
      obtain ⟨a, hae⟩ : ∃ a, M[k] = a := ⟨_, rfl⟩
      obtain ⟨b, hbe⟩ : ∃ b, M[k + 1] = b := ⟨_, rfl⟩
      have hca : ∀ {m' S'}, Sl m' S' 1 (.slice (some ade) M.length cE) (nC M) → m'.cell? (ade.add (k * 1)) = some (.int .u64 a) := fun hs => by rw [← hae]; exact nS_at hs k (by omega)
      have hcb : ∀ {m' S'}, Sl m' S' 1 (.slice (some ade) M.length cE) (nC M) → m'.cell? (ade.add ((k + 1) * 1)) = some (.int .u64 b) := fun hs => by rw [← hbe]; exact nS_at hs (k + 1) hck
      rw [hae, hbe] at hst hslen
      refine WP.skip ?_; (with_reducible repeat (first | refine QN.B1 ?_ | refine QN.N1 ?_))
      refine WP.S1 ?_
      refine WP.B1 ?_
      refine WP.S1 ?_
      refine WP.drawQ (fun m' => Ext m2 [] m') [] (by kernel_rfl) (Ext.refl _ _) (by with_reducible repeat (first | exact PanicOk.body | refine PanicOk.then_ ?_ | refine PanicOk.block_ ?_)) (fun hQ => ?_)
      refine RH.pure T_ok hQ [0, 1] (by kernel_rfl) rfl ?_
      refine RH.indexAddr T_ok hQ 2 (k := i) rfl (by kernel_rfl) rfl rfl rfl rfl rfl rfl rfl hc rfl ?_
      refine RH.load T_ok hQ 3 (fun m' hm' => hcc m' (hN.1.trans hm' (by simp))) rfl (by kernel_rfl) rfl rfl rfl rfl ?_
      refine RH.pure T_ok hQ [4, 5] (by kernel_rfl) rfl ?_
      refine RH.indexAddr T_ok hQ 6 (k := k) rfl (by kernel_rfl) rfl rfl rfl rfl rfl rfl rfl (by omega) rfl ?_
      refine RH.load T_ok hQ 7 (fun m' hm' => hca (hSe.ext (hm'.mono (by simp)) (M' := S) (fun k hk => .inl hk) (by omega))) rfl (by kernel_rfl) rfl rfl rfl rfl ?_
      refine RH.pure T_ok hQ [8] (by kernel_rfl) rfl ?_
      refine RH.only 9 rfl (by kernel_rfl) (fun _ => ?_)
      refine RL.alloc T_ok rfl rfl (fun b3 m3 hb3 hC3 => ⟨_, rfl, ?_⟩)
      have hE3 : Ext m2 [] m3 := hC3.new (by omega)
      refine RL.N1 (RH.cont hE3 ?_)
      refine RH.only 10 rfl (by kernel_rfl) (fun _ => ?_)
      refine RL.storeAgg T_ok (b := b3) (i := 0) (vs := iC ⟨c, a⟩) (cs := [.int .u64 0, .int .u64 0]) hC3.blk rfl rfl rfl rfl rfl (by simp) (by simp [iC, Value.oneCell']) rfl ?_
      intro m4 hC4
      have hE4 : Ext m2 [] m4 := hE3.trans hC4.ext (fun q hq => .inr (by have h9 : q = b3 := (by simpa using hq); omega))
      have hB4 : Blk m4 b3 108 (iC ⟨c, a⟩) := hC4.blk
      refine RL.N1 (RH.cont hE4 ?_)
      refine RH.done (by kernel_rfl) (fun _ => ?_)
      (with_reducible repeat (first | refine QN.B1 ?_ | refine QN.N1 ?_))
      have hS4 : Sl m4 S 1 (.slice (some ade) M.length cE) (nC M) := hSe.ext (hE4.mono (by simp)) (fun k hk => .inl hk) (by omega)
      have hO4 := hO.ext hE4 (by simp)
      have hN4 : New m1 S m4 := ⟨hN.1.trans hE4 (by simp), hN.2⟩
      clear hC3 hC4 hE3 hO hN hSe
      (with_reducible repeat (first | refine WP.S1 ?_ | refine WP.B1 ?_ | refine WP.R1 ?_))
      refine RL.pure T_ok 1 rfl ?_
      refine RL.loadAgg T_ok (iC ⟨c, a⟩) rfl rfl rfl (fun j u hu => by rw [add_block]; exact hB4.cell _ (by simpa using hu)) rfl ?_
      refine RL.call (fi := []) (ca := []) rfl rfl rfl rfl (refturnOf_c m4 _ rs (h.ext0 hN4.1) (by omega) ⟨c, a⟩) ?_
      rintro _ m5 ⟨rfl, hE5⟩
      refine ⟨_, rfl, ?_⟩
      replace hB4 := hB4.ext hE5 (by simp)
      replace hS4 := hS4.ext (hE5.mono (by simp)) (M' := S) (fun k hk => .inl hk) (by omega)
      replace hO4 := hO4.ext hE5 (by simp)
      replace hN4 : New m1 S m5 := ⟨hN4.1.trans hE5 (by simp), hN4.2⟩
      refine RL.A1 T_ok rfl ?_
      refine RL.N1 ?_; (with_reducible repeat (first | refine QN.B1 ?_ | refine QN.N1 ?_ | refine WP.S1 ?_ | refine WP.B1 ?_ | refine WP.R1 ?_))
      refine RL.pure T_ok 2 rfl ?_
      refine RL.loadAgg T_ok (iC ⟨c, a⟩) rfl rfl rfl (fun j u hu => by rw [add_block]; exact hB4.cell _ (by simpa using hu)) rfl ?_
      refine RL.call (fi := []) (ca := []) rfl rfl rfl rfl (refturnOf_c m5 _ than (h'.ext0 hN4.1) (by omega) ⟨c, a⟩) ?_
      rintro _ m6 ⟨rfl, hE6⟩
      refine ⟨_, rfl, ?_⟩
      replace hS4 := hS4.ext (hE6.mono (by simp)) (M' := S) (fun k hk => .inl hk) (by omega)
      replace hO4 := hO4.ext hE6 (by simp)
      replace hN4 : New m1 S m6 := ⟨hN4.1.trans hE6 (by simp), hN4.2⟩
      clear hE5 hE6 hE4 hB4
      refine RL.pure T_ok 1 rfl ?_
      by_cases hle : turnOf rs c a ≤ turnOf than c a
      · refine RL.eqv (v' := .bool true) (congrArg _ (decide_eq_true (by simp only; omega))) ?_
        refine RL.N1 ?_; (with_reducible repeat (first | refine QN.B1 ?_ | refine QN.N1 ?_ | refine WP.S1 ?_ | refine WP.B1 ?_ | refine WP.R1 ?_))
        refine WP.condT rfl ?_
        refine WP.exit ?_; (with_reducible repeat (first | refine QN.tx ?_ | refine QN.bx ?_ | refine QN.block_far rfl ?_ | refine QN.B1 ?_ | refine QN.N1 ?_)); (with_reducible repeat (first | refine WP.S1 ?_ | refine WP.B1 ?_ | refine WP.R1 ?_))
        refine RL.pure T_ok 2 rfl ?_
        refine RL.eqv (v' := .int .i64 ((k + 1 : Nat) : Int)) (congrArg _ (by rw [wrap_i64_in _ (by omega) (by omega)]; rfl)) ?_
        refine RL.A1 T_ok rfl ?_
        have he : stepA rs than Rk c a b = Rk := if_pos hle
        rw [he] at hst
        exact RL.N1 (QN.round (k + 1, ow, S, Rk) (Sub.C1 rfl (Sub.C1 rfl (Sub.C1 rfl (Sub.C1 rfl (Sub.C1 rfl (Sub.C1 rfl (Sub.C1 rfl Sub.nil))))))) ⟨by show k + 1 ≤ _; omega, hO4, hN4, hS4, hst.symm.trans hP, by show Rk.length ≤ R.length + (k + 1); omega⟩ (by show _ - (k + 1) < _ - k; omega))
      refine RL.eqv (v' := .bool false) (congrArg _ (decide_eq_false (by simp only; omega))) ?_
      refine RL.N1 ?_; (with_reducible repeat (first | refine QN.B1 ?_ | refine QN.N1 ?_ | refine WP.S1 ?_ | refine WP.B1 ?_ | refine WP.R1 ?_))
      refine WP.condF rfl ?_
      refine WP.skip ?_; (with_reducible repeat (first | refine QN.B1 ?_ | refine QN.N1 ?_ | refine WP.S1 ?_ | refine WP.B1 ?_ | refine WP.R1 ?_))
      have hse2 : stepA rs than Rk c a b = tj Rk ⟨c, a, b, turnOf rs c a⟩ := if_neg hle
      rw [hse2] at hst hslen
      generalize turnOf rs c a = n at hst hslen hle
      obtain ⟨AO, cO, rfl, _⟩ := hO4.shape
      refine RL.A1 T_ok rfl ?_
      refine RL.N1 ?_; (with_reducible repeat (first | refine QN.B1 ?_ | refine QN.N1 ?_))
      refine WP.cut (X := Bool) (fun p => [(0, .slice A rs.length cA), (1, .slice B than.length cB), (5, .slice AO Rk.length cO), (6, .slice (some adc) cs.length cC), (7, .int .i64 i), (8, .slice (some ade) M.length cE), (9, .int .i64 k), (11, .int .u64 n), (12, .int .i64 Rk.length), (93, .bool p)])
        (fun p m' => m' = m6 ∧ p = jn Rk ⟨c, a, b, n⟩) ?_ ?_
      · cases Rk with
        | nil =>
          refine WP.drawQ (fun m' => m' = m6) [] (by kernel_rfl) rfl (by with_reducible repeat (first | exact PanicOk.body | refine PanicOk.then_ ?_ | refine PanicOk.block_ ?_)) (fun hQ => ?_)
          refine RH.pure T_ok hQ [0, 1, 2, 3, 4, 5, 6, 7, 8, 9, 10, 11, 12, 13, 14, 15, 16, 17, 18, 19, 20, 21, 22, 23, 24, 25, 26, 27, 28, 29, 30, 31, 32, 33, 34, 35, 36, 37] (by kernel_rfl) rfl ?_
          refine RH.done (by kernel_rfl) (fun _ => ?_)
          exact QN.cutEnd false (Sub.C1 rfl (Sub.C1 rfl (Sub.C1 rfl (Sub.C1 rfl (Sub.C1 rfl (Sub.C1 rfl (Sub.C1 rfl (Sub.C1 rfl (Sub.C1 rfl (Sub.C1 rfl Sub.nil)))))))))) ⟨rfl, rfl⟩
        | cons y r' =>
          have hR7 : Ts m6 [] (.slice AO (y :: r').length cO) (r'.reverse ++ [y]) := by
            have := hO4.sl (M := []) (by simp)
            rw [List.reverse_cons] at this; exact this
          obtain ⟨ad5, rfl, hy⟩ := hR7.cell r'.length (by simp)
          have hyy : (r'.reverse ++ [y])[r'.length]'(by simp) = y := by simp
          rw [hyy] at hy
          have hrl : (y :: r').length = r'.length + 1 := rfl
          refine WP.drawQ (fun m' => m' = m6) [] (by kernel_rfl) rfl (by with_reducible repeat (first | exact PanicOk.body | refine PanicOk.then_ ?_ | refine PanicOk.block_ ?_)) (fun hQ => ?_)
          refine RH.pure T_ok hQ [0, 1] (by kernel_rfl) rfl ?_
          refine RH.eqv (v' := .bool true) (congrArg _ (decide_eq_true (by simp only [hrl]; omega))) ?_
          refine RH.pure T_ok hQ [2, 3, 4, 5] (by kernel_rfl) rfl ?_
          refine RH.eqv (v' := .int .i64 r'.length) (congrArg _ (by show IntKind.i64.wrap (((r'.length + 1 : Nat) : Int) - 1) = r'.length; rw [wrap_i64_in _ (by omega) (by omega)]; omega)) ?_
          refine RH.indexAddr T_ok hQ 6 (k := r'.length) rfl (by kernel_rfl) rfl rfl rfl rfl rfl rfl rfl (by omega) rfl ?_
          refine RH.pure T_ok hQ [7] (by kernel_rfl) rfl ?_
          refine RH.load T_ok hQ 8 (fun m' hm' => by rw [hm']; exact hy 0 _ rfl) rfl (by kernel_rfl) rfl rfl rfl rfl ?_
          refine RH.pure T_ok hQ [9, 10] (by kernel_rfl) rfl ?_
          refine RH.indexAddr T_ok hQ 11 (k := i) rfl (by kernel_rfl) rfl rfl rfl rfl rfl rfl rfl hc rfl ?_
          refine RH.load T_ok hQ 12 (fun m' hm' => by rw [hm']; exact hcc m6 hN4.1) rfl (by kernel_rfl) rfl rfl rfl rfl ?_
          refine RH.pure T_ok hQ [13] (by kernel_rfl) rfl ?_
          by_cases h1 : y.c = c
          · refine RH.eqv (v' := .bool true) (congrArg _ (by rw [deq]; exact decide_eq_true h1)) ?_
            refine RH.pure T_ok hQ [14, 15, 16, 17, 18] (by kernel_rfl) rfl ?_
            refine RH.eqv (v' := .int .i64 r'.length) (congrArg _ (by show IntKind.i64.wrap (((r'.length + 1 : Nat) : Int) - 1) = r'.length; rw [wrap_i64_in _ (by omega) (by omega)]; omega)) ?_
            refine RH.indexAddr T_ok hQ 19 (k := r'.length) rfl (by kernel_rfl) rfl rfl rfl rfl rfl rfl rfl (by omega) rfl ?_
            refine RH.pure T_ok hQ [20] (by kernel_rfl) rfl ?_
            refine RH.load T_ok hQ 21 (fun m' hm' => by rw [hm']; exact hy 2 _ rfl) rfl (by kernel_rfl) rfl rfl rfl rfl ?_
            refine RH.pure T_ok hQ [22, 23] (by kernel_rfl) rfl ?_
            refine RH.indexAddr T_ok hQ 24 (k := k) rfl (by kernel_rfl) rfl rfl rfl rfl rfl rfl rfl (by omega) rfl ?_
            refine RH.load T_ok hQ 25 (fun m' hm' => by rw [hm']; exact hca hS4) rfl (by kernel_rfl) rfl rfl rfl rfl ?_
            refine RH.pure T_ok hQ [26] (by kernel_rfl) rfl ?_
            by_cases h2 : y.t = a
            · refine RH.eqv (v' := .bool true) (congrArg _ (by rw [deq]; exact decide_eq_true h2)) ?_
              refine RH.pure T_ok hQ [27, 28, 29, 30, 31] (by kernel_rfl) rfl ?_
              refine RH.eqv (v' := .int .i64 r'.length) (congrArg _ (by show IntKind.i64.wrap (((r'.length + 1 : Nat) : Int) - 1) = r'.length; rw [wrap_i64_in _ (by omega) (by omega)]; omega)) ?_
              refine RH.indexAddr T_ok hQ 32 (k := r'.length) rfl (by kernel_rfl) rfl rfl rfl rfl rfl rfl rfl (by omega) rfl ?_
              refine RH.pure T_ok hQ [33] (by kernel_rfl) rfl ?_
              refine RH.load T_ok hQ 34 (fun m' hm' => by rw [hm']; exact hy 3 _ rfl) rfl (by kernel_rfl) rfl rfl rfl rfl ?_
              refine RH.pure T_ok hQ [35, 36] (by kernel_rfl) rfl ?_
              refine RH.eqv (v' := .bool (decide (y.n = n))) (congrArg _ (deq _ _)) ?_
              refine RH.pure T_ok hQ [37] (by kernel_rfl) rfl ?_
              refine RH.done (by kernel_rfl) (fun _ => ?_)
              exact QN.cutEnd (decide (y.n = n)) (Sub.C1 rfl (Sub.C1 rfl (Sub.C1 rfl (Sub.C1 rfl (Sub.C1 rfl (Sub.C1 rfl (Sub.C1 rfl (Sub.C1 rfl (Sub.C1 rfl (Sub.C1 rfl Sub.nil)))))))))) ⟨rfl, by simp [jn, h1, h2]⟩
            · refine RH.eqv (v' := .bool false) (congrArg _ (by rw [deq]; exact decide_eq_false h2)) ?_
              refine RH.pure T_ok hQ [27, 28, 29, 30, 31, 32, 33, 34, 35, 36, 37] (by kernel_rfl) rfl ?_
              refine RH.done (by kernel_rfl) (fun _ => ?_)
              exact QN.cutEnd false (Sub.C1 rfl (Sub.C1 rfl (Sub.C1 rfl (Sub.C1 rfl (Sub.C1 rfl (Sub.C1 rfl (Sub.C1 rfl (Sub.C1 rfl (Sub.C1 rfl (Sub.C1 rfl Sub.nil)))))))))) ⟨rfl, by simp [jn, h2]⟩
          · refine RH.eqv (v' := .bool false) (congrArg _ (by rw [deq]; exact decide_eq_false h1)) ?_
            refine RH.pure T_ok hQ [14, 15, 16, 17, 18, 19, 20, 21, 22, 23, 24, 25, 26, 27, 28, 29, 30, 31, 32, 33, 34, 35, 36, 37] (by kernel_rfl) rfl ?_
            refine RH.done (by kernel_rfl) (fun _ => ?_)
            exact QN.cutEnd false (Sub.C1 rfl (Sub.C1 rfl (Sub.C1 rfl (Sub.C1 rfl (Sub.C1 rfl (Sub.C1 rfl (Sub.C1 rfl (Sub.C1 rfl (Sub.C1 rfl (Sub.C1 rfl Sub.nil)))))))))) ⟨rfl, by simp [jn, h1]⟩
      rintro p mc ⟨rfl, hp⟩
      refine WP.cond rfl (fun hpt => ?_) (fun hpf => ?_)
      · rw [hpt] at hp
        obtain ⟨y, r', rfl, htj⟩ := jn_true hp.symm
        rw [htj] at hst hslen
        have hrl : (y :: r').length = r'.length + 1 := rfl
        have hO8 : Ev.Own mc S 57 4 (.slice AO (y :: r').length cO) (y :: r').length ((r'.reverse ++ [y]).flatMap tC) := by
          have := hO4; rw [List.reverse_cons] at this; exact this
        obtain ⟨g, cap, cur, hv8, hB8, rfl, hj8, hset⟩ := hO8.putN (j := r'.length * 4 + 2) (by rw [hrl]; omega)
        injection hv8 with hv8 hv8'
        subst hv8
        (with_reducible repeat (first | refine WP.S1 ?_ | refine WP.B1 ?_ | refine WP.R1 ?_))
        refine RL.pure T_ok 3 rfl ?_
        refine RL.eqv (v' := .int .i64 r'.length) (congrArg _ (by show IntKind.i64.wrap (((r'.length + 1 : Nat) : Int) - 1) = r'.length; rw [wrap_i64_in _ (by omega) (by omega)]; omega)) ?_
        refine RL.pure T_ok 3 rfl ?_
        refine RL.eqv (v' := .int .i64 ((k + 1 : Nat) : Int)) (congrArg _ (by rw [wrap_i64_in _ (by omega) (by omega)]; rfl)) ?_
        refine RL.indexAddr (k := k + 1) T_ok rfl rfl rfl rfl rfl rfl rfl hck rfl ?_
        refine RL.load T_ok rfl rfl rfl (hcb hS4) rfl ?_
        refine RL.indexAddr (k := r'.length) T_ok rfl rfl rfl rfl rfl rfl rfl (by omega) rfl ?_
        refine RL.eqv (v' := .pointer (some ⟨g, r'.length * 4, none⟩)) (congrArg (fun q => Value.pointer (some q)) (by rw [add_block]; show (⟨g, 0 + r'.length * 4, none⟩ : Addr) = _; rw [Nat.zero_add])) ?_
        refine RL.A1 T_ok rfl ?_
        refine RL.store T_ok hB8 (i := r'.length * 4 + 2) (v := .int .u64 b) hj8 rfl rfl rfl rfl rfl rfl ?_
        intro m9 hC9
        have hO9 := hset m9 _ hC9
        rw [show r'.length * 4 + 2 = r'.reverse.length * 4 + 2 by rw [List.length_reverse], tsC_setT, ← List.reverse_cons] at hO9
        have hS9 : Sl m9 [g] 1 (.slice (some ade) M.length cE) (nC M) := hS4.ext hC9.ext (fun k hk => .inl hk) (by omega)
        have hN9 : New m1 [g] m9 := ⟨hN4.1.trans hC9.ext (fun k hk => .inr (hN4.ge k hk)), hN4.2⟩
        refine RL.N1 ?_; (with_reducible repeat (first | refine QN.B1 ?_ | refine QN.N1 ?_ | refine WP.S1 ?_ | refine WP.B1 ?_ | refine WP.R1 ?_))
        refine RL.pure T_ok 2 rfl ?_
        refine RL.eqv (v' := .int .i64 ((k + 1 : Nat) : Int)) (congrArg _ (by rw [wrap_i64_in _ (by omega) (by omega)]; rfl)) ?_
        refine RL.A1 T_ok rfl ?_
        exact RL.N1 (QN.round (k + 1, _, [g], { y with t := b } :: r') (Sub.C1 rfl (Sub.C1 rfl (Sub.C1 rfl (Sub.C1 rfl (Sub.C1 rfl (Sub.C1 rfl (Sub.C1 rfl Sub.nil))))))) ⟨by show k + 1 ≤ _; omega, hO9, hN9, hS9, hst.symm.trans hP, by show (y :: r').length ≤ R.length + (k + 1); omega⟩ (by show _ - (k + 1) < _ - k; omega))
      · rw [hpf] at hp
        have htj := jn_false hp.symm
        rw [htj] at hst hslen
        refine WP.drawQ (fun m' => Ext m1 [] m' ∧ Sl m' [] 1 (.slice (some ade) M.length cE) (nC M)) [] (by kernel_rfl) ⟨hN4.1, hS4.less (by simp) (by omega)⟩ (by with_reducible repeat (first | exact PanicOk.body | refine PanicOk.then_ ?_ | refine PanicOk.block_ ?_)) (fun hQ => ?_)
        refine RH.pure T_ok hQ [0, 1, 2] (by kernel_rfl) rfl ?_
        refine RH.indexAddr T_ok hQ 3 (k := i) rfl (by kernel_rfl) rfl rfl rfl rfl rfl rfl rfl hc rfl ?_
        refine RH.load T_ok hQ 4 (fun m' hm' => hcc m' hm'.1) rfl (by kernel_rfl) rfl rfl rfl rfl ?_
        refine RH.pure T_ok hQ [5, 6] (by kernel_rfl) rfl ?_
        refine RH.indexAddr T_ok hQ 7 (k := k) rfl (by kernel_rfl) rfl rfl rfl rfl rfl rfl rfl (by omega) rfl ?_
        refine RH.load T_ok hQ 8 (fun m' hm' => hca hm'.2) rfl (by kernel_rfl) rfl rfl rfl rfl ?_
        refine RH.pure T_ok hQ [9, 10, 11] (by kernel_rfl) rfl ?_
        refine RH.eqv (v' := .int .i64 ((k + 1 : Nat) : Int)) (congrArg _ (by rw [wrap_i64_in _ (by omega) (by omega)]; rfl)) ?_
        refine RH.indexAddr T_ok hQ 12 (k := k + 1) rfl (by kernel_rfl) rfl rfl rfl rfl rfl rfl rfl hck rfl ?_
        refine RH.load T_ok hQ 13 (fun m' hm' => hcb hm'.2) rfl (by kernel_rfl) rfl rfl rfl rfl ?_
        refine RH.pure T_ok hQ [14, 15] (by kernel_rfl) rfl ?_
        refine RH.eqv (v' := tV ⟨c, a, b, n⟩) rfl ?_
        refine RH.only 16 rfl (by kernel_rfl) (fun _ => ?_)
        refine RL.buildSlice T_ok [.tmp 119] (us := [tV ⟨c, a, b, n⟩]) (tC ⟨c, a, b, n⟩) rfl rfl rfl rfl rfl rfl (by simp [tV, tC, Value.cells]) (by simp [tV, Value.cells]) rfl (fun b9 m9 hb9 hC9 => ⟨_, rfl, ?_⟩)
        have hE9 : Ext mc [] m9 := hC9.new (by omega)
        have hN9 : New m1 S m9 := ⟨hN4.1.trans hE9 (by simp), hN4.2⟩
        have hS9 := hS4.ext (hE9.mono (by simp)) (M' := S) (fun k hk => .inl hk) (by omega)
        refine RL.N1 (RH.cont ⟨hN9.1, hS9.less (by simp) (by omega)⟩ ?_)
        refine RH.only 17 rfl (by kernel_rfl) (fun _ => ?_)
        refine RL.append T_ok (hO4.ext hE9 (by simp)) (tC ⟨c, a, b, n⟩) (Src.of_blk (k := 1) (c := 1) hC9.blk rfl) rfl rfl rfl rfl rfl rfl (tC_one _) (by unfold maxLen; omega) (by show (_ + 1) * 32 ≤ _; omega) ?_
        intro v10 m10 S10 hO10 hE10 hF10
        have hN10 : New m1 S10 m10 := ⟨hN9.1.trans hE10 (fun k hk => .inr (hN9.ge k hk)), hN9.2.trans hF10 hN9.1.size⟩
        have hS10 : Sl m10 S10 1 (.slice (some ade) M.length cE) (nC M) := hS9.ext hE10 hF10 (by omega)
        refine ⟨_, rfl, RL.N1 (RH.cont ⟨hN10.1, hS10.less (by simp) (by omega)⟩ ?_)⟩
        refine RH.pure T_ok hQ [18] (by kernel_rfl) rfl ?_
        refine RH.done (by kernel_rfl) (fun _ => ?_)
        (with_reducible repeat (first | refine QN.B1 ?_ | refine QN.N1 ?_))
        (with_reducible repeat (first | refine WP.S1 ?_ | refine WP.B1 ?_ | refine WP.R1 ?_))
        refine RL.pure T_ok 2 rfl ?_
        refine RL.eqv (v' := .int .i64 ((k + 1 : Nat) : Int)) (congrArg _ (by rw [wrap_i64_in _ (by omega) (by omega)]; rfl)) ?_
        refine RL.A1 T_ok rfl ?_
        refine RL.N1 (QN.round (k + 1, v10, S10, (⟨c, a, b, n⟩ : Trn) :: Rk) (Sub.C1 rfl (Sub.C1 rfl (Sub.C1 rfl (Sub.C1 rfl (Sub.C1 rfl (Sub.C1 rfl (Sub.C1 rfl Sub.nil))))))) ⟨by show k + 1 ≤ _; omega, ?_, hN10, hS10, hst.symm.trans hP, by show Rk.length + 1 ≤ R.length + (k + 1); omega⟩ (by show _ - (k + 1) < _ - k; omega))
        show Ev.Own m10 S10 57 4 v10 (Rk.length + 1) (((⟨c, a, b, n⟩ : Trn) :: Rk).reverse.flatMap tC)
        rw [List.reverse_cons, ← tsC_app]
        simpa using hO10
    · replace hck : ¬ k + 1 < M.length := by have := of_decide_eq_false hck; omega
      rw [pairs_end rs than c Rk M k hck] at hP
      refine WP.exit ?_; (with_reducible repeat (first | refine QN.tx ?_ | refine QN.bx ?_ | refine QN.block_far rfl ?_ | refine QN.B1 ?_ | refine QN.N1 ?_)); (with_reducible repeat (first | refine WP.S1 ?_ | refine WP.B1 ?_ | refine WP.R1 ?_))
      refine RL.pure T_ok 2 rfl ?_
      refine RL.eqv (v' := .int .i64 ((i + 1 : Nat) : Int)) (congrArg _ (by rw [wrap_i64_in _ (by omega) (by omega)]; rfl)) ?_
      refine RL.A1 T_ok rfl ?_
      subst hce
      refine RL.N1 (QN.round (i + 1, ow, S, Rk) (Sub.C1 rfl (Sub.C1 rfl (Sub.C1 rfl (Sub.C1 rfl (Sub.C1 rfl Sub.nil))))) ⟨by show i + 1 ≤ _; omega, hO, hN, ?_⟩ (by show _ - (i + 1) < _ - i; omega))
      show AbI rs than cs W (i + 1) Rk
      have h9 := hI.next hc hsc (hcr _ (List.getElem_mem _)) hEd (by rw [← hP]; omega)
      rw [← hP] at h9
      exact h9
  · replace hc : i = cs.length := by have := of_decide_eq_false hc; simp only at this; omega
    subst hc
    refine WP.exit ?_; (with_reducible repeat (first | refine QN.tx ?_ | refine QN.bx ?_ | refine QN.block_far rfl ?_ | refine QN.B1 ?_ | refine QN.N1 ?_)); (with_reducible repeat (first | refine WP.S1 ?_ | refine WP.B1 ?_ | refine WP.R1 ?_))
    refine RL.A1 T_ok rfl ?_
    refine RL.N1 ?_; (with_reducible repeat (first | refine QN.B1 ?_ | refine QN.N1 ?_ | refine WP.S1 ?_ | refine WP.B1 ?_ | refine WP.R1 ?_))
    refine WP.ret ?_; (with_reducible repeat (first | refine QN.tr ?_ | refine QN.br ?_))
    refine QN.ret1 rfl rfl ⟨_, rfl, R.reverse, ⟨hI.canon.reverse, fun c k => ?_, ?_⟩, S, by rw [List.length_reverse]; exact hO, hE1.trans hN.1 (by simp), hN.2.trans' hE1⟩
    · rw [turnOf_reverse, hI.told, List.take_length]
      by_cases hcm : c ∈ cs
      · rw [if_pos hcm]
      · rw [if_neg hcm]
        unfold aboveOf
        by_cases h0 : turnOf rs c k = 0
        · rw [if_neg (by omega)]
        · obtain ⟨_, x, hx, g1, g2, _⟩ := turnOf_num h0
          exact absurd ((hmc c).2 ⟨x, hx, g1, g2⟩) hcm
    · rw [List.length_reverse, hW]
      exact Nat.le_trans hI.len (Nat.mul_le_mul_right _ hlc)
end Go.Proofs.YtmjpcaiehfimgaaGreatDoor
end
section
namespace Go.Proofs.YtmjpcaiehfimgaaGreatDoor
open Go.RowKit Go.Ev Go.Ids
theorem AForm.turns {l L L' : List Trn} (h : TForm l L) (h' : AForm l [] L') : L' = L := tcanon_unique h'.1 h.1 fun c k => by rw [h'.2.1, h.2.1, aboveOf_nil]
theorem refturns_c (m : World) (v : Value) (l : List Trn) (h : Ts m [] v l) (hl : l.length * (2 * l.length) < 100000000) :
    FnR Tryz.prog 13 [v] m fun r m' => ∃ L, AForm l [] L ∧ TMade m r L m' := by
  have hll : l.length < 100000000 := by
    rcases Nat.eq_zero_or_pos l.length with h0 | h0
    · omega
    · have := Nat.mul_le_mul_left l.length (show 1 ≤ 2 * l.length by omega)
      omega
  refine FnE.enter ⟨_, Tryz.func13, by kernel_rfl, by kernel_rfl⟩ Tryz.func13 rfl rfl ?_
  (with_reducible repeat (first | refine WP.S1 ?_ | refine WP.B1 ?_ | refine WP.R1 ?_))
  refine RL.A1 T_ok rfl ?_
  refine RL.N1 ?_; (with_reducible repeat (first | refine QN.B1 ?_ | refine QN.N1 ?_ | refine WP.S1 ?_ | refine WP.B1 ?_ | refine WP.R1 ?_))
  refine RL.A1 T_ok rfl ?_
  refine RL.call (fi := []) (ca := []) rfl rfl rfl rfl (refabove_c m v _ l [] h (Sl.nil _ _ _) (by simpa using hll) (by simpa using hl)) ?_
  rintro v3 m3 ⟨L, hL, hM⟩
  refine ⟨_, rfl, ?_⟩
  refine RL.A1 T_ok rfl ?_
  refine RL.N1 ?_; (with_reducible repeat (first | refine QN.B1 ?_ | refine QN.N1 ?_ | refine WP.S1 ?_ | refine WP.B1 ?_ | refine WP.R1 ?_))
  refine WP.ret ?_; (with_reducible repeat (first | refine QN.tr ?_ | refine QN.br ?_))
  exact QN.ret1 rfl rfl ⟨_, rfl, L, hL, hM⟩
end Go.Proofs.YtmjpcaiehfimgaaGreatDoor
end
section
namespace Go.Proofs.YtmjpcaiehfimgaaGreatDoor
open Go.RowKit Go.Ev Go.Ids
theorem WAt.nd {m : World} {b : Nat} {S : List Nat} {l : List UInt8} (h : WAt m b S l) : S.Nodup := by
  obtain ⟨v, S1, _, h2, h3, rfl⟩ := h
  exact List.nodup_cons.2 ⟨h3, h2.nd⟩
def wA (b : Nat) (S : List Nat) (l : List UInt8) : Asn where
  own := S
  P := fun m _ => WAt m b S l
  lt := fun h k hk => h.lt k hk
  keep := fun h hE hn _ _ => h.ext hE hn
def rdA (b : Nat) (l : List UInt8) (e : Int) : Asn where
  own := [b]
  P := fun m M => RAt m M b l e
  lt := fun h k hk => by have : k = b := by simpa using hk
                         subst this; exact h.lt
  keep := fun h hE hn hN hM => h.ext hE (hn b (by simp)) hN hM
def qdA (b : Nat) (l : List UInt8) (e : Int) : Asn where
  own := [b]
  P := fun m M => QAt m M b l e
  lt := fun h k hk => by have : k = b := by simpa using hk
                         subst this; exact h.lt
  keep := fun h hE hn hN hM => h.ext hE (hn b (by simp)) hN hM
theorem Tr.wr {m0 m m' : World} {M0 X : List Nat} {H : List Asn} {b : Nat} {S S' : List Nat} {l l' : List UInt8} (h : Tr m0 M0 X m (wA b S l :: H)) (hW : WAt m' b S' l') (hE : Ext m S m') (hF : FpNew m S S') : Tr m0 M0 X m' (wA b S' l' :: H) := by
  have hn := List.nodup_append.1 (ofps_cons _ _ ▸ h.hold.nd)
  refine h.step (A := wA b S l) hE hF hW.nd (fun k hk hx => ?_) hW
  rcases hF k hk with h1 | h1
  · rcases List.mem_append.1 hx with h2 | h2
    · exact hn.2.2 k h1 k h2 rfl
    · exact h.hold.out k (by rw [ofps_cons]; exact List.mem_append_left _ h1) h2
  · rcases List.mem_append.1 hx with h2 | h2
    · have := h.hold.lt k (by rw [ofps_cons]; exact List.mem_append_right _ h2); omega
    · have := h.xlt k h2; have := h.ext.size; omega
def WP_ (b : Nat) (l : List UInt8) (v : Value) (H : List Asn) : Prop := v = .tuple #[] ∧ ∃ S, H = [wA b S l]
theorem DoS.w {P : Program} {f : FuncId} {args : List Value} {b : Nat} {S : List Nat} {l l' : List UInt8} {R : List Asn} (h : ∀ m X, Tr m (ofps (wA b S l :: R)) X m (wA b S l :: R) → WAt m b S l → FnR P f args m (WPost m b S l')) : DoS P f args (wA b S l :: R) (WP_ b l') := fun m X hT =>
  (h m X hT hT.head).mono fun v m' ⟨hv, S', hW, hE, hF⟩ => ⟨[wA b S' l'], ⟨hv, S', rfl⟩, by
    have h1 : Tr m (ofps (wA b S l :: R)) X m ([wA b S l] ++ R) := hT
    exact (Tr.wr h1 hW hE hF).perm (.refl _) |>.drop (F := R)⟩
theorem wbyte_s (x : UInt8) (b : Nat) (S : List Nat) (l : List UInt8) (hl : l.length < 1000000000) : DoS Tryz.prog 19 [.pointer (some ⟨b, 0, none⟩), .int .u8 x.toNat] [wA b S l] (WP_ b (l ++ [x])) :=
  DoS.w fun m _ _ h => wbyte m x b S l h hl
theorem wuint_s (n : Nat) (hn : n < 18446744073709551616) (b : Nat) (S : List Nat) (l : List UInt8) (hl : l.length < 1000000000) : DoS Tryz.prog 20 [.pointer (some ⟨b, 0, none⟩), .int .u64 n] [wA b S l] (WP_ b (l ++ encU n)) :=
  DoS.w fun m _ _ h => wuint m n hn b S l h hl
theorem str_size (s : List UInt8) : (str s).size = s.length := by show s.toArray.size = _; simp
theorem str_list (s : List UInt8) : (str s).data.toList = s := by show s.toArray.toList = s; simp
theorem wtext_s (s : List UInt8) (hs : s.length < 1000000000) (b : Nat) (S : List Nat) (l : List UInt8) (hl : l.length < 1000000000) : DoS Tryz.prog 21 [.pointer (some ⟨b, 0, none⟩), .string (str s)] [wA b S l] (WP_ b (l ++ encS s)) :=
  DoS.w fun m _ _ h => by
    have := wtext m (str s) (by rw [str_size]; exact hs) b S l h hl
    rw [str_size, str_list, List.append_assoc] at this
    exact this
theorem wbytes_s (b : Nat) (S : List Nat) (l : List UInt8) (hl : l.length < 1000000000) : DoS Tryz.prog 24 [.pointer (some ⟨b, 0, none⟩)] [wA b S l] (fun r H => ∃ S', H = [ownA S' 5 1 r l.length (u8s l), wA b S l]) := fun m _ hT =>
  (wbytes m b S l hT.head hl).mono fun _ _ ⟨S', hO, hN⟩ => ⟨_, ⟨S', rfl⟩, hT.made hO hN⟩
theorem vwrite_s (b : Nat) (S : List Nat) (bs : List UInt8) (v : Value) (l : List Clk) (hl : l.length < 1000000) (hbs : bs.length < 100000000) : DoS Tryz.prog 22 [.pointer (some ⟨b, 0, none⟩), v] [wA b S bs, roA 2 v (l.flatMap cC)] (WP_ b (bs ++ encV (vclean l))) :=
  DoS.w fun m X hT h => vwrite_c m b S bs v l h (Sl.less (hT.ro 1 rfl) (by simp) (by omega)) hl hbs
theorem DoS.made {P : Program} {f : FuncId} {args : List Value} {sz n : Nat} {t : TypeId} {v : Value} {ws xs : List Value} {sz0 : Nat} (h : ∀ m, Sl m [] sz0 v ws → FnR P f args m fun r m' => ∃ S', Ev.Own m' S' t sz r n xs ∧ New m S' m') : DoS P f args [roA sz0 v ws] (fun r H => ∃ S', H = [ownA S' t sz r n xs]) := fun m X hT =>
  (h m (Sl.less (hT.ro 0 rfl) (by simp) hT.head.2)).mono fun r _ ⟨S', hO, hN⟩ => ⟨_, ⟨S', rfl⟩, (hT.made hO hN).perm (.refl _) |>.drop (H := [ownA S' t sz r n xs])⟩
theorem vclean_s (v : Value) (l : List Clk) (hl : l.length < 100000000) : DoS Tryz.prog 35 [v] [roA 2 v (l.flatMap cC)] (fun r H => ∃ S', H = [ownA S' 46 2 r (vclean l).length ((vclean l).flatMap cC)]) :=
  DoS.made fun m h => vclean_c m v l h hl
theorem refvclean_s (v : Value) (l : List Clk) (hl : l.length < 100000000) : DoS Tryz.prog 12 [v] [roA 2 v (l.flatMap cC)] (fun r H => ∃ S', H = [ownA S' 46 2 r (vclean l).length ((vclean l).flatMap cC)]) :=
  DoS.made fun m h => refvclean_c m v l h hl
theorem turnsF_s (v : Value) (l : List Trn) (hl : l.length < 200000000) : DoS Tryz.prog 23 [v] [roA 4 v (l.flatMap tC)] (fun r H => (tnorm l).length ≤ 2 * l.length + 2 ∧ ∃ S', H = [ownA S' 57 4 r (tnorm l).length ((tnorm l).flatMap tC)]) := fun m X hT =>
  (turnsF_c m v l (Sl.less (hT.ro 0 rfl) (by simp) (by omega)) hl).mono fun r m' ⟨L, hL, S', hO, hN⟩ => by
    obtain rfl := tnorm_eq hL.1 hL.2.1
    exact ⟨_, ⟨hL.2.2, S', rfl⟩, (hT.made hO hN).perm (.refl _) |>.drop (H := [ownA S' _ 4 r _ _])⟩
theorem refturns_s (v : Value) (l : List Trn) (hl : l.length * (2 * l.length) < 100000000) : DoS Tryz.prog 13 [v] [roA 4 v (l.flatMap tC)] (fun r H => ∃ S', H = [ownA S' 57 4 r (tnorm l).length ((tnorm l).flatMap tC)]) := fun m X hT =>
  (refturns_c m v l (Sl.less (hT.ro 0 rfl) (by simp) (by omega)) hl).mono fun r m' ⟨L, hL, S', hO, hN⟩ => by
    obtain rfl := tnorm_eq hL.1 (fun c k => (hL.2.1 c k).trans (aboveOf_nil l c k))
    exact ⟨_, ⟨S', rfl⟩, (hT.made hO hN).perm (.refl _) |>.drop (H := [ownA S' _ 4 r _ _])⟩
def OP_ (l : List UInt8) (v : Value) (H : List Asn) : Prop := ∃ S, H = [ownA S 5 1 v l.length (u8s l)]
theorem DoS.o {P : Program} {f : FuncId} {args : List Value} {u : Value} {S : List Nat} {l l' : List UInt8} {R : List Asn} (h : ∀ m X, Tr m (ofps (ownA S 5 1 u l.length (u8s l) :: R)) X m (ownA S 5 1 u l.length (u8s l) :: R) → Ev.Own m S 5 1 u l.length (u8s l) → FnR P f args m (OPost m S l')) : DoS P f args (ownA S 5 1 u l.length (u8s l) :: R) (OP_ l') := fun m X hT =>
  (h m X hT hT.head).mono fun v _ ⟨S', hO, hE, hF⟩ => ⟨_, ⟨S', rfl⟩, (hT.grow hO hE hF).perm (.refl _) |>.drop (H := [ownA S' 5 1 v l'.length (u8s l')]) (F := R)⟩
theorem refuint_s (n : Nat) (hn : n < 18446744073709551616) (S : List Nat) (v : Value) (l : List UInt8) (hl : l.length < 1000000000) : DoS Tryz.prog 27 [v, .int .u64 n] [ownA S 5 1 v l.length (u8s l)] (OP_ (l ++ encU n)) :=
  DoS.o fun m _ _ h => refuint_c m n hn S v l h hl
theorem reftext_s (s : List UInt8) (hs : s.length < 1000000000) (S : List Nat) (v : Value) (l : List UInt8) (hl : l.length < 1000000000) : DoS Tryz.prog 26 [v, .string (str s)] [ownA S 5 1 v l.length (u8s l)] (OP_ (l ++ encS s)) :=
  DoS.o fun m _ _ h => by
    have := reftext_c m s hs S v l h hl
    rw [List.append_assoc] at this
    exact this
theorem refvwrite_s (S : List Nat) (u : Value) (bs : List UInt8) (v : Value) (l : List Clk) (hl : l.length < 1000000) (hbs : bs.length < 100000000) : DoS Tryz.prog 29 [u, v] [ownA S 5 1 u bs.length (u8s bs), roA 2 v (l.flatMap cC)] (OP_ (bs ++ encV (vclean l))) :=
  DoS.o fun m X hT h => refvwrite_c m S u bs v l h (Sl.less (hT.ro 1 rfl) (by simp) (by omega)) hl hbs
theorem copy_s (v : Value) (l : List UInt8) (hl : l.length < 1000000000) : DoS Tryz.prog 15 [v] [roA 1 v (u8s l)] (fun r H => ∃ S', H = [ownA S' 5 1 r l.length (u8s l)]) :=
  DoS.made fun m h => copy_c m [] v l h hl
theorem DoS.looks {P : Program} {f : FuncId} {args : List Value} {Pre : List Asn} {r : Value} (h : ∀ m X, Tr m (ofps Pre) X m Pre → FnR P f args m fun v m' => v = r ∧ m' = m) : DoS P f args Pre (fun v H => v = r ∧ H = []) := fun m X hT =>
  (h m X hT).mono fun v m' ⟨h1, h2⟩ => ⟨[], ⟨h1, rfl⟩, by subst h2; exact Tr.drop (H := []) (F := Pre) hT⟩
theorem hbytes_s (v u : Value) (a b : List UInt8) : DoS Tryz.prog 10 [v, u] [roA 1 v (u8s a), roA 1 u (u8s b)] (fun r H => r = .bool (decide (a = b)) ∧ H = []) :=
  DoS.looks fun m X hT => hbytes_c m [] v u a b (Sl.less (hT.ro 0 rfl) (by simp) (by omega)) (Sl.less (hT.ro 1 rfl) (by simp) (by omega))
theorem clocks_s (v u : Value) (a b : List Clk) (hl : a.length < 1000000000) : DoS Tryz.prog 38 [v, u] [roA 2 v (a.flatMap cC), roA 2 u (b.flatMap cC)] (fun r H => r = .bool (decide (a = b)) ∧ H = []) :=
  DoS.looks fun m X hT => clocks_c m v u a b (Sl.less (hT.ro 0 rfl) (by simp) (by omega)) (Sl.less (hT.ro 1 rfl) (by simp) (by omega)) hl
theorem turns_s (v u : Value) (a b : List Trn) (hl : a.length < 1000000000) : DoS Tryz.prog 39 [v, u] [roA 4 v (a.flatMap tC), roA 4 u (b.flatMap tC)] (fun r H => r = .bool (decide (a = b)) ∧ H = []) :=
  DoS.looks fun m X hT => turns_c m v u a b (Sl.less (hT.ro 0 rfl) (by simp) (by omega)) (Sl.less (hT.ro 1 rfl) (by simp) (by omega)) hl
def RP_ {α : Type} (b : Nat) (enc : α → Value) (r : α × St) (v : Value) (H : List Asn) : Prop := v = enc r.1 ∧ H = [rdA b r.2.1 r.2.2]
def QP_ {α : Type} (b : Nat) (enc : α → Value) (r : α × St) (v : Value) (H : List Asn) : Prop := v = enc r.1 ∧ H = [qdA b r.2.1 r.2.2]
theorem DoS.r {P : Program} {f : FuncId} {args : List Value} {α : Type} {enc : α → Value} {b : Nat} {l : List UInt8} {e : Int} {r : α × St} (h : ∀ m M, RAt m M b l e → b ∈ M → FnR P f args m (RPost m M b enc r)) : DoS P f args [rdA b l e] (RP_ b enc r) := fun m X hT =>
  (h m _ hT.head (by simp [ofps_cons, rdA])).mono fun v m' ⟨h1, h2, h3⟩ => ⟨_, ⟨h1, rfl⟩, hT.step_same (B := rdA b r.2.1 r.2.2) h3 rfl h2⟩
theorem DoS.q {P : Program} {f : FuncId} {args : List Value} {α : Type} {enc : α → Value} {b : Nat} {l : List UInt8} {e : Int} {r : α × St} (h : ∀ m M, QAt m M b l e → b ∈ M → FnR P f args m (QPost m M b enc r)) : DoS P f args [qdA b l e] (QP_ b enc r) := fun m X hT =>
  (h m _ hT.head (by simp [ofps_cons, qdA])).mono fun v m' ⟨h1, h2, h3⟩ => ⟨_, ⟨h1, rfl⟩, hT.step_same (B := qdA b r.2.1 r.2.2) h3 rfl h2⟩
theorem ruint_s (b : Nat) (l : List UInt8) (e : Int) (most : Nat) : DoS Tryz.prog 62 [.pointer (some ⟨b, 0, none⟩), .int .u64 most] [rdA b l e] (RP_ b (fun n : Nat => .int .u64 n) (rdN most (l, e))) :=
  DoS.r fun m M h hM => ruint_c m M b l e h hM most
theorem rbyte_s (b : Nat) (l : List UInt8) (e : Int) : DoS Tryz.prog 61 [.pointer (some ⟨b, 0, none⟩)] [rdA b l e] (RP_ b (fun n : UInt8 => .int .u8 n.toNat) (rdB (l, e))) :=
  DoS.r fun m M h hM => rbyte_c m M b l e h hM
theorem rtext_s (b : Nat) (l : List UInt8) (e : Int) (hl : l.length < 1000000000) (most : Nat) (hm : most ≤ 9223372036854775807) : DoS Tryz.prog 63 [.pointer (some ⟨b, 0, none⟩), .int .i64 most] [rdA b l e] (RP_ b (fun s : List UInt8 => .string (str s)) (rdT most (l, e))) :=
  DoS.r fun m M h hM => rtext_c m M b l e h hM hl most (by omega) (by omega)
theorem quint_s (b : Nat) (l : List UInt8) (e : Int) (most : Nat) : DoS Tryz.prog 41 [.pointer (some ⟨b, 0, none⟩), .int .u64 most] [qdA b l e] (QP_ b (fun n : Nat => .int .u64 n) (rdN most (l, e))) :=
  DoS.q fun m M h hM => quint_c m M b l e h hM most
theorem qbyte_s (b : Nat) (l : List UInt8) (e : Int) : DoS Tryz.prog 40 [.pointer (some ⟨b, 0, none⟩)] [qdA b l e] (QP_ b (fun n : UInt8 => .int .u8 n.toNat) (rdB (l, e))) :=
  DoS.q fun m M h hM => qbyte_c m M b l e h hM
theorem qtext_s (b : Nat) (l : List UInt8) (e : Int) (most : Nat) (hm : most ≤ 9223372036854775807) : DoS Tryz.prog 42 [.pointer (some ⟨b, 0, none⟩), .int .i64 most] [qdA b l e] (QP_ b (fun s : List UInt8 => .string (str s)) (rdT most (l, e))) :=
  DoS.q fun m M h hM => qtext_c m M b l e h hM most (by omega) (by omega)
theorem rerr_s (b : Nat) (l : List UInt8) (e : Int) : DoS Tryz.prog 65 [.pointer (some ⟨b, 0, none⟩)] [rdA b l e] (fun r H => r = .int .i64 e ∧ H = [rdA b l e]) := fun m X hT =>
  (err_c m _ b l e hT.head).mono fun v m' ⟨h1, h2⟩ => ⟨_, ⟨h1, rfl⟩, by subst h2; exact hT⟩
theorem rleft_s (b : Nat) (l : List UInt8) (e : Int) : DoS Tryz.prog 66 [.pointer (some ⟨b, 0, none⟩)] [rdA b l e] (fun r H => r = .int .i64 l.length ∧ H = [rdA b l e]) := fun m X hT =>
  (left_c m _ b l e hT.head).mono fun v m' ⟨h1, h2⟩ => ⟨_, ⟨h1, rfl⟩, by subst h2; exact hT⟩
theorem newReader_s (v : Value) (l : List UInt8) (hl : l.length < 1000000000) : DoS Tryz.prog 32 [v] [roA 1 v (u8s l)] (fun r H => ∃ b, r = .pointer (some ⟨b, 0, none⟩) ∧ H = [rdA b l 0]) := fun m X hT => by
  have hS : Bs m X v l := Sl.less (hT.ro 0 rfl) (fun k hk => .inl (by simpa [ofps, roA] using hk)) (by omega)
  refine (newReader_c m X hT.xlt v l hS hl).mono fun r m' ⟨b, h1, h2, h3, h4⟩ => ⟨_, ⟨b, h1, rfl⟩, ?_⟩
  refine Tr.drop (H := [rdA b l 0]) (F := [roA 1 v (u8s l)]) (hT.new (B := rdA b l 0) h4 (fun k hk => ?_) (by simp [rdA]) ?_)
  · obtain rfl : k = b := by simpa [rdA] using hk
    omega
  · simpa [ofps, roA, rdA] using h3
theorem VRPost.tr {At : World → List Nat → Nat → List UInt8 → Int → Prop} {A : List UInt8 → Int → Asn} {b : Nat} (hA : ∀ l e, (A l e).own = [b]) (hP : ∀ l e m M, (A l e).P m M ↔ At m M b l e) {m m' : World} {X : List Nat} {l : List UInt8} {e : Int} {t : List Clk × St} {r : Value}
    (hT : Tr m (ofps [A l e]) X m [A l e]) (h : VRPost At m (ofps [A l e] ++ X) b t r m') : ∃ S, Tr m (ofps [A l e]) X m' [ownA S 46 2 r t.1.length (t.1.flatMap cC), A t.2.1 t.2.2] := by
  obtain ⟨S, hO, hR, hE, hF⟩ := h
  have e1 : ofps [A l e] = [b] := by simp [ofps, hA]
  have hblt : b < m.heap.size := hT.hold.lt b (by rw [e1]; simp)
  have hnew : ∀ k ∈ S, m.heap.size ≤ k := fun k hk => by
    rcases hF k hk with h1 | h1
    · cases h1
    · exact h1
  refine ⟨S, ⟨⟨fun C hC => ?_, ?_, fun k hk hx => ?_⟩, by rw [e1]; exact hE, fun k hk => ?_, hT.xlt, hT.mx⟩⟩
  · rcases List.mem_cons.1 hC with rfl | hC
    · exact hO
    · have : C = A t.2.1 t.2.2 := by simpa using hC
      subst this
      refine (hP _ _ _ _).2 ?_
      simpa [ofps, hA, ownA, List.append_assoc] using hR
  · simp only [ofps_cons, ofps_nil, hA, List.append_nil, ownA]
    exact List.nodup_append.2 ⟨hO.nd, by simp, fun a ha c hc hac => by
      have h1 := hnew a ha
      have h2 : c = b := by simpa using hc
      omega⟩
  · simp only [ofps_cons, ofps_nil, hA, List.append_nil, ownA, List.mem_append, List.mem_singleton] at hk
    rcases hk with h1 | rfl
    · have := hnew k h1; have := hT.xlt k hx; omega
    · exact hT.hold.out k (by rw [e1]; simp) hx
  · simp only [ofps_cons, ofps_nil, hA, List.append_nil, ownA, List.mem_append, List.mem_singleton] at hk
    rcases hk with h1 | rfl
    · exact .inr (hnew k h1)
    · exact .inl (by rw [e1]; simp)
theorem vread_s (b : Nat) (l : List UInt8) (e : Int) : DoS Tryz.prog 64 [.pointer (some ⟨b, 0, none⟩)] [rdA b l e] (fun r H => ∃ S, H = [ownA S 46 2 r (vrd (l, e)).1.length ((vrd (l, e)).1.flatMap cC), rdA b (vrd (l, e)).2.1 (vrd (l, e)).2.2]) := fun m X hT =>
  (vread_c m _ b l e hT.head (by simp [ofps_cons, rdA])).mono fun r m' h => by
    obtain ⟨S, h1⟩ := VRPost.tr (A := rdA b) (fun _ _ => rfl) (fun _ _ _ _ => Iff.rfl) hT h
    exact ⟨_, ⟨S, rfl⟩, h1⟩
theorem refvread_s (b : Nat) (l : List UInt8) (e : Int) : DoS Tryz.prog 43 [.pointer (some ⟨b, 0, none⟩)] [qdA b l e] (fun r H => ∃ S, H = [ownA S 46 2 r (vrd (l, e)).1.length ((vrd (l, e)).1.flatMap cC), qdA b (vrd (l, e)).2.1 (vrd (l, e)).2.2]) := fun m X hT =>
  (refvread_c m _ b l e hT.head (by simp [ofps_cons, qdA])).mono fun r m' h => by
    obtain ⟨S, h1⟩ := VRPost.tr (A := qdA b) (fun _ _ => rfl) (fun _ _ _ _ => Iff.rfl) hT h
    exact ⟨_, ⟨S, rfl⟩, h1⟩
end Go.Proofs.YtmjpcaiehfimgaaGreatDoor
end
section
namespace Go.Proofs.YtmjpcaiehfimgaaGreatDoor
open Go.RowKit Go.Ev Go.Ids
theorem equal_Turn_s (v u : Value) (xs ys : List Trn) (hl : xs.length < 1000000000) : DoS Tryz.prog 48 [v, u] [roA 4 v (xs.flatMap tC), roA 4 u (ys.flatMap tC)] (fun r H => r = .bool (decide (xs = ys)) ∧ H = []) := by
  refine DoS.looks fun m X hT => ?_
  have h : Ts m [] v xs := Sl.less (hT.ro 0 rfl) (by simp) (by omega)
  have h' : Ts m [] u ys := Sl.less (hT.ro 1 rfl) (by simp) (by omega)
  obtain ⟨A, c, rfl, _, _⟩ := h.shape
  obtain ⟨B, c', rfl, _, _⟩ := h'.shape
  clear hT
  refine FnE.enter ⟨_, Tryz.func48, by kernel_rfl, by kernel_rfl⟩ Tryz.func48 rfl rfl ?_
  (with_reducible repeat (first | refine WP.S1 ?_ | refine WP.B1 ?_ | refine WP.R1 ?_))
  refine RL.A1 T_ok rfl ?_
  refine RL.N1 ?_; (with_reducible repeat (first | refine QN.B1 ?_ | refine QN.N1 ?_ | refine WP.S1 ?_ | refine WP.B1 ?_ | refine WP.R1 ?_))
  refine RL.pure T_ok 4 rfl ?_
  refine RL.pure T_ok 1 rfl ?_
  refine RL.eqv (v' := .bool (decide (xs.length ≠ ys.length))) (congrArg _ (bne_nat' _ _)) ?_
  refine RL.N1 ?_; (with_reducible repeat (first | refine QN.B1 ?_ | refine QN.N1 ?_ | refine WP.S1 ?_ | refine WP.B1 ?_ | refine WP.R1 ?_))
  refine WP.cond rfl (fun hc => ?_) (fun hc => ?_)
  · have hc : xs.length ≠ ys.length := of_decide_eq_true hc
    (with_reducible repeat (first | refine WP.S1 ?_ | refine WP.B1 ?_ | refine WP.R1 ?_))
    refine RL.A1 T_ok rfl ?_
    refine RL.N1 ?_; (with_reducible repeat (first | refine QN.B1 ?_ | refine QN.N1 ?_ | refine WP.S1 ?_ | refine WP.B1 ?_ | refine WP.R1 ?_))
    refine WP.ret ?_; (with_reducible repeat (first | refine QN.tr ?_ | refine QN.br ?_))
    exact QN.ret1 rfl rfl ⟨_, rfl, by rw [decide_eq_false (fun h => hc (by rw [h]))], rfl⟩
  have hlen : xs.length = ys.length := Classical.not_not.1 (of_decide_eq_false hc)
  refine WP.skip ?_; (with_reducible repeat (first | refine QN.B1 ?_ | refine QN.N1 ?_ | refine WP.S1 ?_ | refine WP.B1 ?_ | refine WP.R1 ?_))
  refine RL.A1 T_ok rfl ?_
  refine RL.N1 ?_; (with_reducible repeat (first | refine QN.B1 ?_ | refine QN.N1 ?_ | refine WP.S1 ?_ | refine WP.B1 ?_ | refine WP.R1 ?_))
  refine WP.loop (X := Nat) (fun i => [(0, .slice A xs.length c), (1, .slice B ys.length c'), (12, .int .i64 xs.length), (13, .int .i64 i)]) (fun i m' => i ≤ xs.length ∧ xs.take i = ys.take i ∧ m' = m) (fun i => xs.length - i) 0
    (Sub.C1 rfl (Sub.C1 rfl (Sub.C1 rfl (Sub.C1 rfl Sub.nil)))) ⟨by simp, by simp, rfl⟩ ?_
  rintro i m1 ⟨hi, ht, rfl⟩
  (with_reducible repeat (first | refine WP.S1 ?_ | refine WP.B1 ?_ | refine WP.R1 ?_))
  refine RL.A1 T_ok rfl ?_
  refine RL.N1 ?_; (with_reducible repeat (first | refine QN.B1 ?_ | refine QN.N1 ?_ | refine WP.S1 ?_ | refine WP.B1 ?_ | refine WP.R1 ?_))
  refine WP.cond rfl (fun hc => ?_) (fun hc => ?_)
  · have hc : i < xs.length := by have := of_decide_eq_true hc; omega
    have hcb : i < ys.length := by omega
    refine WP.skip ?_; (with_reducible repeat (first | refine QN.B1 ?_ | refine QN.N1 ?_ | refine WP.S1 ?_ | refine WP.B1 ?_ | refine WP.R1 ?_))
    refine RL.A1 T_ok rfl ?_
    refine RL.N1 ?_; (with_reducible repeat (first | refine QN.B1 ?_ | refine QN.N1 ?_ | refine WP.S1 ?_ | refine WP.B1 ?_ | refine WP.R1 ?_))
    refine WP.drawQ (fun m' => m' = m1) [] (by kernel_rfl) rfl (by with_reducible repeat (first | exact PanicOk.body | refine PanicOk.then_ ?_ | refine PanicOk.block_ ?_)) (fun hQ => ?_)
    refine RH.pure T_ok hQ [0, 1] (by kernel_rfl) rfl ?_
    obtain ⟨ad, rfl, hx⟩ := h.cell i hc
    obtain ⟨bd, rfl, hy⟩ := h'.cell i hcb
    refine RH.indexAddr T_ok hQ 2 (k := i) rfl (by kernel_rfl) rfl rfl rfl rfl rfl rfl rfl hc rfl ?_
    refine RH.loadAgg T_ok hQ 3 (tC xs[i]) (fun m' hm' => by rw [hm']; exact hx) rfl (by kernel_rfl) rfl rfl rfl rfl ?_
    refine RH.pure T_ok hQ [4, 5] (by kernel_rfl) rfl ?_
    refine RH.indexAddr T_ok hQ 6 (k := i) rfl (by kernel_rfl) rfl rfl rfl rfl rfl rfl rfl hcb rfl ?_
    refine RH.loadAgg T_ok hQ 7 (tC ys[i]) (fun m' hm' => by rw [hm']; exact hy) rfl (by kernel_rfl) rfl rfl rfl rfl ?_
    refine RH.binOp (eqT_run xs[i] ys[i]) (eqT_guard xs[i] ys[i] _ _) hQ 8 rfl (by kernel_rfl) rfl rfl rfl rfl ?_
    refine RH.done (by kernel_rfl) (fun _ => ?_)
    (with_reducible repeat (first | refine QN.B1 ?_ | refine QN.N1 ?_))
    by_cases hab : xs[i] = ys[i]
    · refine WP.condF (congrArg (fun q => some (Value.bool q)) (decide_eq_false (not_not_intro hab))) ?_
      refine WP.skip ?_; (with_reducible repeat (first | refine QN.B1 ?_ | refine QN.N1 ?_ | refine WP.S1 ?_ | refine WP.B1 ?_ | refine WP.R1 ?_))
      refine RL.A1 T_ok rfl ?_
      refine RL.N1 (QN.round (i + 1) (Sub.C1 rfl (Sub.C1 rfl (Sub.C1 rfl (Sub.C1 ?_ Sub.nil)))) ⟨by omega, ?_, rfl⟩ (by omega))
      · show some (Value.int .i64 (IntKind.i64.wrap ((i : Int) + 1))) = some (Value.int .i64 ((i + 1 : Nat) : Int))
        rw [wrap_i64_in _ (by omega) (by omega)]; rfl
      · rw [List.take_succ_eq_append_getElem hc, List.take_succ_eq_append_getElem hcb, ht, hab]
    · refine WP.condT (congrArg (fun q => some (Value.bool q)) (decide_eq_true hab)) ?_
      (with_reducible repeat (first | refine WP.S1 ?_ | refine WP.B1 ?_ | refine WP.R1 ?_))
      refine RL.A1 T_ok rfl ?_
      refine RL.N1 ?_; (with_reducible repeat (first | refine QN.B1 ?_ | refine QN.N1 ?_ | refine WP.S1 ?_ | refine WP.B1 ?_ | refine WP.R1 ?_))
      refine WP.ret ?_; (with_reducible repeat (first | refine QN.tr ?_ | refine QN.br ?_))
      refine QN.ret1 rfl rfl ⟨_, rfl, ?_, rfl⟩
      rw [decide_eq_false]
      intro h; subst h; exact hab rfl
  · have hc : i = xs.length := by have := of_decide_eq_false hc; omega
    subst hc
    rw [List.take_length, hlen, List.take_length] at ht
    refine WP.exit ?_; (with_reducible repeat (first | refine QN.tx ?_ | refine QN.bx ?_ | refine QN.block_far rfl ?_ | refine QN.B1 ?_ | refine QN.N1 ?_)); (with_reducible repeat (first | refine WP.S1 ?_ | refine WP.B1 ?_ | refine WP.R1 ?_))
    refine RL.A1 T_ok rfl ?_
    refine RL.N1 ?_; (with_reducible repeat (first | refine QN.B1 ?_ | refine QN.N1 ?_ | refine WP.S1 ?_ | refine WP.B1 ?_ | refine WP.R1 ?_))
    refine WP.ret ?_; (with_reducible repeat (first | refine QN.tr ?_ | refine QN.br ?_))
    exact QN.ret1 rfl rfl ⟨_, rfl, by rw [decide_eq_true ht], rfl⟩
theorem equal_Clock_s (v u : Value) (xs ys : List Clk) (hl : xs.length < 1000000000) : DoS Tryz.prog 47 [v, u] [roA 2 v (xs.flatMap cC), roA 2 u (ys.flatMap cC)] (fun r H => r = .bool (decide (xs = ys)) ∧ H = []) := by
  refine DoS.looks fun m X hT => ?_
  have h : Cs m [] v xs := Sl.less (hT.ro 0 rfl) (by simp) (by omega)
  have h' : Cs m [] u ys := Sl.less (hT.ro 1 rfl) (by simp) (by omega)
  obtain ⟨A, c, rfl, _, _⟩ := h.shape
  obtain ⟨B, c', rfl, _, _⟩ := h'.shape
  clear hT
  refine FnE.enter ⟨_, Tryz.func47, by kernel_rfl, by kernel_rfl⟩ Tryz.func47 rfl rfl ?_
  (with_reducible repeat (first | refine WP.S1 ?_ | refine WP.B1 ?_ | refine WP.R1 ?_))
  refine RL.A1 T_ok rfl ?_
  refine RL.N1 ?_; (with_reducible repeat (first | refine QN.B1 ?_ | refine QN.N1 ?_ | refine WP.S1 ?_ | refine WP.B1 ?_ | refine WP.R1 ?_))
  refine RL.pure T_ok 4 rfl ?_
  refine RL.pure T_ok 1 rfl ?_
  refine RL.eqv (v' := .bool (decide (xs.length ≠ ys.length))) (congrArg _ (bne_nat' _ _)) ?_
  refine RL.N1 ?_; (with_reducible repeat (first | refine QN.B1 ?_ | refine QN.N1 ?_ | refine WP.S1 ?_ | refine WP.B1 ?_ | refine WP.R1 ?_))
  refine WP.cond rfl (fun hc => ?_) (fun hc => ?_)
  · have hc : xs.length ≠ ys.length := of_decide_eq_true hc
    (with_reducible repeat (first | refine WP.S1 ?_ | refine WP.B1 ?_ | refine WP.R1 ?_))
    refine RL.A1 T_ok rfl ?_
    refine RL.N1 ?_; (with_reducible repeat (first | refine QN.B1 ?_ | refine QN.N1 ?_ | refine WP.S1 ?_ | refine WP.B1 ?_ | refine WP.R1 ?_))
    refine WP.ret ?_; (with_reducible repeat (first | refine QN.tr ?_ | refine QN.br ?_))
    exact QN.ret1 rfl rfl ⟨_, rfl, by rw [decide_eq_false (fun h => hc (by rw [h]))], rfl⟩
  have hlen : xs.length = ys.length := Classical.not_not.1 (of_decide_eq_false hc)
  refine WP.skip ?_; (with_reducible repeat (first | refine QN.B1 ?_ | refine QN.N1 ?_ | refine WP.S1 ?_ | refine WP.B1 ?_ | refine WP.R1 ?_))
  refine RL.A1 T_ok rfl ?_
  refine RL.N1 ?_; (with_reducible repeat (first | refine QN.B1 ?_ | refine QN.N1 ?_ | refine WP.S1 ?_ | refine WP.B1 ?_ | refine WP.R1 ?_))
  refine WP.loop (X := Nat) (fun i => [(0, .slice A xs.length c), (1, .slice B ys.length c'), (12, .int .i64 xs.length), (13, .int .i64 i)]) (fun i m' => i ≤ xs.length ∧ xs.take i = ys.take i ∧ m' = m) (fun i => xs.length - i) 0
    (Sub.C1 rfl (Sub.C1 rfl (Sub.C1 rfl (Sub.C1 rfl Sub.nil)))) ⟨by simp, by simp, rfl⟩ ?_
  rintro i m1 ⟨hi, ht, rfl⟩
  (with_reducible repeat (first | refine WP.S1 ?_ | refine WP.B1 ?_ | refine WP.R1 ?_))
  refine RL.A1 T_ok rfl ?_
  refine RL.N1 ?_; (with_reducible repeat (first | refine QN.B1 ?_ | refine QN.N1 ?_ | refine WP.S1 ?_ | refine WP.B1 ?_ | refine WP.R1 ?_))
  refine WP.cond rfl (fun hc => ?_) (fun hc => ?_)
  · have hc : i < xs.length := by have := of_decide_eq_true hc; omega
    have hcb : i < ys.length := by omega
    refine WP.skip ?_; (with_reducible repeat (first | refine QN.B1 ?_ | refine QN.N1 ?_ | refine WP.S1 ?_ | refine WP.B1 ?_ | refine WP.R1 ?_))
    refine RL.A1 T_ok rfl ?_
    refine RL.N1 ?_; (with_reducible repeat (first | refine QN.B1 ?_ | refine QN.N1 ?_ | refine WP.S1 ?_ | refine WP.B1 ?_ | refine WP.R1 ?_))
    refine WP.drawQ (fun m' => m' = m1) [] (by kernel_rfl) rfl (by with_reducible repeat (first | exact PanicOk.body | refine PanicOk.then_ ?_ | refine PanicOk.block_ ?_)) (fun hQ => ?_)
    refine RH.pure T_ok hQ [0, 1] (by kernel_rfl) rfl ?_
    obtain ⟨ad, rfl, hx⟩ := h.cell i hc
    obtain ⟨bd, rfl, hy⟩ := h'.cell i hcb
    refine RH.indexAddr T_ok hQ 2 (k := i) rfl (by kernel_rfl) rfl rfl rfl rfl rfl rfl rfl hc rfl ?_
    refine RH.loadAgg T_ok hQ 3 (cC xs[i]) (fun m' hm' => by rw [hm']; exact hx) rfl (by kernel_rfl) rfl rfl rfl rfl ?_
    refine RH.pure T_ok hQ [4, 5] (by kernel_rfl) rfl ?_
    refine RH.indexAddr T_ok hQ 6 (k := i) rfl (by kernel_rfl) rfl rfl rfl rfl rfl rfl rfl hcb rfl ?_
    refine RH.loadAgg T_ok hQ 7 (cC ys[i]) (fun m' hm' => by rw [hm']; exact hy) rfl (by kernel_rfl) rfl rfl rfl rfl ?_
    refine RH.binOp (eqK_run xs[i] ys[i]) (eqK_guard xs[i] ys[i] _ _) hQ 8 rfl (by kernel_rfl) rfl rfl rfl rfl ?_
    refine RH.done (by kernel_rfl) (fun _ => ?_)
    (with_reducible repeat (first | refine QN.B1 ?_ | refine QN.N1 ?_))
    by_cases hab : xs[i] = ys[i]
    · refine WP.condF (congrArg (fun q => some (Value.bool q)) (decide_eq_false (not_not_intro hab))) ?_
      refine WP.skip ?_; (with_reducible repeat (first | refine QN.B1 ?_ | refine QN.N1 ?_ | refine WP.S1 ?_ | refine WP.B1 ?_ | refine WP.R1 ?_))
      refine RL.A1 T_ok rfl ?_
      refine RL.N1 (QN.round (i + 1) (Sub.C1 rfl (Sub.C1 rfl (Sub.C1 rfl (Sub.C1 ?_ Sub.nil)))) ⟨by omega, ?_, rfl⟩ (by omega))
      · show some (Value.int .i64 (IntKind.i64.wrap ((i : Int) + 1))) = some (Value.int .i64 ((i + 1 : Nat) : Int))
        rw [wrap_i64_in _ (by omega) (by omega)]; rfl
      · rw [List.take_succ_eq_append_getElem hc, List.take_succ_eq_append_getElem hcb, ht, hab]
    · refine WP.condT (congrArg (fun q => some (Value.bool q)) (decide_eq_true hab)) ?_
      (with_reducible repeat (first | refine WP.S1 ?_ | refine WP.B1 ?_ | refine WP.R1 ?_))
      refine RL.A1 T_ok rfl ?_
      refine RL.N1 ?_; (with_reducible repeat (first | refine QN.B1 ?_ | refine QN.N1 ?_ | refine WP.S1 ?_ | refine WP.B1 ?_ | refine WP.R1 ?_))
      refine WP.ret ?_; (with_reducible repeat (first | refine QN.tr ?_ | refine QN.br ?_))
      refine QN.ret1 rfl rfl ⟨_, rfl, ?_, rfl⟩
      rw [decide_eq_false]
      intro h; subst h; exact hab rfl
  · have hc : i = xs.length := by have := of_decide_eq_false hc; omega
    subst hc
    rw [List.take_length, hlen, List.take_length] at ht
    refine WP.exit ?_; (with_reducible repeat (first | refine QN.tx ?_ | refine QN.bx ?_ | refine QN.block_far rfl ?_ | refine QN.B1 ?_ | refine QN.N1 ?_)); (with_reducible repeat (first | refine WP.S1 ?_ | refine WP.B1 ?_ | refine WP.R1 ?_))
    refine RL.A1 T_ok rfl ?_
    refine RL.N1 ?_; (with_reducible repeat (first | refine QN.B1 ?_ | refine QN.N1 ?_ | refine WP.S1 ?_ | refine WP.B1 ?_ | refine WP.R1 ?_))
    refine WP.ret ?_; (with_reducible repeat (first | refine QN.tr ?_ | refine QN.br ?_))
    exact QN.ret1 rfl rfl ⟨_, rfl, by rw [decide_eq_true ht], rfl⟩
end Go.Proofs.YtmjpcaiehfimgaaGreatDoor
end
section
namespace Go.Proofs.YtmjpcaiehfimgaaGreatDoor
open Go.RowKit Go.Ev
theorem bne_natB (a b : Nat) : ((a : Int) != (b : Int)) = decide (a ≠ b) := by
  by_cases h : a = b
  · simp [h]
  · have : ¬ (a : Int) = (b : Int) := by omega
    simp [h, bne, beq_eq_false_iff_ne.2 this]
theorem equalB_c (m : World) (M M' : List Nat) (v u : Value) (a b : List UInt8) (h : Bs m M v a) (h' : Bs m M' u b) (hla : a.length < 1000000000) :
    FnR Tryz.prog 34 [v, u] m fun r m' => r = .bool (decide (a = b)) ∧ m' = m := by
  obtain ⟨A, c, rfl, _, _⟩ := h.shape
  obtain ⟨B, c', rfl, _, _⟩ := h'.shape
  refine FnE.enter ⟨_, Tryz.func34, by kernel_rfl, by kernel_rfl⟩ Tryz.func34 rfl rfl ?_
  (with_reducible repeat (first | refine WP.S1 ?_ | refine WP.B1 ?_ | refine WP.R1 ?_))
  refine RL.A1 T_ok rfl ?_
  refine RL.N1 ?_; (with_reducible repeat (first | refine QN.B1 ?_ | refine QN.N1 ?_ | refine WP.S1 ?_ | refine WP.B1 ?_ | refine WP.R1 ?_))
  refine RL.pure T_ok 4 rfl ?_
  refine RL.pure T_ok 1 rfl ?_
  refine RL.eqv (v' := .bool (decide (a.length ≠ b.length))) (congrArg _ (bne_natB _ _)) ?_
  refine RL.N1 ?_; (with_reducible repeat (first | refine QN.B1 ?_ | refine QN.N1 ?_ | refine WP.S1 ?_ | refine WP.B1 ?_ | refine WP.R1 ?_))
  refine WP.cond rfl (fun hc => ?_) (fun hc => ?_)
  · have hc : a.length ≠ b.length := of_decide_eq_true hc
    (with_reducible repeat (first | refine WP.S1 ?_ | refine WP.B1 ?_ | refine WP.R1 ?_))
    refine RL.A1 T_ok rfl ?_
    refine RL.N1 ?_; (with_reducible repeat (first | refine QN.B1 ?_ | refine QN.N1 ?_ | refine WP.S1 ?_ | refine WP.B1 ?_ | refine WP.R1 ?_))
    refine WP.ret ?_; (with_reducible repeat (first | refine QN.tr ?_ | refine QN.br ?_))
    exact QN.ret1 rfl rfl ⟨_, rfl, by rw [decide_eq_false (fun h => hc (by rw [h]))], rfl⟩
  · have hlen : a.length = b.length := Classical.not_not.1 (of_decide_eq_false hc)
    refine WP.skip ?_; (with_reducible repeat (first | refine QN.B1 ?_ | refine QN.N1 ?_ | refine WP.S1 ?_ | refine WP.B1 ?_ | refine WP.R1 ?_))
    refine RL.A1 T_ok rfl ?_
    refine RL.N1 ?_; (with_reducible repeat (first | refine QN.B1 ?_ | refine QN.N1 ?_ | refine WP.S1 ?_ | refine WP.B1 ?_ | refine WP.R1 ?_))
    refine WP.loop (X := Nat) (fun i => [(0, .slice A a.length c), (1, .slice B b.length c'), (12, .int .i64 a.length), (13, .int .i64 i)]) (fun i m' => i ≤ a.length ∧ a.take i = b.take i ∧ m' = m) (fun i => a.length - i) 0
      (Sub.C1 rfl (Sub.C1 rfl (Sub.C1 rfl (Sub.C1 rfl Sub.nil)))) ⟨by simp, by simp, rfl⟩ ?_
    rintro i m1 ⟨hi, ht, rfl⟩
    (with_reducible repeat (first | refine WP.S1 ?_ | refine WP.B1 ?_ | refine WP.R1 ?_))
    refine RL.A1 T_ok rfl ?_
    refine RL.N1 ?_; (with_reducible repeat (first | refine QN.B1 ?_ | refine QN.N1 ?_ | refine WP.S1 ?_ | refine WP.B1 ?_ | refine WP.R1 ?_))
    refine WP.cond rfl (fun hc => ?_) (fun hc => ?_)
    · have hc : i < a.length := by have := of_decide_eq_true hc; omega
      have hcb : i < b.length := by omega
      refine WP.skip ?_; (with_reducible repeat (first | refine QN.B1 ?_ | refine QN.N1 ?_ | refine WP.S1 ?_ | refine WP.B1 ?_ | refine WP.R1 ?_))
      refine RL.A1 T_ok rfl ?_
      refine RL.N1 ?_; (with_reducible repeat (first | refine QN.B1 ?_ | refine QN.N1 ?_ | refine WP.S1 ?_ | refine WP.B1 ?_ | refine WP.R1 ?_))
      refine WP.drawQ (fun m' => m' = m1) [] (by kernel_rfl) rfl (by with_reducible repeat (first | exact PanicOk.body | refine PanicOk.then_ ?_ | refine PanicOk.block_ ?_)) (fun hQ => ?_)
      refine RH.pure T_ok hQ [0, 1] (by kernel_rfl) rfl ?_
      obtain ⟨ad, rfl, _, hcell⟩ := Sl.addr h (by omega)
      obtain ⟨bd, rfl, _, hcell'⟩ := Sl.addr h' (by omega)
      refine RH.indexAddr T_ok hQ 2 (k := i) rfl (by kernel_rfl) rfl rfl rfl rfl rfl rfl rfl hc rfl ?_
      refine RH.load T_ok hQ 3 (v := .int .u8 (a[i]).toNat) (fun m' hm' => by rw [hm']; exact hcell (i * 1) _ (by rw [Nat.mul_one]; exact u8s_get a i hc)) rfl (by kernel_rfl) rfl rfl rfl rfl ?_
      refine RH.pure T_ok hQ [4, 5] (by kernel_rfl) rfl ?_
      refine RH.indexAddr T_ok hQ 6 (k := i) rfl (by kernel_rfl) rfl rfl rfl rfl rfl rfl rfl hcb rfl ?_
      refine RH.load T_ok hQ 7 (v := .int .u8 (b[i]).toNat) (fun m' hm' => by rw [hm']; exact hcell' (i * 1) _ (by rw [Nat.mul_one]; exact u8s_get b i hcb)) rfl (by kernel_rfl) rfl rfl rfl rfl ?_
      refine RH.pure T_ok hQ [8] (by kernel_rfl) rfl ?_
      refine RH.done (by kernel_rfl) (fun _ => ?_)
      (with_reducible repeat (first | refine QN.B1 ?_ | refine QN.N1 ?_))
      by_cases hab : a[i] = b[i]
      · refine WP.condF (by show some (Value.bool ((((a[i]).toNat : Nat) : Int) != (((b[i]).toNat : Nat) : Int))) = _; rw [hab]; simp) ?_
        refine WP.skip ?_; (with_reducible repeat (first | refine QN.B1 ?_ | refine QN.N1 ?_ | refine WP.S1 ?_ | refine WP.B1 ?_ | refine WP.R1 ?_))
        refine RL.A1 T_ok rfl ?_
        refine RL.N1 (QN.round (i + 1) (Sub.C1 rfl (Sub.C1 rfl (Sub.C1 rfl (Sub.C1 ?_ Sub.nil)))) ⟨by omega, ?_, rfl⟩ (by omega))
        · show some (Value.int .i64 (IntKind.i64.wrap ((i : Int) + 1))) = some (Value.int .i64 ((i + 1 : Nat) : Int))
          rw [wrap_i64_in _ (by omega) (by omega)]; rfl
        · rw [List.take_succ_eq_append_getElem hc, List.take_succ_eq_append_getElem hcb, ht, hab]
      · refine WP.condT (by
          show some (Value.bool ((((a[i]).toNat : Nat) : Int) != (((b[i]).toNat : Nat) : Int))) = _
          have : (a[i]).toNat ≠ (b[i]).toNat := fun h => hab (UInt8.toNat_inj.1 h)
          congr 2; simp only [bne_iff_ne, ne_eq]; omega) ?_
        (with_reducible repeat (first | refine WP.S1 ?_ | refine WP.B1 ?_ | refine WP.R1 ?_))
        refine RL.A1 T_ok rfl ?_
        refine RL.N1 ?_; (with_reducible repeat (first | refine QN.B1 ?_ | refine QN.N1 ?_ | refine WP.S1 ?_ | refine WP.B1 ?_ | refine WP.R1 ?_))
        refine WP.ret ?_; (with_reducible repeat (first | refine QN.tr ?_ | refine QN.br ?_))
        refine QN.ret1 rfl rfl ⟨_, rfl, ?_, rfl⟩
        rw [decide_eq_false]
        intro h; subst h; exact hab rfl
    · have hc : i = a.length := by have := of_decide_eq_false hc; omega
      subst hc
      rw [List.take_length, hlen, List.take_length] at ht
      refine WP.exit ?_; (with_reducible repeat (first | refine QN.tx ?_ | refine QN.bx ?_ | refine QN.block_far rfl ?_ | refine QN.B1 ?_ | refine QN.N1 ?_)); (with_reducible repeat (first | refine WP.S1 ?_ | refine WP.B1 ?_ | refine WP.R1 ?_))
      refine RL.A1 T_ok rfl ?_
      refine RL.N1 ?_; (with_reducible repeat (first | refine QN.B1 ?_ | refine QN.N1 ?_ | refine WP.S1 ?_ | refine WP.B1 ?_ | refine WP.R1 ?_))
      refine WP.ret ?_; (with_reducible repeat (first | refine QN.tr ?_ | refine QN.br ?_))
      exact QN.ret1 rfl rfl ⟨_, rfl, by rw [decide_eq_true ht], rfl⟩
theorem equal_Byte_s (v u : Value) (a b : List UInt8) (hl : a.length < 1000000000) : DoS Tryz.prog 34 [v, u] [roA 1 v (u8s a), roA 1 u (u8s b)] (fun r H => r = .bool (decide (a = b)) ∧ H = []) :=
  DoS.looks fun m X hT => equalB_c m [] [] v u a b (Sl.less (hT.ro 0 rfl) (by simp) (by omega)) (Sl.less (hT.ro 1 rfl) (by simp) (by omega)) hl
end Go.Proofs.YtmjpcaiehfimgaaGreatDoor
end
section
namespace Go.Proofs.YtmjpcaiehfimgaaGreatDoor
open Go.RowKit Go.Ev Go.Ids
theorem QN.retCT {P : Program} {fn : Func} {post : Ending → World → Prop} {T : Ty} (hT : T.Ok P) {n : Nat} {e : Env} {m0 m : World} {M0 X : List Nat} {H : List Asn} {t u : Tmp} {ty tb : TypeId} {b : Nat} {cs : List Value} {v : Value} (hS : Tr m0 M0 X m H) (hr : fn.results = #[.cell t ty, .tmp u]) (ht : e.get t = some (.pointer (some ⟨b, 0, none⟩)))
    (hty : T.aggN ty = some cs.length) (hu : e.get u = some v) (hB : blkA b tb cs ∈ H) (h : post (.returned (.tuple #[.agg cs.toArray, v])) m) : QN (bodyQ P fn post) .ret n e ⟨[], none⟩ m := by
  intro a w hf hs
  refine ⟨hf.defers, .tuple #[.agg cs.toArray, v], ?_, m, hs, h⟩
  obtain ⟨r, hr', ha, hsz⟩ := Ty.aggN_spec hty
  have h1 := (hT.row hr').run_isAgg (TyK.known_of_agg ha) w
  rw [ha] at h1
  have h2 := (hT.row hr').run_size w
  rw [hsz] at h2
  have h3 := run_loadCells_list (P := P) w ⟨b, 0, none⟩ cs (fun j x hx => (hs.cell _).trans (by rw [add_block, Nat.zero_add]; exact Blk.cell (hS.mem hB) j hx))
  simp [results, hr, hf.get t _ ht, hf.get u _ hu, asAddr, loadVar, h1, h2, h3]
theorem numOk (n : Nat) : num n = (decide (1 ≤ n) && decide (n ≤ 9007199254740991)) := rfl
theorem mnumber_s (n : Nat) : DoS Tryz.prog 45 [.int .u64 n] [] (fun r H => r = .bool (num n) ∧ H = []) := by
  intro m0 X hS
  have fin : ∀ b, num n = b → ∃ r, Ending.returned (.bool b) = .returned r ∧ ∃ H', (r = Value.bool (num n) ∧ H' = []) ∧ Tr m0 (ofps []) X m0 H' := fun b hb => ⟨_, rfl, [], ⟨by rw [hb], rfl⟩, hS⟩
  refine FnE.enter ⟨_, Tryz.func45, by kernel_rfl, by kernel_rfl⟩ Tryz.func45 rfl rfl ?_
  (with_reducible repeat (first | refine WP.S1 ?_ | refine WP.B1 ?_ | refine WP.R1 ?_))
  refine RL.A1 T_ok rfl ?_
  refine RL.N1 ?_; (with_reducible repeat (first | refine QN.B1 ?_ | refine QN.N1 ?_ | refine WP.S1 ?_ | refine WP.B1 ?_ | refine WP.R1 ?_))
  refine RL.pure T_ok 2 rfl ?_
  by_cases h1 : 1 ≤ n
  · refine RL.eqv (v' := .bool true) (congrArg _ (decide_eq_true (by omega))) ?_
    refine RL.A1 T_ok rfl ?_
    refine RL.N1 ?_; (with_reducible repeat (first | refine QN.B1 ?_ | refine QN.N1 ?_ | refine WP.S1 ?_ | refine WP.B1 ?_ | refine WP.R1 ?_))
    refine WP.ret ?_; (with_reducible repeat (first | refine QN.tr ?_ | refine QN.br ?_))
    refine QN.ret1 rfl rfl (fin _ ?_)
    rw [numOk, decide_eq_true h1, Bool.true_and]
    exact decide_eq_decide.2 (by omega)
  · refine RL.eqv (v' := .bool false) (congrArg _ (decide_eq_false (by omega))) ?_
    refine RL.A1 T_ok rfl ?_
    refine RL.N1 ?_; (with_reducible repeat (first | refine QN.B1 ?_ | refine QN.N1 ?_ | refine WP.S1 ?_ | refine WP.B1 ?_ | refine WP.R1 ?_))
    refine WP.ret ?_; (with_reducible repeat (first | refine QN.tr ?_ | refine QN.br ?_))
    refine QN.ret1 rfl rfl (fin _ ?_)
    rw [numOk, decide_eq_false h1, Bool.false_and]
def txt (l : List UInt8) : Bool := (runesL l).isSome
abbrev nameOk (l : List UInt8) : Bool := nameIs txt l
theorem mname_s (l : List UInt8) (hl : l.length ≤ 1000000000) : DoS Tryz.prog 46 [.string (str l)] [tabA] (fun r H => r = .bool (nameOk l) ∧ H = []) := by
  intro m0 X hS
  have fin : ∀ b m, nameOk l = b → Tr m0 (ofps [tabA]) X m [tabA] → ∃ r, Ending.returned (.bool b) = .returned r ∧ ∃ H', (r = Value.bool (nameOk l) ∧ H' = []) ∧ Tr m0 (ofps [tabA]) X m H' := fun b m hb hS => ⟨_, rfl, [], ⟨by rw [hb], rfl⟩, Tr.drop (H := []) hS⟩
  refine FnE.enter ⟨_, Tryz.func46, by kernel_rfl, by kernel_rfl⟩ Tryz.func46 rfl rfl ?_
  (with_reducible repeat (first | refine WP.S1 ?_ | refine WP.B1 ?_ | refine WP.R1 ?_))
  refine RL.A1 T_ok rfl ?_
  refine RL.N1 ?_; (with_reducible repeat (first | refine QN.B1 ?_ | refine QN.N1 ?_ | refine WP.S1 ?_ | refine WP.B1 ?_ | refine WP.R1 ?_))
  refine RL.pure T_ok 2 rfl ?_
  by_cases h1 : l = []
  · refine RL.eqv (v' := .bool false) (congrArg Value.bool (by
      show (!((str l).toList == (str []).toList)) = false
      rw [str_eq, decide_eq_true h1]; rfl)) ?_
    refine RL.A1 T_ok rfl ?_
    refine RL.N1 ?_; (with_reducible repeat (first | refine QN.B1 ?_ | refine QN.N1 ?_ | refine WP.S1 ?_ | refine WP.B1 ?_ | refine WP.R1 ?_))
    refine WP.ret ?_; (with_reducible repeat (first | refine QN.tr ?_ | refine QN.br ?_))
    exact QN.ret1 rfl rfl (fin _ _ (by unfold nameOk nameIs; simp [h1]) hS)
  refine RL.eqv (v' := .bool true) (congrArg Value.bool (by
    show (!((str l).toList == (str []).toList)) = true
    rw [str_eq, decide_eq_false h1]; rfl)) ?_
  refine RL.pure T_ok 3 rfl ?_
  refine RL.eqv (v' := .int .i64 l.length) (congrArg _ (congrArg _ (str_sz l))) ?_
  refine RL.pure T_ok 1 rfl ?_
  by_cases h2 : l.length ≤ 32
  rotate_left
  · refine RL.eqv (v' := .bool false) (congrArg _ (decide_eq_false (by omega))) ?_
    refine RL.A1 T_ok rfl ?_
    refine RL.N1 ?_; (with_reducible repeat (first | refine QN.B1 ?_ | refine QN.N1 ?_ | refine WP.S1 ?_ | refine WP.B1 ?_ | refine WP.R1 ?_))
    refine WP.ret ?_; (with_reducible repeat (first | refine QN.tr ?_ | refine QN.br ?_))
    exact QN.ret1 rfl rfl (fin _ _ (by unfold nameOk nameIs; simp [h1, h2]) hS)
  refine RL.eqv (v' := .bool true) (congrArg _ (decide_eq_true (by omega))) ?_
  refine RL.A1 T_ok rfl ?_
  refine RL.callM (fi := []) (ca := []) hS (ucheck_s l (by omega)) rfl rfl rfl rfl (by repeat (first | with_reducible exact Sels.nil | apply Sels.ro (by with_reducible repeat (first | exact zS .. | apply zO)) (by rfl) | apply Sels.own (by with_reducible repeat (first | exact Sel.head | apply Sel.tail)))) ?_
  (try clear hS); rintro _ m _ ⟨rfl, rfl⟩ hS; (try simp only [zN] at hS); refine ⟨_, rfl, ?_⟩
  refine RL.A1 T_ok rfl ?_
  refine RL.N1 ?_; (with_reducible repeat (first | refine QN.B1 ?_ | refine QN.N1 ?_ | refine WP.S1 ?_ | refine WP.B1 ?_ | refine WP.R1 ?_))
  refine WP.ret ?_; (with_reducible repeat (first | refine QN.tr ?_ | refine QN.br ?_))
  exact QN.ret1 rfl rfl (fin _ _ (by unfold nameOk nameIs; simp [h1, h2, txt]) hS)
def mC (m : Msg) (vv tv bv : Value) : List Value := [.int .i64 m.kind, .int .u64 m.c, .int .u64 m.n, .string (str m.room), vv, tv, bv]
def mR (m : Msg) (vv tv bv : Value) : List Asn := [roA 2 vv (m.vec.flatMap cC), roA 4 tv (m.turns.flatMap tC), roA 1 bv (u8s m.b)]
theorem alike_s (a b : Msg) (va ta ba vb tb bb : Value) (ha : a.Fit) : DoS Tryz.prog 18 [.agg (mC a va ta ba).toArray, .agg (mC b vb tb bb).toArray] (mR a va ta ba ++ mR b vb tb bb) (fun r H => r = .bool (a.same b) ∧ H = []) := by
  intro m0 X hS
  have fin : ∀ q m H, a.same b = q → Tr m0 (ofps (mR a va ta ba ++ mR b vb tb bb)) X m H → ∃ r, Ending.returned (.bool q) = .returned r ∧ ∃ H', (r = Value.bool (a.same b) ∧ H' = []) ∧ Tr m0 (ofps (mR a va ta ba ++ mR b vb tb bb)) X m H' := fun q m H hb hS => ⟨_, rfl, [], ⟨by rw [hb], rfl⟩, Tr.drop (H := []) hS⟩
  generalize hP : ofps (mR a va ta ba ++ mR b vb tb bb) = PP at *
  simp only [mR, zC, zN] at hS
  clear hP
  refine FnE.enter ⟨_, Tryz.func18, by kernel_rfl, by kernel_rfl⟩ Tryz.func18 rfl rfl ?_
  (with_reducible repeat (first | refine WP.S1 ?_ | refine WP.B1 ?_ | refine WP.R1 ?_))
  refine RL.boxS hS rfl rfl rfl ?_; (try clear hS); intro b2 m hS; refine ⟨_, rfl, ?_⟩
  refine RL.boxS hS rfl rfl rfl ?_; (try clear hS); intro b3 m hS; refine ⟨_, rfl, ?_⟩
  refine RL.A1 T_ok rfl ?_
  refine RL.N1 ?_; (with_reducible repeat (first | refine QN.B1 ?_ | refine QN.N1 ?_ | refine WP.S1 ?_ | refine WP.B1 ?_ | refine WP.R1 ?_))
  refine RL.pure T_ok 1 rfl ?_
  refine RL.loadM T_ok hS rfl rfl rfl (by with_reducible repeat (first | exact zS .. | apply zO)) (by rfl) (by rfl) ?_
  refine RL.pure T_ok 1 rfl ?_
  refine RL.loadM T_ok hS rfl rfl rfl (by with_reducible repeat (first | exact zS .. | apply zO)) (by rfl) (by rfl) ?_
  refine RL.pure T_ok 1 rfl ?_
  by_cases h0 : a.kind = b.kind
  rotate_left
  · refine RL.eqv (v' := .bool false) (congrArg _ (beq_false_of_ne (by omega))) ?_
    refine RL.A1 T_ok rfl ?_
    refine RL.N1 ?_; (with_reducible repeat (first | refine QN.B1 ?_ | refine QN.N1 ?_ | refine WP.S1 ?_ | refine WP.B1 ?_ | refine WP.R1 ?_))
    refine WP.ret ?_; (with_reducible repeat (first | refine QN.tr ?_ | refine QN.br ?_))
    exact QN.ret1 rfl rfl (fin _ _ _ (by unfold Msg.same; simp [h0]) hS)
  refine RL.eqv (v' := .bool true) (congrArg _ (beq_iff_eq.2 (by omega))) ?_
  refine RL.pure T_ok 2 rfl ?_
  refine RL.loadM T_ok hS rfl rfl rfl (by with_reducible repeat (first | exact zS .. | apply zO)) (by rfl) (by rfl) ?_
  refine RL.pure T_ok 1 rfl ?_
  refine RL.loadM T_ok hS rfl rfl rfl (by with_reducible repeat (first | exact zS .. | apply zO)) (by rfl) (by rfl) ?_
  refine RL.pure T_ok 1 rfl ?_
  by_cases h1 : a.c = b.c
  rotate_left
  · refine RL.eqv (v' := .bool false) (congrArg _ (beq_false_of_ne (by omega))) ?_
    refine RL.A1 T_ok rfl ?_
    refine RL.N1 ?_; (with_reducible repeat (first | refine QN.B1 ?_ | refine QN.N1 ?_ | refine WP.S1 ?_ | refine WP.B1 ?_ | refine WP.R1 ?_))
    refine WP.ret ?_; (with_reducible repeat (first | refine QN.tr ?_ | refine QN.br ?_))
    exact QN.ret1 rfl rfl (fin _ _ _ (by unfold Msg.same; simp [h0, h1]) hS)
  refine RL.eqv (v' := .bool true) (congrArg _ (beq_iff_eq.2 (by omega))) ?_
  refine RL.pure T_ok 3 rfl ?_
  refine RL.loadM T_ok hS rfl rfl rfl (by with_reducible repeat (first | exact zS .. | apply zO)) (by rfl) (by rfl) ?_
  refine RL.pure T_ok 1 rfl ?_
  refine RL.loadM T_ok hS rfl rfl rfl (by with_reducible repeat (first | exact zS .. | apply zO)) (by rfl) (by rfl) ?_
  refine RL.pure T_ok 1 rfl ?_
  by_cases h2 : a.n = b.n
  rotate_left
  · refine RL.eqv (v' := .bool false) (congrArg _ (beq_false_of_ne (by omega))) ?_
    refine RL.A1 T_ok rfl ?_
    refine RL.N1 ?_; (with_reducible repeat (first | refine QN.B1 ?_ | refine QN.N1 ?_ | refine WP.S1 ?_ | refine WP.B1 ?_ | refine WP.R1 ?_))
    refine WP.ret ?_; (with_reducible repeat (first | refine QN.tr ?_ | refine QN.br ?_))
    exact QN.ret1 rfl rfl (fin _ _ _ (by unfold Msg.same; simp [h0, h1, h2]) hS)
  refine RL.eqv (v' := .bool true) (congrArg _ (beq_iff_eq.2 (by omega))) ?_
  refine RL.pure T_ok 3 rfl ?_
  refine RL.loadM T_ok hS rfl rfl rfl (by with_reducible repeat (first | exact zS .. | apply zO)) (by rfl) (by rfl) ?_
  refine RL.pure T_ok 1 rfl ?_
  refine RL.loadM T_ok hS rfl rfl rfl (by with_reducible repeat (first | exact zS .. | apply zO)) (by rfl) (by rfl) ?_
  refine RL.pure T_ok 1 rfl ?_
  by_cases h3 : a.room = b.room
  rotate_left
  · refine RL.eqv (v' := .bool false) (congrArg _ ((str_eq _ _).trans (decide_eq_false h3))) ?_
    refine RL.A1 T_ok rfl ?_
    refine RL.N1 ?_; (with_reducible repeat (first | refine QN.B1 ?_ | refine QN.N1 ?_ | refine WP.S1 ?_ | refine WP.B1 ?_ | refine WP.R1 ?_))
    refine WP.ret ?_; (with_reducible repeat (first | refine QN.tr ?_ | refine QN.br ?_))
    exact QN.ret1 rfl rfl (fin _ _ _ (by unfold Msg.same; simp [h0, h1, h2, h3]) hS)
  refine RL.eqv (v' := .bool true) (congrArg _ ((str_eq _ _).trans (decide_eq_true h3))) ?_
  refine RL.pure T_ok 3 rfl ?_
  refine RL.loadM T_ok hS rfl rfl rfl (by with_reducible repeat (first | exact zS .. | apply zO)) (by rfl) (by rfl) ?_
  refine RL.pure T_ok 1 rfl ?_
  refine RL.loadM T_ok hS rfl rfl rfl (by with_reducible repeat (first | exact zS .. | apply zO)) (by rfl) (by rfl) ?_
  refine RL.callM (fi := []) (ca := []) hS (equal_Clock_s _ _ a.vec b.vec (by have := ha.vec; omega)) rfl rfl rfl rfl (by repeat (first | with_reducible exact Sels.nil | apply Sels.ro (by with_reducible repeat (first | exact zS .. | apply zO)) (by rfl) | apply Sels.own (by with_reducible repeat (first | exact Sel.head | apply Sel.tail)))) ?_
  (try clear hS); rintro _ m _ ⟨rfl, rfl⟩ hS; (try simp only [zN] at hS); refine ⟨_, rfl, ?_⟩
  by_cases h4 : a.vec = b.vec
  rotate_left
  · refine RL.eqv (v' := .bool false) (congrArg _ (decide_eq_false h4)) ?_
    refine RL.A1 T_ok rfl ?_
    refine RL.N1 ?_; (with_reducible repeat (first | refine QN.B1 ?_ | refine QN.N1 ?_ | refine WP.S1 ?_ | refine WP.B1 ?_ | refine WP.R1 ?_))
    refine WP.ret ?_; (with_reducible repeat (first | refine QN.tr ?_ | refine QN.br ?_))
    exact QN.ret1 rfl rfl (fin _ _ _ (by unfold Msg.same; simp [h0, h1, h2, h3, h4]) hS)
  refine RL.eqv (v' := .bool true) (congrArg _ (decide_eq_true h4)) ?_
  refine RL.pure T_ok 3 rfl ?_
  refine RL.loadM T_ok hS rfl rfl rfl (by with_reducible repeat (first | exact zS .. | apply zO)) (by rfl) (by rfl) ?_
  refine RL.pure T_ok 1 rfl ?_
  refine RL.loadM T_ok hS rfl rfl rfl (by with_reducible repeat (first | exact zS .. | apply zO)) (by rfl) (by rfl) ?_
  refine RL.callM (fi := []) (ca := []) hS (equal_Turn_s _ _ a.turns b.turns (by have := ha.turns; omega)) rfl rfl rfl rfl (by repeat (first | with_reducible exact Sels.nil | apply Sels.ro (by with_reducible repeat (first | exact zS .. | apply zO)) (by rfl) | apply Sels.own (by with_reducible repeat (first | exact Sel.head | apply Sel.tail)))) ?_
  (try clear hS); rintro _ m _ ⟨rfl, rfl⟩ hS; (try simp only [zN] at hS); refine ⟨_, rfl, ?_⟩
  by_cases h5 : a.turns = b.turns
  rotate_left
  · refine RL.eqv (v' := .bool false) (congrArg _ (decide_eq_false h5)) ?_
    refine RL.A1 T_ok rfl ?_
    refine RL.N1 ?_; (with_reducible repeat (first | refine QN.B1 ?_ | refine QN.N1 ?_ | refine WP.S1 ?_ | refine WP.B1 ?_ | refine WP.R1 ?_))
    refine WP.ret ?_; (with_reducible repeat (first | refine QN.tr ?_ | refine QN.br ?_))
    exact QN.ret1 rfl rfl (fin _ _ _ (by unfold Msg.same; simp [h0, h1, h2, h3, h4, h5]) hS)
  refine RL.eqv (v' := .bool true) (congrArg _ (decide_eq_true h5)) ?_
  refine RL.pure T_ok 3 rfl ?_
  refine RL.loadM T_ok hS rfl rfl rfl (by with_reducible repeat (first | exact zS .. | apply zO)) (by rfl) (by rfl) ?_
  refine RL.pure T_ok 1 rfl ?_
  refine RL.loadM T_ok hS rfl rfl rfl (by with_reducible repeat (first | exact zS .. | apply zO)) (by rfl) (by rfl) ?_
  refine RL.callM (fi := []) (ca := []) hS (equal_Byte_s _ _ a.b b.b (by have := ha.b; omega)) rfl rfl rfl rfl (by repeat (first | with_reducible exact Sels.nil | apply Sels.ro (by with_reducible repeat (first | exact zS .. | apply zO)) (by rfl) | apply Sels.own (by with_reducible repeat (first | exact Sel.head | apply Sel.tail)))) ?_
  (try clear hS); rintro _ m _ ⟨rfl, rfl⟩ hS; (try simp only [zN] at hS); refine ⟨_, rfl, ?_⟩
  by_cases h6 : a.b = b.b
  rotate_left
  · refine RL.eqv (v' := .bool false) (congrArg _ (decide_eq_false h6)) ?_
    refine RL.A1 T_ok rfl ?_
    refine RL.N1 ?_; (with_reducible repeat (first | refine QN.B1 ?_ | refine QN.N1 ?_ | refine WP.S1 ?_ | refine WP.B1 ?_ | refine WP.R1 ?_))
    refine WP.ret ?_; (with_reducible repeat (first | refine QN.tr ?_ | refine QN.br ?_))
    exact QN.ret1 rfl rfl (fin _ _ _ (by unfold Msg.same; simp [h0, h1, h2, h3, h4, h5, h6]) hS)
  refine RL.eqv (v' := .bool true) (congrArg _ (decide_eq_true h6)) ?_
  refine RL.A1 T_ok rfl ?_
  refine RL.N1 ?_; (with_reducible repeat (first | refine QN.B1 ?_ | refine QN.N1 ?_ | refine WP.S1 ?_ | refine WP.B1 ?_ | refine WP.R1 ?_))
  refine WP.ret ?_; (with_reducible repeat (first | refine QN.tr ?_ | refine QN.br ?_))
  exact QN.ret1 rfl rfl (fin _ _ _ (by unfold Msg.same; simp [h0, h1, h2, h3, h4, h5, h6]) hS)
end Go.Proofs.YtmjpcaiehfimgaaGreatDoor
end
section
namespace Go.Proofs.YtmjpcaiehfimgaaGreatDoor
open Go.RowKit Go.Ev Go.Ids
def BareP (m : Msg) (r : Value) (H : List Asn) : Prop := ∃ vv tv bv, r = .tuple #[.agg (mC m.bare vv tv bv).toArray, .bool (m.right txt)] ∧ H = mR m.bare vv tv bv
set_option maxHeartbeats 1000000 in
set_option maxRecDepth 20000 in
theorem bare_s (m : Msg) (vv tv bv : Value) (hf : m.Fit) : DoS Tryz.prog 17 [.agg (mC m vv tv bv).toArray] (tabA :: mR m vv tv bv) (BareP m) := by
  intro m0 X hS
  obtain ⟨K, c, n, room, vec, turns, b⟩ := m
  obtain ⟨f1, f2, f3, f4⟩ := hf
  simp only at f1 f2 f3 f4
  obtain ⟨PP, hP⟩ : ∃ PP, ofps (tabA :: mR ⟨K, c, n, room, vec, turns, b⟩ vv tv bv) = PP := ⟨_, rfl⟩
  rw [hP] at hS ⊢
  clear hP
  have hS : Tr m0 PP X m0 [tabA, roA 2 vv (vec.flatMap cC), roA 4 tv (turns.flatMap tC), roA 1 bv (u8s b)] := hS
  obtain ⟨vA, vc, rfl, _, _⟩ := Sl.shape (n := vec.length) (hS.mem (A := roA 2 vv (vec.flatMap cC)) (by simp)).1 (csC_len _) (by omega)
  obtain ⟨tA, tc, rfl, _, _⟩ := Sl.shape (n := turns.length) (hS.mem (A := roA 4 tv (turns.flatMap tC)) (by simp)).1 (tsC_len _) (by omega)
  obtain ⟨bA, bc, rfl, _, _⟩ := Sl.shape (n := b.length) (hS.mem (A := roA 1 bv (u8s b)) (by simp)).1 (by simp [u8s]) (by omega)
  refine FnE.enter ⟨_, Tryz.func17, by kernel_rfl, by kernel_rfl⟩ Tryz.func17 rfl rfl ?_
  (with_reducible repeat (first | refine WP.S1 ?_ | refine WP.B1 ?_ | refine WP.R1 ?_))
  refine RL.boxS hS rfl rfl rfl ?_; (try clear hS); intro b1 m hS; refine ⟨_, rfl, ?_⟩
  dsimp only [mC] at hS
  refine RL.allocS T_ok rfl hS rfl rfl ?_; (try clear hS); intro b2 m hS; refine ⟨_, rfl, ?_⟩
  refine RL.A1 T_ok rfl ?_
  refine RL.N1 ?_; (with_reducible repeat (first | refine QN.B1 ?_ | refine QN.N1 ?_ | refine WP.S1 ?_ | refine WP.B1 ?_ | refine WP.R1 ?_))
  repeat (first | refine RL.autoP T_ok rfl rfl ?_ | refine RL.loadM T_ok hS rfl rfl rfl (by with_reducible repeat (first | exact zS .. | apply zO)) (by rfl) (by rfl) ?_ | refine RL.lsM T_ok hS rfl rfl rfl (by with_reducible repeat (first | exact zS .. | apply zO)) (by rfl) (by rfl) (by rfl) ?_ | (refine RL.N1 ?_; (with_reducible repeat (first | refine QN.B1 ?_ | refine QN.N1 ?_))) | with_reducible refine WP.S1 ?_ | with_reducible refine WP.B1 ?_ | with_reducible refine WP.R1 ?_ | (refine WP.skip ?_; (with_reducible repeat (first | refine QN.B1 ?_ | refine QN.N1 ?_))) | refine WP.condT rfl ?_ | refine WP.condF rfl ?_)
  refine RL.allocS T_ok rfl hS rfl rfl ?_; (try clear hS); intro b4 m hS; refine ⟨_, rfl, ?_⟩
  refine RL.ssM T_ok hS rfl rfl rfl rfl rfl (by rfl) (by rfl) (by with_reducible repeat (first | exact Rep.head | apply Rep.tail)) (by rfl) ?_; (try clear hS); intro m hS
  repeat (first | refine RL.autoP T_ok rfl rfl ?_ | refine RL.loadM T_ok hS rfl rfl rfl (by with_reducible repeat (first | exact zS .. | apply zO)) (by rfl) (by rfl) ?_ | refine RL.lsM T_ok hS rfl rfl rfl (by with_reducible repeat (first | exact zS .. | apply zO)) (by rfl) (by rfl) (by rfl) ?_ | (refine RL.N1 ?_; (with_reducible repeat (first | refine QN.B1 ?_ | refine QN.N1 ?_))) | with_reducible refine WP.S1 ?_ | with_reducible refine WP.B1 ?_ | with_reducible refine WP.R1 ?_ | (refine WP.skip ?_; (with_reducible repeat (first | refine QN.B1 ?_ | refine QN.N1 ?_))) | refine WP.condT rfl ?_ | refine WP.condF rfl ?_)
  by_cases k1 : K = 1
  · subst k1
    repeat (first | refine RL.autoP T_ok rfl rfl ?_ | refine RL.loadM T_ok hS rfl rfl rfl (by with_reducible repeat (first | exact zS .. | apply zO)) (by rfl) (by rfl) ?_ | refine RL.lsM T_ok hS rfl rfl rfl (by with_reducible repeat (first | exact zS .. | apply zO)) (by rfl) (by rfl) (by rfl) ?_ | (refine RL.N1 ?_; (with_reducible repeat (first | refine QN.B1 ?_ | refine QN.N1 ?_))) | with_reducible refine WP.S1 ?_ | with_reducible refine WP.B1 ?_ | with_reducible refine WP.R1 ?_ | (refine WP.skip ?_; (with_reducible repeat (first | refine QN.B1 ?_ | refine QN.N1 ?_))) | refine WP.condT rfl ?_ | refine WP.condF rfl ?_)
    refine WP.drawS [blkA b1 27 [.int .i64 1, .int .u64 c, .int .u64 n, .string (str room), (.slice vA vec.length vc), (.slice tA turns.length tc), .slice bA b.length bc]] [] hS (by repeat (first | exact AllIn.nil | refine AllIn.cons (by repeat (first | with_reducible exact zS .. | exact zS .. | with_reducible apply zO)) ?_)) (by kernel_rfl) (by with_reducible repeat (first | exact PanicOk.body | refine PanicOk.then_ ?_ | refine PanicOk.block_ ?_)) (fun hQ => ?_)
    refine RH.pure T_ok hQ [0] (by kernel_rfl) rfl ?_
    refine RH.loadM T_ok hQ 1 rfl (by kernel_rfl) rfl rfl rfl (by with_reducible repeat (first | exact zS .. | apply zO)) (by rfl) (by rfl) ?_
    refine RH.pure T_ok hQ [2] (by kernel_rfl) rfl ?_
    refine RH.loadM T_ok hQ 3 rfl (by kernel_rfl) rfl rfl rfl (by with_reducible repeat (first | exact zS .. | apply zO)) (by rfl) (by rfl) ?_
    refine RH.pure T_ok hQ [4] (by kernel_rfl) rfl ?_
    refine RH.only 5 rfl (by kernel_rfl) (fun _ => ?_)
    refine RL.storeM T_ok hS rfl rfl rfl rfl (by rfl) (by rfl) (by with_reducible repeat (first | exact Rep.head | apply Rep.tail)) (by rfl) ?_; (try clear hS); intro m hS
    refine RL.N1 (RH.contM hS (by repeat (first | exact AllIn.nil | refine AllIn.cons (by repeat (first | with_reducible exact zS .. | exact zS .. | with_reducible apply zO)) ?_)) ?_)
    refine RH.pure T_ok hQ [6] (by kernel_rfl) rfl ?_
    refine RH.only 7 rfl (by kernel_rfl) (fun _ => ?_)
    refine RL.storeM T_ok hS rfl rfl rfl rfl (by rfl) (by rfl) (by with_reducible repeat (first | exact Rep.head | apply Rep.tail)) (by rfl) ?_; (try clear hS); intro m hS
    refine RL.N1 (RH.contM hS (by repeat (first | exact AllIn.nil | refine AllIn.cons (by repeat (first | with_reducible exact zS .. | exact zS .. | with_reducible apply zO)) ?_)) ?_)
    refine RH.done (by kernel_rfl) (fun _ => ?_)
    (with_reducible repeat (first | refine QN.B1 ?_ | refine QN.N1 ?_))
    refine WP.cut (X := Bool) (fun q => [(1, .pointer (some ⟨b1, 0, none⟩)), (2, .pointer (some ⟨b2, 0, none⟩)), (3, .bool false), (4, .pointer (some ⟨b4, 0, none⟩)), (5, .bool q), (10, .int .i64 1)])
      (fun q m => q = (decide ((vclean vec).length ≤ 16384) && decide ((tnorm turns).length ≤ 16384)) ∧ Tr m0 PP X m [blkA b4 27 [.int .i64 1, .int .u64 0, .int .u64 0, .string (str []), (.slice vA vec.length vc), (.slice tA turns.length tc), .slice none 0 0], blkA b2 27 [.int .i64 0, .int .u64 0, .int .u64 0, .string (str []), .slice none 0 0, .slice none 0 0, .slice none 0 0], blkA b1 27 [.int .i64 1, .int .u64 c, .int .u64 n, .string (str room), (.slice vA vec.length vc), (.slice tA turns.length tc), .slice bA b.length bc], tabA, roA 2 (.slice vA vec.length vc) (vec.flatMap cC), roA 4 (.slice tA turns.length tc) (turns.flatMap tC), roA 1 (.slice bA b.length bc) (u8s b)]) ?_ ?_
    · (with_reducible repeat (first | refine WP.S1 ?_ | refine WP.B1 ?_ | refine WP.R1 ?_))
      refine RL.pure T_ok 1 rfl ?_
      refine RL.loadM T_ok hS rfl rfl rfl (by with_reducible repeat (first | exact zS .. | apply zO)) (by rfl) (by rfl) ?_
      refine RL.callM (fi := []) (ca := []) hS (vclean_s _ vec (by omega)) rfl rfl rfl rfl (by repeat (first | with_reducible exact Sels.nil | apply Sels.ro (by with_reducible repeat (first | exact zS .. | apply zO)) (by rfl) | apply Sels.own (by with_reducible repeat (first | exact Sel.head | apply Sel.tail)))) ?_
      rintro r m _ ⟨S1, rfl⟩ hS
      simp only [zC, zN] at hS
      obtain ⟨A1, c1, rfl, _⟩ := hS.shape
      have hS := hS.tail
      refine ⟨_, rfl, ?_⟩
      refine RL.pure T_ok 2 rfl ?_
      by_cases g1 : (vclean vec).length ≤ 16384
      rotate_left
      · refine RL.eqv (v' := .bool false) (congrArg _ (decide_eq_false (by omega))) ?_
        refine RL.A1 T_ok rfl ?_
        exact RL.N1 (QN.cutEnd false (Sub.C1 rfl (Sub.C1 rfl (Sub.C1 rfl (Sub.C1 rfl (Sub.C1 rfl (Sub.C1 rfl Sub.nil)))))) ⟨by rw [decide_eq_false g1]; rfl, hS⟩)
      refine RL.eqv (v' := .bool true) (congrArg _ (decide_eq_true (by omega))) ?_
      refine RL.pure T_ok 2 rfl ?_
      refine RL.loadM T_ok hS rfl rfl rfl (by with_reducible repeat (first | exact zS .. | apply zO)) (by rfl) (by rfl) ?_
      refine RL.callM (fi := []) (ca := []) hS (turnsF_s _ turns (by omega)) rfl rfl rfl rfl (by repeat (first | with_reducible exact Sels.nil | apply Sels.ro (by with_reducible repeat (first | exact zS .. | apply zO)) (by rfl) | apply Sels.own (by with_reducible repeat (first | exact Sel.head | apply Sel.tail)))) ?_
      rintro r m _ ⟨_, S2, rfl⟩ hS
      simp only [zC, zN] at hS
      obtain ⟨A2, c2, rfl, _⟩ := hS.shape
      have hS := hS.tail
      refine ⟨_, rfl, ?_⟩
      refine RL.pure T_ok 2 rfl ?_
      by_cases g2 : (tnorm turns).length ≤ 16384
      rotate_left
      · refine RL.eqv (v' := .bool false) (congrArg _ (decide_eq_false (by omega))) ?_
        refine RL.A1 T_ok rfl ?_
        exact RL.N1 (QN.cutEnd false (Sub.C1 rfl (Sub.C1 rfl (Sub.C1 rfl (Sub.C1 rfl (Sub.C1 rfl (Sub.C1 rfl Sub.nil)))))) ⟨by rw [decide_eq_false g2, Bool.and_false], hS⟩)
      refine RL.eqv (v' := .bool true) (congrArg _ (decide_eq_true (by omega))) ?_
      refine RL.A1 T_ok rfl ?_
      exact RL.N1 (QN.cutEnd true (Sub.C1 rfl (Sub.C1 rfl (Sub.C1 rfl (Sub.C1 rfl (Sub.C1 rfl (Sub.C1 rfl Sub.nil)))))) ⟨by rw [decide_eq_true g1, decide_eq_true g2]; rfl, hS⟩)
    · rintro q m ⟨hq, hS⟩
      repeat (first | refine RL.autoP T_ok rfl rfl ?_ | refine RL.loadM T_ok hS rfl rfl rfl (by with_reducible repeat (first | exact zS .. | apply zO)) (by rfl) (by rfl) ?_ | refine RL.lsM T_ok hS rfl rfl rfl (by with_reducible repeat (first | exact zS .. | apply zO)) (by rfl) (by rfl) (by rfl) ?_ | (refine RL.N1 ?_; (with_reducible repeat (first | refine QN.B1 ?_ | refine QN.N1 ?_))) | with_reducible refine WP.S1 ?_ | with_reducible refine WP.B1 ?_ | with_reducible refine WP.R1 ?_ | (refine WP.skip ?_; (with_reducible repeat (first | refine QN.B1 ?_ | refine QN.N1 ?_))) | refine WP.condT rfl ?_ | refine WP.condF rfl ?_)
      refine WP.drawS [blkA b1 27 [.int .i64 1, .int .u64 c, .int .u64 n, .string (str room), (.slice vA vec.length vc), (.slice tA turns.length tc), .slice bA b.length bc]] [] hS (by repeat (first | exact AllIn.nil | refine AllIn.cons (by repeat (first | with_reducible exact zS .. | exact zS .. | with_reducible apply zO)) ?_)) (by kernel_rfl) (by with_reducible repeat (first | exact PanicOk.body | refine PanicOk.then_ ?_ | refine PanicOk.block_ ?_)) (fun hQ => ?_)
      refine RH.pure T_ok hQ [0] (by kernel_rfl) rfl ?_
      refine RH.loadM T_ok hQ 1 rfl (by kernel_rfl) rfl rfl rfl (by with_reducible repeat (first | exact zS .. | apply zO)) (by rfl) (by rfl) ?_
      refine RH.pure T_ok hQ [2] (by kernel_rfl) rfl ?_
      refine RH.loadM T_ok hQ 3 rfl (by kernel_rfl) rfl rfl rfl (by with_reducible repeat (first | exact zS .. | apply zO)) (by rfl) (by rfl) ?_
      refine RH.pure T_ok hQ [4] (by kernel_rfl) rfl ?_
      refine RH.only 5 rfl (by kernel_rfl) (fun _ => ?_)
      refine RL.storeM T_ok hS rfl rfl rfl rfl (by rfl) (by rfl) (by with_reducible repeat (first | exact Rep.head | apply Rep.tail)) (by rfl) ?_; (try clear hS); intro m hS
      refine RL.N1 (RH.contM hS (by repeat (first | exact AllIn.nil | refine AllIn.cons (by repeat (first | with_reducible exact zS .. | exact zS .. | with_reducible apply zO)) ?_)) ?_)
      refine RH.pure T_ok hQ [6] (by kernel_rfl) rfl ?_
      refine RH.only 7 rfl (by kernel_rfl) (fun _ => ?_)
      refine RL.storeM T_ok hS rfl rfl rfl rfl (by rfl) (by rfl) (by with_reducible repeat (first | exact Rep.head | apply Rep.tail)) (by rfl) ?_; (try clear hS); intro m hS
      refine RL.N1 (RH.contM hS (by repeat (first | exact AllIn.nil | refine AllIn.cons (by repeat (first | with_reducible exact zS .. | exact zS .. | with_reducible apply zO)) ?_)) ?_)
      refine RH.done (by kernel_rfl) (fun _ => ?_)
      (with_reducible repeat (first | refine QN.B1 ?_ | refine QN.N1 ?_))
      repeat (first | refine RL.autoP T_ok rfl rfl ?_ | refine RL.loadM T_ok hS rfl rfl rfl (by with_reducible repeat (first | exact zS .. | apply zO)) (by rfl) (by rfl) ?_ | refine RL.lsM T_ok hS rfl rfl rfl (by with_reducible repeat (first | exact zS .. | apply zO)) (by rfl) (by rfl) (by rfl) ?_ | (refine RL.N1 ?_; (with_reducible repeat (first | refine QN.B1 ?_ | refine QN.N1 ?_))) | with_reducible refine WP.S1 ?_ | with_reducible refine WP.B1 ?_ | with_reducible refine WP.R1 ?_ | (refine WP.skip ?_; (with_reducible repeat (first | refine QN.B1 ?_ | refine QN.N1 ?_))) | refine WP.condT rfl ?_ | refine WP.condF rfl ?_)
      cases q
      · repeat (first | refine RL.autoP T_ok rfl rfl ?_ | refine RL.loadM T_ok hS rfl rfl rfl (by with_reducible repeat (first | exact zS .. | apply zO)) (by rfl) (by rfl) ?_ | refine RL.lsM T_ok hS rfl rfl rfl (by with_reducible repeat (first | exact zS .. | apply zO)) (by rfl) (by rfl) (by rfl) ?_ | (refine RL.N1 ?_; (with_reducible repeat (first | refine QN.B1 ?_ | refine QN.N1 ?_))) | with_reducible refine WP.S1 ?_ | with_reducible refine WP.B1 ?_ | with_reducible refine WP.R1 ?_ | (refine WP.skip ?_; (with_reducible repeat (first | refine QN.B1 ?_ | refine QN.N1 ?_))) | refine WP.condT rfl ?_ | refine WP.condF rfl ?_)
        refine RL.ssM T_ok hS rfl rfl rfl rfl rfl (by rfl) (by rfl) (by with_reducible repeat (first | exact Rep.head | apply Rep.tail)) (by rfl) ?_; (try clear hS); intro m hS
        repeat (first | refine RL.autoP T_ok rfl rfl ?_ | refine RL.loadM T_ok hS rfl rfl rfl (by with_reducible repeat (first | exact zS .. | apply zO)) (by rfl) (by rfl) ?_ | refine RL.lsM T_ok hS rfl rfl rfl (by with_reducible repeat (first | exact zS .. | apply zO)) (by rfl) (by rfl) (by rfl) ?_ | (refine RL.N1 ?_; (with_reducible repeat (first | refine QN.B1 ?_ | refine QN.N1 ?_))) | with_reducible refine WP.S1 ?_ | with_reducible refine WP.B1 ?_ | with_reducible refine WP.R1 ?_ | (refine WP.skip ?_; (with_reducible repeat (first | refine QN.B1 ?_ | refine QN.N1 ?_))) | refine WP.condT rfl ?_ | refine WP.condF rfl ?_)
        refine WP.ret ?_; (with_reducible repeat (first | refine QN.tr ?_ | refine QN.br ?_))
        refine QN.retCT T_ok hS rfl rfl rfl rfl (by repeat (first | exact zS .. | with_reducible apply zO)) ⟨_, rfl, _, ⟨(.slice vA vec.length vc), (.slice tA turns.length tc), (.slice none 0 0), congrArg (fun q => Value.tuple #[_, .bool q]) (by show _ = Msg.right txt ⟨1, c, n, room, vec, turns, b⟩; unfold Msg.right; dsimp only; rw [if_pos rfl]; unfold Msg.sets; rw [← hq, Bool.false_and, Bool.false_and]), rfl⟩, ?_⟩
        have hS := ((hS.nilRo 2 (by omega)).nilRo 4 (by omega)).nilRo 1 (by omega)
        exact hS.ros (L := [roA 2 (.slice vA vec.length vc) (vec.flatMap cC), roA 4 (.slice tA turns.length tc) (turns.flatMap tC), roA 1 (.slice none 0 0) []]) (by repeat (first | exact AllIn.nil | refine AllIn.cons (by repeat (first | with_reducible exact zS .. | exact zS .. | with_reducible apply zO)) ?_)) rfl
      repeat (first | refine RL.autoP T_ok rfl rfl ?_ | refine RL.loadM T_ok hS rfl rfl rfl (by with_reducible repeat (first | exact zS .. | apply zO)) (by rfl) (by rfl) ?_ | refine RL.lsM T_ok hS rfl rfl rfl (by with_reducible repeat (first | exact zS .. | apply zO)) (by rfl) (by rfl) (by rfl) ?_ | (refine RL.N1 ?_; (with_reducible repeat (first | refine QN.B1 ?_ | refine QN.N1 ?_))) | with_reducible refine WP.S1 ?_ | with_reducible refine WP.B1 ?_ | with_reducible refine WP.R1 ?_ | (refine WP.skip ?_; (with_reducible repeat (first | refine QN.B1 ?_ | refine QN.N1 ?_))) | refine WP.condT rfl ?_ | refine WP.condF rfl ?_)
      refine RL.callM (fi := []) (ca := []) hS (mnumber_s c) rfl rfl rfl rfl (by repeat (first | with_reducible exact Sels.nil | apply Sels.ro (by with_reducible repeat (first | exact zS .. | apply zO)) (by rfl) | apply Sels.own (by with_reducible repeat (first | exact Sel.head | apply Sel.tail)))) ?_
      (try clear hS); rintro _ m _ ⟨rfl, rfl⟩ hS; (try simp only [zN] at hS); refine ⟨_, rfl, ?_⟩
      cases hn : num c
      · repeat (first | refine RL.autoP T_ok rfl rfl ?_ | refine RL.loadM T_ok hS rfl rfl rfl (by with_reducible repeat (first | exact zS .. | apply zO)) (by rfl) (by rfl) ?_ | refine RL.lsM T_ok hS rfl rfl rfl (by with_reducible repeat (first | exact zS .. | apply zO)) (by rfl) (by rfl) (by rfl) ?_ | (refine RL.N1 ?_; (with_reducible repeat (first | refine QN.B1 ?_ | refine QN.N1 ?_))) | with_reducible refine WP.S1 ?_ | with_reducible refine WP.B1 ?_ | with_reducible refine WP.R1 ?_ | (refine WP.skip ?_; (with_reducible repeat (first | refine QN.B1 ?_ | refine QN.N1 ?_))) | refine WP.condT rfl ?_ | refine WP.condF rfl ?_)
        refine RL.ssM T_ok hS rfl rfl rfl rfl rfl (by rfl) (by rfl) (by with_reducible repeat (first | exact Rep.head | apply Rep.tail)) (by rfl) ?_; (try clear hS); intro m hS
        repeat (first | refine RL.autoP T_ok rfl rfl ?_ | refine RL.loadM T_ok hS rfl rfl rfl (by with_reducible repeat (first | exact zS .. | apply zO)) (by rfl) (by rfl) ?_ | refine RL.lsM T_ok hS rfl rfl rfl (by with_reducible repeat (first | exact zS .. | apply zO)) (by rfl) (by rfl) (by rfl) ?_ | (refine RL.N1 ?_; (with_reducible repeat (first | refine QN.B1 ?_ | refine QN.N1 ?_))) | with_reducible refine WP.S1 ?_ | with_reducible refine WP.B1 ?_ | with_reducible refine WP.R1 ?_ | (refine WP.skip ?_; (with_reducible repeat (first | refine QN.B1 ?_ | refine QN.N1 ?_))) | refine WP.condT rfl ?_ | refine WP.condF rfl ?_)
        refine WP.ret ?_; (with_reducible repeat (first | refine QN.tr ?_ | refine QN.br ?_))
        refine QN.retCT T_ok hS rfl rfl rfl rfl (by repeat (first | exact zS .. | with_reducible apply zO)) ⟨_, rfl, _, ⟨(.slice vA vec.length vc), (.slice tA turns.length tc), (.slice none 0 0), congrArg (fun q => Value.tuple #[_, .bool q]) (by show _ = Msg.right txt ⟨1, c, n, room, vec, turns, b⟩; unfold Msg.right; dsimp only; rw [if_pos rfl]; unfold Msg.sets; rw [← hq, hn, Bool.and_false, Bool.false_and]), rfl⟩, ?_⟩
        have hS := ((hS.nilRo 2 (by omega)).nilRo 4 (by omega)).nilRo 1 (by omega)
        exact hS.ros (L := [roA 2 (.slice vA vec.length vc) (vec.flatMap cC), roA 4 (.slice tA turns.length tc) (turns.flatMap tC), roA 1 (.slice none 0 0) []]) (by repeat (first | exact AllIn.nil | refine AllIn.cons (by repeat (first | with_reducible exact zS .. | exact zS .. | with_reducible apply zO)) ?_)) rfl
      repeat (first | refine RL.autoP T_ok rfl rfl ?_ | refine RL.loadM T_ok hS rfl rfl rfl (by with_reducible repeat (first | exact zS .. | apply zO)) (by rfl) (by rfl) ?_ | refine RL.lsM T_ok hS rfl rfl rfl (by with_reducible repeat (first | exact zS .. | apply zO)) (by rfl) (by rfl) (by rfl) ?_ | (refine RL.N1 ?_; (with_reducible repeat (first | refine QN.B1 ?_ | refine QN.N1 ?_))) | with_reducible refine WP.S1 ?_ | with_reducible refine WP.B1 ?_ | with_reducible refine WP.R1 ?_ | (refine WP.skip ?_; (with_reducible repeat (first | refine QN.B1 ?_ | refine QN.N1 ?_))) | refine WP.condT rfl ?_ | refine WP.condF rfl ?_)
      refine RL.callM (fi := []) (ca := []) hS (mname_s room (by omega)) rfl rfl rfl rfl (by repeat (first | with_reducible exact Sels.nil | apply Sels.ro (by with_reducible repeat (first | exact zS .. | apply zO)) (by rfl) | apply Sels.own (by with_reducible repeat (first | exact Sel.head | apply Sel.tail)))) ?_
      (try clear hS); rintro _ m _ ⟨rfl, rfl⟩ hS; (try simp only [zN] at hS); refine ⟨_, rfl, ?_⟩
      repeat (first | refine RL.autoP T_ok rfl rfl ?_ | refine RL.loadM T_ok hS rfl rfl rfl (by with_reducible repeat (first | exact zS .. | apply zO)) (by rfl) (by rfl) ?_ | refine RL.lsM T_ok hS rfl rfl rfl (by with_reducible repeat (first | exact zS .. | apply zO)) (by rfl) (by rfl) (by rfl) ?_ | (refine RL.N1 ?_; (with_reducible repeat (first | refine QN.B1 ?_ | refine QN.N1 ?_))) | with_reducible refine WP.S1 ?_ | with_reducible refine WP.B1 ?_ | with_reducible refine WP.R1 ?_ | (refine WP.skip ?_; (with_reducible repeat (first | refine QN.B1 ?_ | refine QN.N1 ?_))) | refine WP.condT rfl ?_ | refine WP.condF rfl ?_)
      refine RL.ssM T_ok hS rfl rfl rfl rfl rfl (by rfl) (by rfl) (by with_reducible repeat (first | exact Rep.head | apply Rep.tail)) (by rfl) ?_; (try clear hS); intro m hS
      repeat (first | refine RL.autoP T_ok rfl rfl ?_ | refine RL.loadM T_ok hS rfl rfl rfl (by with_reducible repeat (first | exact zS .. | apply zO)) (by rfl) (by rfl) ?_ | refine RL.lsM T_ok hS rfl rfl rfl (by with_reducible repeat (first | exact zS .. | apply zO)) (by rfl) (by rfl) (by rfl) ?_ | (refine RL.N1 ?_; (with_reducible repeat (first | refine QN.B1 ?_ | refine QN.N1 ?_))) | with_reducible refine WP.S1 ?_ | with_reducible refine WP.B1 ?_ | with_reducible refine WP.R1 ?_ | (refine WP.skip ?_; (with_reducible repeat (first | refine QN.B1 ?_ | refine QN.N1 ?_))) | refine WP.condT rfl ?_ | refine WP.condF rfl ?_)
      refine WP.ret ?_; (with_reducible repeat (first | refine QN.tr ?_ | refine QN.br ?_))
      refine QN.retCT T_ok hS rfl rfl rfl rfl (by repeat (first | exact zS .. | with_reducible apply zO)) ⟨_, rfl, _, ⟨(.slice vA vec.length vc), (.slice tA turns.length tc), (.slice none 0 0), congrArg (fun q => Value.tuple #[_, .bool q]) (by show _ = Msg.right txt ⟨1, c, n, room, vec, turns, b⟩; unfold Msg.right; dsimp only; rw [if_pos rfl]; unfold Msg.sets; rw [← hq, hn, Bool.true_and, Bool.true_and]), rfl⟩, ?_⟩
      have hS := ((hS.nilRo 2 (by omega)).nilRo 4 (by omega)).nilRo 1 (by omega)
      exact hS.ros (L := [roA 2 (.slice vA vec.length vc) (vec.flatMap cC), roA 4 (.slice tA turns.length tc) (turns.flatMap tC), roA 1 (.slice none 0 0) []]) (by repeat (first | exact AllIn.nil | refine AllIn.cons (by repeat (first | with_reducible exact zS .. | exact zS .. | with_reducible apply zO)) ?_)) rfl
  by_cases k2 : K = 2
  · subst k2
    repeat (first | refine RL.autoP T_ok rfl rfl ?_ | refine RL.loadM T_ok hS rfl rfl rfl (by with_reducible repeat (first | exact zS .. | apply zO)) (by rfl) (by rfl) ?_ | refine RL.lsM T_ok hS rfl rfl rfl (by with_reducible repeat (first | exact zS .. | apply zO)) (by rfl) (by rfl) (by rfl) ?_ | (refine RL.N1 ?_; (with_reducible repeat (first | refine QN.B1 ?_ | refine QN.N1 ?_))) | with_reducible refine WP.S1 ?_ | with_reducible refine WP.B1 ?_ | with_reducible refine WP.R1 ?_ | (refine WP.skip ?_; (with_reducible repeat (first | refine QN.B1 ?_ | refine QN.N1 ?_))) | refine WP.condT rfl ?_ | refine WP.condF rfl ?_)
    refine WP.drawS [blkA b1 27 [.int .i64 2, .int .u64 c, .int .u64 n, .string (str room), (.slice vA vec.length vc), (.slice tA turns.length tc), .slice bA b.length bc]] [] hS (by repeat (first | exact AllIn.nil | refine AllIn.cons (by repeat (first | with_reducible exact zS .. | exact zS .. | with_reducible apply zO)) ?_)) (by kernel_rfl) (by with_reducible repeat (first | exact PanicOk.body | refine PanicOk.then_ ?_ | refine PanicOk.block_ ?_)) (fun hQ => ?_)
    refine RH.pure T_ok hQ [0] (by kernel_rfl) rfl ?_
    refine RH.loadM T_ok hQ 1 rfl (by kernel_rfl) rfl rfl rfl (by with_reducible repeat (first | exact zS .. | apply zO)) (by rfl) (by rfl) ?_
    refine RH.pure T_ok hQ [2] (by kernel_rfl) rfl ?_
    refine RH.loadM T_ok hQ 3 rfl (by kernel_rfl) rfl rfl rfl (by with_reducible repeat (first | exact zS .. | apply zO)) (by rfl) (by rfl) ?_
    refine RH.pure T_ok hQ [4] (by kernel_rfl) rfl ?_
    refine RH.only 5 rfl (by kernel_rfl) (fun _ => ?_)
    refine RL.storeM T_ok hS rfl rfl rfl rfl (by rfl) (by rfl) (by with_reducible repeat (first | exact Rep.head | apply Rep.tail)) (by rfl) ?_; (try clear hS); intro m hS
    refine RL.N1 (RH.contM hS (by repeat (first | exact AllIn.nil | refine AllIn.cons (by repeat (first | with_reducible exact zS .. | exact zS .. | with_reducible apply zO)) ?_)) ?_)
    refine RH.pure T_ok hQ [6] (by kernel_rfl) rfl ?_
    refine RH.only 7 rfl (by kernel_rfl) (fun _ => ?_)
    refine RL.storeM T_ok hS rfl rfl rfl rfl (by rfl) (by rfl) (by with_reducible repeat (first | exact Rep.head | apply Rep.tail)) (by rfl) ?_; (try clear hS); intro m hS
    refine RL.N1 (RH.contM hS (by repeat (first | exact AllIn.nil | refine AllIn.cons (by repeat (first | with_reducible exact zS .. | exact zS .. | with_reducible apply zO)) ?_)) ?_)
    refine RH.done (by kernel_rfl) (fun _ => ?_)
    (with_reducible repeat (first | refine QN.B1 ?_ | refine QN.N1 ?_))
    refine WP.cut (X := Bool) (fun q => [(1, .pointer (some ⟨b1, 0, none⟩)), (2, .pointer (some ⟨b2, 0, none⟩)), (3, .bool false), (4, .pointer (some ⟨b4, 0, none⟩)), (5, .bool q), (10, .int .i64 2)])
      (fun q m => q = (decide ((vclean vec).length ≤ 16384) && decide ((tnorm turns).length ≤ 16384)) ∧ Tr m0 PP X m [blkA b4 27 [.int .i64 2, .int .u64 0, .int .u64 0, .string (str []), (.slice vA vec.length vc), (.slice tA turns.length tc), .slice none 0 0], blkA b2 27 [.int .i64 0, .int .u64 0, .int .u64 0, .string (str []), .slice none 0 0, .slice none 0 0, .slice none 0 0], blkA b1 27 [.int .i64 2, .int .u64 c, .int .u64 n, .string (str room), (.slice vA vec.length vc), (.slice tA turns.length tc), .slice bA b.length bc], tabA, roA 2 (.slice vA vec.length vc) (vec.flatMap cC), roA 4 (.slice tA turns.length tc) (turns.flatMap tC), roA 1 (.slice bA b.length bc) (u8s b)]) ?_ ?_
    · (with_reducible repeat (first | refine WP.S1 ?_ | refine WP.B1 ?_ | refine WP.R1 ?_))
      refine RL.pure T_ok 1 rfl ?_
      refine RL.loadM T_ok hS rfl rfl rfl (by with_reducible repeat (first | exact zS .. | apply zO)) (by rfl) (by rfl) ?_
      refine RL.callM (fi := []) (ca := []) hS (vclean_s _ vec (by omega)) rfl rfl rfl rfl (by repeat (first | with_reducible exact Sels.nil | apply Sels.ro (by with_reducible repeat (first | exact zS .. | apply zO)) (by rfl) | apply Sels.own (by with_reducible repeat (first | exact Sel.head | apply Sel.tail)))) ?_
      rintro r m _ ⟨S1, rfl⟩ hS
      simp only [zC, zN] at hS
      obtain ⟨A1, c1, rfl, _⟩ := hS.shape
      have hS := hS.tail
      refine ⟨_, rfl, ?_⟩
      refine RL.pure T_ok 2 rfl ?_
      by_cases g1 : (vclean vec).length ≤ 16384
      rotate_left
      · refine RL.eqv (v' := .bool false) (congrArg _ (decide_eq_false (by omega))) ?_
        refine RL.A1 T_ok rfl ?_
        exact RL.N1 (QN.cutEnd false (Sub.C1 rfl (Sub.C1 rfl (Sub.C1 rfl (Sub.C1 rfl (Sub.C1 rfl (Sub.C1 rfl Sub.nil)))))) ⟨by rw [decide_eq_false g1]; rfl, hS⟩)
      refine RL.eqv (v' := .bool true) (congrArg _ (decide_eq_true (by omega))) ?_
      refine RL.pure T_ok 2 rfl ?_
      refine RL.loadM T_ok hS rfl rfl rfl (by with_reducible repeat (first | exact zS .. | apply zO)) (by rfl) (by rfl) ?_
      refine RL.callM (fi := []) (ca := []) hS (turnsF_s _ turns (by omega)) rfl rfl rfl rfl (by repeat (first | with_reducible exact Sels.nil | apply Sels.ro (by with_reducible repeat (first | exact zS .. | apply zO)) (by rfl) | apply Sels.own (by with_reducible repeat (first | exact Sel.head | apply Sel.tail)))) ?_
      rintro r m _ ⟨_, S2, rfl⟩ hS
      simp only [zC, zN] at hS
      obtain ⟨A2, c2, rfl, _⟩ := hS.shape
      have hS := hS.tail
      refine ⟨_, rfl, ?_⟩
      refine RL.pure T_ok 2 rfl ?_
      by_cases g2 : (tnorm turns).length ≤ 16384
      rotate_left
      · refine RL.eqv (v' := .bool false) (congrArg _ (decide_eq_false (by omega))) ?_
        refine RL.A1 T_ok rfl ?_
        exact RL.N1 (QN.cutEnd false (Sub.C1 rfl (Sub.C1 rfl (Sub.C1 rfl (Sub.C1 rfl (Sub.C1 rfl (Sub.C1 rfl Sub.nil)))))) ⟨by rw [decide_eq_false g2, Bool.and_false], hS⟩)
      refine RL.eqv (v' := .bool true) (congrArg _ (decide_eq_true (by omega))) ?_
      refine RL.A1 T_ok rfl ?_
      exact RL.N1 (QN.cutEnd true (Sub.C1 rfl (Sub.C1 rfl (Sub.C1 rfl (Sub.C1 rfl (Sub.C1 rfl (Sub.C1 rfl Sub.nil)))))) ⟨by rw [decide_eq_true g1, decide_eq_true g2]; rfl, hS⟩)
    · rintro q m ⟨hq, hS⟩
      repeat (first | refine RL.autoP T_ok rfl rfl ?_ | refine RL.loadM T_ok hS rfl rfl rfl (by with_reducible repeat (first | exact zS .. | apply zO)) (by rfl) (by rfl) ?_ | refine RL.lsM T_ok hS rfl rfl rfl (by with_reducible repeat (first | exact zS .. | apply zO)) (by rfl) (by rfl) (by rfl) ?_ | (refine RL.N1 ?_; (with_reducible repeat (first | refine QN.B1 ?_ | refine QN.N1 ?_))) | with_reducible refine WP.S1 ?_ | with_reducible refine WP.B1 ?_ | with_reducible refine WP.R1 ?_ | (refine WP.skip ?_; (with_reducible repeat (first | refine QN.B1 ?_ | refine QN.N1 ?_))) | refine WP.condT rfl ?_ | refine WP.condF rfl ?_)
      refine RL.ssM T_ok hS rfl rfl rfl rfl rfl (by rfl) (by rfl) (by with_reducible repeat (first | exact Rep.head | apply Rep.tail)) (by rfl) ?_; (try clear hS); intro m hS
      repeat (first | refine RL.autoP T_ok rfl rfl ?_ | refine RL.loadM T_ok hS rfl rfl rfl (by with_reducible repeat (first | exact zS .. | apply zO)) (by rfl) (by rfl) ?_ | refine RL.lsM T_ok hS rfl rfl rfl (by with_reducible repeat (first | exact zS .. | apply zO)) (by rfl) (by rfl) (by rfl) ?_ | (refine RL.N1 ?_; (with_reducible repeat (first | refine QN.B1 ?_ | refine QN.N1 ?_))) | with_reducible refine WP.S1 ?_ | with_reducible refine WP.B1 ?_ | with_reducible refine WP.R1 ?_ | (refine WP.skip ?_; (with_reducible repeat (first | refine QN.B1 ?_ | refine QN.N1 ?_))) | refine WP.condT rfl ?_ | refine WP.condF rfl ?_)
      refine WP.ret ?_; (with_reducible repeat (first | refine QN.tr ?_ | refine QN.br ?_))
      refine QN.retCT T_ok hS rfl rfl rfl rfl (by repeat (first | exact zS .. | with_reducible apply zO)) ⟨_, rfl, _, ⟨(.slice vA vec.length vc), (.slice tA turns.length tc), (.slice none 0 0), congrArg (fun q => Value.tuple #[_, .bool q]) (by show _ = Msg.right txt ⟨2, c, n, room, vec, turns, b⟩; unfold Msg.right; dsimp only; rw [if_neg (by decide), if_pos rfl]; unfold Msg.sets; rw [← hq]), rfl⟩, ?_⟩
      have hS := ((hS.nilRo 2 (by omega)).nilRo 4 (by omega)).nilRo 1 (by omega)
      exact hS.ros (L := [roA 2 (.slice vA vec.length vc) (vec.flatMap cC), roA 4 (.slice tA turns.length tc) (turns.flatMap tC), roA 1 (.slice none 0 0) []]) (by repeat (first | exact AllIn.nil | refine AllIn.cons (by repeat (first | with_reducible exact zS .. | exact zS .. | with_reducible apply zO)) ?_)) rfl
  by_cases k3 : K = 3
  · subst k3
    repeat (first | refine RL.autoP T_ok rfl rfl ?_ | refine RL.loadM T_ok hS rfl rfl rfl (by with_reducible repeat (first | exact zS .. | apply zO)) (by rfl) (by rfl) ?_ | refine RL.lsM T_ok hS rfl rfl rfl (by with_reducible repeat (first | exact zS .. | apply zO)) (by rfl) (by rfl) (by rfl) ?_ | (refine RL.N1 ?_; (with_reducible repeat (first | refine QN.B1 ?_ | refine QN.N1 ?_))) | with_reducible refine WP.S1 ?_ | with_reducible refine WP.B1 ?_ | with_reducible refine WP.R1 ?_ | (refine WP.skip ?_; (with_reducible repeat (first | refine QN.B1 ?_ | refine QN.N1 ?_))) | refine WP.condT rfl ?_ | refine WP.condF rfl ?_)
    refine WP.drawS [blkA b1 27 [.int .i64 3, .int .u64 c, .int .u64 n, .string (str room), (.slice vA vec.length vc), (.slice tA turns.length tc), .slice bA b.length bc]] [] hS (by repeat (first | exact AllIn.nil | refine AllIn.cons (by repeat (first | with_reducible exact zS .. | exact zS .. | with_reducible apply zO)) ?_)) (by kernel_rfl) (by with_reducible repeat (first | exact PanicOk.body | refine PanicOk.then_ ?_ | refine PanicOk.block_ ?_)) (fun hQ => ?_)
    refine RH.pure T_ok hQ [0] (by kernel_rfl) rfl ?_
    refine RH.loadM T_ok hQ 1 rfl (by kernel_rfl) rfl rfl rfl (by with_reducible repeat (first | exact zS .. | apply zO)) (by rfl) (by rfl) ?_
    refine RH.pure T_ok hQ [2] (by kernel_rfl) rfl ?_
    refine RH.loadM T_ok hQ 3 rfl (by kernel_rfl) rfl rfl rfl (by with_reducible repeat (first | exact zS .. | apply zO)) (by rfl) (by rfl) ?_
    refine RH.pure T_ok hQ [4] (by kernel_rfl) rfl ?_
    refine RH.only 5 rfl (by kernel_rfl) (fun _ => ?_)
    refine RL.storeM T_ok hS rfl rfl rfl rfl (by rfl) (by rfl) (by with_reducible repeat (first | exact Rep.head | apply Rep.tail)) (by rfl) ?_; (try clear hS); intro m hS
    refine RL.N1 (RH.contM hS (by repeat (first | exact AllIn.nil | refine AllIn.cons (by repeat (first | with_reducible exact zS .. | exact zS .. | with_reducible apply zO)) ?_)) ?_)
    refine RH.pure T_ok hQ [6] (by kernel_rfl) rfl ?_
    refine RH.only 7 rfl (by kernel_rfl) (fun _ => ?_)
    refine RL.storeM T_ok hS rfl rfl rfl rfl (by rfl) (by rfl) (by with_reducible repeat (first | exact Rep.head | apply Rep.tail)) (by rfl) ?_; (try clear hS); intro m hS
    refine RL.N1 (RH.contM hS (by repeat (first | exact AllIn.nil | refine AllIn.cons (by repeat (first | with_reducible exact zS .. | exact zS .. | with_reducible apply zO)) ?_)) ?_)
    refine RH.done (by kernel_rfl) (fun _ => ?_)
    (with_reducible repeat (first | refine QN.B1 ?_ | refine QN.N1 ?_))
    repeat (first | refine RL.autoP T_ok rfl rfl ?_ | refine RL.loadM T_ok hS rfl rfl rfl (by with_reducible repeat (first | exact zS .. | apply zO)) (by rfl) (by rfl) ?_ | refine RL.lsM T_ok hS rfl rfl rfl (by with_reducible repeat (first | exact zS .. | apply zO)) (by rfl) (by rfl) (by rfl) ?_ | (refine RL.N1 ?_; (with_reducible repeat (first | refine QN.B1 ?_ | refine QN.N1 ?_))) | with_reducible refine WP.S1 ?_ | with_reducible refine WP.B1 ?_ | with_reducible refine WP.R1 ?_ | (refine WP.skip ?_; (with_reducible repeat (first | refine QN.B1 ?_ | refine QN.N1 ?_))) | refine WP.condT rfl ?_ | refine WP.condF rfl ?_)
    refine WP.drawS [blkA b1 27 [.int .i64 3, .int .u64 c, .int .u64 n, .string (str room), (.slice vA vec.length vc), (.slice tA turns.length tc), .slice bA b.length bc], blkA b4 27 [.int .i64 3, .int .u64 0, .int .u64 n, .string (str []), .slice none 0 0, .slice none 0 0, (.slice bA b.length bc)]] [] hS (by repeat (first | exact AllIn.nil | refine AllIn.cons (by repeat (first | with_reducible exact zS .. | exact zS .. | with_reducible apply zO)) ?_)) (by kernel_rfl) (by with_reducible repeat (first | exact PanicOk.body | refine PanicOk.then_ ?_ | refine PanicOk.block_ ?_)) (fun hQ => ?_)
    refine RH.loadSegM T_ok hQ 0 rfl (by kernel_rfl) rfl rfl rfl (by with_reducible repeat (first | exact zS .. | apply zO)) (by rfl) (by rfl) (by rfl) ?_
    refine RH.pure T_ok hQ [1] (by kernel_rfl) rfl ?_
    refine RH.loadM T_ok hQ 2 rfl (by kernel_rfl) rfl rfl rfl (by with_reducible repeat (first | exact zS .. | apply zO)) (by rfl) (by rfl) ?_
    refine RH.pure T_ok hQ [3] (by kernel_rfl) rfl ?_
    by_cases g1 : n ≤ 9007199254740991
    rotate_left
    · refine RH.eqv (v' := .bool false) (congrArg _ (decide_eq_false (by omega))) ?_
      refine RH.pure T_ok hQ [4, 5, 6, 7, 8, 9] (by kernel_rfl) rfl ?_
      refine RH.only 10 rfl (by kernel_rfl) (fun _ => ?_)
      refine RL.ssM T_ok hS rfl rfl rfl rfl rfl (by rfl) (by rfl) (by with_reducible repeat (first | exact Rep.head | apply Rep.tail)) (by rfl) ?_; (try clear hS); intro m hS
      refine RL.N1 (RH.contM hS (by repeat (first | exact AllIn.nil | refine AllIn.cons (by repeat (first | with_reducible exact zS .. | exact zS .. | with_reducible apply zO)) ?_)) ?_)
      refine RH.pure T_ok hQ [11] (by kernel_rfl) rfl ?_
      refine RH.done (by kernel_rfl) (fun _ => ?_)
      (with_reducible repeat (first | refine QN.B1 ?_ | refine QN.N1 ?_))
      refine WP.ret ?_; (with_reducible repeat (first | refine QN.tr ?_ | refine QN.br ?_))
      refine QN.retCT T_ok hS rfl rfl rfl rfl (by repeat (first | exact zS .. | with_reducible apply zO)) ⟨_, rfl, _, ⟨(.slice none 0 0), (.slice none 0 0), (.slice bA b.length bc), congrArg (fun q => Value.tuple #[_, .bool q]) (by show _ = Msg.right txt ⟨3, c, n, room, vec, turns, b⟩; unfold Msg.right; dsimp only; rw [if_neg (by decide), if_neg (by decide), if_pos rfl, decide_eq_false g1, Bool.false_and]), rfl⟩, ?_⟩
      have hS := ((hS.nilRo 2 (by omega)).nilRo 4 (by omega)).nilRo 1 (by omega)
      exact hS.ros (L := [roA 2 (.slice none 0 0) [], roA 4 (.slice none 0 0) [], roA 1 (.slice bA b.length bc) (u8s b)]) (by repeat (first | exact AllIn.nil | refine AllIn.cons (by repeat (first | with_reducible exact zS .. | exact zS .. | with_reducible apply zO)) ?_)) rfl
    refine RH.eqv (v' := .bool true) (congrArg _ (decide_eq_true (by omega))) ?_
    refine RH.pure T_ok hQ [4, 5] (by kernel_rfl) rfl ?_
    refine RH.loadM T_ok hQ 6 rfl (by kernel_rfl) rfl rfl rfl (by with_reducible repeat (first | exact zS .. | apply zO)) (by rfl) (by rfl) ?_
    refine RH.pure T_ok hQ [7, 8, 9] (by kernel_rfl) rfl ?_
    refine RH.only 10 rfl (by kernel_rfl) (fun _ => ?_)
    refine RL.ssM T_ok hS rfl rfl rfl rfl rfl (by rfl) (by rfl) (by with_reducible repeat (first | exact Rep.head | apply Rep.tail)) (by rfl) ?_; (try clear hS); intro m hS
    refine RL.N1 (RH.contM hS (by repeat (first | exact AllIn.nil | refine AllIn.cons (by repeat (first | with_reducible exact zS .. | exact zS .. | with_reducible apply zO)) ?_)) ?_)
    refine RH.pure T_ok hQ [11] (by kernel_rfl) rfl ?_
    refine RH.done (by kernel_rfl) (fun _ => ?_)
    (with_reducible repeat (first | refine QN.B1 ?_ | refine QN.N1 ?_))
    refine WP.ret ?_; (with_reducible repeat (first | refine QN.tr ?_ | refine QN.br ?_))
    refine QN.retCT T_ok hS rfl rfl rfl rfl (by repeat (first | exact zS .. | with_reducible apply zO)) ⟨_, rfl, _, ⟨(.slice none 0 0), (.slice none 0 0), (.slice bA b.length bc), congrArg (fun q => Value.tuple #[_, .bool q]) (by show _ = Msg.right txt ⟨3, c, n, room, vec, turns, b⟩; unfold Msg.right; dsimp only; rw [if_neg (by decide), if_neg (by decide), if_pos rfl, decide_eq_true g1, Bool.true_and]; exact decide_eq_decide.2 (by omega)), rfl⟩, ?_⟩
    have hS := ((hS.nilRo 2 (by omega)).nilRo 4 (by omega)).nilRo 1 (by omega)
    exact hS.ros (L := [roA 2 (.slice none 0 0) [], roA 4 (.slice none 0 0) [], roA 1 (.slice bA b.length bc) (u8s b)]) (by repeat (first | exact AllIn.nil | refine AllIn.cons (by repeat (first | with_reducible exact zS .. | exact zS .. | with_reducible apply zO)) ?_)) rfl
  by_cases k4 : K = 4
  · subst k4
    repeat (first | refine RL.autoP T_ok rfl rfl ?_ | refine RL.loadM T_ok hS rfl rfl rfl (by with_reducible repeat (first | exact zS .. | apply zO)) (by rfl) (by rfl) ?_ | refine RL.lsM T_ok hS rfl rfl rfl (by with_reducible repeat (first | exact zS .. | apply zO)) (by rfl) (by rfl) (by rfl) ?_ | (refine RL.N1 ?_; (with_reducible repeat (first | refine QN.B1 ?_ | refine QN.N1 ?_))) | with_reducible refine WP.S1 ?_ | with_reducible refine WP.B1 ?_ | with_reducible refine WP.R1 ?_ | (refine WP.skip ?_; (with_reducible repeat (first | refine QN.B1 ?_ | refine QN.N1 ?_))) | refine WP.condT rfl ?_ | refine WP.condF rfl ?_)
    refine RL.storeM T_ok hS rfl rfl rfl rfl (by rfl) (by rfl) (by with_reducible repeat (first | exact Rep.head | apply Rep.tail)) (by rfl) ?_; (try clear hS); intro m hS
    repeat (first | refine RL.autoP T_ok rfl rfl ?_ | refine RL.loadM T_ok hS rfl rfl rfl (by with_reducible repeat (first | exact zS .. | apply zO)) (by rfl) (by rfl) ?_ | refine RL.lsM T_ok hS rfl rfl rfl (by with_reducible repeat (first | exact zS .. | apply zO)) (by rfl) (by rfl) (by rfl) ?_ | (refine RL.N1 ?_; (with_reducible repeat (first | refine QN.B1 ?_ | refine QN.N1 ?_))) | with_reducible refine WP.S1 ?_ | with_reducible refine WP.B1 ?_ | with_reducible refine WP.R1 ?_ | (refine WP.skip ?_; (with_reducible repeat (first | refine QN.B1 ?_ | refine QN.N1 ?_))) | refine WP.condT rfl ?_ | refine WP.condF rfl ?_)
    refine WP.drawS [blkA b1 27 [.int .i64 4, .int .u64 c, .int .u64 n, .string (str room), (.slice vA vec.length vc), (.slice tA turns.length tc), .slice bA b.length bc], blkA b4 27 [.int .i64 4, .int .u64 0, .int .u64 n, .string (str []), .slice none 0 0, .slice none 0 0, .slice none 0 0]] [] hS (by repeat (first | exact AllIn.nil | refine AllIn.cons (by repeat (first | with_reducible exact zS .. | exact zS .. | with_reducible apply zO)) ?_)) (by kernel_rfl) (by with_reducible repeat (first | exact PanicOk.body | refine PanicOk.then_ ?_ | refine PanicOk.block_ ?_)) (fun hQ => ?_)
    refine RH.loadSegM T_ok hQ 0 rfl (by kernel_rfl) rfl rfl rfl (by with_reducible repeat (first | exact zS .. | apply zO)) (by rfl) (by rfl) (by rfl) ?_
    refine RH.pure T_ok hQ [1] (by kernel_rfl) rfl ?_
    refine RH.loadM T_ok hQ 2 rfl (by kernel_rfl) rfl rfl rfl (by with_reducible repeat (first | exact zS .. | apply zO)) (by rfl) (by rfl) ?_
    refine RH.only 3 rfl (by kernel_rfl) (fun _ => ?_)
    refine RL.callM (fi := []) (ca := []) hS (mnumber_s n) rfl rfl rfl rfl (by repeat (first | with_reducible exact Sels.nil | apply Sels.ro (by with_reducible repeat (first | exact zS .. | apply zO)) (by rfl) | apply Sels.own (by with_reducible repeat (first | exact Sel.head | apply Sel.tail)))) ?_
    (try clear hS); rintro _ m _ ⟨rfl, rfl⟩ hS; (try simp only [zN] at hS); refine ⟨_, rfl, ?_⟩
    refine RL.N1 (RH.contM hS (by repeat (first | exact AllIn.nil | refine AllIn.cons (by repeat (first | with_reducible exact zS .. | exact zS .. | with_reducible apply zO)) ?_)) ?_)
    refine RH.only 4 rfl (by kernel_rfl) (fun _ => ?_)
    refine RL.ssM T_ok hS rfl rfl rfl rfl rfl (by rfl) (by rfl) (by with_reducible repeat (first | exact Rep.head | apply Rep.tail)) (by rfl) ?_; (try clear hS); intro m hS
    refine RL.N1 (RH.contM hS (by repeat (first | exact AllIn.nil | refine AllIn.cons (by repeat (first | with_reducible exact zS .. | exact zS .. | with_reducible apply zO)) ?_)) ?_)
    refine RH.pure T_ok hQ [5] (by kernel_rfl) rfl ?_
    refine RH.done (by kernel_rfl) (fun _ => ?_)
    (with_reducible repeat (first | refine QN.B1 ?_ | refine QN.N1 ?_))
    refine WP.ret ?_; (with_reducible repeat (first | refine QN.tr ?_ | refine QN.br ?_))
    refine QN.retCT T_ok hS rfl rfl rfl rfl (by repeat (first | exact zS .. | with_reducible apply zO)) ⟨_, rfl, _, ⟨(.slice none 0 0), (.slice none 0 0), (.slice none 0 0), congrArg (fun q => Value.tuple #[_, .bool q]) (by show _ = Msg.right txt ⟨4, c, n, room, vec, turns, b⟩; unfold Msg.right; dsimp only; rw [if_neg (by decide), if_neg (by decide), if_neg (by decide), if_pos rfl]), rfl⟩, ?_⟩
    have hS := ((hS.nilRo 2 (by omega)).nilRo 4 (by omega)).nilRo 1 (by omega)
    exact hS.ros (L := [roA 2 (.slice none 0 0) [], roA 4 (.slice none 0 0) [], roA 1 (.slice none 0 0) []]) (by repeat (first | exact AllIn.nil | refine AllIn.cons (by repeat (first | with_reducible exact zS .. | exact zS .. | with_reducible apply zO)) ?_)) rfl
  by_cases k6 : K = 6
  · subst k6
    repeat (first | refine RL.autoP T_ok rfl rfl ?_ | refine RL.loadM T_ok hS rfl rfl rfl (by with_reducible repeat (first | exact zS .. | apply zO)) (by rfl) (by rfl) ?_ | refine RL.lsM T_ok hS rfl rfl rfl (by with_reducible repeat (first | exact zS .. | apply zO)) (by rfl) (by rfl) (by rfl) ?_ | (refine RL.N1 ?_; (with_reducible repeat (first | refine QN.B1 ?_ | refine QN.N1 ?_))) | with_reducible refine WP.S1 ?_ | with_reducible refine WP.B1 ?_ | with_reducible refine WP.R1 ?_ | (refine WP.skip ?_; (with_reducible repeat (first | refine QN.B1 ?_ | refine QN.N1 ?_))) | refine WP.condT rfl ?_ | refine WP.condF rfl ?_)
    refine RL.storeM T_ok hS rfl rfl rfl rfl (by rfl) (by rfl) (by with_reducible repeat (first | exact Rep.head | apply Rep.tail)) (by rfl) ?_; (try clear hS); intro m hS
    repeat (first | refine RL.autoP T_ok rfl rfl ?_ | refine RL.loadM T_ok hS rfl rfl rfl (by with_reducible repeat (first | exact zS .. | apply zO)) (by rfl) (by rfl) ?_ | refine RL.lsM T_ok hS rfl rfl rfl (by with_reducible repeat (first | exact zS .. | apply zO)) (by rfl) (by rfl) (by rfl) ?_ | (refine RL.N1 ?_; (with_reducible repeat (first | refine QN.B1 ?_ | refine QN.N1 ?_))) | with_reducible refine WP.S1 ?_ | with_reducible refine WP.B1 ?_ | with_reducible refine WP.R1 ?_ | (refine WP.skip ?_; (with_reducible repeat (first | refine QN.B1 ?_ | refine QN.N1 ?_))) | refine WP.condT rfl ?_ | refine WP.condF rfl ?_)
    refine WP.drawS [blkA b1 27 [.int .i64 6, .int .u64 c, .int .u64 n, .string (str room), (.slice vA vec.length vc), (.slice tA turns.length tc), .slice bA b.length bc], blkA b4 27 [.int .i64 6, .int .u64 0, .int .u64 n, .string (str []), .slice none 0 0, .slice none 0 0, .slice none 0 0]] [] hS (by repeat (first | exact AllIn.nil | refine AllIn.cons (by repeat (first | with_reducible exact zS .. | exact zS .. | with_reducible apply zO)) ?_)) (by kernel_rfl) (by with_reducible repeat (first | exact PanicOk.body | refine PanicOk.then_ ?_ | refine PanicOk.block_ ?_)) (fun hQ => ?_)
    refine RH.loadSegM T_ok hQ 0 rfl (by kernel_rfl) rfl rfl rfl (by with_reducible repeat (first | exact zS .. | apply zO)) (by rfl) (by rfl) (by rfl) ?_
    refine RH.pure T_ok hQ [1] (by kernel_rfl) rfl ?_
    refine RH.loadM T_ok hQ 2 rfl (by kernel_rfl) rfl rfl rfl (by with_reducible repeat (first | exact zS .. | apply zO)) (by rfl) (by rfl) ?_
    refine RH.only 3 rfl (by kernel_rfl) (fun _ => ?_)
    refine RL.callM (fi := []) (ca := []) hS (mnumber_s n) rfl rfl rfl rfl (by repeat (first | with_reducible exact Sels.nil | apply Sels.ro (by with_reducible repeat (first | exact zS .. | apply zO)) (by rfl) | apply Sels.own (by with_reducible repeat (first | exact Sel.head | apply Sel.tail)))) ?_
    (try clear hS); rintro _ m _ ⟨rfl, rfl⟩ hS; (try simp only [zN] at hS); refine ⟨_, rfl, ?_⟩
    refine RL.N1 (RH.contM hS (by repeat (first | exact AllIn.nil | refine AllIn.cons (by repeat (first | with_reducible exact zS .. | exact zS .. | with_reducible apply zO)) ?_)) ?_)
    refine RH.only 4 rfl (by kernel_rfl) (fun _ => ?_)
    refine RL.ssM T_ok hS rfl rfl rfl rfl rfl (by rfl) (by rfl) (by with_reducible repeat (first | exact Rep.head | apply Rep.tail)) (by rfl) ?_; (try clear hS); intro m hS
    refine RL.N1 (RH.contM hS (by repeat (first | exact AllIn.nil | refine AllIn.cons (by repeat (first | with_reducible exact zS .. | exact zS .. | with_reducible apply zO)) ?_)) ?_)
    refine RH.pure T_ok hQ [5] (by kernel_rfl) rfl ?_
    refine RH.done (by kernel_rfl) (fun _ => ?_)
    (with_reducible repeat (first | refine QN.B1 ?_ | refine QN.N1 ?_))
    refine WP.ret ?_; (with_reducible repeat (first | refine QN.tr ?_ | refine QN.br ?_))
    refine QN.retCT T_ok hS rfl rfl rfl rfl (by repeat (first | exact zS .. | with_reducible apply zO)) ⟨_, rfl, _, ⟨(.slice none 0 0), (.slice none 0 0), (.slice none 0 0), congrArg (fun q => Value.tuple #[_, .bool q]) (by show _ = Msg.right txt ⟨6, c, n, room, vec, turns, b⟩; unfold Msg.right; dsimp only; rw [if_neg (by decide), if_neg (by decide), if_neg (by decide), if_neg (by decide), if_neg (by decide), if_pos rfl]), rfl⟩, ?_⟩
    have hS := ((hS.nilRo 2 (by omega)).nilRo 4 (by omega)).nilRo 1 (by omega)
    exact hS.ros (L := [roA 2 (.slice none 0 0) [], roA 4 (.slice none 0 0) [], roA 1 (.slice none 0 0) []]) (by repeat (first | exact AllIn.nil | refine AllIn.cons (by repeat (first | with_reducible exact zS .. | exact zS .. | with_reducible apply zO)) ?_)) rfl
  by_cases k5 : K = 5
  · subst k5
    repeat (first | refine RL.autoP T_ok rfl rfl ?_ | refine RL.loadM T_ok hS rfl rfl rfl (by with_reducible repeat (first | exact zS .. | apply zO)) (by rfl) (by rfl) ?_ | refine RL.lsM T_ok hS rfl rfl rfl (by with_reducible repeat (first | exact zS .. | apply zO)) (by rfl) (by rfl) (by rfl) ?_ | (refine RL.N1 ?_; (with_reducible repeat (first | refine QN.B1 ?_ | refine QN.N1 ?_))) | with_reducible refine WP.S1 ?_ | with_reducible refine WP.B1 ?_ | with_reducible refine WP.R1 ?_ | (refine WP.skip ?_; (with_reducible repeat (first | refine QN.B1 ?_ | refine QN.N1 ?_))) | refine WP.condT rfl ?_ | refine WP.condF rfl ?_)
    refine RL.storeM T_ok hS rfl rfl rfl rfl (by rfl) (by rfl) (by with_reducible repeat (first | exact Rep.head | apply Rep.tail)) (by rfl) ?_; (try clear hS); intro m hS
    repeat (first | refine RL.autoP T_ok rfl rfl ?_ | refine RL.loadM T_ok hS rfl rfl rfl (by with_reducible repeat (first | exact zS .. | apply zO)) (by rfl) (by rfl) ?_ | refine RL.lsM T_ok hS rfl rfl rfl (by with_reducible repeat (first | exact zS .. | apply zO)) (by rfl) (by rfl) (by rfl) ?_ | (refine RL.N1 ?_; (with_reducible repeat (first | refine QN.B1 ?_ | refine QN.N1 ?_))) | with_reducible refine WP.S1 ?_ | with_reducible refine WP.B1 ?_ | with_reducible refine WP.R1 ?_ | (refine WP.skip ?_; (with_reducible repeat (first | refine QN.B1 ?_ | refine QN.N1 ?_))) | refine WP.condT rfl ?_ | refine WP.condF rfl ?_)
    refine WP.drawS [blkA b1 27 [.int .i64 5, .int .u64 c, .int .u64 n, .string (str room), (.slice vA vec.length vc), (.slice tA turns.length tc), .slice bA b.length bc], blkA b4 27 [.int .i64 5, .int .u64 0, .int .u64 0, .string (str []), .slice none 0 0, .slice none 0 0, (.slice bA b.length bc)]] [] hS (by repeat (first | exact AllIn.nil | refine AllIn.cons (by repeat (first | with_reducible exact zS .. | exact zS .. | with_reducible apply zO)) ?_)) (by kernel_rfl) (by with_reducible repeat (first | exact PanicOk.body | refine PanicOk.then_ ?_ | refine PanicOk.block_ ?_)) (fun hQ => ?_)
    refine RH.loadSegM T_ok hQ 0 rfl (by kernel_rfl) rfl rfl rfl (by with_reducible repeat (first | exact zS .. | apply zO)) (by rfl) (by rfl) (by rfl) ?_
    refine RH.pure T_ok hQ [1] (by kernel_rfl) rfl ?_
    refine RH.loadM T_ok hQ 2 rfl (by kernel_rfl) rfl rfl rfl (by with_reducible repeat (first | exact zS .. | apply zO)) (by rfl) (by rfl) ?_
    refine RH.pure T_ok hQ [3, 4] (by kernel_rfl) rfl ?_
    refine RH.only 5 rfl (by kernel_rfl) (fun _ => ?_)
    refine RL.ssM T_ok hS rfl rfl rfl rfl rfl (by rfl) (by rfl) (by with_reducible repeat (first | exact Rep.head | apply Rep.tail)) (by rfl) ?_; (try clear hS); intro m hS
    refine RL.N1 (RH.contM hS (by repeat (first | exact AllIn.nil | refine AllIn.cons (by repeat (first | with_reducible exact zS .. | exact zS .. | with_reducible apply zO)) ?_)) ?_)
    refine RH.pure T_ok hQ [6] (by kernel_rfl) rfl ?_
    refine RH.done (by kernel_rfl) (fun _ => ?_)
    (with_reducible repeat (first | refine QN.B1 ?_ | refine QN.N1 ?_))
    refine WP.ret ?_; (with_reducible repeat (first | refine QN.tr ?_ | refine QN.br ?_))
    refine QN.retCT T_ok hS rfl rfl rfl rfl (by repeat (first | exact zS .. | with_reducible apply zO)) ⟨_, rfl, _, ⟨(.slice none 0 0), (.slice none 0 0), (.slice bA b.length bc), congrArg (fun q => Value.tuple #[_, .bool q]) (by show _ = Msg.right txt ⟨5, c, n, room, vec, turns, b⟩; unfold Msg.right; dsimp only; rw [if_neg (by decide), if_neg (by decide), if_neg (by decide), if_neg (by decide), if_pos rfl]; exact decide_eq_decide.2 (by omega)), rfl⟩, ?_⟩
    have hS := ((hS.nilRo 2 (by omega)).nilRo 4 (by omega)).nilRo 1 (by omega)
    exact hS.ros (L := [roA 2 (.slice none 0 0) [], roA 4 (.slice none 0 0) [], roA 1 (.slice bA b.length bc) (u8s b)]) (by repeat (first | exact AllIn.nil | refine AllIn.cons (by repeat (first | with_reducible exact zS .. | exact zS .. | with_reducible apply zO)) ?_)) rfl
  have hbare : Msg.bare ⟨K, c, n, room, vec, turns, b⟩ = ⟨K, 0, 0, [], [], [], []⟩ := by unfold Msg.bare; simp only [if_neg k1, if_neg k2, if_neg k3, if_neg k4, if_neg k5, if_neg k6]
  simp only [BareP, hbare]
  refine WP.condF (congrArg (fun q => some (Value.bool q)) (beq_false_of_ne k1)) ?_
  repeat (first | refine RL.autoP T_ok rfl rfl ?_ | refine RL.loadM T_ok hS rfl rfl rfl (by with_reducible repeat (first | exact zS .. | apply zO)) (by rfl) (by rfl) ?_ | refine RL.lsM T_ok hS rfl rfl rfl (by with_reducible repeat (first | exact zS .. | apply zO)) (by rfl) (by rfl) (by rfl) ?_ | (refine RL.N1 ?_; (with_reducible repeat (first | refine QN.B1 ?_ | refine QN.N1 ?_))) | with_reducible refine WP.S1 ?_ | with_reducible refine WP.B1 ?_ | with_reducible refine WP.R1 ?_ | (refine WP.skip ?_; (with_reducible repeat (first | refine QN.B1 ?_ | refine QN.N1 ?_))) | refine WP.condT rfl ?_ | refine WP.condF rfl ?_)
  refine WP.condF (congrArg (fun q => some (Value.bool q)) (beq_false_of_ne k2)) ?_
  repeat (first | refine RL.autoP T_ok rfl rfl ?_ | refine RL.loadM T_ok hS rfl rfl rfl (by with_reducible repeat (first | exact zS .. | apply zO)) (by rfl) (by rfl) ?_ | refine RL.lsM T_ok hS rfl rfl rfl (by with_reducible repeat (first | exact zS .. | apply zO)) (by rfl) (by rfl) (by rfl) ?_ | (refine RL.N1 ?_; (with_reducible repeat (first | refine QN.B1 ?_ | refine QN.N1 ?_))) | with_reducible refine WP.S1 ?_ | with_reducible refine WP.B1 ?_ | with_reducible refine WP.R1 ?_ | (refine WP.skip ?_; (with_reducible repeat (first | refine QN.B1 ?_ | refine QN.N1 ?_))) | refine WP.condT rfl ?_ | refine WP.condF rfl ?_)
  refine WP.condF (congrArg (fun q => some (Value.bool q)) (beq_false_of_ne k3)) ?_
  repeat (first | refine RL.autoP T_ok rfl rfl ?_ | refine RL.loadM T_ok hS rfl rfl rfl (by with_reducible repeat (first | exact zS .. | apply zO)) (by rfl) (by rfl) ?_ | refine RL.lsM T_ok hS rfl rfl rfl (by with_reducible repeat (first | exact zS .. | apply zO)) (by rfl) (by rfl) (by rfl) ?_ | (refine RL.N1 ?_; (with_reducible repeat (first | refine QN.B1 ?_ | refine QN.N1 ?_))) | with_reducible refine WP.S1 ?_ | with_reducible refine WP.B1 ?_ | with_reducible refine WP.R1 ?_ | (refine WP.skip ?_; (with_reducible repeat (first | refine QN.B1 ?_ | refine QN.N1 ?_))) | refine WP.condT rfl ?_ | refine WP.condF rfl ?_)
  refine WP.condF (congrArg (fun q => some (Value.bool q)) (beq_false_of_ne k4)) ?_
  repeat (first | refine RL.autoP T_ok rfl rfl ?_ | refine RL.loadM T_ok hS rfl rfl rfl (by with_reducible repeat (first | exact zS .. | apply zO)) (by rfl) (by rfl) ?_ | refine RL.lsM T_ok hS rfl rfl rfl (by with_reducible repeat (first | exact zS .. | apply zO)) (by rfl) (by rfl) (by rfl) ?_ | (refine RL.N1 ?_; (with_reducible repeat (first | refine QN.B1 ?_ | refine QN.N1 ?_))) | with_reducible refine WP.S1 ?_ | with_reducible refine WP.B1 ?_ | with_reducible refine WP.R1 ?_ | (refine WP.skip ?_; (with_reducible repeat (first | refine QN.B1 ?_ | refine QN.N1 ?_))) | refine WP.condT rfl ?_ | refine WP.condF rfl ?_)
  refine WP.condF (congrArg (fun q => some (Value.bool q)) (beq_false_of_ne k6)) ?_
  repeat (first | refine RL.autoP T_ok rfl rfl ?_ | refine RL.loadM T_ok hS rfl rfl rfl (by with_reducible repeat (first | exact zS .. | apply zO)) (by rfl) (by rfl) ?_ | refine RL.lsM T_ok hS rfl rfl rfl (by with_reducible repeat (first | exact zS .. | apply zO)) (by rfl) (by rfl) (by rfl) ?_ | (refine RL.N1 ?_; (with_reducible repeat (first | refine QN.B1 ?_ | refine QN.N1 ?_))) | with_reducible refine WP.S1 ?_ | with_reducible refine WP.B1 ?_ | with_reducible refine WP.R1 ?_ | (refine WP.skip ?_; (with_reducible repeat (first | refine QN.B1 ?_ | refine QN.N1 ?_))) | refine WP.condT rfl ?_ | refine WP.condF rfl ?_)
  refine WP.condF (congrArg (fun q => some (Value.bool q)) (beq_false_of_ne k5)) ?_
  repeat (first | refine RL.autoP T_ok rfl rfl ?_ | refine RL.loadM T_ok hS rfl rfl rfl (by with_reducible repeat (first | exact zS .. | apply zO)) (by rfl) (by rfl) ?_ | refine RL.lsM T_ok hS rfl rfl rfl (by with_reducible repeat (first | exact zS .. | apply zO)) (by rfl) (by rfl) (by rfl) ?_ | (refine RL.N1 ?_; (with_reducible repeat (first | refine QN.B1 ?_ | refine QN.N1 ?_))) | with_reducible refine WP.S1 ?_ | with_reducible refine WP.B1 ?_ | with_reducible refine WP.R1 ?_ | (refine WP.skip ?_; (with_reducible repeat (first | refine QN.B1 ?_ | refine QN.N1 ?_))) | refine WP.condT rfl ?_ | refine WP.condF rfl ?_)
  repeat (first | refine RL.autoP T_ok rfl rfl ?_ | refine RL.loadM T_ok hS rfl rfl rfl (by with_reducible repeat (first | exact zS .. | apply zO)) (by rfl) (by rfl) ?_ | refine RL.lsM T_ok hS rfl rfl rfl (by with_reducible repeat (first | exact zS .. | apply zO)) (by rfl) (by rfl) (by rfl) ?_ | (refine RL.N1 ?_; (with_reducible repeat (first | refine QN.B1 ?_ | refine QN.N1 ?_))) | with_reducible refine WP.S1 ?_ | with_reducible refine WP.B1 ?_ | with_reducible refine WP.R1 ?_ | (refine WP.skip ?_; (with_reducible repeat (first | refine QN.B1 ?_ | refine QN.N1 ?_))) | refine WP.condT rfl ?_ | refine WP.condF rfl ?_)
  refine RL.ssM T_ok hS rfl rfl rfl rfl rfl (by rfl) (by rfl) (by with_reducible repeat (first | exact Rep.head | apply Rep.tail)) (by rfl) ?_; (try clear hS); intro m hS
  repeat (first | refine RL.autoP T_ok rfl rfl ?_ | refine RL.loadM T_ok hS rfl rfl rfl (by with_reducible repeat (first | exact zS .. | apply zO)) (by rfl) (by rfl) ?_ | refine RL.lsM T_ok hS rfl rfl rfl (by with_reducible repeat (first | exact zS .. | apply zO)) (by rfl) (by rfl) (by rfl) ?_ | (refine RL.N1 ?_; (with_reducible repeat (first | refine QN.B1 ?_ | refine QN.N1 ?_))) | with_reducible refine WP.S1 ?_ | with_reducible refine WP.B1 ?_ | with_reducible refine WP.R1 ?_ | (refine WP.skip ?_; (with_reducible repeat (first | refine QN.B1 ?_ | refine QN.N1 ?_))) | refine WP.condT rfl ?_ | refine WP.condF rfl ?_)
  refine WP.ret ?_; (with_reducible repeat (first | refine QN.tr ?_ | refine QN.br ?_))
  refine QN.retCT T_ok hS rfl rfl rfl rfl (by repeat (first | exact zS .. | with_reducible apply zO)) ⟨_, rfl, _, ⟨(.slice none 0 0), (.slice none 0 0), (.slice none 0 0), congrArg (fun q => Value.tuple #[_, .bool q]) (by show _ = Msg.right txt ⟨K, c, n, room, vec, turns, b⟩; unfold Msg.right; dsimp only; simp only [if_neg k1, if_neg k2, if_neg k3, if_neg k4, if_neg k5, if_neg k6]), rfl⟩, ?_⟩
  have hS := ((hS.nilRo 2 (by omega)).nilRo 4 (by omega)).nilRo 1 (by omega)
  exact hS.ros (L := [roA 2 (.slice none 0 0) [], roA 4 (.slice none 0 0) [], roA 1 (.slice none 0 0) []]) (by repeat (first | exact AllIn.nil | refine AllIn.cons (by repeat (first | with_reducible exact zS .. | exact zS .. | with_reducible apply zO)) ?_)) rfl
end Go.Proofs.YtmjpcaiehfimgaaGreatDoor
end
