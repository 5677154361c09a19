/- IdsAlgebra: the row. -/
import Derived.Test.YtkfakfbndnbpiaaRows
import Derived.Test.YtkfakfbndnbpiaaIdsO
import Derived.Test.YtkfakfbndnbpiaaIdsD
import Derived.Test.YtkfakfbndnbpiaaIdsR
import Derived.Carry
namespace Go.Proofs.Ytkfakfbndnbpiaa
open Go.ChangeShapes Go.WideShapes Go.ChangeAt Go.RowKit Go.Ev Go.Ids

theorem join_le {a b : List Rng} {p q : Nat} (ha : a.length ≤ p) (hb : b.length ≤ q) : (join a b).length ≤ p + q := Nat.le_trans (join_len a b) (Nat.add_le_add ha hb)
theorem meet_le {a b : List Rng} {p q : Nat} (ha : a.length ≤ p) (hb : b.length ≤ q) : (meet a b).length ≤ p * q := Nat.le_trans (meet_len a b) (Nat.mul_le_mul ha hb)
theorem minus_le {a b : List Rng} {p q : Nat} (ha : a.length ≤ p) (hb : b.length ≤ q) : (minus a b).length ≤ p * (q + 1) := Nat.le_trans (minus_len a b) (Nat.mul_le_mul ha (Nat.succ_le_succ hb))
theorem join_n (m : World) (v u : Value) {a b : List Rng} (h : Rs m [] v a) (h' : Rs m [] u b) {p q : Nat} (ha : a.length ≤ p) (hb : b.length ≤ q) (hpq : p + q < 100000000) : FnR Try.prog 37 [v, u] m fun r m' => Made m r (join a b) m' := join_c m v u a b h h' (by omega)
theorem meet_n (m : World) (v u : Value) {a b : List Rng} (h : Rs m [] v a) (h' : Rs m [] u b) {p q : Nat} (ha : a.length ≤ p) (hb : b.length ≤ q) (hpq : p < 500000000 ∧ q < 500000000 ∧ p * q < 100000000) : FnR Try.prog 38 [v, u] m fun r m' => Made m r (meet a b) m' :=
  meet_c m v u a b h h' (by omega) (by omega) (Nat.lt_of_le_of_lt (Nat.mul_le_mul ha hb) hpq.2.2)
theorem minus_n (m : World) (v u : Value) {a b : List Rng} (h : Rs m [] v a) (h' : Rs m [] u b) {p q : Nat} (ha : a.length ≤ p) (hb : b.length ≤ q) (hpq : p < 500000000 ∧ q < 500000000 ∧ p * (q + 1) < 100000000) : FnR Try.prog 39 [v, u] m fun r m' => Made m r (minus a b) m' :=
  minus_c m v u a b h h' (by omega) (by omega) (Nat.lt_of_le_of_lt (Nat.mul_le_mul ha (Nat.succ_le_succ hb)) hpq.2.2)
theorem clean_n (m : World) (v : Value) {a : List Rng} (h : Rs m [] v a) (ha : a.length < 500000000) : FnR Try.prog 25 [v] m fun r m' => Made m r (clean a) m' := clean_c m v a h ha
theorem alg1 (a b : List Rng) : join a b = join b a := canon_unique (join_canon _ _) (join_canon _ _) fun c k => by rw [join_mem, join_mem]; exact or_comm
theorem alg2 (a b : List Rng) : meet a b = meet b a := canon_unique (meet_canon _ _) (meet_canon _ _) fun c k => by rw [meet_mem, meet_mem]; exact and_comm
theorem alg3 (a b c : List Rng) : join (join a b) c = join a (join b c) := canon_unique (join_canon _ _) (join_canon _ _) fun c k => by rw [join_mem, join_mem, join_mem, join_mem]; exact or_assoc
theorem alg4 (a b c : List Rng) : meet (meet a b) c = meet a (meet b c) := canon_unique (meet_canon _ _) (meet_canon _ _) fun c k => by rw [meet_mem, meet_mem, meet_mem, meet_mem]; exact and_assoc
theorem alg5 (a b : List Rng) : join (minus a b) (meet a b) = clean a := canon_unique (join_canon _ _) (clean_canon _) fun c k => by
  rw [join_mem, minus_mem, meet_mem, clean_mem]
  by_cases hb : mem b c k
  · exact ⟨fun h => h.elim (·.1) (·.1), fun h => .inr ⟨h, hb⟩⟩
  · exact ⟨fun h => h.elim (·.1) (·.1), fun h => .inl ⟨h, hb⟩⟩
theorem alg6 (a b : List Rng) : meet (minus a b) b = [] := canon_unique (meet_canon _ _) Canon.nil fun c k => by
  rw [meet_mem, minus_mem]
  exact ⟨fun h => absurd h.2 h.1.2, fun h => absurd h mem_nil⟩
theorem alg7 (a b c : List Rng) : minus a (join b c) = minus (minus a b) c := canon_unique (minus_canon _ _) (minus_canon _ _) fun c k => by
  rw [minus_mem, minus_mem, minus_mem, join_mem, not_or, and_assoc]
theorem alg8 (a b c : List Rng) : meet a (join b c) = join (meet a b) (meet a c) := canon_unique (meet_canon _ _) (join_canon _ _) fun c k => by
  rw [meet_mem, join_mem, join_mem, meet_mem, meet_mem, and_or_left]
theorem part_cnt (a b : List Rng) : cnt (minus a b) + cnt (meet a b) = cnt (clean a) := by
  show Go.Ids.cnt _ + Go.Ids.cnt _ = Go.Ids.cnt _
  rw [cnt_many _ (minus_canon a b), cnt_many _ (meet_canon a b), cnt_many _ (clean_canon a)]
  refine (many_or (fun c k => ?_) (fun c k h => ?_)).symm
  · rw [← alg5 a b, join_mem]
  · rw [minus_mem, meet_mem] at h
    exact h.1.2 h.2.2
theorem sum_cnt (a b : List Rng) : cnt (join a b) = cnt (minus a b) + cnt (minus b a) + cnt (meet a b) := by
  have h1 := part_cnt a b
  have h2 : cnt (join a b) = cnt (clean a) + cnt (minus b a) := by
    show Go.Ids.cnt _ = Go.Ids.cnt _ + Go.Ids.cnt _
    rw [cnt_many _ (join_canon a b), cnt_many _ (clean_canon a), cnt_many _ (minus_canon b a)]
    refine many_or (fun c k => ?_) (fun c k h => ?_)
    · rw [join_mem, clean_mem, minus_mem]
      by_cases ha : mem a c k
      · exact ⟨fun _ => .inl ha, fun _ => .inl ha⟩
      · exact ⟨fun h => h.elim .inl fun h => .inr ⟨h, ha⟩, fun h => h.elim .inl fun h => .inr h.1⟩
    · rw [clean_mem, minus_mem] at h
      exact h.2.2 h.1
  omega
theorem cnt_small (l : List Rng) (h : Canon l) (n : Nat) (hl : l.length ≤ n) : cnt l ≤ n * 9007199254740992 := Nat.le_trans (cnt_le l h.1) (Nat.mul_le_mul_right _ hl)
theorem idsalgebra_c (m : World) (v u w : Value) (a b c : List Rng) (ha : Rs m [] v a) (hb : Rs m [] u b) (hc : Rs m [] w c) : FnR Try.prog 10 [v, u, w] m fun r m' => r = .bool true ∧ Ext m [] m' := by
  refine FnE.enter ⟨_, Try.func10, by kernel_rfl, by kernel_rfl⟩ Try.func10 rfl rfl ?_
  repeat (first | with_reducible refine WP.seq ?_ | with_reducible refine WP.block ?_ | with_reducible refine WP.region ?_)
  refine RL.auto T_ok rfl ?_
  refine RL.nil ?_; repeat (first | with_reducible refine QN.block_normal ?_ | with_reducible refine QN.next ?_); repeat (first | with_reducible refine WP.seq ?_ | with_reducible refine WP.block ?_ | with_reducible refine WP.region ?_)
  refine RL.call (fi := []) (ca := []) rfl rfl rfl rfl (known_c m) ?_
  rintro _ m2 ⟨rfl, hEm⟩
  refine ⟨_, rfl, ?_⟩
  replace ha := ha.ext0 hEm
  replace hb := hb.ext0 hEm
  replace hc := hc.ext0 hEm
  refine RL.auto T_ok rfl ?_
  refine RL.nil ?_; repeat (first | with_reducible refine QN.block_normal ?_ | with_reducible refine QN.next ?_); repeat (first | with_reducible refine WP.seq ?_ | with_reducible refine WP.block ?_ | with_reducible refine WP.region ?_)
  refine WP.condF rfl ?_
  refine WP.skip ?_; repeat (first | with_reducible refine QN.block_normal ?_ | with_reducible refine QN.next ?_); repeat (first | with_reducible refine WP.seq ?_ | with_reducible refine WP.block ?_ | with_reducible refine WP.region ?_)
  refine RL.auto T_ok rfl ?_
  refine RL.call (fi := []) (ca := []) rfl rfl rfl rfl (ilight_c m2 _ a ha) ?_
  rintro _ m3 ⟨rfl, hm3⟩
  subst hm3
  refine ⟨_, rfl, ?_⟩
  by_cases La : a.length ≤ 60
  rotate_left
  · refine RL.eqv (v' := .bool false) (congrArg _ (decide_eq_false La)) ?_
    refine RL.auto T_ok rfl ?_
    refine RL.nil ?_; repeat (first | with_reducible refine QN.block_normal ?_ | with_reducible refine QN.next ?_); repeat (first | with_reducible refine WP.seq ?_ | with_reducible refine WP.block ?_ | with_reducible refine WP.region ?_)
    refine WP.condT rfl ?_
    repeat (first | with_reducible refine WP.seq ?_ | with_reducible refine WP.block ?_ | with_reducible refine WP.region ?_)
    refine RL.auto T_ok rfl ?_
    refine RL.nil ?_; repeat (first | with_reducible refine QN.block_normal ?_ | with_reducible refine QN.next ?_); repeat (first | with_reducible refine WP.seq ?_ | with_reducible refine WP.block ?_ | with_reducible refine WP.region ?_)
    refine WP.ret ?_; repeat (first | with_reducible refine QN.then_ret ?_ | with_reducible refine QN.block_ret ?_)
    exact QN.ret1 rfl rfl ⟨_, rfl, rfl, hEm⟩
  refine RL.eqv (v' := .bool true) (congrArg _ (decide_eq_true La)) ?_
  refine RL.auto T_ok rfl ?_
  refine RL.call (fi := []) (ca := []) rfl rfl rfl rfl (ilight_c m3 _ b hb) ?_
  rintro _ m4 ⟨rfl, hm4⟩
  subst hm4
  refine ⟨_, rfl, ?_⟩
  by_cases Lb : b.length ≤ 60
  rotate_left
  · refine RL.eqv (v' := .bool false) (congrArg _ (decide_eq_false Lb)) ?_
    refine RL.auto T_ok rfl ?_
    refine RL.nil ?_; repeat (first | with_reducible refine QN.block_normal ?_ | with_reducible refine QN.next ?_); repeat (first | with_reducible refine WP.seq ?_ | with_reducible refine WP.block ?_ | with_reducible refine WP.region ?_)
    refine WP.condT rfl ?_
    repeat (first | with_reducible refine WP.seq ?_ | with_reducible refine WP.block ?_ | with_reducible refine WP.region ?_)
    refine RL.auto T_ok rfl ?_
    refine RL.nil ?_; repeat (first | with_reducible refine QN.block_normal ?_ | with_reducible refine QN.next ?_); repeat (first | with_reducible refine WP.seq ?_ | with_reducible refine WP.block ?_ | with_reducible refine WP.region ?_)
    refine WP.ret ?_; repeat (first | with_reducible refine QN.then_ret ?_ | with_reducible refine QN.block_ret ?_)
    exact QN.ret1 rfl rfl ⟨_, rfl, rfl, hEm⟩
  refine RL.eqv (v' := .bool true) (congrArg _ (decide_eq_true Lb)) ?_
  refine RL.auto T_ok rfl ?_
  refine RL.call (fi := []) (ca := []) rfl rfl rfl rfl (ilight_c m4 _ c hc) ?_
  rintro _ m5 ⟨rfl, hm5⟩
  subst hm5
  refine ⟨_, rfl, ?_⟩
  by_cases Lc : c.length ≤ 60
  rotate_left
  · refine RL.eqv (v' := .bool false) (congrArg _ (decide_eq_false Lc)) ?_
    refine RL.auto T_ok rfl ?_
    refine RL.nil ?_; repeat (first | with_reducible refine QN.block_normal ?_ | with_reducible refine QN.next ?_); repeat (first | with_reducible refine WP.seq ?_ | with_reducible refine WP.block ?_ | with_reducible refine WP.region ?_)
    refine WP.condT rfl ?_
    repeat (first | with_reducible refine WP.seq ?_ | with_reducible refine WP.block ?_ | with_reducible refine WP.region ?_)
    refine RL.auto T_ok rfl ?_
    refine RL.nil ?_; repeat (first | with_reducible refine QN.block_normal ?_ | with_reducible refine QN.next ?_); repeat (first | with_reducible refine WP.seq ?_ | with_reducible refine WP.block ?_ | with_reducible refine WP.region ?_)
    refine WP.ret ?_; repeat (first | with_reducible refine QN.then_ret ?_ | with_reducible refine QN.block_ret ?_)
    exact QN.ret1 rfl rfl ⟨_, rfl, rfl, hEm⟩
  refine RL.eqv (v' := .bool true) (congrArg _ (decide_eq_true Lc)) ?_
  refine RL.auto T_ok rfl ?_
  refine RL.nil ?_; repeat (first | with_reducible refine QN.block_normal ?_ | with_reducible refine QN.next ?_); repeat (first | with_reducible refine WP.seq ?_ | with_reducible refine WP.block ?_ | with_reducible refine WP.region ?_)
  refine WP.condF rfl ?_
  refine WP.skip ?_; repeat (first | with_reducible refine QN.block_normal ?_ | with_reducible refine QN.next ?_); repeat (first | with_reducible refine WP.seq ?_ | with_reducible refine WP.block ?_ | with_reducible refine WP.region ?_)
  refine RL.auto T_ok rfl ?_
  refine RL.nil ?_; repeat (first | with_reducible refine QN.block_normal ?_ | with_reducible refine QN.next ?_); repeat (first | with_reducible refine WP.seq ?_ | with_reducible refine WP.block ?_ | with_reducible refine WP.region ?_)
  refine RL.auto T_ok rfl ?_
  refine RL.call (fi := []) (ca := []) rfl rfl rfl rfl (join_n m5 _ _ ha hb La Lb (by decide)) ?_
  rintro w1 q1 hM1
  refine ⟨_, rfl, ?_⟩
  have hF1 := hM1.ext
  replace ha := ha.ext0 hF1
  replace hb := hb.ext0 hF1
  replace hc := hc.ext0 hF1
  replace hEm := hEm.trans hF1 (by simp)
  have hR1 := hM1.rs
  refine RL.auto T_ok rfl ?_
  refine RL.call (fi := []) (ca := []) rfl rfl rfl rfl (meet_n q1 _ _ ha hb La Lb (by decide)) ?_
  rintro w2 q2 hM2
  refine ⟨_, rfl, ?_⟩
  have hF2 := hM2.ext
  replace ha := ha.ext0 hF2
  replace hb := hb.ext0 hF2
  replace hc := hc.ext0 hF2
  replace hR1 := hR1.ext0 hF2
  replace hEm := hEm.trans hF2 (by simp)
  have hR2 := hM2.rs
  refine RL.auto T_ok rfl ?_
  refine RL.nil ?_; repeat (first | with_reducible refine QN.block_normal ?_ | with_reducible refine QN.next ?_); repeat (first | with_reducible refine WP.seq ?_ | with_reducible refine WP.block ?_ | with_reducible refine WP.region ?_)
  refine RL.auto T_ok rfl ?_
  refine RL.call (fi := []) (ca := []) rfl rfl rfl rfl (join_n q2 _ _ hb ha Lb La (by decide)) ?_
  rintro w3 q3 hM3
  refine ⟨_, rfl, ?_⟩
  have hF3 := hM3.ext
  replace ha := ha.ext0 hF3
  replace hb := hb.ext0 hF3
  replace hc := hc.ext0 hF3
  replace hR1 := hR1.ext0 hF3
  replace hR2 := hR2.ext0 hF3
  replace hEm := hEm.trans hF3 (by simp)
  have hR3 := hM3.rs
  refine RL.auto T_ok rfl ?_
  refine RL.call (fi := []) (ca := []) rfl rfl rfl rfl (ranges_c q3 _ _ _ _ hR1 hR3 (Nat.lt_of_le_of_lt (join_le La Lb) (by decide))) ?_
  rintro _ q4 ⟨rfl, hq4⟩
  subst hq4
  refine ⟨_, rfl, ?_⟩
  refine RL.eqv (v' := .bool true) (congrArg _ (decide_eq_true (alg1 a b))) ?_
  refine RL.auto T_ok rfl ?_
  refine RL.call (fi := []) (ca := []) rfl rfl rfl rfl (meet_n q4 _ _ hb ha Lb La (by decide)) ?_
  rintro w5 q5 hM5
  refine ⟨_, rfl, ?_⟩
  have hF5 := hM5.ext
  replace ha := ha.ext0 hF5
  replace hb := hb.ext0 hF5
  replace hc := hc.ext0 hF5
  replace hR1 := hR1.ext0 hF5
  replace hR2 := hR2.ext0 hF5
  replace hEm := hEm.trans hF5 (by simp)
  have hR5 := hM5.rs
  refine RL.auto T_ok rfl ?_
  refine RL.call (fi := []) (ca := []) rfl rfl rfl rfl (ranges_c q5 _ _ _ _ hR2 hR5 (Nat.lt_of_le_of_lt (meet_le La Lb) (by decide))) ?_
  rintro _ q6 ⟨rfl, hq6⟩
  subst hq6
  refine ⟨_, rfl, ?_⟩
  refine RL.eqv (v' := .bool true) (congrArg _ (decide_eq_true (alg2 a b))) ?_
  refine RL.auto T_ok rfl ?_
  refine RL.call (fi := []) (ca := []) rfl rfl rfl rfl (join_n q6 _ _ hR1 hc (join_le La Lb) Lc (by decide)) ?_
  rintro w7 q7 hM7
  refine ⟨_, rfl, ?_⟩
  have hF7 := hM7.ext
  replace ha := ha.ext0 hF7
  replace hb := hb.ext0 hF7
  replace hc := hc.ext0 hF7
  replace hR1 := hR1.ext0 hF7
  replace hR2 := hR2.ext0 hF7
  replace hEm := hEm.trans hF7 (by simp)
  have hR7 := hM7.rs
  refine RL.auto T_ok rfl ?_
  refine RL.call (fi := []) (ca := []) rfl rfl rfl rfl (join_n q7 _ _ hb hc Lb Lc (by decide)) ?_
  rintro w8 q8 hM8
  refine ⟨_, rfl, ?_⟩
  have hF8 := hM8.ext
  replace ha := ha.ext0 hF8
  replace hb := hb.ext0 hF8
  replace hc := hc.ext0 hF8
  replace hR1 := hR1.ext0 hF8
  replace hR2 := hR2.ext0 hF8
  replace hR7 := hR7.ext0 hF8
  replace hEm := hEm.trans hF8 (by simp)
  have hR8 := hM8.rs
  refine RL.auto T_ok rfl ?_
  refine RL.call (fi := []) (ca := []) rfl rfl rfl rfl (join_n q8 _ _ ha hR8 La (join_le Lb Lc) (by decide)) ?_
  rintro w9 q9 hM9
  refine ⟨_, rfl, ?_⟩
  have hF9 := hM9.ext
  replace ha := ha.ext0 hF9
  replace hb := hb.ext0 hF9
  replace hc := hc.ext0 hF9
  replace hR1 := hR1.ext0 hF9
  replace hR2 := hR2.ext0 hF9
  replace hR7 := hR7.ext0 hF9
  replace hR8 := hR8.ext0 hF9
  replace hEm := hEm.trans hF9 (by simp)
  have hR9 := hM9.rs
  refine RL.auto T_ok rfl ?_
  refine RL.call (fi := []) (ca := []) rfl rfl rfl rfl (ranges_c q9 _ _ _ _ hR7 hR9 (Nat.lt_of_le_of_lt (join_le (join_le La Lb) Lc) (by decide))) ?_
  rintro _ q10 ⟨rfl, hq10⟩
  subst hq10
  refine ⟨_, rfl, ?_⟩
  refine RL.eqv (v' := .bool true) (congrArg _ (decide_eq_true (alg3 a b c))) ?_
  refine RL.auto T_ok rfl ?_
  refine RL.call (fi := []) (ca := []) rfl rfl rfl rfl (meet_n q10 _ _ hR2 hc (meet_le La Lb) Lc (by decide)) ?_
  rintro w11 q11 hM11
  refine ⟨_, rfl, ?_⟩
  have hF11 := hM11.ext
  replace ha := ha.ext0 hF11
  replace hb := hb.ext0 hF11
  replace hc := hc.ext0 hF11
  replace hR1 := hR1.ext0 hF11
  replace hR2 := hR2.ext0 hF11
  replace hEm := hEm.trans hF11 (by simp)
  have hR11 := hM11.rs
  refine RL.auto T_ok rfl ?_
  refine RL.call (fi := []) (ca := []) rfl rfl rfl rfl (meet_n q11 _ _ hb hc Lb Lc (by decide)) ?_
  rintro w12 q12 hM12
  refine ⟨_, rfl, ?_⟩
  have hF12 := hM12.ext
  replace ha := ha.ext0 hF12
  replace hb := hb.ext0 hF12
  replace hc := hc.ext0 hF12
  replace hR1 := hR1.ext0 hF12
  replace hR2 := hR2.ext0 hF12
  replace hR11 := hR11.ext0 hF12
  replace hEm := hEm.trans hF12 (by simp)
  have hR12 := hM12.rs
  refine RL.auto T_ok rfl ?_
  refine RL.call (fi := []) (ca := []) rfl rfl rfl rfl (meet_n q12 _ _ ha hR12 La (meet_le Lb Lc) (by decide)) ?_
  rintro w13 q13 hM13
  refine ⟨_, rfl, ?_⟩
  have hF13 := hM13.ext
  replace ha := ha.ext0 hF13
  replace hb := hb.ext0 hF13
  replace hc := hc.ext0 hF13
  replace hR1 := hR1.ext0 hF13
  replace hR2 := hR2.ext0 hF13
  replace hR11 := hR11.ext0 hF13
  replace hR12 := hR12.ext0 hF13
  replace hEm := hEm.trans hF13 (by simp)
  have hR13 := hM13.rs
  refine RL.auto T_ok rfl ?_
  refine RL.call (fi := []) (ca := []) rfl rfl rfl rfl (ranges_c q13 _ _ _ _ hR11 hR13 (Nat.lt_of_le_of_lt (meet_le (meet_le La Lb) Lc) (by decide))) ?_
  rintro _ q14 ⟨rfl, hq14⟩
  subst hq14
  refine ⟨_, rfl, ?_⟩
  refine RL.eqv (v' := .bool true) (congrArg _ (decide_eq_true (alg4 a b c))) ?_
  refine RL.auto T_ok rfl ?_
  refine RL.nil ?_; repeat (first | with_reducible refine QN.block_normal ?_ | with_reducible refine QN.next ?_); repeat (first | with_reducible refine WP.seq ?_ | with_reducible refine WP.block ?_ | with_reducible refine WP.region ?_)
  refine WP.condF rfl ?_
  refine WP.skip ?_; repeat (first | with_reducible refine QN.block_normal ?_ | with_reducible refine QN.next ?_); repeat (first | with_reducible refine WP.seq ?_ | with_reducible refine WP.block ?_ | with_reducible refine WP.region ?_)
  refine RL.auto T_ok rfl ?_
  refine RL.call (fi := []) (ca := []) rfl rfl rfl rfl (minus_n q14 _ _ ha hb La Lb (by decide)) ?_
  rintro w15 q15 hM15
  refine ⟨_, rfl, ?_⟩
  have hF15 := hM15.ext
  replace ha := ha.ext0 hF15
  replace hb := hb.ext0 hF15
  replace hc := hc.ext0 hF15
  replace hR1 := hR1.ext0 hF15
  replace hR2 := hR2.ext0 hF15
  replace hEm := hEm.trans hF15 (by simp)
  have hR15 := hM15.rs
  refine RL.auto T_ok rfl ?_
  refine RL.call (fi := []) (ca := []) rfl rfl rfl rfl (join_n q15 _ _ hR15 hR2 (minus_le La Lb) (meet_le La Lb) (by decide)) ?_
  rintro w16 q16 hM16
  refine ⟨_, rfl, ?_⟩
  have hF16 := hM16.ext
  replace ha := ha.ext0 hF16
  replace hb := hb.ext0 hF16
  replace hc := hc.ext0 hF16
  replace hR1 := hR1.ext0 hF16
  replace hR2 := hR2.ext0 hF16
  replace hR15 := hR15.ext0 hF16
  replace hEm := hEm.trans hF16 (by simp)
  have hR16 := hM16.rs
  refine RL.auto T_ok rfl ?_
  refine RL.call (fi := []) (ca := []) rfl rfl rfl rfl (clean_n q16 _ ha (by omega)) ?_
  rintro w17 q17 hM17
  refine ⟨_, rfl, ?_⟩
  have hF17 := hM17.ext
  replace ha := ha.ext0 hF17
  replace hb := hb.ext0 hF17
  replace hc := hc.ext0 hF17
  replace hR1 := hR1.ext0 hF17
  replace hR2 := hR2.ext0 hF17
  replace hR15 := hR15.ext0 hF17
  replace hR16 := hR16.ext0 hF17
  replace hEm := hEm.trans hF17 (by simp)
  have hR17 := hM17.rs
  refine RL.auto T_ok rfl ?_
  refine RL.call (fi := []) (ca := []) rfl rfl rfl rfl (ranges_c q17 _ _ _ _ hR16 hR17 (Nat.lt_of_le_of_lt (join_le (minus_le La Lb) (meet_le La Lb)) (by decide))) ?_
  rintro _ q18 ⟨rfl, hq18⟩
  subst hq18
  refine ⟨_, rfl, ?_⟩
  refine RL.eqv (v' := .bool true) (congrArg _ (decide_eq_true (alg5 a b))) ?_
  refine RL.auto T_ok rfl ?_
  refine RL.call (fi := []) (ca := []) rfl rfl rfl rfl (minus_n q18 _ _ ha hb La Lb (by decide)) ?_
  rintro w19 q19 hM19
  refine ⟨_, rfl, ?_⟩
  have hF19 := hM19.ext
  replace ha := ha.ext0 hF19
  replace hb := hb.ext0 hF19
  replace hc := hc.ext0 hF19
  replace hR1 := hR1.ext0 hF19
  replace hR2 := hR2.ext0 hF19
  replace hEm := hEm.trans hF19 (by simp)
  have hR19 := hM19.rs
  refine RL.auto T_ok rfl ?_
  refine RL.call (fi := []) (ca := []) rfl rfl rfl rfl (meet_n q19 _ _ hR19 hb (minus_le La Lb) Lb (by decide)) ?_
  rintro w20 q20 hM20
  refine ⟨_, rfl, ?_⟩
  have hF20 := hM20.ext
  replace ha := ha.ext0 hF20
  replace hb := hb.ext0 hF20
  replace hc := hc.ext0 hF20
  replace hR1 := hR1.ext0 hF20
  replace hR2 := hR2.ext0 hF20
  replace hR19 := hR19.ext0 hF20
  replace hEm := hEm.trans hF20 (by simp)
  have hR20 := hM20.rs
  have z20 : (meet (minus a b) b).length = 0 := by rw [alg6]; rfl
  obtain ⟨Az, cz, hvz, _, _⟩ := hR20.shape
  refine RL.eqv hvz ?_
  refine RL.pure T_ok 1 rfl ?_
  rw [z20]
  refine RL.pure T_ok 1 rfl ?_
  refine RL.eqv (v' := .bool false) rfl ?_
  refine RL.auto T_ok rfl ?_
  refine RL.call (fi := []) (ca := []) rfl rfl rfl rfl (join_n q20 _ _ hb hc Lb Lc (by decide)) ?_
  rintro w21 q21 hM21
  refine ⟨_, rfl, ?_⟩
  have hF21 := hM21.ext
  replace ha := ha.ext0 hF21
  replace hb := hb.ext0 hF21
  replace hc := hc.ext0 hF21
  replace hR1 := hR1.ext0 hF21
  replace hR2 := hR2.ext0 hF21
  replace hEm := hEm.trans hF21 (by simp)
  have hR21 := hM21.rs
  refine RL.auto T_ok rfl ?_
  refine RL.call (fi := []) (ca := []) rfl rfl rfl rfl (minus_n q21 _ _ ha hR21 La (join_le Lb Lc) (by decide)) ?_
  rintro w22 q22 hM22
  refine ⟨_, rfl, ?_⟩
  have hF22 := hM22.ext
  replace ha := ha.ext0 hF22
  replace hb := hb.ext0 hF22
  replace hc := hc.ext0 hF22
  replace hR1 := hR1.ext0 hF22
  replace hR2 := hR2.ext0 hF22
  replace hR21 := hR21.ext0 hF22
  replace hEm := hEm.trans hF22 (by simp)
  have hR22 := hM22.rs
  refine RL.auto T_ok rfl ?_
  refine RL.call (fi := []) (ca := []) rfl rfl rfl rfl (minus_n q22 _ _ ha hb La Lb (by decide)) ?_
  rintro w23 q23 hM23
  refine ⟨_, rfl, ?_⟩
  have hF23 := hM23.ext
  replace ha := ha.ext0 hF23
  replace hb := hb.ext0 hF23
  replace hc := hc.ext0 hF23
  replace hR1 := hR1.ext0 hF23
  replace hR2 := hR2.ext0 hF23
  replace hR21 := hR21.ext0 hF23
  replace hR22 := hR22.ext0 hF23
  replace hEm := hEm.trans hF23 (by simp)
  have hR23 := hM23.rs
  refine RL.auto T_ok rfl ?_
  refine RL.call (fi := []) (ca := []) rfl rfl rfl rfl (minus_n q23 _ _ hR23 hc (minus_le La Lb) Lc (by decide)) ?_
  rintro w24 q24 hM24
  refine ⟨_, rfl, ?_⟩
  have hF24 := hM24.ext
  replace ha := ha.ext0 hF24
  replace hb := hb.ext0 hF24
  replace hc := hc.ext0 hF24
  replace hR1 := hR1.ext0 hF24
  replace hR2 := hR2.ext0 hF24
  replace hR21 := hR21.ext0 hF24
  replace hR22 := hR22.ext0 hF24
  replace hR23 := hR23.ext0 hF24
  replace hEm := hEm.trans hF24 (by simp)
  have hR24 := hM24.rs
  refine RL.auto T_ok rfl ?_
  refine RL.call (fi := []) (ca := []) rfl rfl rfl rfl (ranges_c q24 _ _ _ _ hR22 hR24 (Nat.lt_of_le_of_lt (minus_le La (join_le Lb Lc)) (by decide))) ?_
  rintro _ q25 ⟨rfl, hq25⟩
  subst hq25
  refine ⟨_, rfl, ?_⟩
  refine RL.eqv (v' := .bool true) (congrArg _ (decide_eq_true (alg7 a b c))) ?_
  refine RL.auto T_ok rfl ?_
  refine RL.nil ?_; repeat (first | with_reducible refine QN.block_normal ?_ | with_reducible refine QN.next ?_); repeat (first | with_reducible refine WP.seq ?_ | with_reducible refine WP.block ?_ | with_reducible refine WP.region ?_)
  refine WP.condF rfl ?_
  refine WP.skip ?_; repeat (first | with_reducible refine QN.block_normal ?_ | with_reducible refine QN.next ?_); repeat (first | with_reducible refine WP.seq ?_ | with_reducible refine WP.block ?_ | with_reducible refine WP.region ?_)
  have c1 := cnt_small _ (join_canon a b) _ (join_le La Lb)
  have c2 := cnt_small _ (clean_canon a) _ (Nat.le_trans (clean_len a) La)
  have c3 := cnt_small _ (clean_canon b) _ (Nat.le_trans (clean_len b) Lb)
  have c4 := part_cnt a b
  have c5 := part_cnt b a
  have c6 := sum_cnt a b
  have s1 := clean_of_canon (join_canon a b)
  have s2 := clean_of_canon (minus_canon a b)
  have s3 := clean_of_canon (minus_canon b a)
  have s4 := clean_of_canon (meet_canon a b)
  refine RL.auto T_ok rfl ?_
  refine RL.call (fi := []) (ca := []) rfl rfl rfl rfl (count_c q25 _ _ hR1 (Nat.lt_of_le_of_lt (join_le La Lb) (by decide)) (by rw [s1]; omega)) ?_
  rintro _ q26 ⟨rfl, hF26⟩
  refine ⟨_, rfl, ?_⟩
  replace ha := ha.ext0 hF26
  replace hb := hb.ext0 hF26
  replace hc := hc.ext0 hF26
  replace hR1 := hR1.ext0 hF26
  replace hR2 := hR2.ext0 hF26
  replace hEm := hEm.trans hF26 (by simp)
  rw [s1]
  refine RL.auto T_ok rfl ?_
  refine RL.call (fi := []) (ca := []) rfl rfl rfl rfl (minus_n q26 _ _ ha hb La Lb (by decide)) ?_
  rintro w27 q27 hM27
  refine ⟨_, rfl, ?_⟩
  have hF27 := hM27.ext
  replace ha := ha.ext0 hF27
  replace hb := hb.ext0 hF27
  replace hc := hc.ext0 hF27
  replace hR1 := hR1.ext0 hF27
  replace hR2 := hR2.ext0 hF27
  replace hEm := hEm.trans hF27 (by simp)
  have hR27 := hM27.rs
  refine RL.auto T_ok rfl ?_
  refine RL.call (fi := []) (ca := []) rfl rfl rfl rfl (count_c q27 _ _ hR27 (Nat.lt_of_le_of_lt (minus_le La Lb) (by decide)) (by rw [s2]; omega)) ?_
  rintro _ q28 ⟨rfl, hF28⟩
  refine ⟨_, rfl, ?_⟩
  replace ha := ha.ext0 hF28
  replace hb := hb.ext0 hF28
  replace hc := hc.ext0 hF28
  replace hR1 := hR1.ext0 hF28
  replace hR2 := hR2.ext0 hF28
  replace hR27 := hR27.ext0 hF28
  replace hEm := hEm.trans hF28 (by simp)
  rw [s2]
  refine RL.auto T_ok rfl ?_
  refine RL.call (fi := []) (ca := []) rfl rfl rfl rfl (minus_n q28 _ _ hb ha Lb La (by decide)) ?_
  rintro w29 q29 hM29
  refine ⟨_, rfl, ?_⟩
  have hF29 := hM29.ext
  replace ha := ha.ext0 hF29
  replace hb := hb.ext0 hF29
  replace hc := hc.ext0 hF29
  replace hR1 := hR1.ext0 hF29
  replace hR2 := hR2.ext0 hF29
  replace hEm := hEm.trans hF29 (by simp)
  have hR29 := hM29.rs
  refine RL.auto T_ok rfl ?_
  refine RL.call (fi := []) (ca := []) rfl rfl rfl rfl (count_c q29 _ _ hR29 (Nat.lt_of_le_of_lt (minus_le Lb La) (by decide)) (by rw [s3]; omega)) ?_
  rintro _ q30 ⟨rfl, hF30⟩
  refine ⟨_, rfl, ?_⟩
  replace ha := ha.ext0 hF30
  replace hb := hb.ext0 hF30
  replace hc := hc.ext0 hF30
  replace hR1 := hR1.ext0 hF30
  replace hR2 := hR2.ext0 hF30
  replace hR29 := hR29.ext0 hF30
  replace hEm := hEm.trans hF30 (by simp)
  rw [s3]
  refine RL.pure T_ok 1 rfl ?_
  refine RL.eqv (v' := .int .u64 (cnt (minus a b) + cnt (minus b a) : Nat)) (congrArg _ (by rw [wrap_u64_in _ (by omega) (by omega)]; omega)) ?_
  refine RL.auto T_ok rfl ?_
  refine RL.call (fi := []) (ca := []) rfl rfl rfl rfl (count_c q30 _ _ hR2 (Nat.lt_of_le_of_lt (meet_le La Lb) (by decide)) (by rw [s4]; omega)) ?_
  rintro _ q31 ⟨rfl, hF31⟩
  refine ⟨_, rfl, ?_⟩
  replace ha := ha.ext0 hF31
  replace hb := hb.ext0 hF31
  replace hc := hc.ext0 hF31
  replace hR1 := hR1.ext0 hF31
  replace hR2 := hR2.ext0 hF31
  replace hEm := hEm.trans hF31 (by simp)
  rw [s4]
  refine RL.pure T_ok 1 rfl ?_
  refine RL.eqv (v' := .int .u64 (cnt (join a b) : Nat)) (congrArg _ (by rw [wrap_u64_in _ (by omega) (by omega), c6]; omega)) ?_
  refine RL.pure T_ok 1 rfl ?_
  refine RL.eqv (v' := .bool true) (congrArg _ (by simp)) ?_
  refine RL.auto T_ok rfl ?_
  refine RL.call (fi := []) (ca := []) rfl rfl rfl rfl (join_n q31 _ _ hb hc Lb Lc (by decide)) ?_
  rintro w32 q32 hM32
  refine ⟨_, rfl, ?_⟩
  have hF32 := hM32.ext
  replace ha := ha.ext0 hF32
  replace hb := hb.ext0 hF32
  replace hc := hc.ext0 hF32
  replace hR1 := hR1.ext0 hF32
  replace hR2 := hR2.ext0 hF32
  replace hEm := hEm.trans hF32 (by simp)
  have hR32 := hM32.rs
  refine RL.auto T_ok rfl ?_
  refine RL.call (fi := []) (ca := []) rfl rfl rfl rfl (meet_n q32 _ _ ha hR32 La (join_le Lb Lc) (by decide)) ?_
  rintro w33 q33 hM33
  refine ⟨_, rfl, ?_⟩
  have hF33 := hM33.ext
  replace ha := ha.ext0 hF33
  replace hb := hb.ext0 hF33
  replace hc := hc.ext0 hF33
  replace hR1 := hR1.ext0 hF33
  replace hR2 := hR2.ext0 hF33
  replace hR32 := hR32.ext0 hF33
  replace hEm := hEm.trans hF33 (by simp)
  have hR33 := hM33.rs
  refine RL.auto T_ok rfl ?_
  refine RL.call (fi := []) (ca := []) rfl rfl rfl rfl (meet_n q33 _ _ ha hc La Lc (by decide)) ?_
  rintro w34 q34 hM34
  refine ⟨_, rfl, ?_⟩
  have hF34 := hM34.ext
  replace ha := ha.ext0 hF34
  replace hb := hb.ext0 hF34
  replace hc := hc.ext0 hF34
  replace hR1 := hR1.ext0 hF34
  replace hR2 := hR2.ext0 hF34
  replace hR32 := hR32.ext0 hF34
  replace hR33 := hR33.ext0 hF34
  replace hEm := hEm.trans hF34 (by simp)
  have hR34 := hM34.rs
  refine RL.auto T_ok rfl ?_
  refine RL.call (fi := []) (ca := []) rfl rfl rfl rfl (join_n q34 _ _ hR2 hR34 (meet_le La Lb) (meet_le La Lc) (by decide)) ?_
  rintro w35 q35 hM35
  refine ⟨_, rfl, ?_⟩
  have hF35 := hM35.ext
  replace ha := ha.ext0 hF35
  replace hb := hb.ext0 hF35
  replace hc := hc.ext0 hF35
  replace hR1 := hR1.ext0 hF35
  replace hR2 := hR2.ext0 hF35
  replace hR32 := hR32.ext0 hF35
  replace hR33 := hR33.ext0 hF35
  replace hR34 := hR34.ext0 hF35
  replace hEm := hEm.trans hF35 (by simp)
  have hR35 := hM35.rs
  refine RL.auto T_ok rfl ?_
  refine RL.call (fi := []) (ca := []) rfl rfl rfl rfl (ranges_c q35 _ _ _ _ hR33 hR35 (Nat.lt_of_le_of_lt (meet_le La (join_le Lb Lc)) (by decide))) ?_
  rintro _ q36 ⟨rfl, hq36⟩
  subst hq36
  refine ⟨_, rfl, ?_⟩
  refine RL.eqv (v' := .bool true) (congrArg _ (decide_eq_true (alg8 a b c))) ?_
  refine RL.auto T_ok rfl ?_
  refine RL.nil ?_; repeat (first | with_reducible refine QN.block_normal ?_ | with_reducible refine QN.next ?_); repeat (first | with_reducible refine WP.seq ?_ | with_reducible refine WP.block ?_ | with_reducible refine WP.region ?_)
  refine WP.ret ?_; repeat (first | with_reducible refine QN.then_ret ?_ | with_reducible refine QN.block_ret ?_)
  exact QN.ret1 rfl rfl ⟨_, rfl, rfl, hEm⟩
set_option maxRecDepth 100000 in
theorem idsalgebra_lifted (os : Os) (started : os.Started) (H : Type) (enc : TypeId × Value → H) :
    ReturnsInHanded {} Try.checked os 10 .any (Rows.idsAlgebraSpec.pre6 enc Try.prog Try.f10 Rows.idsAlgebraRow.domain false) (Rows.idsAlgebraSpec.post enc Try.prog Try.f10 false true false false) := by
  refine law_lift (tb := 4) own started (by kernel_rfl) Try.func10
    (ChangeSpec.witness6 (enc := enc) (C := Try.checked) false ⟨#[], #[.slice none 0 0, .slice none 0 0, .slice none 0 0], []⟩ 8 (by kernel_rfl) (by kernel_rfl) (by kernel_rfl) (by kernel_rfl))
    laidOut (by kernel_rfl) rfl (und 4 rfl rfl) rfl (fun ds h => by
      match ds, h with
      | [_, _, _], _ => exact ⟨rfl, rfl, rfl⟩) ?_
  intro W base args ds p hval hA hw
  rw [Try.params10] at hA hval hw
  obtain ⟨v0, v1, v2, d0, d1, d2, p0, p1, p2, rfl, rfl, rfl, h0, h1, h2⟩ := trodAll_three hA
  obtain ⟨a, ha⟩ := open_rs (hval 0 46 v0 rfl rfl) (Fit.arg hw 0 rfl rfl) h0
  obtain ⟨b, hb⟩ := open_rs (hval 1 46 v1 rfl rfl) (Fit.arg hw 1 rfl rfl) h1
  obtain ⟨c, hc⟩ := open_rs (hval 2 46 v2 rfl rfl) (Fit.arg hw 2 rfl rfl) h2
  exact idsalgebra_c W v0 v1 v2 a b c ha hb hc
theorem idsAlgebra_holds : Rows.IdsAlgebraSaid :=
  OpenClaim.holds_of_wide 10 Try.f10 rfl rfl rfl rfl rfl rfl rfl ⟨rfl, rfl, rfl, rfl, rfl⟩ rfl rfl rfl rfl rfl (by kernel_rfl) Try.func10 (by kernel_rfl)
    (of_decide_eq_true (by kernel_rfl)) (by unfold Func.isWrapper; first | (rw [if_pos (by decide +kernel)]; kernel_rfl) | (rw [if_neg (by decide +kernel)]; exact ⟨rfl, rfl⟩))
    (fun os started H enc _ => idsalgebra_lifted os started H enc)
end Go.Proofs.Ytkfakfbndnbpiaa
