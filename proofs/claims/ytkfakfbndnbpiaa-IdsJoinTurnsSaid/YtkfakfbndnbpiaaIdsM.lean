/- The sweep goes on to a place. -/
import Derived.Test.YtkfakfbndnbpiaaIdsL
namespace Go.Proofs.Ytkfakfbndnbpiaa
open Go.RowKit Go.Ev Go.Ids

/-- What the sweep holds in memory: what is out, what is open, the place. -/
def Swp (mB mZ : World) (Z : List Nat) (m : World) (b5 b6 b7 : Nat) (P : List Trn) (c0 a : Nat) (op out : List Trn) : Prop :=
  Swept P c0 a op out ∧ Ext mB [] m ∧ ∃ S5 S6 v5 v6, Blk m b5 61 [v5] ∧ Blk m b6 61 [v6] ∧ Blk m b7 37 [.int .u64 a] ∧
    Ev.Own m S5 101 4 v5 out.length (out.reverse.flatMap tC) ∧ Ev.Own m S6 101 4 v6 op.length (op.flatMap tC) ∧
    (∀ k ∈ S5, mB.heap.size ≤ k ∧ k ≠ b5 ∧ k ≠ b6 ∧ k ≠ b7 ∧ k ∉ S6) ∧ (∀ k ∈ S6, mB.heap.size ≤ k ∧ k ≠ b5 ∧ k ≠ b6 ∧ k ≠ b7) ∧
    ∀ k ∈ Z, k < m.heap.size ∧ m.heap[k]? = mZ.heap[k]? ∧ k ≠ b5 ∧ k ≠ b6 ∧ k ≠ b7 ∧ k ∉ S5 ∧ k ∉ S6
theorem Swp.ext {mB mZ m m' : World} {Z : List Nat} {b5 b6 b7 : Nat} {P : List Trn} {c0 a : Nat} {op out : List Trn} (h : Swp mB mZ Z m b5 b6 b7 P c0 a op out) (hE : Ext m [] m') : Swp mB mZ Z m' b5 b6 b7 P c0 a op out := by
  obtain ⟨h0, h1, S5, S6, v5, v6, g1, g2, g3, g4, g5, g6, g7, g8⟩ := h
  exact ⟨h0, h1.trans hE (by simp), S5, S6, v5, v6, g1.ext hE (by simp), g2.ext hE (by simp), g3.ext hE (by simp), g4.ext hE (by simp), g5.ext hE (by simp), g6, g7, fun k hk => by
    obtain ⟨z1, z2, z3⟩ := g8 k hk
    exact ⟨Nat.lt_of_lt_of_le z1 hE.size, (hE.far k z1 (by simp)).trans z2, z3⟩⟩
theorem tEnd_succ (u : Nat) (l : List Trn) (j : Nat) (h : j < l.length) : tEnd u (l.take (j + 1)) = min (tEnd u (l.take j)) l[j].t := by
  unfold tEnd
  rw [List.take_succ_eq_append_getElem h, List.foldl_append]; rfl
theorem tTop_succ (l : List Trn) (j : Nat) (h : j < l.length) : tTop (l.take (j + 1)) = max (tTop (l.take j)) l[j].n := by
  unfold tTop
  rw [List.take_succ_eq_append_getElem h, List.foldl_append]; rfl
theorem minV (a b : Nat) : Value.int .u64 (if (b : Int) < (a : Int) then (b : Int) else (a : Int)) = .int .u64 (min a b : Nat) := congrArg _ (by split <;> omega)
theorem maxV (a b : Nat) : Value.int .u64 (if (b : Int) > (a : Int) then (b : Int) else (a : Int)) = .int .u64 (max a b : Nat) := congrArg _ (by split <;> omega)
theorem tj_len (r : List Trn) (x : Trn) : (tj r x).length ≤ r.length + 1 := by
  cases r with
  | nil => simp [tj]
  | cons y r => rw [tj_cons]; split <;> simp
theorem filter_drop {op : List Trn} {u : Nat} (h : tEnd u op < u) : (op.filter fun x => decide (¬ x.t ≤ tEnd u op)).length + 1 ≤ op.length := by
  obtain ⟨-, -, h3⟩ := tEnd_spec op u
  rcases h3 with h3 | ⟨x, hx, h3⟩
  · omega
  · generalize tEnd u op = e at *
    subst h3
    induction op with
    | nil => cases hx
    | cons y l ih =>
      rw [List.filter_cons]
      rcases List.mem_cons.1 hx with rfl | hx
      · rw [if_neg (by simp)]
        have := List.length_filter_le (fun z : Trn => decide (¬ z.t ≤ x.t)) l
        simp only [List.length_cons]; omega
      · have h1 := ih hx
        split <;> simp only [List.length_cons] <;> omega
theorem flush_c (mB mZ : World) (Z : List Nat) (m : World) (b5 b6 b7 : Nat) (hb : b5 ≠ b6 ∧ b5 ≠ b7 ∧ b6 ≠ b7 ∧ mB.heap.size ≤ b5 ∧ mB.heap.size ≤ b6 ∧ mB.heap.size ≤ b7) (P : List Trn) (c0 a : Nat) (op out : List Trn) (u : Nat) (hu : u ≤ 9007199254740992)
    (h : Swp mB mZ Z m b5 b6 b7 P c0 a op out) (hl : out.length + op.length < 1000000000) (hau : a ≤ u) :
    FnR Try.prog 84 [.int .u64 c0, .int .u64 u, .pointer (some ⟨b6, 0, none⟩), .pointer (some ⟨b7, 0, none⟩), .pointer (some ⟨b5, 0, none⟩)] m fun _ m' => ∃ a' op' out', Swp mB mZ Z m' b5 b6 b7 P c0 a' op' out' ∧ (op' = [] ∨ a' = u) ∧ a' ≤ u ∧ out'.length + op'.length ≤ out.length + op.length + 1 := by
  obtain ⟨hb1, hb2, hb3, hb4, hb5, hb6⟩ := hb
  refine FnE.enter ⟨_, Try.func84, by kernel_rfl, by kernel_rfl⟩ Try.func84 rfl rfl ?_
  refine (WP.block ?_)
  refine (WP.loop (X := Nat × List Trn × List Trn) (fun _ => [(0, .int .u64 c0), (1, .int .u64 u), (2, .pointer (some ⟨b6, 0, none⟩)), (3, .pointer (some ⟨b7, 0, none⟩)), (4, .pointer (some ⟨b5, 0, none⟩))])
    (fun x m' => x.1 ≤ u ∧ (x.2.2.length + x.2.1.length ≤ out.length + op.length ∨ (x.1 = u ∧ x.2.2.length + x.2.1.length ≤ out.length + op.length + 1)) ∧ Swp mB mZ Z m' b5 b6 b7 P c0 x.1 x.2.1 x.2.2) (fun x => u - x.1) (a, op, out)
    (Sub.cons rfl (Sub.cons rfl (Sub.cons rfl (Sub.cons rfl (Sub.cons rfl Sub.nil))))) ⟨hau, .inl (Nat.le_refl _), h⟩ ?_)
  rintro ⟨a1, op1, out1⟩ m1 ⟨ha1, hl1, hsw, hE1, S5, S6, v5, v6, g1, g2, g3, g4, g5, g6, g7, g8⟩
  simp only at ha1 hl1 hsw g3 g4 g5
  obtain ⟨A6, c6, rfl, _⟩ := g5.shape
  repeat (first | with_reducible refine WP.seq ?_ | with_reducible refine WP.block ?_ | with_reducible refine WP.region ?_)
  refine RL.load T_ok rfl rfl rfl (g2.cell 0 rfl) rfl ?_
  refine RL.pure T_ok 1 rfl ?_
  rcases hop : op1 with _ | ⟨y, op2⟩
  · subst hop
    refine RL.auto T_ok rfl ?_
    refine RL.nil ?_; repeat (first | with_reducible refine QN.block_normal ?_ | with_reducible refine QN.next ?_); repeat (first | with_reducible refine WP.seq ?_ | with_reducible refine WP.block ?_ | with_reducible refine WP.region ?_)
    refine WP.condF rfl ?_
    refine WP.exit ?_; repeat (first | with_reducible refine QN.then_exit ?_ | with_reducible refine QN.block_exit ?_ | with_reducible refine QN.block_far rfl ?_ | with_reducible refine QN.block_normal ?_ | with_reducible refine QN.next ?_); repeat (first | with_reducible refine WP.seq ?_ | with_reducible refine WP.block ?_ | with_reducible refine WP.region ?_)
    exact QN.end0 rfl ⟨_, rfl, a1, [], out1, ⟨hsw, hE1, S5, S6, v5, _, g1, g2, g3, g4, g5, g6, g7, g8⟩, .inl rfl, ha1, by omega⟩
  have hne : op1 ≠ [] := by rw [hop]; simp
  have hyc : y.c = c0 := (hsw.opens y (by rw [hop]; simp)).2.1
  rw [← hop]
  have hpos : 0 < op1.length := by rw [hop]; simp
  have hR6 : Ts m1 [] (.slice A6 op1.length c6) op1 := g5.sl (by simp)
  obtain ⟨ad, rfl, hx⟩ := hR6.cell 0 hpos
  have hx0 : op1[0] = y := by simp [hop]
  rw [hx0] at hx
  refine RL.pure T_ok 1 rfl ?_
  refine RL.eqv (v' := .bool true) (congrArg _ (decide_eq_true (by omega))) ?_
  refine RL.pure T_ok 1 rfl ?_
  refine RL.load T_ok rfl rfl rfl (g2.cell 0 rfl) rfl ?_
  refine RL.indexAddr (k := 0) T_ok rfl rfl rfl rfl rfl rfl rfl hpos rfl ?_
  refine RL.pure T_ok 1 rfl ?_
  refine RL.load T_ok rfl rfl rfl (hx 0 _ rfl) rfl ?_
  refine RL.pure T_ok 2 rfl ?_
  refine RL.eqv (v' := .bool true) (congrArg _ (by rw [deq]; exact decide_eq_true hyc)) ?_
  refine RL.pure T_ok 2 rfl ?_
  refine RL.load T_ok rfl rfl rfl (g3.cell 0 rfl) rfl ?_
  by_cases hau1 : a1 < u
  rotate_left
  · refine RL.pure T_ok 2 rfl ?_
    refine RL.eqv (v' := .bool false) (congrArg _ (by rw [dlt]; exact decide_eq_false hau1)) ?_
    refine RL.auto T_ok rfl ?_
    refine RL.nil ?_; repeat (first | with_reducible refine QN.block_normal ?_ | with_reducible refine QN.next ?_); repeat (first | with_reducible refine WP.seq ?_ | with_reducible refine WP.block ?_ | with_reducible refine WP.region ?_)
    refine WP.condF rfl ?_
    refine WP.exit ?_; repeat (first | with_reducible refine QN.then_exit ?_ | with_reducible refine QN.block_exit ?_ | with_reducible refine QN.block_far rfl ?_ | with_reducible refine QN.block_normal ?_ | with_reducible refine QN.next ?_); repeat (first | with_reducible refine WP.seq ?_ | with_reducible refine WP.block ?_ | with_reducible refine WP.region ?_)
    exact QN.end0 rfl ⟨_, rfl, a1, op1, out1, ⟨hsw, hE1, S5, S6, v5, _, g1, g2, g3, g4, g5, g6, g7, g8⟩, .inr (by omega), ha1, by omega⟩
  have hl1 : out1.length + op1.length ≤ out.length + op.length := by rcases hl1 with h1 | h1 <;> omega
  obtain ⟨p1, p2, p3⟩ := hsw.piece hne hau1 hu
  refine RL.pure T_ok 2 rfl ?_
  refine RL.eqv (v' := .bool true) (congrArg _ (by rw [dlt]; exact decide_eq_true hau1)) ?_
  refine RL.auto T_ok rfl ?_
  refine RL.nil ?_; repeat (first | with_reducible refine QN.block_normal ?_ | with_reducible refine QN.next ?_); repeat (first | with_reducible refine WP.seq ?_ | with_reducible refine WP.block ?_ | with_reducible refine WP.region ?_)
  refine WP.condT rfl ?_
  refine WP.skip ?_; repeat (first | with_reducible refine QN.block_normal ?_ | with_reducible refine QN.next ?_); repeat (first | with_reducible refine WP.seq ?_ | with_reducible refine WP.block ?_ | with_reducible refine WP.region ?_)
  refine RL.auto T_ok rfl ?_
  refine RL.nil ?_; repeat (first | with_reducible refine QN.block_normal ?_ | with_reducible refine QN.next ?_); repeat (first | with_reducible refine WP.seq ?_ | with_reducible refine WP.block ?_ | with_reducible refine WP.region ?_)
  refine RL.load T_ok rfl rfl rfl (g2.cell 0 rfl) rfl ?_
  refine RL.auto T_ok rfl ?_
  refine RL.nil ?_; repeat (first | with_reducible refine QN.block_normal ?_ | with_reducible refine QN.next ?_); repeat (first | with_reducible refine WP.seq ?_ | with_reducible refine WP.block ?_ | with_reducible refine WP.region ?_)
  refine (WP.loop (X := Nat) (fun j => [(0, .int .u64 c0), (1, .int .u64 u), (2, .pointer (some ⟨b6, 0, none⟩)), (3, .pointer (some ⟨b7, 0, none⟩)), (4, .pointer (some ⟨b5, 0, none⟩)), (28, .slice (some ad) op1.length c6), (29, .int .i64 op1.length), (7, .int .u64 (tEnd u (op1.take j))), (8, .int .u64 (tTop (op1.take j))), (30, .int .i64 j)])
    (fun j m' => j ≤ op1.length ∧ Ext m1 [] m') (fun j => op1.length - j) 0
    (Sub.cons rfl (Sub.cons rfl (Sub.cons rfl (Sub.cons rfl (Sub.cons rfl (Sub.cons rfl (Sub.cons rfl (Sub.cons rfl (Sub.cons rfl (Sub.cons rfl Sub.nil)))))))))) ⟨by simp, Ext.refl _ _⟩ ?_)
  rintro j m2 ⟨hj, hE2⟩
  repeat (first | with_reducible refine WP.seq ?_ | with_reducible refine WP.block ?_ | with_reducible refine WP.region ?_)
  refine RL.auto T_ok rfl ?_
  refine RL.nil ?_; repeat (first | with_reducible refine QN.block_normal ?_ | with_reducible refine QN.next ?_); repeat (first | with_reducible refine WP.seq ?_ | with_reducible refine WP.block ?_ | with_reducible refine WP.region ?_)
  refine WP.cond rfl (fun hc => ?_) (fun hc => ?_)
  · have hc : j < op1.length := by have := of_decide_eq_true hc; omega
    obtain ⟨ad', had', hz⟩ := (hR6.ext0 hE2).cell j hc
    injection had' with had'
    subst had'
    refine WP.skip ?_; repeat (first | with_reducible refine QN.block_normal ?_ | with_reducible refine QN.next ?_); repeat (first | with_reducible refine WP.seq ?_ | with_reducible refine WP.block ?_ | with_reducible refine WP.region ?_)
    refine RL.indexAddr (k := j) T_ok rfl rfl rfl rfl rfl rfl rfl hc rfl ?_
    refine RL.loadAgg T_ok (tC op1[j]) rfl rfl rfl hz rfl ?_
    refine RL.alloc T_ok rfl rfl (fun b10 m3 hb10 hC3 => ⟨_, rfl, ?_⟩)
    refine RL.storeAgg T_ok (b := b10) (i := 0) (vs := tC op1[j]) (cs := [.int .u64 0, .int .u64 0, .int .u64 0, .int .u64 0]) hC3.blk rfl rfl rfl rfl rfl (by simp) (by simp [tC, Value.oneCell']) rfl ?_
    intro m4 hC4
    have hE4 : Ext m2 [] m4 := (hC3.new (by omega)).trans hC4.ext (fun q hq => .inr (by have h9 : q = b10 := (by simpa using hq); omega))
    have hB4 : Blk m4 b10 101 (tC op1[j]) := hC4.blk
    refine RL.nil ?_; repeat (first | with_reducible refine QN.block_normal ?_ | with_reducible refine QN.next ?_)
    repeat (first | with_reducible refine WP.seq ?_ | with_reducible refine WP.block ?_ | with_reducible refine WP.region ?_)
    refine WP.drawQ (fun m' => m' = m4) [] (by kernel_rfl) rfl (by repeat (first | with_reducible exact PanicOk.body | with_reducible refine PanicOk.then_ ?_ | with_reducible refine PanicOk.block_ ?_)) (fun hQ => ?_)
    refine RH.pure T_ok hQ [0, 1] (by kernel_rfl) rfl ?_
    refine RH.load T_ok hQ 2 (fun m' hm' => by rw [hm']; exact hB4.cell 2 rfl) rfl (by kernel_rfl) rfl rfl rfl rfl ?_
    refine RH.pure T_ok hQ [3] (by kernel_rfl) rfl ?_
    refine RH.eqv (v' := .int .u64 (tEnd u (op1.take (j + 1)))) (by rw [tEnd_succ u op1 j hc]; exact minV _ _) ?_
    refine RH.pure T_ok hQ [4, 5] (by kernel_rfl) rfl ?_
    refine RH.load T_ok hQ 6 (fun m' hm' => by rw [hm']; exact hB4.cell 3 rfl) rfl (by kernel_rfl) rfl rfl rfl rfl ?_
    refine RH.pure T_ok hQ [7] (by kernel_rfl) rfl ?_
    refine RH.eqv (v' := .int .u64 (tTop (op1.take (j + 1)))) (by rw [tTop_succ op1 j hc]; exact maxV _ _) ?_
    refine RH.pure T_ok hQ [8, 9] (by kernel_rfl) rfl ?_
    refine RH.done (by kernel_rfl) (fun _ => ?_)
    repeat (first | with_reducible refine QN.block_normal ?_ | with_reducible refine QN.next ?_)
    repeat (first | with_reducible refine WP.seq ?_ | with_reducible refine WP.block ?_ | with_reducible refine WP.region ?_)
    refine RL.pure T_ok 1 rfl ?_
    refine RL.eqv (v' := .int .i64 ((j + 1 : Nat) : Int)) (congrArg _ (by rw [wrap_i64_in _ (by omega) (by omega)]; rfl)) ?_
    refine RL.auto T_ok rfl ?_
    exact RL.nil (QN.round (j + 1) (Sub.cons rfl (Sub.cons rfl (Sub.cons rfl (Sub.cons rfl (Sub.cons rfl (Sub.cons rfl (Sub.cons rfl (Sub.cons rfl (Sub.cons rfl (Sub.cons rfl Sub.nil)))))))))) ⟨by omega, hE2.trans hE4 (by simp)⟩ (by omega))
  · have hc : j = op1.length := by have := of_decide_eq_false hc; omega
    subst hc
    rw [List.take_length]
    have k1 := g1.ext hE2 (by simp)
    have k2 := g2.ext hE2 (by simp)
    have k3 := g3.ext hE2 (by simp)
    have k4 := g4.ext hE2 (by simp)
    have k5 := g5.ext hE2 (by simp)
    have hE12 := hE1.trans hE2 (by simp)
    have lt5 := k1.lt
    have lt6 := k2.lt
    have lt7 := k3.lt
    have ltS6 := k5.lt
    have htl := tj_len out1 ⟨c0, a1, tEnd u op1, tTop op1⟩
    refine WP.exit ?_; repeat (first | with_reducible refine QN.then_exit ?_ | with_reducible refine QN.block_exit ?_ | with_reducible refine QN.block_far rfl ?_ | with_reducible refine QN.block_normal ?_ | with_reducible refine QN.next ?_); repeat (first | with_reducible refine WP.seq ?_ | with_reducible refine WP.block ?_ | with_reducible refine WP.region ?_)
    refine RL.load T_ok rfl rfl rfl (k1.cell 0 rfl) rfl ?_
    refine RL.auto T_ok rfl ?_
    refine RL.load T_ok rfl rfl rfl (k3.cell 0 rfl) rfl ?_
    refine RL.auto T_ok rfl ?_
    refine RL.eqv (v' := tV ⟨c0, a1, tEnd u op1, tTop op1⟩) rfl ?_
    refine RL.call (fi := []) (ca := []) rfl rfl rfl rfl (joined_c m2 S5 v5 out1 ⟨c0, a1, tEnd u op1, tTop op1⟩ k4 (by omega)) ?_
    rintro w5 m3 ⟨T5, hO3, hE3, hF3⟩
    refine ⟨_, rfl, ?_⟩
    have j5 : ∀ k ∈ T5, mB.heap.size ≤ k ∧ k ≠ b5 ∧ k ≠ b6 ∧ k ≠ b7 ∧ k ∉ S6 := fun k hk => by
      rcases hF3 k hk with h9 | h9
      · exact g6 k h9
      · have := hE12.size
        exact ⟨by omega, by omega, by omega, by omega, fun hh => by have := ltS6 k hh; omega⟩
    have q1 := k1.ext hE3 (fun hh => (g6 _ hh).2.1 rfl)
    have q2 := k2.ext hE3 (fun hh => (g6 _ hh).2.2.1 rfl)
    have q3 := k3.ext hE3 (fun hh => (g6 _ hh).2.2.2.1 rfl)
    have q5 := k5.ext hE3 (fun k hk hh => (g6 _ hh).2.2.2.2 hk)
    have hE13 := hE12.trans hE3 (fun k hk => .inr (g6 k hk).1)
    refine RL.store T_ok q1 (i := 0) (v := w5) (by simp) rfl rfl rfl rfl hO3.one rfl ?_
    intro m4 hC4
    have r1 : Blk m4 b5 61 [w5] := hC4.blk
    have r2 := q2.far hC4 (by omega)
    have r3 := q3.far hC4 (by omega)
    have r4 := hO3.ext hC4.ext (fun k hk hh => (j5 k hk).2.1 (by simpa using hh))
    have r5 := q5.ext hC4.ext (fun k hk hh => (g7 k hk).2.1 (by simpa using hh))
    have hE14 := hE13.trans hC4.ext (fun k hk => .inr (by have h9 : k = b5 := (by simpa using hk); omega))
    refine RL.nil ?_; repeat (first | with_reducible refine QN.block_normal ?_ | with_reducible refine QN.next ?_); repeat (first | with_reducible refine WP.seq ?_ | with_reducible refine WP.block ?_ | with_reducible refine WP.region ?_)
    refine RL.auto T_ok rfl ?_
    refine RL.store T_ok r3 (i := 0) (v := .int .u64 (tEnd u op1)) (by simp) rfl rfl rfl rfl rfl rfl ?_
    intro m5 hC5
    have t1 := r1.far hC5 (by omega)
    have t2 := r2.far hC5 (by omega)
    have t3 : Blk m5 b7 37 [.int .u64 (tEnd u op1)] := hC5.blk
    have t4 := r4.ext hC5.ext (fun k hk hh => (j5 k hk).2.2.2.1 (by simpa using hh))
    have t5 := r5.ext hC5.ext (fun k hk hh => (g7 k hk).2.2.2 (by simpa using hh))
    have hE15 := hE14.trans hC5.ext (fun k hk => .inr (by have h9 : k = b7 := (by simpa using hk); omega))
    refine RL.nil ?_; repeat (first | with_reducible refine QN.block_normal ?_ | with_reducible refine QN.next ?_); repeat (first | with_reducible refine WP.seq ?_ | with_reducible refine WP.block ?_ | with_reducible refine WP.region ?_)
    refine RL.load T_ok rfl rfl rfl (t2.cell 0 rfl) rfl ?_
    refine RL.auto T_ok rfl ?_
    refine RL.call (fi := []) (ca := []) rfl rfl rfl rfl (deleteT_c m5 S6 _ op1 t5 (by omega) 87 [.pointer (some ⟨b7, 0, none⟩)] (fun x => decide (x.t ≤ tEnd u op1)) (fun q => Blk q b7 37 [.int .u64 (tEnd u op1)]) t3 (fun q1 q2 hq hE => hq.ext hE (fun hh => (g7 _ hh).2.2.2 rfl)) (fun q1 x hq => del1_c q1 x b7 _ hq)) ?_
    rintro w6 m6 ⟨hO6, hE6⟩
    refine ⟨_, rfl, ?_⟩
    have hfe : (op1.filter fun x => !decide (x.t ≤ tEnd u op1)) = op1.filter fun x => decide (¬ x.t ≤ tEnd u op1) := List.filter_congr (fun x _ => by rw [decide_not])
    rw [hfe] at hO6
    have u1 := t1.ext hE6 (fun hh => (g7 _ hh).2.1 rfl)
    have u2 := t2.ext hE6 (fun hh => (g7 _ hh).2.2.1 rfl)
    have u3 := t3.ext hE6 (fun hh => (g7 _ hh).2.2.2 rfl)
    have u4 := t4.ext hE6 (fun k hk hh => (j5 k hk).2.2.2.2 hh)
    have hE16 := hE15.trans hE6 (fun k hk => .inr (g7 k hk).1)
    refine RL.store T_ok u2 (i := 0) (v := w6) (by simp) rfl rfl rfl rfl hO6.one rfl ?_
    intro m7 hC7
    have hE17 := hE16.trans hC7.ext (fun k hk => .inr (by have h9 : k = b6 := (by simpa using hk); omega))
    have hfl := List.length_filter_le (fun x : Trn => decide (¬ x.t ≤ tEnd u op1)) op1
    have hz8 : ∀ k ∈ Z, k < m7.heap.size ∧ m7.heap[k]? = mZ.heap[k]? ∧ k ≠ b5 ∧ k ≠ b6 ∧ k ≠ b7 ∧ k ∉ T5 ∧ k ∉ S6 := fun k hk => by
      obtain ⟨z1, z2, z3, z4, z5, z6, z7⟩ := g8 k hk
      have e2 := hE2.size
      have e3 := hE3.size
      have e4 := hC4.ext.size
      have e5 := hC5.ext.size
      have e6 := hE6.size
      have e7 := hC7.ext.size
      refine ⟨by omega, ?_, z3, z4, z5, fun hh => ?_, z7⟩
      · exact (hC7.far k (by omega)).trans ((hE6.far k (by omega) z7).trans ((hC5.far k (by omega)).trans ((hC4.far k (by omega)).trans ((hE3.far k (by omega) z6).trans ((hE2.far k (by omega) (by simp)).trans z2)))))
      · rcases hF3 k hh with h9 | h9
        · exact z6 h9
        · omega
    refine RL.nil ?_
    repeat (first | with_reducible refine QN.block_normal ?_ | with_reducible refine QN.next ?_)
    refine QN.round (tEnd u op1, op1.filter (fun x => decide (¬ x.t ≤ tEnd u op1)), tj out1 ⟨c0, a1, tEnd u op1, tTop op1⟩) (Sub.cons rfl (Sub.cons rfl (Sub.cons rfl (Sub.cons rfl (Sub.cons rfl Sub.nil))))) ⟨p2, ?_, p3, hE17, T5, S6, w5, w6, u1.far hC7 (by omega), hC7.blk, u3.far hC7 (by omega), u4.ext hC7.ext (fun k hk hh => (j5 k hk).2.2.1 (by simpa using hh)), hO6.ext hC7.ext (fun k hk hh => (g7 k hk).2.2.1 (by simpa using hh)), j5, g7, hz8⟩ (by show u - tEnd u op1 < u - a1; omega)
    rcases Nat.lt_or_eq_of_le p2 with h9 | h9
    · have := filter_drop h9
      exact .inl (by simp only; omega)
    · exact .inr ⟨h9, by simp only; omega⟩
end Go.Proofs.Ytkfakfbndnbpiaa
