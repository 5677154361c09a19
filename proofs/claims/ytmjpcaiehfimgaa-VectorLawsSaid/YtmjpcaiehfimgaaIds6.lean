/- Clean, the walk. The lengths stay below 2^29. -/
import Derived.Test.YtmjpcaiehfimgaaIds5
namespace Go.Proofs.Ytmjpcaiehfimgaa
open Go.RowKit Go.Ev Go.Ids

theorem rsC_app (a b : List Rng) : a.flatMap rC ++ b.flatMap rC = (a ++ b).flatMap rC := by simp
theorem rsC_setT (a : List Rng) (y : Rng) (z : Nat) : ((a ++ [y]).flatMap rC).set (a.length * 3 + 2) (.int .u64 z) = (a ++ [{ y with t := z }]).flatMap rC := by
  rw [List.flatMap_append, List.flatMap_append, List.set_append_right _ _ (by rw [rsC_len]; omega), rsC_len]
  have : a.length * 3 + 2 - a.length * 3 = 2 := by omega
  rw [this]
  rfl
/-- What the loop over the right ones leaves. -/
def CleanI (m : World) (b1 b2 b3 : Nat) (v : Value) (l : List Rng) (pre : List Rng) (a : World) : Prop :=
  ∃ S ov, Blk a b3 34 [ov] ∧ Ev.Own a S 62 3 ov pre.length (pre.flatMap rC) ∧ (∀ k ∈ S, m.heap.size ≤ k ∧ k ≠ b3 ∧ k ≠ b1 ∧ k ≠ b2) ∧ Ext m [] a ∧ RK b1 b2 v l 68 a
theorem CleanI.kc {m a b : World} {b1 b2 b3 B : Nat} {v : Value} {l pre : List Rng} (h : CleanI m b1 b2 b3 v l pre a) (hK : Kc B a b) (hB : m.heap.size ≤ B) : CleanI m b1 b2 b3 v l pre b := by
  obtain ⟨S, ov, h1, h2, h3, h4, h5, h6, h7⟩ := h
  exact ⟨S, ov, h1.kc hK, h2.kc hK, h3, h4.of_kc hK hB, h5.kc hK, h6.kc hK, Sl.kc h7 hK⟩
theorem clean_c (m : World) (v : Value) (l : List Rng) (h : Rs m [] v l) (hl : l.length < 500000000) :
    FnR Try.prog 59 [v] m fun r m' => ∃ S', Ev.Own m' S' 62 3 r (clean l).length ((clean l).flatMap rC) ∧ New m S' m' := by
  obtain ⟨A, c, rfl, _, _⟩ := h.shape
  refine FnE.enterM ⟨_, Try.func59, by kernel_rfl, by kernel_rfl⟩ Try.func59 rfl rfl ?_
  repeat (first | with_reducible refine WP.seq ?_ | with_reducible refine WP.block ?_ | with_reducible refine WP.region ?_)
  refine RL.auto T_ok rfl ?_
  refine RL.nil (QN.next ?_)
  refine WP.scope ?_
  repeat (first | with_reducible refine WP.seq ?_ | with_reducible refine WP.block ?_ | with_reducible refine WP.region ?_)
  refine RL.alloc T_ok rfl rfl (fun b3 m1 hb3 hC1 => ⟨_, rfl, ?_⟩)
  have hB1 : Blk m1 b3 34 [.slice none 0 0] := hC1.blk
  have hE1 : Ext m [] m1 := hC1.new (by omega)
  have s1 := hC1.size
  refine RL.nil ?_; repeat (first | with_reducible refine QN.block_normal ?_ | with_reducible refine QN.next ?_); repeat (first | with_reducible refine WP.seq ?_ | with_reducible refine WP.block ?_ | with_reducible refine WP.region ?_)
  refine RL.auto T_ok rfl ?_
  refine RL.call (fi := []) (ca := []) rfl rfl rfl rfl (rights_c m1 (.slice A l.length c) l 68) ?_
  rintro _ m2 ⟨b1, b2, rfl, g1, g2, hE2, hRK⟩
  refine ⟨_, rfl, ?_⟩
  have hRK := hRK (h.ext0 hE1)
  have hB2 := hB1.ext hE2 (by simp)
  have hEm := hE1.trans hE2 (by simp)
  have lb1 := hRK.1.lt
  have lb2 := hRK.2.1.lt
  have lb3 := hB2.lt
  refine RL.sub (e' := [(3, .pointer (some ⟨b3, 0, none⟩)), (10, .func (.func 79) #[] #[.pointer (some ⟨b1, 0, none⟩), .pointer (some ⟨b2, 0, none⟩)])]) (Sub.cons rfl (Sub.cons rfl Sub.nil)) ?_
  refine RL.nil ?_; repeat (first | with_reducible refine QN.block_normal ?_ | with_reducible refine QN.next ?_); repeat (first | with_reducible refine WP.seq ?_ | with_reducible refine WP.block ?_ | with_reducible refine WP.region ?_)
  refine WP.rangeFunc (ps := [11]) (gf := 79) (lb := [.pointer (some ⟨b1, 0, none⟩), .pointer (some ⟨b2, 0, none⟩)]) (fun x : Rng => [rV x]) rfl (rights1_c m2 b1 b2 (.slice A l.length c) l (by omega) 68 Rng.right (fun m1 x => right_c m1 x)) ⟨_, Try.func79, by kernel_rfl, by kernel_rfl⟩
    (CleanI m b1 b2 b3 (.slice A l.length c) l) (fun _ _ _ => False) (fun pre a b hi hK => hi.kc hK hEm.size) (fun _ _ _ _ hi _ => hi) (fun pre a ⟨_, _, _, _, _, _, hk⟩ => hk)
    ⟨[], .slice none 0 0, hB2, Own.empty _ _ _ _, (by simp), hEm, hRK⟩
    (fun x => [(11, rV x), (3, .pointer (some ⟨b3, 0, none⟩)), (10, .func (.func 79) #[] #[.pointer (some ⟨b1, 0, none⟩), .pointer (some ⟨b2, 0, none⟩)])]) (fun x => rfl) (fun x => rfl)
    (fun x b4 => [(4, .pointer (some ⟨b4, 0, none⟩)), (3, .pointer (some ⟨b3, 0, none⟩))]) (fun pre x b4 a => Blk a b4 62 (rC x) ∧ CleanI m b1 b2 b3 (.slice A l.length c) l pre a) (fun pre x y a b hi hK => ⟨hi.1.kc hK, hi.2.kc hK hEm.size⟩)
    ?_ ?_ ?_ ?_
  · -- the round's variable
    rintro lp pre x m3 hI hlen hsz
    refine WP.region ?_
    refine RL.alloc T_ok rfl rfl (fun b4 m4 hb4 hC4 => ⟨_, rfl, ?_⟩)
    have hE4 : Ext m3 [] m4 := hC4.new (by omega)
    refine RL.storeAgg T_ok (b := b4) (i := 0) (vs := rC x) (cs := [.int .u64 0, .int .u64 0, .int .u64 0]) hC4.blk rfl rfl rfl rfl rfl (by simp) (by simp [rC, Value.oneCell']) rfl ?_
    intro m5 hC5
    have hE5 : Ext m3 [] m5 := hE4.trans hC5.ext (fun q hq => .inr (by have h9 : q = b4 := (by simpa using hq); omega))
    exact RL.nil (QN.asgEnd b4 (Sub.cons rfl (Sub.cons rfl Sub.nil)) hE5.kn0 ⟨hC5.blk, hI.kc hE5.kc hEm.size⟩)
  · -- one more
    rintro lp pre x b4 m3 ⟨hB4, S, ov, hB3, hO, hS, hE3, hRK3⟩ hlen hsz
    replace hlen : pre.length < l.length := hlen
    repeat (first | with_reducible refine WP.seq ?_ | with_reducible refine WP.block ?_ | with_reducible refine WP.region ?_)
    refine RL.load T_ok rfl rfl rfl (hB3.cell 0 rfl) rfl ?_
    refine RL.loadAgg T_ok (rC x) rfl rfl rfl (fun j u hu => by rw [add_block]; exact hB4.cell _ (by simpa using hu)) rfl ?_
    refine RL.append1 T_ok [.tmp 13] hO (us := [rV x]) (rC x) rfl rfl rfl rfl rfl rfl rfl rfl rfl (by simp [rV, rC, Value.cells]) (by simp [rV, Value.cells]) (rC_one x) (by unfold maxLen; omega) (by show (_ + 1) * 24 ≤ _; omega) ?_
    intro v4 m4 S4 hO4 hE4 hF4
    refine ⟨_, rfl, ?_⟩
    have hB34 := hB3.ext hE4 (fun hh => (hS _ hh).2.1 rfl)
    refine RL.store T_ok hB34 (i := 0) (v := v4) (by simp) rfl rfl rfl rfl hO4.one rfl ?_
    intro m5 hC5
    have l1 := hRK3.1.lt
    have l2 := hRK3.2.1.lt
    have l3 := hB3.lt
    have hS4 : ∀ k ∈ S4, m.heap.size ≤ k ∧ k ≠ b3 ∧ k ≠ b1 ∧ k ≠ b2 := fun k hk => by
      rcases hF4 k hk with h9 | h9
      · exact hS k h9
      · have := hE3.size; exact ⟨by omega, by omega, by omega, by omega⟩
    have hE5 : Ext m3 (b3 :: S) m5 := (hE4.mono (fun k hk _ => List.mem_cons_of_mem _ hk)).trans hC5.ext (fun k hk => .inl (by have h9 : k = b3 := (by simpa using hk); simp [h9]))
    have hE5m : Ext m [] m5 := hE3.trans hE5 (fun k hk => .inr (by
      rcases List.mem_cons.1 hk with rfl | hk
      · omega
      · exact (hS k hk).1))
    refine RL.nil ?_
    repeat (first | with_reducible refine QN.block_normal ?_ | with_reducible refine QN.next ?_)
    refine QN.rdNormal (hE5.kn (fun k hk _ _ => ?_)) ⟨S4, v4, hC5.blk, ?_, hS4, hE5m, hRK3.1.ext hE5 ?_, hRK3.2.1.ext hE5 ?_, h.ext0 hE5m⟩
    · rcases List.mem_cons.1 hk with rfl | hk
      · exact ⟨_, _, _, hB3⟩
      · exact hO.cells k hk
    · rw [List.length_append, List.flatMap_append]
      exact (hO4.ext hC5.ext (fun k hk => by have := (hS4 k hk).2.1; simpa using this))
    · intro hh
      rcases List.mem_cons.1 hh with h9 | h9
      · omega
      · exact (hS _ h9).2.2.1 rfl
    · intro hh
      rcases List.mem_cons.1 hh with h9 | h9
      · omega
      · exact (hS _ h9).2.2.2 rfl
  · -- sorted, then joined
    rintro D xs m3 hD rfl ⟨S, ov, hB3, hO, hS, hE3, _⟩ hk
    have hDS : ∀ (t : TypeId) (cs : List Value), ¬ Blk m3 D t cs := fun t cs hh => by rw [hh] at hk; cases hk
    have hDm : m.heap.size ≤ D := Nat.le_trans hEm.size hD
    have hDlt : D < m3.heap.size := (Array.getElem?_eq_some_iff.1 hk).1
    have hDnS : D ∉ S := fun hh => by
      obtain ⟨c1, t1, z1, h9⟩ := hO.cells D hh
      rw [h9] at hk; cases hk
    have hxl : (l.filter Rng.right).length ≤ l.length := List.length_filter_le _ _
    repeat (first | with_reducible refine WP.seq ?_ | with_reducible refine WP.block ?_ | with_reducible refine WP.region ?_)
    repeat (first | with_reducible refine QN.block_normal ?_ | with_reducible refine QN.next ?_)
    repeat (first | with_reducible refine WP.seq ?_ | with_reducible refine WP.block ?_ | with_reducible refine WP.region ?_)
    refine RL.load T_ok rfl rfl rfl (hB3.cell 0 rfl) rfl ?_
    refine RL.call (fi := []) (ca := []) rfl rfl rfl rfl (sortR_c m3 S ov _ hO (by omega)) ?_
    rintro _ m4 ⟨rfl, hE4, l', hperm, hsort, hO4⟩
    refine ⟨_, rfl, ?_⟩
    have hB4 := hB3.ext hE4 (fun hh => (hS _ hh).2.1 rfl)
    have hk4 : m4.heap[D]? = some (.deferred (some [])) := (hE4.far D hDlt hDnS).trans hk
    have hE4m : Ext m [] m4 := hE3.trans hE4 (fun k hk => .inr (hS k hk).1)
    have hlen' : l'.length ≤ l.length := by rw [hperm.length_eq]; exact hxl
    obtain ⟨A', c', rfl, hc'⟩ := hO4.shape
    have hR4 : Rs m4 [] (.slice A' l'.length c') l' := hO4.sl (by simp)
    have hDlt4 : D < m4.heap.size := (Array.getElem?_eq_some_iff.1 hk4).1
    refine RL.nil ?_; repeat (first | with_reducible refine QN.block_normal ?_ | with_reducible refine QN.next ?_); repeat (first | with_reducible refine WP.seq ?_ | with_reducible refine WP.block ?_ | with_reducible refine WP.region ?_)
    refine RL.auto T_ok rfl ?_
    refine RL.nil ?_; repeat (first | with_reducible refine QN.block_normal ?_ | with_reducible refine QN.next ?_); repeat (first | with_reducible refine WP.seq ?_ | with_reducible refine WP.block ?_ | with_reducible refine WP.region ?_)
    refine WP.label ?_
    refine QN.next ?_
    repeat (first | with_reducible refine WP.seq ?_ | with_reducible refine WP.block ?_ | with_reducible refine WP.region ?_)
    refine RL.load T_ok rfl rfl rfl (hB4.cell 0 rfl) rfl ?_
    refine RL.auto T_ok rfl ?_
    refine RL.nil ?_; repeat (first | with_reducible refine QN.block_normal ?_ | with_reducible refine QN.next ?_); repeat (first | with_reducible refine WP.seq ?_ | with_reducible refine WP.block ?_ | with_reducible refine WP.region ?_)
    refine (WP.loop (X := Nat × Value × List Nat) (fun x => [(18, .slice A' l'.length c'), (19, .int .i64 l'.length), (5, x.2.1), (20, .int .i64 x.1)])
      (fun x m' => x.1 ≤ l'.length ∧ Ev.Own m' x.2.2 62 3 x.2.1 ((l'.take x.1).foldl mg []).length (((l'.take x.1).foldl mg []).reverse.flatMap rC) ∧ New m4 x.2.2 m') (fun x => l'.length - x.1) (0, .slice none 0 0, [])
      (Sub.cons rfl (Sub.cons rfl (Sub.cons rfl (Sub.cons rfl Sub.nil)))) ⟨by simp, Own.empty _ _ _ _, Ext.refl _ _, FpNew.nil _ _⟩ ?_)
    rintro ⟨i, u, S5⟩ m5 ⟨hi, hO5, hN5⟩
    simp only at hi hO5 hN5
    repeat (first | with_reducible refine WP.seq ?_ | with_reducible refine WP.block ?_ | with_reducible refine WP.region ?_)
    refine RL.auto T_ok rfl ?_
    refine RL.nil ?_; repeat (first | with_reducible refine QN.block_normal ?_ | with_reducible refine QN.next ?_); repeat (first | with_reducible refine WP.seq ?_ | with_reducible refine WP.block ?_ | with_reducible refine WP.region ?_)
    refine WP.cond rfl (fun hc => ?_) (fun hc => ?_)
    · replace hc : i < l'.length := by have := of_decide_eq_true hc; simp only at this; omega
      obtain ⟨ad, rfl, hx⟩ := (hR4.ext0 hN5.1).cell i hc
      have hnext : (l'.take (i + 1)).foldl mg [] = mg ((l'.take i).foldl mg []) l'[i] := by rw [List.take_succ_eq_append_getElem hc, List.foldl_append]; rfl
      have hTl : ((l'.take i).foldl mg []).length ≤ l.length := by
        have h9 := foldl_mg_len (l'.take i) []
        have h8 := List.length_take_le i l'
        simp only [List.length_nil] at h9
        omega
      generalize (l'.take i).foldl mg [] = r at hO5 hnext hTl
      obtain ⟨x, hxe⟩ : ∃ x, l'[i] = x := ⟨_, rfl⟩
      rw [hxe] at hx hnext
      obtain ⟨A5, c5, rfl, hc5⟩ := hO5.shape
      refine WP.skip ?_; repeat (first | with_reducible refine QN.block_normal ?_ | with_reducible refine QN.next ?_); repeat (first | with_reducible refine WP.seq ?_ | with_reducible refine WP.block ?_ | with_reducible refine WP.region ?_)
      refine RL.indexAddr (k := i) T_ok rfl rfl rfl rfl rfl rfl rfl hc rfl ?_
      refine RL.loadAgg T_ok (rC x) rfl rfl rfl hx rfl ?_
      refine RL.alloc T_ok rfl rfl (fun b7 m6 hb7 hC6 => ⟨_, rfl, ?_⟩)
      refine RL.storeAgg T_ok (b := b7) (i := 0) (vs := rC x) (cs := [.int .u64 0, .int .u64 0, .int .u64 0]) hC6.blk rfl rfl rfl rfl rfl (by simp) (by simp [rC, Value.oneCell']) rfl ?_
      intro m7 hC7
      have hE7 : Ext m5 [] m7 := (hC6.new (by omega)).trans hC7.ext (fun q hq => .inr (by have h9 : q = b7 := (by simpa using hq); omega))
      have hB7 : Blk m7 b7 62 (rC x) := hC7.blk
      have hO7 := hO5.ext hE7 (by simp)
      have hS7 : b7 ∉ S5 := fun hh => by have := hO5.lt _ hh; omega
      have hN7 : New m4 S5 m7 := ⟨hN5.1.trans hE7 (by simp), hN5.2⟩
      obtain ⟨e7, he7⟩ : ∃ e7 : Env, e7 = [(18, .slice (some ad) l'.length c'), (19, .int .i64 l'.length), (5, .slice A5 r.length c5), (20, .int .i64 i), (7, .pointer (some ⟨b7, 0, none⟩))] := ⟨_, rfl⟩
      refine RL.nil ?_; repeat (first | with_reducible refine QN.block_normal ?_ | with_reducible refine QN.next ?_)
      refine WP.cut (X := Unit) (fun _ => e7) (fun _ m' => m' = m7 ∧ mg r x = x :: r) ?_ ?_
      · rw [he7]
        repeat (first | with_reducible refine WP.seq ?_ | with_reducible refine WP.block ?_ | with_reducible refine WP.region ?_)
        rcases r with _ | ⟨y, r'⟩
        · refine RL.pure T_ok 3 rfl ?_
          refine RL.eqv (v' := .int .i64 (-1)) rfl ?_
          refine RL.auto T_ok rfl ?_
          refine RL.nil ?_; repeat (first | with_reducible refine QN.block_normal ?_ | with_reducible refine QN.next ?_)
          repeat (first | with_reducible refine WP.seq ?_ | with_reducible refine WP.block ?_ | with_reducible refine WP.region ?_)
          refine WP.calm ?_
          refine WP.drawQ (fun m' => m' = m7) [] (by kernel_rfl) rfl PanicOk.calm (fun hQ => ?_)
          refine RH.pure T_ok hQ [0, 1, 2, 3, 4, 5, 6, 7, 8, 9, 10, 11, 12, 13, 14, 15, 16, 17, 18, 19, 20, 21] (by kernel_rfl) rfl ?_
          refine RH.done (by kernel_rfl) (fun _ => QN.calm ?_)
          repeat (first | with_reducible refine QN.block_normal ?_ | with_reducible refine QN.next ?_)
          refine WP.condF rfl ?_
          refine WP.skip ?_
          exact QN.cutEnd () (Sub.cons rfl (Sub.cons rfl (Sub.cons rfl (Sub.cons rfl (Sub.cons rfl Sub.nil))))) ⟨rfl, rfl⟩
        · have hrl : (y :: r').length = r'.length + 1 := rfl
          refine RL.pure T_ok 3 rfl ?_
          refine RL.eqv (v' := .int .i64 r'.length) (congrArg _ (by show IntKind.i64.wrap (((r'.length + 1 : Nat) : Int) - 1) = r'.length; rw [wrap_i64_in _ (by omega) (by omega)]; omega)) ?_
          refine RL.auto T_ok rfl ?_
          refine RL.nil ?_; repeat (first | with_reducible refine QN.block_normal ?_ | with_reducible refine QN.next ?_)
          repeat (first | with_reducible refine WP.seq ?_ | with_reducible refine WP.block ?_ | with_reducible refine WP.region ?_)
          have hR7 : Rs m7 [] (.slice A5 (y :: r').length c5) (r'.reverse ++ [y]) := by
            have := hO7.sl (M := []) (by simp)
            rw [List.reverse_cons] at this; exact this
          obtain ⟨ad5, rfl, hy⟩ := hR7.cell r'.length (by simp)
          have hyy : (r'.reverse ++ [y])[r'.length]'(by simp) = y := by simp
          rw [hyy] at hy
          refine WP.calm ?_
          refine WP.drawQ (fun m' => m' = m7) [] (by kernel_rfl) rfl PanicOk.calm (fun hQ => ?_)
          refine RH.pure T_ok hQ [0, 1] (by kernel_rfl) rfl ?_
          refine RH.eqv (v' := .bool true) (congrArg _ (decide_eq_true (by omega))) ?_
          refine RH.pure T_ok hQ [2, 3, 4] (by kernel_rfl) rfl ?_
          refine RH.indexAddr T_ok hQ 5 (k := r'.length) rfl (by kernel_rfl) rfl rfl rfl rfl rfl rfl rfl (by omega) rfl ?_
          refine RH.pure T_ok hQ [6] (by kernel_rfl) rfl ?_
          refine RH.load T_ok hQ 7 (fun m' hm' => by rw [hm']; exact hy 0 _ rfl) rfl (by kernel_rfl) rfl rfl rfl rfl ?_
          refine RH.pure T_ok hQ [8] (by kernel_rfl) rfl ?_
          refine RH.load T_ok hQ 9 (fun m' hm' => by rw [hm']; exact hB7.cell 0 rfl) rfl (by kernel_rfl) rfl rfl rfl rfl ?_
          refine RH.pure T_ok hQ [10] (by kernel_rfl) rfl ?_
          by_cases h1 : y.c = x.c
          · refine RH.eqv (v' := .bool true) (congrArg _ (by rw [deq]; exact decide_eq_true h1)) ?_
            refine RH.pure T_ok hQ [11, 12, 13] (by kernel_rfl) rfl ?_
            refine RH.load T_ok hQ 14 (fun m' hm' => by rw [hm']; exact hB7.cell 1 rfl) rfl (by kernel_rfl) rfl rfl rfl rfl ?_
            refine RH.pure T_ok hQ [15, 16] (by kernel_rfl) rfl ?_
            refine RH.indexAddr T_ok hQ 17 (k := r'.length) rfl (by kernel_rfl) rfl rfl rfl rfl rfl rfl rfl (by omega) rfl ?_
            refine RH.pure T_ok hQ [18] (by kernel_rfl) rfl ?_
            refine RH.load T_ok hQ 19 (fun m' hm' => by rw [hm']; exact hy 2 _ rfl) rfl (by kernel_rfl) rfl rfl rfl rfl ?_
            refine RH.pure T_ok hQ [20] (by kernel_rfl) rfl ?_
            by_cases h2 : x.f ≤ y.t
            · refine RH.eqv (v' := .bool true) (congrArg _ (by rw [dle x.f y.t y.t rfl]; exact decide_eq_true h2)) ?_
              refine RH.pure T_ok hQ [21] (by kernel_rfl) rfl ?_
              refine RH.done (by kernel_rfl) (fun _ => QN.calm ?_)
              repeat (first | with_reducible refine QN.block_normal ?_ | with_reducible refine QN.next ?_)
              refine WP.condT rfl ?_
              have hO8 : Ev.Own m7 S5 62 3 (.slice (some ad5) (y :: r').length c5) (y :: r').length ((r'.reverse ++ [y]).flatMap rC) := by
                have := hO7; rw [List.reverse_cons] at this; exact this
              obtain ⟨g, cap, cur, hv8, hB8, rfl, hj8, hset⟩ := hO8.putN (j := r'.length * 3 + 2) (by rw [hrl]; omega)
              injection hv8 with hv8 hv8'
              injection hv8 with hv8
              subst hv8
              repeat (first | with_reducible refine WP.seq ?_ | with_reducible refine WP.block ?_ | with_reducible refine WP.region ?_)
              refine WP.calm ?_
              refine WP.drawQ (fun m' => m' = m7) [12] (by kernel_rfl) rfl PanicOk.calm (fun hQ => ?_)
              refine RH.pure T_ok hQ [0, 1, 2, 3] (by kernel_rfl) rfl ?_
              refine RH.indexAddr T_ok hQ 4 (k := r'.length) rfl (by kernel_rfl) rfl rfl rfl rfl rfl rfl rfl (by omega) rfl ?_
              refine RH.pure T_ok hQ [5] (by kernel_rfl) rfl ?_
              refine RH.load T_ok hQ 6 (fun m' hm' => by rw [hm']; exact hy 2 _ rfl) rfl (by kernel_rfl) rfl rfl rfl rfl ?_
              refine RH.pure T_ok hQ [7] (by kernel_rfl) rfl ?_
              refine RH.load T_ok hQ 8 (fun m' hm' => by rw [hm']; exact hB7.cell 2 rfl) rfl (by kernel_rfl) rfl rfl rfl rfl ?_
              refine RH.pure T_ok hQ [9] (by kernel_rfl) rfl ?_
              refine RH.eqv (v' := .int .u64 (max y.t x.t : Nat)) (congrArg _ (by show (if _ then _ else _ : Int) = _; split <;> omega)) ?_
              refine RH.indexAddr T_ok hQ 10 (k := r'.length) rfl (by kernel_rfl) rfl rfl rfl rfl rfl rfl rfl (by omega) rfl ?_
              refine RH.eqv (v' := .pointer (some ⟨g, r'.length * 3, none⟩)) (congrArg (fun q => Value.pointer (some q)) (by rw [add_block]; show (⟨g, 0 + r'.length * 3, none⟩ : Addr) = _; rw [Nat.zero_add])) ?_
              refine RH.pure T_ok hQ [11] (by kernel_rfl) rfl ?_
              refine RH.only 12 rfl (by kernel_rfl) (fun _ => ?_)
              refine RL.store T_ok hB8 (i := r'.length * 3 + 2) (v := .int .u64 (max y.t x.t : Nat)) hj8 rfl rfl rfl rfl rfl rfl ?_
              intro m9 hC9
              have hO9 := hset m9 _ hC9
              rw [show r'.length * 3 + 2 = r'.reverse.length * 3 + 2 by rw [List.length_reverse], rsC_setT, ← List.reverse_cons] at hO9
              have hnx : mg (y :: r') x = { y with t := max y.t x.t } :: r' := by rw [mg_cons, if_pos ⟨h1, h2⟩]
              rw [hnx] at hnext
              have hN9 : New m4 [g] m9 := ⟨hN7.1.trans hC9.ext (fun k hk => .inr (hN7.ge k hk)), hN7.2⟩
              refine RL.nil (RF.last (by kernel_rfl) (QN.calm ?_))
              repeat (first | with_reducible refine QN.block_normal ?_ | with_reducible refine QN.next ?_)
              refine WP.exit ?_; repeat (first | with_reducible refine QN.then_exit ?_ | with_reducible refine QN.block_exit ?_ | with_reducible refine QN.block_far rfl ?_ | with_reducible refine QN.block_normal ?_ | with_reducible refine QN.next ?_); repeat (first | with_reducible refine WP.seq ?_ | with_reducible refine WP.block ?_ | with_reducible refine WP.region ?_)
              refine RL.pure T_ok 1 rfl ?_
              refine RL.eqv (v' := .int .i64 ((i + 1 : Nat) : Int)) (congrArg _ (by rw [wrap_i64_in _ (by omega) (by omega)]; rfl)) ?_
              refine RL.auto T_ok rfl ?_
              refine RL.nil (QN.round (i + 1, .slice (some ⟨g, 0, none⟩) (y :: r').length c5, [g]) (Sub.cons rfl (Sub.cons rfl (Sub.cons rfl (Sub.cons rfl Sub.nil)))) ⟨by show i + 1 ≤ _; omega, ?_, hN9⟩ (by show _ - (i + 1) < _ - i; omega))
              show Ev.Own m9 [g] 62 3 _ ((l'.take (i + 1)).foldl mg []).length (((l'.take (i + 1)).foldl mg []).reverse.flatMap rC)
              rw [hnext]
              exact hO9
            · refine RH.eqv (v' := .bool false) (congrArg _ (by rw [dle x.f y.t y.t rfl]; exact decide_eq_false h2)) ?_
              refine RH.pure T_ok hQ [21] (by kernel_rfl) rfl ?_
              refine RH.done (by kernel_rfl) (fun _ => QN.calm ?_)
              repeat (first | with_reducible refine QN.block_normal ?_ | with_reducible refine QN.next ?_)
              refine WP.condF rfl ?_
              refine WP.skip ?_
              exact QN.cutEnd () (Sub.cons rfl (Sub.cons rfl (Sub.cons rfl (Sub.cons rfl (Sub.cons rfl Sub.nil))))) ⟨rfl, by rw [mg_cons, if_neg (fun hh => h2 hh.2)]⟩
          · refine RH.eqv (v' := .bool false) (congrArg _ (by rw [deq]; exact decide_eq_false h1)) ?_
            refine RH.pure T_ok hQ [11, 12, 13, 14, 15, 16, 17, 18, 19, 20, 21] (by kernel_rfl) rfl ?_
            refine RH.done (by kernel_rfl) (fun _ => QN.calm ?_)
            repeat (first | with_reducible refine QN.block_normal ?_ | with_reducible refine QN.next ?_)
            refine WP.condF rfl ?_
            refine WP.skip ?_
            exact QN.cutEnd () (Sub.cons rfl (Sub.cons rfl (Sub.cons rfl (Sub.cons rfl (Sub.cons rfl Sub.nil))))) ⟨rfl, by rw [mg_cons, if_neg (fun hh => h1 hh.1)]⟩
      · -- put behind
        rintro _ m' ⟨rfl, hmg⟩
        rw [he7]
        repeat (first | with_reducible refine WP.seq ?_ | with_reducible refine WP.block ?_ | with_reducible refine WP.region ?_)
        rw [hmg] at hnext
        refine RL.sub (e' := [(18, .slice (some ad) l'.length c'), (19, .int .i64 l'.length), (5, .slice A5 r.length c5), (20, .int .i64 i), (7, .pointer (some ⟨b7, 0, none⟩))]) (Sub.cons rfl (Sub.cons rfl (Sub.cons rfl (Sub.cons rfl (Sub.cons rfl Sub.nil))))) ?_
        refine RL.auto T_ok rfl ?_
        refine RL.loadAgg T_ok (rC x) rfl rfl rfl (fun j u hu => by rw [add_block]; exact hB7.cell _ (by simpa using hu)) rfl ?_
        refine RL.append1 T_ok [.tmp 62] hO7 (us := [rV x]) (rC x) rfl rfl rfl rfl rfl rfl rfl rfl rfl (by simp [rV, rC, Value.cells]) (by simp [rV, Value.cells]) (rC_one x) (by unfold maxLen; omega) (by show (_ + 1) * 24 ≤ _; omega) ?_
        intro v8 m8 S8 hO8 hE8 hF8
        refine ⟨_, rfl, ?_⟩
        refine RL.auto T_ok rfl ?_
        refine RL.nil ?_; repeat (first | with_reducible refine QN.block_normal ?_ | with_reducible refine QN.next ?_); repeat (first | with_reducible refine WP.seq ?_ | with_reducible refine WP.block ?_ | with_reducible refine WP.region ?_)
        refine RL.pure T_ok 1 rfl ?_
        refine RL.eqv (v' := .int .i64 ((i + 1 : Nat) : Int)) (congrArg _ (by rw [wrap_i64_in _ (by omega) (by omega)]; rfl)) ?_
        refine RL.auto T_ok rfl ?_
        have hN8 : New m4 S8 m8 := ⟨hN7.1.trans hE8 (fun k hk => .inr (hN7.ge k hk)), hN7.2.trans hF8 hN7.1.size⟩
        refine RL.nil (QN.round (i + 1, v8, S8) (Sub.cons rfl (Sub.cons rfl (Sub.cons rfl (Sub.cons rfl Sub.nil)))) ⟨by show i + 1 ≤ _; omega, ?_, hN8⟩ (by show _ - (i + 1) < _ - i; omega))
        show Ev.Own m8 S8 62 3 _ ((l'.take (i + 1)).foldl mg []).length (((l'.take (i + 1)).foldl mg []).reverse.flatMap rC)
        rw [hnext, List.reverse_cons, ← rsC_app]
        exact hO8
    · have hc : i = l'.length := by have := of_decide_eq_false hc; omega
      subst hc
      rw [List.take_length] at hO5
      have hcl := merged_clean l l' hperm hsort
      rw [hcl] at hO5
      have hln : (l'.foldl mg []).length = (clean l).length := by rw [← hcl, List.length_reverse]
      rw [hln] at hO5
      have hk5 : m5.heap[D]? = some (.deferred (some [])) := (hN5.1.far D hDlt4 (by simp)).trans hk4
      refine WP.exit ?_; repeat (first | with_reducible refine QN.then_exit ?_ | with_reducible refine QN.block_exit ?_ | with_reducible refine QN.block_far rfl ?_ | with_reducible refine QN.block_normal ?_ | with_reducible refine QN.next ?_); repeat (first | with_reducible refine WP.seq ?_ | with_reducible refine WP.block ?_ | with_reducible refine WP.region ?_)
      refine RL.auto T_ok rfl ?_
      refine RL.nil ?_; repeat (first | with_reducible refine QN.block_normal ?_ | with_reducible refine QN.next ?_); repeat (first | with_reducible refine WP.seq ?_ | with_reducible refine WP.block ?_ | with_reducible refine WP.region ?_)
      refine WP.ret ?_; repeat (first | with_reducible refine QN.then_ret ?_ | with_reducible refine QN.block_ret ?_)
      refine QN.noGotoRet ?_
      refine QN.leaveM (.inl rfl) hk5 (fun m' hK hfar => ⟨Res.tmp rfl rfl, ⟨_, rfl, S5, hO5.kc hK, (hE4m.trans hN5.1 (by simp)).of_kc hK hDm, hN5.2.trans' hE4m ⟩⟩)
  · rintro D c pre m' _ _ hx
    exact hx.elim
end Go.Proofs.Ytmjpcaiehfimgaa
