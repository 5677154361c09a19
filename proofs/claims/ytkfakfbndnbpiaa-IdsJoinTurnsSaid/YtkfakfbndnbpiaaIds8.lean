/- Counts, and the reference's Has. -/
import Derived.Test.YtkfakfbndnbpiaaIds7
namespace Go.Proofs.Ytkfakfbndnbpiaa
open Go.RowKit Go.Ev Go.Ids

def cnt (l : List Rng) : Nat := (l.map fun x => x.t - x.f).sum
theorem cnt_take (l : List Rng) (hl : ∀ x ∈ l, x.right = true) (i : Nat) (h : i < l.length) : cnt (l.take (i + 1)) = cnt (l.take i) + (l[i].t - l[i].f) ∧ l[i].f < l[i].t ∧ l[i].t ≤ 9007199254740992 := by
  have hr := right_iff.1 (hl l[i] (List.getElem_mem _))
  refine ⟨?_, hr.2.2.2.1, hr.2.2.2.2⟩
  unfold cnt
  rw [List.take_succ_eq_append_getElem h, List.map_append, List.sum_append]
  simp only [List.map_cons, List.map_nil, List.sum_cons, List.sum_nil, Nat.add_zero]
theorem cnt_le : ∀ (l : List Rng), (∀ x ∈ l, x.right = true) → cnt l ≤ l.length * 9007199254740992
  | [], _ => by simp [cnt]
  | x :: l, h => by
    have := cnt_le l (fun y hy => h y (List.mem_cons_of_mem _ hy))
    have hr := right_iff.1 (h x (List.mem_cons_self ..))
    simp only [cnt, List.map_cons, List.sum_cons, List.length_cons] at *
    omega
theorem cnt_take_le (l : List Rng) (i : Nat) : cnt (l.take i) ≤ cnt l := by
  have h := congrArg cnt (List.take_append_drop i l)
  unfold cnt at *
  rw [List.map_append, List.sum_append] at h
  omega
theorem count_c (m : World) (v : Value) (l : List Rng) (h : Rs m [] v l) (hl : l.length < 500000000) (hn : cnt (clean l) < 9223372036854775808) : FnR Try.prog 32 [v] m fun r m' => r = .int .u64 (cnt (clean l)) ∧ Ext m [] m' := by
  refine FnE.enter ⟨_, Try.func32, by kernel_rfl, by kernel_rfl⟩ Try.func32 rfl rfl ?_
  repeat (first | with_reducible refine WP.seq ?_ | with_reducible refine WP.block ?_ | with_reducible refine WP.region ?_)
  refine RL.auto T_ok rfl ?_
  refine RL.nil ?_; repeat (first | with_reducible refine QN.block_normal ?_ | with_reducible refine QN.next ?_); repeat (first | with_reducible refine WP.seq ?_ | with_reducible refine WP.block ?_ | with_reducible refine WP.region ?_)
  refine RL.auto T_ok rfl ?_
  refine RL.nil ?_; repeat (first | with_reducible refine QN.block_normal ?_ | with_reducible refine QN.next ?_); repeat (first | with_reducible refine WP.seq ?_ | with_reducible refine WP.block ?_ | with_reducible refine WP.region ?_)
  refine RL.auto T_ok rfl ?_
  refine RL.call (fi := []) (ca := []) rfl rfl rfl rfl (clean_c m v l h (by omega)) ?_
  rintro _ m1 ⟨S, hO, hN⟩
  refine ⟨_, rfl, ?_⟩
  have hcl := clean_len l
  have hcr := (clean_canon l).1
  generalize clean l = L at hO hcl hcr hn ⊢
  obtain ⟨A, c, rfl, _⟩ := hO.shape
  have hR : Rs m1 [] (.slice A L.length c) L := hO.sl (by simp)
  refine RL.auto T_ok rfl ?_
  refine RL.nil ?_; repeat (first | with_reducible refine QN.block_normal ?_ | with_reducible refine QN.next ?_); repeat (first | with_reducible refine WP.seq ?_ | with_reducible refine WP.block ?_ | with_reducible refine WP.region ?_)
  refine (WP.loop (X := Nat) (fun i => [(7, .slice A L.length c), (8, .int .i64 L.length), (3, .int .u64 (cnt (L.take i))), (9, .int .i64 i)])
    (fun i m' => i ≤ L.length ∧ Ext m1 [] m') (fun i => L.length - i) 0
    (Sub.cons rfl (Sub.cons rfl (Sub.cons rfl (Sub.cons rfl Sub.nil)))) ⟨by simp, Ext.refl _ _⟩ ?_)
  rintro i m2 ⟨hi, hE2⟩
  repeat (first | with_reducible refine WP.seq ?_ | with_reducible refine WP.block ?_ | with_reducible refine WP.region ?_)
  refine RL.auto T_ok rfl ?_
  refine RL.nil ?_; repeat (first | with_reducible refine QN.block_normal ?_ | with_reducible refine QN.next ?_); repeat (first | with_reducible refine WP.seq ?_ | with_reducible refine WP.block ?_ | with_reducible refine WP.region ?_)
  refine WP.cond rfl (fun hc => ?_) (fun hc => ?_)
  · replace hc : i < L.length := by have := of_decide_eq_true hc; omega
    obtain ⟨ad, rfl, hx⟩ := (hR.ext0 hE2).cell i hc
    obtain ⟨hn1, hx1, hx2⟩ := cnt_take L hcr i hc
    have hle3 := Nat.lt_of_le_of_lt (cnt_take_le L i) hn
    refine WP.skip ?_; repeat (first | with_reducible refine QN.block_normal ?_ | with_reducible refine QN.next ?_); repeat (first | with_reducible refine WP.seq ?_ | with_reducible refine WP.block ?_ | with_reducible refine WP.region ?_)
    refine RL.indexAddr (k := i) T_ok rfl rfl rfl rfl rfl rfl rfl hc rfl ?_
    refine RL.loadAgg T_ok (rC L[i]) rfl rfl rfl hx rfl ?_
    refine RL.alloc T_ok rfl rfl (fun b5 m3 hb5 hC3 => ⟨_, rfl, ?_⟩)
    refine RL.storeAgg T_ok (b := b5) (i := 0) (vs := rC L[i]) (cs := [.int .u64 0, .int .u64 0, .int .u64 0]) hC3.blk rfl rfl rfl rfl rfl (by simp) (by simp [rC, Value.oneCell']) rfl ?_
    intro m4 hC4
    have hE4 : Ext m2 [] m4 := (hC3.new (by omega)).trans hC4.ext (fun q hq => .inr (by have h9 : q = b5 := (by simpa using hq); omega))
    have hB4 : Blk m4 b5 84 (rC L[i]) := hC4.blk
    refine RL.nil ?_; repeat (first | with_reducible refine QN.block_normal ?_ | with_reducible refine QN.next ?_); repeat (first | with_reducible refine WP.seq ?_ | with_reducible refine WP.block ?_ | with_reducible refine WP.region ?_)
    repeat (first | refine RL.pure T_ok 1 rfl ?_ | refine RL.load T_ok rfl rfl rfl (hB4.cell _ rfl) rfl ?_)
    refine RL.eqv (v' := .int .u64 (cnt (L.take (i + 1)) : Nat)) (congrArg _ (by rw [wrap_u64_in ((L[i].t : Int) - L[i].f) (by omega) (by omega), wrap_u64_in _ (by omega) (by omega), hn1]; omega)) ?_
    refine RL.auto T_ok rfl ?_
    refine RL.nil ?_; repeat (first | with_reducible refine QN.block_normal ?_ | with_reducible refine QN.next ?_); repeat (first | with_reducible refine WP.seq ?_ | with_reducible refine WP.block ?_ | with_reducible refine WP.region ?_)
    refine RL.pure T_ok 1 rfl ?_
    refine RL.eqv (v' := .int .i64 ((i + 1 : Nat) : Int)) (congrArg _ (by rw [wrap_i64_in _ (by omega) (by omega)]; rfl)) ?_
    refine RL.auto T_ok rfl ?_
    exact RL.nil (QN.round (i + 1) (Sub.cons rfl (Sub.cons rfl (Sub.cons rfl (Sub.cons rfl Sub.nil)))) ⟨by omega, hE2.trans hE4 (by simp)⟩ (by omega))
  · replace hc : i = L.length := by have := of_decide_eq_false hc; omega
    subst hc
    rw [List.take_length]
    refine WP.exit ?_; repeat (first | with_reducible refine QN.then_exit ?_ | with_reducible refine QN.block_exit ?_ | with_reducible refine QN.block_far rfl ?_ | with_reducible refine QN.block_normal ?_ | with_reducible refine QN.next ?_); repeat (first | with_reducible refine WP.seq ?_ | with_reducible refine WP.block ?_ | with_reducible refine WP.region ?_)
    refine RL.auto T_ok rfl ?_
    refine RL.nil ?_; repeat (first | with_reducible refine QN.block_normal ?_ | with_reducible refine QN.next ?_); repeat (first | with_reducible refine WP.seq ?_ | with_reducible refine WP.block ?_ | with_reducible refine WP.region ?_)
    refine WP.ret ?_; repeat (first | with_reducible refine QN.then_ret ?_ | with_reducible refine QN.block_ret ?_)
    exact QN.ret1 rfl rfl ⟨_, rfl, rfl, hN.1.trans hE2 (by simp)⟩
theorem refcount_c (m : World) (v : Value) (l : List Rng) (h : Rs m [] v l) (hl : l.length < 500000000) (hn : cnt (clean l) < 9223372036854775808) : FnR Try.prog 33 [v] m fun r m' => r = .int .u64 (cnt (clean l)) ∧ Ext m [] m' := by
  refine FnE.enter ⟨_, Try.func33, by kernel_rfl, by kernel_rfl⟩ Try.func33 rfl rfl ?_
  repeat (first | with_reducible refine WP.seq ?_ | with_reducible refine WP.block ?_ | with_reducible refine WP.region ?_)
  refine RL.auto T_ok rfl ?_
  refine RL.nil ?_; repeat (first | with_reducible refine QN.block_normal ?_ | with_reducible refine QN.next ?_); repeat (first | with_reducible refine WP.seq ?_ | with_reducible refine WP.block ?_ | with_reducible refine WP.region ?_)
  refine RL.auto T_ok rfl ?_
  refine RL.nil ?_; repeat (first | with_reducible refine QN.block_normal ?_ | with_reducible refine QN.next ?_); repeat (first | with_reducible refine WP.seq ?_ | with_reducible refine WP.block ?_ | with_reducible refine WP.region ?_)
  refine RL.auto T_ok rfl ?_
  refine RL.call (fi := []) (ca := []) rfl rfl rfl rfl (refclean_c m v l h (by omega)) ?_
  rintro _ m1 ⟨S, hO, hN⟩
  refine ⟨_, rfl, ?_⟩
  have hcl := clean_len l
  have hcr := (clean_canon l).1
  generalize clean l = L at hO hcl hcr hn ⊢
  obtain ⟨A, c, rfl, _⟩ := hO.shape
  have hR : Rs m1 [] (.slice A L.length c) L := hO.sl (by simp)
  refine RL.auto T_ok rfl ?_
  refine RL.nil ?_; repeat (first | with_reducible refine QN.block_normal ?_ | with_reducible refine QN.next ?_); repeat (first | with_reducible refine WP.seq ?_ | with_reducible refine WP.block ?_ | with_reducible refine WP.region ?_)
  refine RL.auto T_ok rfl ?_
  refine RL.nil ?_; repeat (first | with_reducible refine QN.block_normal ?_ | with_reducible refine QN.next ?_); repeat (first | with_reducible refine WP.seq ?_ | with_reducible refine WP.block ?_ | with_reducible refine WP.region ?_)
  refine (WP.loop (X := Nat) (fun i => [(0, .slice A L.length c), (3, .int .u64 (cnt (L.take i))), (4, .int .i64 i)])
    (fun i m' => i ≤ L.length ∧ m' = m1) (fun i => L.length - i) 0
    (Sub.cons rfl (Sub.cons rfl (Sub.cons rfl Sub.nil))) ⟨by simp, rfl⟩ ?_)
  rintro i m2 ⟨hi, rfl⟩
  repeat (first | with_reducible refine WP.seq ?_ | with_reducible refine WP.block ?_ | with_reducible refine WP.region ?_)
  refine RL.auto T_ok rfl ?_
  refine RL.nil ?_; repeat (first | with_reducible refine QN.block_normal ?_ | with_reducible refine QN.next ?_); repeat (first | with_reducible refine WP.seq ?_ | with_reducible refine WP.block ?_ | with_reducible refine WP.region ?_)
  refine WP.cond rfl (fun hc => ?_) (fun hc => ?_)
  · replace hc : i < L.length := by have := of_decide_eq_true hc; omega
    obtain ⟨ad, rfl, hx⟩ := hR.cell i hc
    obtain ⟨hn1, hx1, hx2⟩ := cnt_take L hcr i hc
    have hle3 := Nat.lt_of_le_of_lt (cnt_take_le L i) hn
    refine WP.skip ?_; repeat (first | with_reducible refine QN.block_normal ?_ | with_reducible refine QN.next ?_); repeat (first | with_reducible refine WP.seq ?_ | with_reducible refine WP.block ?_ | with_reducible refine WP.region ?_)
    refine WP.drawQ (fun m' => m' = m2) [] (by kernel_rfl) rfl (by repeat (first | with_reducible exact PanicOk.body | with_reducible refine PanicOk.then_ ?_ | with_reducible refine PanicOk.block_ ?_)) (fun hQ => ?_)
    refine RH.pure T_ok hQ [0, 1, 2] (by kernel_rfl) rfl ?_
    refine RH.indexAddr T_ok hQ 3 (k := i) rfl (by kernel_rfl) rfl rfl rfl rfl rfl rfl rfl hc rfl ?_
    refine RH.pure T_ok hQ [4] (by kernel_rfl) rfl ?_
    refine RH.load T_ok hQ 5 (fun m' hm' => by rw [hm']; exact hx 2 _ rfl) rfl (by kernel_rfl) rfl rfl rfl rfl ?_
    refine RH.pure T_ok hQ [6] (by kernel_rfl) rfl ?_
    refine RH.eqv (v' := .int .u64 (cnt (L.take i) + L[i].t : Nat)) (congrArg _ (by rw [wrap_u64_in _ (by omega) (by omega)]; omega)) ?_
    refine RH.pure T_ok hQ [7, 8] (by kernel_rfl) rfl ?_
    refine RH.indexAddr T_ok hQ 9 (k := i) rfl (by kernel_rfl) rfl rfl rfl rfl rfl rfl rfl hc rfl ?_
    refine RH.pure T_ok hQ [10] (by kernel_rfl) rfl ?_
    refine RH.load T_ok hQ 11 (fun m' hm' => by rw [hm']; exact hx 1 _ rfl) rfl (by kernel_rfl) rfl rfl rfl rfl ?_
    refine RH.pure T_ok hQ [12] (by kernel_rfl) rfl ?_
    refine RH.eqv (v' := .int .u64 (cnt (L.take (i + 1)) : Nat)) (congrArg _ (by rw [wrap_u64_in _ (by omega) (by omega), hn1]; omega)) ?_
    refine RH.pure T_ok hQ [13] (by kernel_rfl) rfl ?_
    refine RH.done (by kernel_rfl) (fun _ => ?_)
    repeat (first | with_reducible refine QN.block_normal ?_ | with_reducible refine QN.next ?_)
    repeat (first | with_reducible refine WP.seq ?_ | with_reducible refine WP.block ?_ | with_reducible refine WP.region ?_)
    refine RL.pure T_ok 2 rfl ?_
    refine RL.eqv (v' := .int .i64 ((i + 1 : Nat) : Int)) (congrArg _ (by rw [wrap_i64_in _ (by omega) (by omega)]; rfl)) ?_
    refine RL.auto T_ok rfl ?_
    exact RL.nil (QN.round (i + 1) (Sub.cons rfl (Sub.cons rfl (Sub.cons rfl Sub.nil))) ⟨by omega, rfl⟩ (by omega))
  · replace hc : i = L.length := by have := of_decide_eq_false hc; omega
    subst hc
    rw [List.take_length]
    refine WP.exit ?_; repeat (first | with_reducible refine QN.then_exit ?_ | with_reducible refine QN.block_exit ?_ | with_reducible refine QN.block_far rfl ?_ | with_reducible refine QN.block_normal ?_ | with_reducible refine QN.next ?_); repeat (first | with_reducible refine WP.seq ?_ | with_reducible refine WP.block ?_ | with_reducible refine WP.region ?_)
    refine RL.auto T_ok rfl ?_
    refine RL.nil ?_; repeat (first | with_reducible refine QN.block_normal ?_ | with_reducible refine QN.next ?_); repeat (first | with_reducible refine WP.seq ?_ | with_reducible refine WP.block ?_ | with_reducible refine WP.region ?_)
    refine WP.ret ?_; repeat (first | with_reducible refine QN.then_ret ?_ | with_reducible refine QN.block_ret ?_)
    exact QN.ret1 rfl rfl ⟨_, rfl, rfl, hN.1⟩
theorem refhas_c (m : World) (v : Value) (l : List Rng) (h : Rs m [] v l) (hl : l.length < 1000000000) (id : Idn) : FnR Try.prog 29 [v, iV id] m fun r m' => r = .bool (hasB l id) ∧ Ext m [] m' := by
  obtain ⟨A, c, rfl, _, _⟩ := h.shape
  rw [hasB_any]
  refine FnE.enter ⟨_, Try.func29, by kernel_rfl, by kernel_rfl⟩ Try.func29 rfl rfl ?_
  repeat (first | with_reducible refine WP.seq ?_ | with_reducible refine WP.block ?_ | with_reducible refine WP.region ?_)
  refine RL.box rfl rfl (fun b m1 hb hC => ⟨_, rfl, ?_⟩)
  have hB1 : Blk m1 b 48 (iC id) := hC.here
  have hE1 : Ext m [] m1 := hC.new (by omega)
  clear hC
  refine RL.auto T_ok rfl ?_
  refine RL.nil ?_; repeat (first | with_reducible refine QN.block_normal ?_ | with_reducible refine QN.next ?_); repeat (first | with_reducible refine WP.seq ?_ | with_reducible refine WP.block ?_ | with_reducible refine WP.region ?_)
  refine RL.auto T_ok rfl ?_
  refine RL.nil ?_; repeat (first | with_reducible refine QN.block_normal ?_ | with_reducible refine QN.next ?_); repeat (first | with_reducible refine WP.seq ?_ | with_reducible refine WP.block ?_ | with_reducible refine WP.region ?_)
  refine (WP.loop (X := Nat) (fun i => [(0, .slice A l.length c), (3, .pointer (some ⟨b, 0, none⟩)), (5, .int .i64 i)])
    (fun i m' => i ≤ l.length ∧ (l.take i).any (inR id) = false ∧ Ext m1 [] m') (fun i => l.length - i) 0
    (Sub.cons rfl (Sub.cons rfl (Sub.cons rfl Sub.nil))) ⟨by simp, by simp, Ext.refl _ _⟩ ?_)
  rintro i m2 ⟨hi, ht, hE2⟩
  repeat (first | with_reducible refine WP.seq ?_ | with_reducible refine WP.block ?_ | with_reducible refine WP.region ?_)
  refine RL.auto T_ok rfl ?_
  refine RL.nil ?_; repeat (first | with_reducible refine QN.block_normal ?_ | with_reducible refine QN.next ?_); repeat (first | with_reducible refine WP.seq ?_ | with_reducible refine WP.block ?_ | with_reducible refine WP.region ?_)
  refine WP.cond rfl (fun hc => ?_) (fun hc => ?_)
  · replace hc : i < l.length := by have := of_decide_eq_true hc; omega
    have hB2 := hB1.ext hE2 (by simp)
    have hE12 : Ext m [] m2 := hE1.trans hE2 (by simp)
    obtain ⟨ad, rfl, _⟩ := (h.ext0 hE12).cell i hc
    obtain ⟨x, hxe⟩ : ∃ x, l[i] = x := ⟨_, rfl⟩
    have hx : ∀ m', Ext m2 [] m' → ∀ j u, (rC x)[j]? = some u → m'.cell? ((ad.add (i * 3)).add j) = some u := fun m' hE => by
      obtain ⟨ad', h1, h2⟩ := (h.ext0 (hE12.trans hE (by simp))).cell i hc
      injection h1 with h1
      subst h1
      rw [hxe] at h2; exact h2
    have hI : ∀ m', Ext m2 [] m' → Blk m' b 48 (iC id) := fun m' hE => hB2.ext hE (by simp)
    have hnext : (l.take (i + 1)).any (inR id) = inR id x := by
      rw [List.take_succ_eq_append_getElem hc, List.any_append, ht, hxe]; simp
    refine WP.skip ?_; repeat (first | with_reducible refine QN.block_normal ?_ | with_reducible refine QN.next ?_)
    refine WP.seq ?_
    refine WP.block ?_
    refine WP.cut (X := Bool) (fun q => [(0, .slice (some ad) l.length c), (3, .pointer (some ⟨b, 0, none⟩)), (5, .int .i64 i), (46, .bool q)]) (fun q m' => q = inR id x ∧ Ext m2 [] m') ?_ ?_
    · refine WP.drawQ (fun m' => Ext m2 [] m') [] (by kernel_rfl) (Ext.refl _ _) (by repeat (first | with_reducible exact PanicOk.body | with_reducible refine PanicOk.then_ ?_ | with_reducible refine PanicOk.block_ ?_)) (fun hQ => ?_)
      refine RH.pure T_ok hQ [0, 1] (by kernel_rfl) rfl ?_
      refine RH.indexAddr T_ok hQ 2 (k := i) rfl (by kernel_rfl) rfl rfl rfl rfl rfl rfl rfl hc rfl ?_
      refine RH.loadAgg T_ok hQ 3 (rC x) (fun m' hm' => hx m' hm') rfl (by kernel_rfl) rfl rfl rfl rfl ?_
      refine RH.only 4 rfl (by kernel_rfl) (fun _ => ?_)
      refine RL.call (fi := []) (ca := []) rfl rfl rfl rfl (refrightR_c m2 x) ?_
      rintro _ m3 ⟨rfl, hE3⟩
      refine ⟨_, rfl, RL.nil (RH.cont hE3 ?_)⟩
      by_cases h1 : x.right = true
      · refine RH.eqv (v' := .bool true) (congrArg _ h1) ?_
        refine RH.pure T_ok hQ [5, 6, 7] (by kernel_rfl) rfl ?_
        refine RH.indexAddr T_ok hQ 8 (k := i) rfl (by kernel_rfl) rfl rfl rfl rfl rfl rfl rfl hc rfl ?_
        refine RH.pure T_ok hQ [9] (by kernel_rfl) rfl ?_
        refine RH.load T_ok hQ 10 (fun m' hm' => hx m' hm' 0 _ rfl) rfl (by kernel_rfl) rfl rfl rfl rfl ?_
        refine RH.pure T_ok hQ [11] (by kernel_rfl) rfl ?_
        refine RH.load T_ok hQ 12 (fun m' hm' => (hI m' hm').cell 0 rfl) rfl (by kernel_rfl) rfl rfl rfl rfl ?_
        refine RH.pure T_ok hQ [13] (by kernel_rfl) rfl ?_
        by_cases h2 : x.c = id.c
        · refine RH.eqv (v' := .bool true) (congrArg _ (by rw [deq]; exact decide_eq_true h2)) ?_
          refine RH.pure T_ok hQ [14, 15, 16, 17] (by kernel_rfl) rfl ?_
          refine RH.indexAddr T_ok hQ 18 (k := i) rfl (by kernel_rfl) rfl rfl rfl rfl rfl rfl rfl hc rfl ?_
          refine RH.pure T_ok hQ [19] (by kernel_rfl) rfl ?_
          refine RH.load T_ok hQ 20 (fun m' hm' => hx m' hm' 1 _ rfl) rfl (by kernel_rfl) rfl rfl rfl rfl ?_
          refine RH.pure T_ok hQ [21] (by kernel_rfl) rfl ?_
          refine RH.load T_ok hQ 22 (fun m' hm' => (hI m' hm').cell 1 rfl) rfl (by kernel_rfl) rfl rfl rfl rfl ?_
          refine RH.pure T_ok hQ [23] (by kernel_rfl) rfl ?_
          by_cases h3 : x.f ≤ id.k
          · refine RH.eqv (v' := .bool true) (congrArg _ (by rw [dle x.f id.k id.k rfl]; exact decide_eq_true h3)) ?_
            refine RH.pure T_ok hQ [24, 25, 26] (by kernel_rfl) rfl ?_
            refine RH.load T_ok hQ 27 (fun m' hm' => (hI m' hm').cell 1 rfl) rfl (by kernel_rfl) rfl rfl rfl rfl ?_
            refine RH.pure T_ok hQ [28, 29] (by kernel_rfl) rfl ?_
            refine RH.indexAddr T_ok hQ 30 (k := i) rfl (by kernel_rfl) rfl rfl rfl rfl rfl rfl rfl hc rfl ?_
            refine RH.pure T_ok hQ [31] (by kernel_rfl) rfl ?_
            refine RH.load T_ok hQ 32 (fun m' hm' => hx m' hm' 2 _ rfl) rfl (by kernel_rfl) rfl rfl rfl rfl ?_
            refine RH.pure T_ok hQ [33, 34] (by kernel_rfl) rfl ?_
            refine RH.done (by kernel_rfl) (fun _ => ?_)
            refine QN.cutEnd (decide (id.k < x.t)) (Sub.cons rfl (Sub.cons rfl (Sub.cons rfl (Sub.cons ?_ Sub.nil)))) ⟨by simp [inR, h1, h2, h3], hE3⟩
            show some (Value.bool (decide ((id.k : Int) < (x.t : Int)))) = _
            rw [dlt]
          · refine RH.eqv (v' := .bool false) (congrArg _ (by rw [dle x.f id.k id.k rfl]; exact decide_eq_false h3)) ?_
            refine RH.pure T_ok hQ [24, 25, 26, 27, 28, 29, 30, 31, 32, 33, 34] (by kernel_rfl) rfl ?_
            refine RH.done (by kernel_rfl) (fun _ => ?_)
            exact QN.cutEnd false (Sub.cons rfl (Sub.cons rfl (Sub.cons rfl (Sub.cons rfl Sub.nil)))) ⟨by simp [inR, h1, h2, h3], hE3⟩
        · refine RH.eqv (v' := .bool false) (congrArg _ (by rw [deq]; exact decide_eq_false h2)) ?_
          refine RH.pure T_ok hQ [14, 15, 16, 17, 18, 19, 20, 21, 22, 23, 24, 25, 26, 27, 28, 29, 30, 31, 32, 33, 34] (by kernel_rfl) rfl ?_
          refine RH.done (by kernel_rfl) (fun _ => ?_)
          exact QN.cutEnd false (Sub.cons rfl (Sub.cons rfl (Sub.cons rfl (Sub.cons rfl Sub.nil)))) ⟨by simp [inR, h1, h2], hE3⟩
      · refine RH.eqv (v' := .bool false) (congrArg _ (Bool.not_eq_true _ ▸ h1)) ?_
        refine RH.pure T_ok hQ [5, 6, 7, 8, 9, 10, 11, 12, 13, 14, 15, 16, 17, 18, 19, 20, 21, 22, 23, 24, 25, 26, 27, 28, 29, 30, 31, 32, 33, 34] (by kernel_rfl) rfl ?_
        refine RH.done (by kernel_rfl) (fun _ => ?_)
        exact QN.cutEnd false (Sub.cons rfl (Sub.cons rfl (Sub.cons rfl (Sub.cons rfl Sub.nil)))) ⟨by simp [inR, h1], hE3⟩
    · rintro q m3 ⟨hq, hE3⟩
      refine WP.cond rfl (fun hp => ?_) (fun hp => ?_)
      · rw [hp] at hq
        repeat (first | with_reducible refine WP.seq ?_ | with_reducible refine WP.block ?_ | with_reducible refine WP.region ?_)
        refine RL.auto T_ok rfl ?_
        refine RL.nil ?_; repeat (first | with_reducible refine QN.block_normal ?_ | with_reducible refine QN.next ?_); repeat (first | with_reducible refine WP.seq ?_ | with_reducible refine WP.block ?_ | with_reducible refine WP.region ?_)
        refine WP.ret ?_; repeat (first | with_reducible refine QN.then_ret ?_ | with_reducible refine QN.block_ret ?_)
        refine QN.ret1 rfl rfl ⟨_, rfl, congrArg _ ?_, hE12.trans hE3 (by simp)⟩
        exact (List.any_eq_true.2 ⟨l[i], List.getElem_mem _, by rw [hxe, ← hq]⟩).symm
      · rw [hp] at hq
        refine WP.skip ?_; repeat (first | with_reducible refine QN.block_normal ?_ | with_reducible refine QN.next ?_); repeat (first | with_reducible refine WP.seq ?_ | with_reducible refine WP.block ?_ | with_reducible refine WP.region ?_)
        refine RL.pure T_ok 2 rfl ?_
        refine RL.eqv (v' := .int .i64 ((i + 1 : Nat) : Int)) (congrArg _ (by rw [wrap_i64_in _ (by omega) (by omega)]; rfl)) ?_
        refine RL.auto T_ok rfl ?_
        exact RL.nil (QN.round (i + 1) (Sub.cons rfl (Sub.cons rfl (Sub.cons rfl Sub.nil))) ⟨by omega, by rw [hnext, ← hq], hE2.trans hE3 (by simp)⟩ (by omega))
  · replace hc : i = l.length := by have := of_decide_eq_false hc; omega
    subst hc
    rw [List.take_length] at ht
    refine WP.exit ?_; repeat (first | with_reducible refine QN.then_exit ?_ | with_reducible refine QN.block_exit ?_ | with_reducible refine QN.block_far rfl ?_ | with_reducible refine QN.block_normal ?_ | with_reducible refine QN.next ?_); repeat (first | with_reducible refine WP.seq ?_ | with_reducible refine WP.block ?_ | with_reducible refine WP.region ?_)
    refine RL.auto T_ok rfl ?_
    refine RL.nil ?_; repeat (first | with_reducible refine QN.block_normal ?_ | with_reducible refine QN.next ?_); repeat (first | with_reducible refine WP.seq ?_ | with_reducible refine WP.block ?_ | with_reducible refine WP.region ?_)
    refine WP.ret ?_; repeat (first | with_reducible refine QN.then_ret ?_ | with_reducible refine QN.block_ret ?_)
    exact QN.ret1 rfl rfl ⟨_, rfl, by rw [ht], hE1.trans hE2 (by simp)⟩
end Go.Proofs.Ytkfakfbndnbpiaa
