/- All ids of a set, one by one. -/
import Derived.Test.YtkfakfbndnbpiaaIdsO
namespace Go.Ev
open Go.RowKit
theorem Own.kn {m m' : World} {B : Nat} {S : List Nat} {t : TypeId} {sz : Nat} {v : Value} {n : Nat} {xs : List Value} (h : Own m S t sz v n xs) (hK : Kn true B m m') (hB : ∀ k ∈ S, B ≤ k) : Own m' S t sz v n xs := by
  refine ⟨h.1, ?_⟩
  rcases h.2 with h1 | ⟨g, cap, cur, hv, hb, h1, h2, h3, h4, rfl⟩
  · exact .inl h1
  · exact .inr ⟨g, cap, cur, hv, hK _ _ (hB g (by simp)) hb (.inl rfl), h1, h2, h3, h4, rfl⟩
end Go.Ev
namespace Go.Proofs.Ytkfakfbndnbpiaa
open Go.RowKit Go.Ev Go.Ids

theorem clone_range (m : World) (v : Value) (l : List Rng) (h : Rs m [] v l) (hl : l.length < 1000000000) : FnR Try.prog 103 [v] m fun r m' => (∀ M, (∀ k ∈ M, k < m.heap.size) → Rs m' M r l) ∧ Ext m [] m' ∧ r.oneCell' = true := by
  obtain ⟨A, c, rfl, _, _⟩ := h.shape
  refine FnE.enter ⟨_, Try.func103, by kernel_rfl, by kernel_rfl⟩ Try.func103 rfl rfl ?_
  repeat (first | with_reducible refine WP.seq ?_ | with_reducible refine WP.block ?_ | with_reducible refine WP.region ?_)
  refine RL.auto T_ok rfl ?_
  refine RL.nil ?_; repeat (first | with_reducible refine QN.block_normal ?_ | with_reducible refine QN.next ?_); repeat (first | with_reducible refine WP.seq ?_ | with_reducible refine WP.block ?_ | with_reducible refine WP.region ?_)
  refine RL.auto T_ok rfl ?_
  refine RL.nil ?_; repeat (first | with_reducible refine QN.block_normal ?_ | with_reducible refine QN.next ?_); repeat (first | with_reducible refine WP.seq ?_ | with_reducible refine WP.block ?_ | with_reducible refine WP.region ?_)
  refine WP.cond rfl (fun hc => ?_) (fun hc => ?_)
  · have hA : A = none := by simpa using hc
    subst hA
    have hl0 : l = [] := by
      rcases l with _ | ⟨x, l⟩
      · rfl
      · obtain ⟨ad, hh, _⟩ := h.cell 0 (by simp)
        cases hh
    subst hl0
    repeat (first | with_reducible refine WP.seq ?_ | with_reducible refine WP.block ?_ | with_reducible refine WP.region ?_)
    refine RL.auto T_ok rfl ?_
    refine RL.nil ?_; repeat (first | with_reducible refine QN.block_normal ?_ | with_reducible refine QN.next ?_); repeat (first | with_reducible refine WP.seq ?_ | with_reducible refine WP.block ?_ | with_reducible refine WP.region ?_)
    refine WP.ret ?_; repeat (first | with_reducible refine QN.then_ret ?_ | with_reducible refine QN.block_ret ?_)
    exact QN.ret1 rfl rfl ⟨_, rfl, (fun M _ => Sl.nil _ _ _), Ext.refl _ _, rfl⟩
  · refine WP.skip ?_; repeat (first | with_reducible refine QN.block_normal ?_ | with_reducible refine QN.next ?_); repeat (first | with_reducible refine WP.seq ?_ | with_reducible refine WP.block ?_ | with_reducible refine WP.region ?_)
    refine RL.buildSlice0 T_ok rfl rfl (fun b1 m1 hb1 hC1 => ⟨_, rfl, ?_⟩)
    have hE1 : Ext m [] m1 := hC1
    have hSl : Sl m1 [] 3 (.slice A l.length c) (l.flatMap rC) := h.ext0 hE1
    refine RL.auto T_ok rfl ?_
    refine RL.append T_ok (Own.empty _ _ _ _) (l.flatMap rC) (Src.of_sl hSl) rfl rfl rfl rfl rfl (rsC_len l) (rsC_one l) (by unfold maxLen; omega) (by show (0 + _) * 24 ≤ _; omega) ?_
    intro v2 m2 S2 hO2 hE2 hF2
    refine ⟨_, rfl, ?_⟩
    rw [Nat.zero_add, List.nil_append] at hO2
    refine RL.auto T_ok rfl ?_
    refine RL.nil ?_; repeat (first | with_reducible refine QN.block_normal ?_ | with_reducible refine QN.next ?_); repeat (first | with_reducible refine WP.seq ?_ | with_reducible refine WP.block ?_ | with_reducible refine WP.region ?_)
    refine WP.ret ?_; repeat (first | with_reducible refine QN.then_ret ?_ | with_reducible refine QN.block_ret ?_)
    exact QN.ret1 rfl rfl ⟨_, rfl, (fun M hM => hO2.sl (fun k hk hkM => by
      have h8 := hM k hkM
      have h9 := hE1.size
      rcases hF2 k hk with h7 | h7
      · cases h7
      · omega)), hE1.trans hE2 (by simp), hO2.one⟩
theorem all_c (m : World) (v : Value) (l : List Rng) (h : Rs m [] v l) (hl : l.length < 1000000000) : FnR Try.prog 78 [v] m fun r m' => ∃ b3 v', r = .func (.func 104) #[] #[.pointer (some ⟨b3, 0, none⟩)] ∧ m.heap.size ≤ b3 ∧ Blk m' b3 46 [v'] ∧ (∀ M, (∀ k ∈ M, k < m.heap.size) → Rs m' M v' l) ∧ Ext m [] m' := by
  refine FnE.enter ⟨_, Try.func78, by kernel_rfl, by kernel_rfl⟩ Try.func78 rfl rfl ?_
  repeat (first | with_reducible refine WP.seq ?_ | with_reducible refine WP.block ?_ | with_reducible refine WP.region ?_)
  refine RL.auto T_ok rfl ?_
  refine RL.nil ?_; repeat (first | with_reducible refine QN.block_normal ?_ | with_reducible refine QN.next ?_); repeat (first | with_reducible refine WP.seq ?_ | with_reducible refine WP.block ?_ | with_reducible refine WP.region ?_)
  refine RL.auto T_ok rfl ?_
  refine RL.call (fi := []) (ca := []) rfl rfl rfl rfl (clone_range m v l h hl) ?_
  rintro v1 m1 ⟨hR1, hE1, ho1⟩
  refine ⟨_, rfl, ?_⟩
  refine RL.alloc T_ok rfl rfl (fun b3 m2 hb3 hC2 => ⟨_, rfl, ?_⟩)
  have hE2 : Ext m1 [] m2 := hC2.new (by omega)
  refine RL.store T_ok (b := b3) (i := 0) (v := v1) (cs := [.slice none 0 0]) hC2.blk (by simp) rfl rfl rfl rfl ho1 rfl ?_
  intro m3 hC3
  have hE3 : Ext m1 [] m3 := hE2.trans hC3.ext (fun q hq => .inr (by have h9 : q = b3 := (by simpa using hq); omega))
  have s1 := hE1.size
  refine RL.nil ?_; repeat (first | with_reducible refine QN.block_normal ?_ | with_reducible refine QN.next ?_); repeat (first | with_reducible refine WP.seq ?_ | with_reducible refine WP.block ?_ | with_reducible refine WP.region ?_)
  refine RL.auto T_ok rfl ?_
  refine RL.nil ?_; repeat (first | with_reducible refine QN.block_normal ?_ | with_reducible refine QN.next ?_); repeat (first | with_reducible refine WP.seq ?_ | with_reducible refine WP.block ?_ | with_reducible refine WP.region ?_)
  refine WP.ret ?_; repeat (first | with_reducible refine QN.then_ret ?_ | with_reducible refine QN.block_ret ?_)
  exact QN.ret1 rfl rfl ⟨_, rfl, b3, v1, rfl, by omega, hC3.blk, (fun M hM => Sl.ext (hR1 M hM) (hE3.mono (by simp)) (fun k hk => .inl hk) (by omega)), hE1.trans hE3 (by simp)⟩
/-- The ids of a range up to k; of a set. -/
def idTo (x : Rng) (k : Nat) : List Idn := (List.range (k - x.f)).map fun d => ⟨x.c, x.f + d⟩
def idsOf (L : List Rng) : List Idn := L.flatMap fun x => idTo x x.t
theorem idTo_succ (x : Rng) (k : Nat) (h : x.f ≤ k) : idTo x (k + 1) = idTo x k ++ [⟨x.c, k⟩] := by
  unfold idTo
  rw [show k + 1 - x.f = (k - x.f) + 1 by omega, List.range_succ, List.map_append]
  simp only [List.map_cons, List.map_nil]
  rw [show x.f + (k - x.f) = k by omega]
theorem idTo_prefix (x : Rng) (k : Nat) (hk : k ≤ x.t) : idTo x k <+: idTo x x.t := by
  unfold idTo
  refine List.IsPrefix.map _ ?_
  rw [show x.t - x.f = (k - x.f) + (x.t - x.f - (k - x.f)) by omega, List.range_add]
  exact List.prefix_append _ _
theorem idsOf_succ (L : List Rng) (i : Nat) (h : i < L.length) : idsOf (L.take (i + 1)) = idsOf (L.take i) ++ idTo L[i] L[i].t := by
  unfold idsOf
  rw [List.take_succ_eq_append_getElem h, List.flatMap_append]; simp
theorem idsOf_prefix (L : List Rng) (i : Nat) : idsOf (L.take i) <+: idsOf L := by
  have h := congrArg idsOf (List.take_append_drop i L)
  unfold idsOf at *
  rw [List.flatMap_append] at h
  exact ⟨_, h⟩
theorem idsOf_len : ∀ L : List Rng, (idsOf L).length = cnt L
  | [] => rfl
  | x :: L => by
    have := idsOf_len L
    unfold idsOf cnt at *
    rw [List.flatMap_cons, List.length_append, this]
    simp [idTo]
theorem idTo_mem {x : Rng} {k : Nat} {id : Idn} (h : id ∈ idTo x k) : id.c = x.c ∧ x.f ≤ id.k ∧ id.k < k := by
  obtain ⟨d, hd, rfl⟩ := List.mem_map.1 h
  have := List.mem_range.1 hd
  exact ⟨rfl, by show x.f ≤ x.f + d; omega, by show x.f + d < k; omega⟩
theorem idsOf_mem {L : List Rng} (hL : ∀ x ∈ L, x.right = true) {id : Idn} (h : id ∈ idsOf L) : mem L id.c id.k := by
  obtain ⟨x, hx, h⟩ := List.mem_flatMap.1 h
  obtain ⟨h1, h2, h3⟩ := idTo_mem h
  exact ⟨x, hx, hL x hx, h1.symm, h2, h3⟩
theorem idsOf_sorted {L : List Rng} (h : Canon L) : (idsOf L).Pairwise fun a b => a.lt b = true := by
  unfold idsOf
  rw [List.pairwise_flatMap]
  refine ⟨fun x _ => ?_, h.2.imp (fun {x y} hxy => ?_)⟩
  · unfold idTo
    rw [List.pairwise_map]
    refine List.pairwise_lt_range.imp (fun {a b} hab => ?_)
    simp [Idn.lt]; omega
  · intro p hp q hq
    obtain ⟨h1, h2, h3⟩ := idTo_mem hp
    obtain ⟨h4, h5, h6⟩ := idTo_mem hq
    rcases hxy with hxy | ⟨hxy, hxy2⟩
    · simp only [Idn.lt, Bool.or_eq_true, decide_eq_true_eq, Bool.and_eq_true]; omega
    · simp only [Idn.lt, Bool.or_eq_true, decide_eq_true_eq, Bool.and_eq_true]; omega
def AK (b3 : Nat) (v : Value) (l : List Rng) (a : World) : Prop := Blk a b3 46 [v] ∧ Rs a [] v l
theorem all1_c (m : World) (b3 : Nat) (v : Value) (l : List Rng) (hl : l.length < 500000000) :
    SeqE Try.prog 104 [.pointer (some ⟨b3, 0, none⟩)] (fun x : Idn => [iV x]) true (AK b3 v l) (fun pre x => pre ++ [x] <+: idsOf (clean l)) (fun xs => xs = idsOf (clean l)) (fun pre => pre <+: idsOf (clean l)) m := by
  intro lp J Jx m1 _ hJ hJx hK hround h0
  have hk0 := hK _ _ h0
  refine FnE.enter ⟨_, Try.func104, by kernel_rfl, by kernel_rfl⟩ Try.func104 rfl rfl ?_
  repeat (first | with_reducible refine WP.seq ?_ | with_reducible refine WP.block ?_ | with_reducible refine WP.region ?_)
  refine RL.load T_ok rfl rfl rfl (hk0.1.cell 0 rfl) rfl ?_
  refine RL.call (fi := []) (ca := []) rfl rfl rfl rfl (clean_c m1 v l hk0.2 hl) ?_
  rintro vL m2 ⟨S, hO2, hN2⟩
  refine ⟨_, rfl, ?_⟩
  have hj2 := hJ _ _ _ h0 hN2.1
  have hcl := clean_len l
  have hcr := (clean_canon l).1
  have hSm : ∀ k ∈ S, m1.heap.size ≤ k := hN2.ge
  generalize clean l = L at hO2 hcl hcr hround ⊢
  obtain ⟨AL, cL, rfl, _⟩ := hO2.shape
  have s2 := hN2.1.size
  clear hN2
  refine RL.auto T_ok rfl ?_
  refine RL.nil ?_; repeat (first | with_reducible refine QN.block_normal ?_ | with_reducible refine QN.next ?_); repeat (first | with_reducible refine WP.seq ?_ | with_reducible refine WP.block ?_ | with_reducible refine WP.region ?_)
  refine WP.loop (X := Nat) (fun i => [(0, .func (.yield lp) #[] #[]), (7, .slice AL L.length cL), (8, .int .i64 L.length), (9, .int .i64 i)])
    (fun i m' => i ≤ L.length ∧ Ev.Own m' S 84 3 (.slice AL L.length cL) L.length (L.flatMap rC) ∧ J (idsOf (L.take i)) m' ∧ m1.heap.size ≤ m'.heap.size) (fun i => L.length - i) 0
    (Sub.cons rfl (Sub.cons rfl (Sub.cons rfl (Sub.cons rfl Sub.nil)))) ⟨by simp, hO2, hj2, s2⟩ ?_
  rintro i m3 ⟨hi, hO3, hj3, s3⟩
  repeat (first | with_reducible refine WP.seq ?_ | with_reducible refine WP.block ?_ | with_reducible refine WP.region ?_)
  refine RL.auto T_ok rfl ?_
  refine RL.nil ?_; repeat (first | with_reducible refine QN.block_normal ?_ | with_reducible refine QN.next ?_); repeat (first | with_reducible refine WP.seq ?_ | with_reducible refine WP.block ?_ | with_reducible refine WP.region ?_)
  refine WP.cond rfl (fun hc => ?_) (fun hc => ?_)
  · replace hc : i < L.length := by have := of_decide_eq_true hc; omega
    have hR3 : Rs m3 [] (.slice AL L.length cL) L := hO3.sl (by simp)
    obtain ⟨ad, rfl, hx⟩ := hR3.cell i hc
    have hnext := idsOf_succ L i hc
    have hpre := idsOf_prefix L (i + 1)
    rw [hnext] at hpre
    have hxr := right_iff.1 (hcr L[i] (List.getElem_mem _))
    obtain ⟨x, hxe⟩ : ∃ x, L[i] = x := ⟨_, rfl⟩
    rw [hxe] at hx hnext hpre hxr
    refine WP.skip ?_; repeat (first | with_reducible refine QN.block_normal ?_ | with_reducible refine QN.next ?_); repeat (first | with_reducible refine WP.seq ?_ | with_reducible refine WP.block ?_ | with_reducible refine WP.region ?_)
    refine RL.indexAddr (k := i) T_ok rfl rfl rfl rfl rfl rfl rfl hc rfl ?_
    refine RL.loadAgg T_ok (rC x) rfl rfl rfl hx rfl ?_
    refine RL.alloc T_ok rfl rfl (fun b4 m4 hb4 hC4 => ⟨_, rfl, ?_⟩)
    refine RL.storeAgg T_ok (b := b4) (i := 0) (vs := rC x) (cs := [.int .u64 0, .int .u64 0, .int .u64 0]) hC4.blk rfl rfl rfl rfl rfl (by simp) (by simp [rC, Value.oneCell']) rfl ?_
    intro m5 hC5
    have hE5 : Ext m3 [] m5 := (hC4.new (by omega)).trans hC5.ext (fun q hq => .inr (by have h9 : q = b4 := (by simpa using hq); omega))
    have hB5 : Blk m5 b4 84 (rC x) := hC5.blk
    have hj5 := hJ _ _ _ hj3 hE5
    have hO5 := hO3.ext hE5 (by simp)
    have s5 := hE5.size
    refine RL.nil ?_; repeat (first | with_reducible refine QN.block_normal ?_ | with_reducible refine QN.next ?_); repeat (first | with_reducible refine WP.seq ?_ | with_reducible refine WP.block ?_ | with_reducible refine WP.region ?_)
    repeat (first | refine RL.pure T_ok 1 rfl ?_ | refine RL.load T_ok rfl rfl rfl (hB5.cell _ rfl) rfl ?_)
    refine RL.auto T_ok rfl ?_
    refine RL.nil ?_; repeat (first | with_reducible refine QN.block_normal ?_ | with_reducible refine QN.next ?_); repeat (first | with_reducible refine WP.seq ?_ | with_reducible refine WP.block ?_ | with_reducible refine WP.region ?_)
    have hJ0 : J (idsOf (L.take i) ++ idTo x x.f) m5 := by
      have : idTo x x.f = [] := by simp [idTo]
      rw [this, List.append_nil]; exact hj5
    refine WP.loop (X := Nat) (fun k => [(0, .func (.yield lp) #[] #[]), (7, .slice (some ad) L.length cL), (8, .int .i64 L.length), (9, .int .i64 i), (4, .pointer (some ⟨b4, 0, none⟩)), (5, .int .u64 k)])
      (fun k m' => x.f ≤ k ∧ k ≤ x.t ∧ Ev.Own m' S 84 3 (.slice (some ad) L.length cL) L.length (L.flatMap rC) ∧ Blk m' b4 84 (rC x) ∧ J (idsOf (L.take i) ++ idTo x k) m' ∧ m1.heap.size ≤ m'.heap.size) (fun k => x.t - k) x.f
      (Sub.cons rfl (Sub.cons rfl (Sub.cons rfl (Sub.cons rfl (Sub.cons rfl (Sub.cons rfl Sub.nil)))))) ⟨Nat.le_refl _, by omega, hO5, hB5, hJ0, by omega⟩ ?_
    rintro k m6 ⟨k1, k2, hO6, hB6, hj6, s6⟩
    repeat (first | with_reducible refine WP.seq ?_ | with_reducible refine WP.block ?_ | with_reducible refine WP.region ?_)
    repeat (first | refine RL.pure T_ok 1 rfl ?_ | refine RL.load T_ok rfl rfl rfl (hB6.cell _ rfl) rfl ?_)
    refine RL.nil ?_; repeat (first | with_reducible refine QN.block_normal ?_ | with_reducible refine QN.next ?_); repeat (first | with_reducible refine WP.seq ?_ | with_reducible refine WP.block ?_ | with_reducible refine WP.region ?_)
    refine WP.cond rfl (fun hck => ?_) (fun hck => ?_)
    · replace hck : k < x.t := by have := of_decide_eq_true hck; omega
      have hsucc := idTo_succ x k k1
      have hV : (idsOf (L.take i) ++ idTo x k) ++ [⟨x.c, k⟩] <+: idsOf L := by
        rw [List.append_assoc, ← hsucc]
        exact ((List.prefix_append_right_inj _).2 (idTo_prefix x (k + 1) hck)).trans hpre
      refine WP.skip ?_; repeat (first | with_reducible refine QN.block_normal ?_ | with_reducible refine QN.next ?_); repeat (first | with_reducible refine WP.seq ?_ | with_reducible refine WP.block ?_ | with_reducible refine WP.region ?_)
      repeat (first | refine RL.pure T_ok 1 rfl ?_ | refine RL.load T_ok rfl rfl rfl (hB6.cell _ rfl) rfl ?_)
      refine RL.yield (vs := [iV ⟨x.c, k⟩]) rfl rfl rfl (hround _ ⟨x.c, k⟩ m6 hj6 hV) ?_ (by rintro ch m7 (⟨h, _⟩ | ⟨h, _⟩) <;> cases h) (by rintro m7 (⟨h, _⟩ | ⟨h, _⟩) <;> cases h)
      rintro _ m7 (⟨h7, hj7, hk7⟩ | ⟨h7, hj7⟩)
      · injection h7 with h7
        subst h7
        refine ⟨_, rfl, ?_⟩
        have hO7 := hO6.kn hk7 hSm
        have hB7 : Blk m7 b4 84 (rC x) := hk7 _ _ (by omega) hB6 (.inl rfl)
        have s7 : m1.heap.size ≤ m7.heap.size := by have := hB7.lt; omega
        refine RL.auto T_ok rfl ?_
        refine RL.nil ?_; repeat (first | with_reducible refine QN.block_normal ?_ | with_reducible refine QN.next ?_); repeat (first | with_reducible refine WP.seq ?_ | with_reducible refine WP.block ?_ | with_reducible refine WP.region ?_)
        refine WP.condF rfl ?_
        refine WP.skip ?_; repeat (first | with_reducible refine QN.block_normal ?_ | with_reducible refine QN.next ?_); repeat (first | with_reducible refine WP.seq ?_ | with_reducible refine WP.block ?_ | with_reducible refine WP.region ?_)
        refine RL.pure T_ok 2 rfl ?_
        refine RL.eqv (v' := .int .u64 ((k + 1 : Nat) : Int)) (congrArg _ (by rw [wrap_u64_in _ (by omega) (by omega)]; rfl)) ?_
        refine RL.auto T_ok rfl ?_
        refine RL.nil (QN.round (k + 1) (Sub.cons rfl (Sub.cons rfl (Sub.cons rfl (Sub.cons rfl (Sub.cons rfl (Sub.cons rfl Sub.nil)))))) ⟨by omega, by omega, hO7, hB7, ?_, s7⟩ (by omega))
        rw [hsucc, ← List.append_assoc]; exact hj7
      · injection h7 with h7
        subst h7
        refine ⟨_, rfl, ?_⟩
        refine RL.auto T_ok rfl ?_
        refine RL.nil ?_; repeat (first | with_reducible refine QN.block_normal ?_ | with_reducible refine QN.next ?_); repeat (first | with_reducible refine WP.seq ?_ | with_reducible refine WP.block ?_ | with_reducible refine WP.region ?_)
        refine WP.condT rfl ?_
        refine WP.ret ?_; repeat (first | with_reducible refine QN.then_ret ?_ | with_reducible refine QN.block_ret ?_)
        exact QN.ret0 rfl ⟨_, rfl, .inr ⟨_, hV, hj7⟩⟩
    · replace hck : k = x.t := by have := of_decide_eq_false hck; omega
      subst hck
      refine WP.exit ?_; repeat (first | with_reducible refine QN.then_exit ?_ | with_reducible refine QN.block_exit ?_ | with_reducible refine QN.block_far rfl ?_ | with_reducible refine QN.block_normal ?_ | with_reducible refine QN.next ?_); repeat (first | with_reducible refine WP.seq ?_ | with_reducible refine WP.block ?_ | with_reducible refine WP.region ?_)
      refine RL.pure T_ok 1 rfl ?_
      refine RL.eqv (v' := .int .i64 ((i + 1 : Nat) : Int)) (congrArg _ (by rw [wrap_i64_in _ (by omega) (by omega)]; rfl)) ?_
      refine RL.auto T_ok rfl ?_
      refine RL.nil (QN.round (i + 1) (Sub.cons rfl (Sub.cons rfl (Sub.cons rfl (Sub.cons rfl Sub.nil)))) ⟨by omega, hO6, ?_, s6⟩ (by omega))
      rw [hnext]; exact hj6
  · replace hc : i = L.length := by have := of_decide_eq_false hc; omega
    subst hc
    rw [List.take_length] at hj3
    refine WP.exit ?_; repeat (first | with_reducible refine QN.then_exit ?_ | with_reducible refine QN.block_exit ?_ | with_reducible refine QN.block_far rfl ?_ | with_reducible refine QN.block_normal ?_ | with_reducible refine QN.next ?_); repeat (first | with_reducible refine WP.seq ?_ | with_reducible refine WP.block ?_ | with_reducible refine WP.region ?_)
    exact QN.end0 rfl ⟨_, rfl, .inl ⟨_, rfl, hj3⟩⟩
end Go.Proofs.Ytkfakfbndnbpiaa
