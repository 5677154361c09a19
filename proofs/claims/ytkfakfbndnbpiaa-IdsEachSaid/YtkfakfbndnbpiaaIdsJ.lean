/- IdsEach: the row. -/
import Derived.Test.YtkfakfbndnbpiaaRows
import Derived.Test.YtkfakfbndnbpiaaIdsH
import Derived.Test.YtkfakfbndnbpiaaIdsI
import Derived.Test.YtkfakfbndnbpiaaHelp
import Derived.Carry
namespace Go.Proofs.Ytkfakfbndnbpiaa
open Go.ChangeShapes Go.WideShapes Go.ChangeAt Go.RowKit Go.Ev Go.Ids

theorem minInt (a b : Nat) : (if (b : Int) < (a : Int) then (b : Int) else (a : Int)) = ((min a b : Nat) : Int) := by split <;> omega
def lastOf (pre : List Idn) : Idn := pre.getLast?.getD ⟨0, 0⟩
theorem lastOf_snoc (pre : List Idn) (x : Idn) : lastOf (pre ++ [x]) = x := by simp [lastOf]
theorem last_lt {L : List Rng} (hL : Canon L) {pre : List Idn} {x : Idn} (h : pre ++ [x] <+: idsOf L) : (lastOf pre).lt x = true := by
  have hx : mem L x.c x.k := idsOf_mem hL.1 (h.subset (by simp))
  rcases List.eq_nil_or_concat pre with rfl | ⟨p, y, rfl⟩
  · obtain ⟨r, _, hr, h1, _⟩ := hx
    have := right_iff.1 hr
    rw [ilt_iff]
    show 0 < x.c ∨ _
    omega
  · rw [List.concat_eq_append] at h ⊢
    rw [lastOf_snoc]
    have hs := (idsOf_sorted hL).sublist h.sublist
    exact (List.pairwise_append.1 hs).2.2 y (by simp) x (by simp)
def EachD (m : World) (b2 b3 b4 b5 b6 b10 : Nat) (v v' : Value) (l : List Rng) (q : Nat) (a : World) : Prop :=
  Blk a b2 46 [v] ∧ Blk a b3 3 [.int .i64 q] ∧ Blk a b4 4 [.bool false] ∧ Ext m [] a ∧ Blk a b10 46 [v'] ∧ Rs a [b5, b6] v' l
theorem EachD.kc {m a b : World} {b2 b3 b4 b5 b6 b10 B : Nat} {v v' : Value} {l : List Rng} {q : Nat} (h : EachD m b2 b3 b4 b5 b6 b10 v v' l q a) (hK : Kc B a b) (hB : m.heap.size ≤ B) : EachD m b2 b3 b4 b5 b6 b10 v v' l q b := by
  obtain ⟨h1, h2, h3, h4, h5, h6⟩ := h
  exact ⟨h1.kc hK, h2.kc hK, h3.kc hK, h4.of_kc hK hB, h5.kc hK, Sl.kc h6 hK⟩
theorem each_c (m : World) (v : Value) (l : List Rng) (h : Rs m [] v l) (hl : l.length < 500000000) (hcnt : cnt (clean l) < 9223372036854775808) (q : Nat) (hq : q < 1000) :
    FnR Try.prog 36 [v, .int .i64 q] m fun r m' => r = .bool true ∧ Ext m [] m' := by
  obtain ⟨A, c, rfl, _, _⟩ := h.shape
  refine FnE.enterM ⟨_, Try.func36, by kernel_rfl, by kernel_rfl⟩ Try.func36 rfl rfl ?_
  repeat (first | with_reducible refine WP.seq ?_ | with_reducible refine WP.block ?_ | with_reducible refine WP.region ?_)
  refine RL.box rfl rfl (fun b2 m1 hb2 hC1 => ⟨_, rfl, ?_⟩)
  refine RL.box rfl rfl (fun b3 m2 hb3 hC2 => ⟨_, rfl, ?_⟩)
  refine RL.alloc T_ok rfl rfl (fun b4 m3 hb4 hC3 => ⟨_, rfl, ?_⟩)
  have hE1 : Ext m [] m1 := hC1.new (by omega)
  have hE2 : Ext m1 [] m2 := hC2.new (by omega)
  have hE3 : Ext m2 [] m3 := hC3.new (by omega)
  have s1 := hC1.size
  have s2 := hC2.size
  have s3 := hC3.size
  have hP1 : Blk m1 b2 46 [.slice A l.length c] := hC1.here
  have hP2 : Blk m2 b3 3 [.int .i64 q] := hC2.here
  have hP3 : Blk m3 b4 4 [.bool false] := hC3.blk
  refine RL.nil ?_; repeat (first | with_reducible refine QN.block_normal ?_ | with_reducible refine QN.next ?_); repeat (first | with_reducible refine WP.seq ?_ | with_reducible refine WP.block ?_ | with_reducible refine WP.region ?_)
  refine RL.auto T_ok rfl ?_
  refine RL.alloc T_ok rfl rfl (fun b5 m4 hb5 hC4 => ⟨_, rfl, ?_⟩)
  refine RL.alloc T_ok rfl rfl (fun b6 m5 hb6 hC5 => ⟨_, rfl, ?_⟩)
  have hE4 : Ext m3 [] m4 := hC4.new (by omega)
  have hE5 : Ext m4 [] m5 := hC5.new (by omega)
  have s4 := hC4.size
  have s5 := hC5.size
  have hP4 : Blk m5 b5 48 [.int .u64 0, .int .u64 0] := Blk.ext (hC4.blk) hE5 (by simp)
  have hP5 : Blk m5 b6 3 [.int .i64 0] := hC5.blk
  refine RL.storeAgg T_ok (b := b5) (i := 0) (vs := iC ⟨0, 0⟩) hP4 rfl rfl rfl rfl rfl (by simp) (by simp [iC, Value.oneCell']) rfl ?_
  intro m6 hC6
  have hP6 := hP5.far hC6 (by omega)
  refine RL.store T_ok hP6 (i := 0) (v := .int .i64 0) (by simp) rfl rfl rfl rfl rfl rfl ?_
  intro m7 hC7
  have hE67 : Ext m5 [b5, b6] m7 := (hC6.ext.mono (by simp)).trans hC7.ext (by simp)
  have hE35 : Ext m3 [] m5 := hE4.trans hE5 (by simp)
  have hE37 : Ext m3 [] m7 := hE35.trans hE67 (fun k hk => .inr (by simp at hk; omega))
  have hE3m : Ext m [] m3 := (hE1.trans hE2 (by simp)).trans hE3 (by simp)
  have hE7m : Ext m [] m7 := hE3m.trans hE37 (by simp)
  have hQ2 : Blk m7 b2 46 [.slice A l.length c] := ((hP1.ext hE2 (by simp)).ext hE3 (by simp)).ext hE37 (by simp)
  have hQ3 : Blk m7 b3 3 [.int .i64 q] := (hP2.ext hE3 (by simp)).ext hE37 (by simp)
  have hQ4 : Blk m7 b4 4 [.bool false] := hP3.ext hE37 (by simp)
  have hQ5 : Blk m7 b5 48 (iC (lastOf [])) := (Blk.far (show Blk m6 b5 48 (iC ⟨0, 0⟩) from hC6.blk) hC7 (by omega))
  have hQ6 : Blk m7 b6 3 [.int .i64 0] := hC7.blk
  have s7 := hE37.size
  have l5 := hQ5.lt
  have l6 := hQ6.lt
  clear hP1 hP2 hP3 hP4 hP5 hP6 hC1 hC2 hC3 hC4 hC5 hC6 hC7
  refine RL.nil ?_; repeat (first | with_reducible refine QN.block_normal ?_ | with_reducible refine QN.next ?_)
  repeat (first | with_reducible refine WP.seq ?_ | with_reducible refine WP.block ?_ | with_reducible refine WP.region ?_)
  refine RL.load T_ok rfl rfl rfl (hQ2.cell 0 rfl) rfl ?_
  refine RL.call (fi := []) (ca := []) rfl rfl rfl rfl (all_c m7 _ l (h.ext0 hE7m) (by omega)) ?_
  rintro _ m8 ⟨b10, v', rfl, g10, hB10, hR10, hE8⟩
  refine ⟨_, rfl, ?_⟩
  have hE8m := hE7m.trans hE8 (by simp)
  have hD8 : EachD m b2 b3 b4 b5 b6 b10 (.slice A l.length c) v' l q m8 := ⟨hQ2.ext hE8 (by simp), hQ3.ext hE8 (by simp), hQ4.ext hE8 (by simp), hE8m, hB10, hR10 _ (fun k hk => by simp at hk; omega)⟩
  have hQ5b := hQ5.ext hE8 (by simp)
  have hQ6b := hQ6.ext hE8 (by simp)
  have s8 := hE8.size
  refine RL.sub (e' := [(2, .pointer (some ⟨b2, 0, none⟩)), (3, .pointer (some ⟨b3, 0, none⟩)), (4, .pointer (some ⟨b4, 0, none⟩)), (5, .pointer (some ⟨b5, 0, none⟩)), (6, .pointer (some ⟨b6, 0, none⟩)), (10, .func (.func 104) #[] #[.pointer (some ⟨b10, 0, none⟩)])]) (Sub.cons rfl (Sub.cons rfl (Sub.cons rfl (Sub.cons rfl (Sub.cons rfl (Sub.cons rfl Sub.nil)))))) ?_
  refine RL.nil ?_; repeat (first | with_reducible refine QN.block_normal ?_ | with_reducible refine QN.next ?_); repeat (first | with_reducible refine WP.seq ?_ | with_reducible refine WP.block ?_ | with_reducible refine WP.region ?_)
  have hLc := clean_canon l
  refine WP.rangeFunc (ps := [11]) (gf := 104) (lb := [.pointer (some ⟨b10, 0, none⟩)]) (fun x : Idn => [iV x]) rfl (all1_c m8 b10 v' l hl) ⟨_, Try.func104, by kernel_rfl, by kernel_rfl⟩
    (fun pre a => pre.length ≤ q ∧ pre <+: idsOf (clean l) ∧ EachD m b2 b3 b4 b5 b6 b10 (.slice A l.length c) v' l q a ∧ Blk a b5 48 (iC (lastOf pre)) ∧ Blk a b6 3 [.int .i64 (pre.length : Nat)])
    (fun k pre a => k = .exit 0 ∧ pre.length = q + 1 ∧ EachD m b2 b3 b4 b5 b6 b10 (.slice A l.length c) v' l q a ∧ Blk a b6 3 [.int .i64 (pre.length : Nat)])
    (fun pre a b ⟨h1, h2, h3, h4, h5⟩ hK => ⟨h1, h2, h3.kc hK hE8m.size, h4.kc hK, h5.kc hK⟩) (fun k pre a b ⟨h1, h2, h3, h4⟩ hK => ⟨h1, h2, h3.kc hK hE8m.size, h4.kc hK⟩)
    (fun pre a ⟨_, _, ⟨_, _, _, _, h5, h6⟩, _⟩ => ⟨h5, Sl.ext h6 (Ext.refl _ _) (by simp) (by omega)⟩)
    ⟨by simp, List.nil_prefix, hD8, hQ5b, hQ6b⟩
    (fun x => [(11, iV x), (2, .pointer (some ⟨b2, 0, none⟩)), (3, .pointer (some ⟨b3, 0, none⟩)), (4, .pointer (some ⟨b4, 0, none⟩)), (5, .pointer (some ⟨b5, 0, none⟩)), (6, .pointer (some ⟨b6, 0, none⟩)), (10, .func (.func 104) #[] #[.pointer (some ⟨b10, 0, none⟩)])]) (fun x => rfl) (fun x => rfl)
    (fun x b7 => [(7, .pointer (some ⟨b7, 0, none⟩)), (2, .pointer (some ⟨b2, 0, none⟩)), (3, .pointer (some ⟨b3, 0, none⟩)), (5, .pointer (some ⟨b5, 0, none⟩)), (6, .pointer (some ⟨b6, 0, none⟩))])
    (fun pre x b7 a => Blk a b7 48 (iC x) ∧ b7 ≠ b5 ∧ b7 ≠ b6 ∧ pre.length ≤ q ∧ EachD m b2 b3 b4 b5 b6 b10 (.slice A l.length c) v' l q a ∧ Blk a b5 48 (iC (lastOf pre)) ∧ Blk a b6 3 [.int .i64 (pre.length : Nat)])
    (fun pre x y a b ⟨h1, h2, h3, h4, h5, h6, h7⟩ hK => ⟨h1.kc hK, h2, h3, h4, h5.kc hK hE8m.size, h6.kc hK, h7.kc hK⟩)
    ?_ ?_ ?_ ?_
  · -- the round's variable
    rintro lp pre x n3 ⟨h1, h2, h3, h4, h5⟩ hV hsz
    refine WP.region ?_
    refine RL.alloc T_ok rfl rfl (fun b7 n4 hb7 hC4 => ⟨_, rfl, ?_⟩)
    have hE4 : Ext n3 [] n4 := hC4.new (by omega)
    refine RL.storeAgg T_ok (b := b7) (i := 0) (vs := iC x) (cs := [.int .u64 0, .int .u64 0]) hC4.blk rfl rfl rfl rfl rfl (by simp) (by simp [iC, Value.oneCell']) rfl ?_
    intro n5 hC5
    have hE5 : Ext n3 [] n5 := hE4.trans hC5.ext (fun k hk => .inr (by have h9 : k = b7 := (by simpa using hk); omega))
    exact RL.nil (QN.asgEnd b7 (Sub.cons rfl (Sub.cons rfl (Sub.cons rfl (Sub.cons rfl (Sub.cons rfl Sub.nil))))) hE5.kn0 ⟨hC5.blk, by omega, by omega, h1, h3.kc hE5.kc hE8m.size, h4.kc (hE5.kc (B := 0)), h5.kc (hE5.kc (B := 0))⟩)
  · -- one id
    rintro lp pre x b7 n3 ⟨h1, g1, g2, h2, ⟨hd1, hd2, hd3, hd4, hd5, hd6⟩, h4, h5⟩ hV hsz
    have hmem := idsOf_mem hLc.1 (hV.subset (show x ∈ pre ++ [x] by simp))
    have hhas : hasB l x = true := by rw [hasB_mem, ← clean_mem]; exact hmem
    have hlt := last_lt hLc hV
    have hnl : x.lt (lastOf pre) = false := by
      rw [← Bool.not_eq_true]
      intro hh
      rw [ilt_iff] at hh hlt; omega
    repeat (first | with_reducible refine WP.seq ?_ | with_reducible refine WP.block ?_ | with_reducible refine WP.region ?_)
    refine RL.load T_ok rfl rfl rfl (hd1.cell 0 rfl) rfl ?_
    refine RL.loadAgg T_ok (iC x) rfl rfl rfl (fun j u hu => by rw [add_block]; exact h1.cell _ (by simpa using hu)) rfl ?_
    refine RL.call (fi := []) (ca := []) rfl rfl rfl rfl (has_c n3 _ l (h.ext0 hd4) (by omega) x) ?_
    rintro _ n4 ⟨rfl, hE4⟩
    refine ⟨_, rfl, ?_⟩
    refine RL.eqv (v' := .bool true) (congrArg _ hhas) ?_
    have p1 := h1.ext hE4 (by simp)
    have p4 := h4.ext hE4 (by simp)
    have p5 := h5.ext hE4 (by simp)
    refine RL.auto T_ok rfl ?_
    refine RL.loadAgg T_ok (iC (lastOf pre)) rfl rfl rfl (fun j u hu => by rw [add_block]; exact p4.cell _ (by simpa using hu)) rfl ?_
    refine RL.loadAgg T_ok (iC x) rfl rfl rfl (fun j u hu => by rw [add_block]; exact p1.cell _ (by simpa using hu)) rfl ?_
    refine RL.call (fi := []) (ca := []) rfl rfl rfl rfl (less_c n4 (lastOf pre) x) ?_
    rintro _ n5 ⟨rfl, hE5⟩
    refine ⟨_, rfl, ?_⟩
    refine RL.eqv (v' := .bool true) (congrArg _ hlt) ?_
    replace p1 := p1.ext hE5 (by simp)
    replace p4 := p4.ext hE5 (by simp)
    replace p5 := p5.ext hE5 (by simp)
    refine RL.auto T_ok rfl ?_
    refine RL.loadAgg T_ok (iC x) rfl rfl rfl (fun j u hu => by rw [add_block]; exact p1.cell _ (by simpa using hu)) rfl ?_
    refine RL.loadAgg T_ok (iC (lastOf pre)) rfl rfl rfl (fun j u hu => by rw [add_block]; exact p4.cell _ (by simpa using hu)) rfl ?_
    refine RL.call (fi := []) (ca := []) rfl rfl rfl rfl (less_c n5 x (lastOf pre)) ?_
    rintro _ n6 ⟨rfl, hE6⟩
    refine ⟨_, rfl, ?_⟩
    refine RL.eqv (v' := .bool false) (congrArg _ hnl) ?_
    replace p1 := p1.ext hE6 (by simp)
    replace p4 := p4.ext hE6 (by simp)
    replace p5 := p5.ext hE6 (by simp)
    have hE36 : Ext n3 [] n6 := (hE4.trans hE5 (by simp)).trans hE6 (by simp)
    refine RL.auto T_ok rfl ?_
    refine RL.nil ?_; repeat (first | with_reducible refine QN.block_normal ?_ | with_reducible refine QN.next ?_); repeat (first | with_reducible refine WP.seq ?_ | with_reducible refine WP.block ?_ | with_reducible refine WP.region ?_)
    refine WP.condF rfl ?_
    refine WP.skip ?_; repeat (first | with_reducible refine QN.block_normal ?_ | with_reducible refine QN.next ?_); repeat (first | with_reducible refine WP.seq ?_ | with_reducible refine WP.block ?_ | with_reducible refine WP.region ?_)
    refine RL.loadAgg T_ok (iC x) rfl rfl rfl (fun j u hu => by rw [add_block]; exact p1.cell _ (by simpa using hu)) rfl ?_
    refine RL.storeAgg T_ok (b := b5) (i := 0) (vs := iC x) p4 rfl rfl rfl rfl rfl (by simp [iC]) (by simp [iC, Value.oneCell']) rfl ?_
    intro n7 hC7
    have p5' := p5.far hC7 (by omega)
    have p4' : Blk n7 b5 48 (iC x) := hC7.blk
    refine RL.nil ?_; repeat (first | with_reducible refine QN.block_normal ?_ | with_reducible refine QN.next ?_); repeat (first | with_reducible refine WP.seq ?_ | with_reducible refine WP.block ?_ | with_reducible refine WP.region ?_)
    refine RL.load T_ok rfl rfl rfl (p5'.cell 0 rfl) rfl ?_
    refine RL.pure T_ok 1 rfl ?_
    refine RL.eqv (v' := .int .i64 ((pre.length + 1 : Nat) : Int)) (congrArg _ (by rw [wrap_i64_in _ (by omega) (by omega)]; rfl)) ?_
    refine RL.store T_ok p5' (i := 0) (v := .int .i64 ((pre.length + 1 : Nat) : Int)) (by simp) rfl rfl rfl rfl rfl rfl ?_
    intro n8 hC8
    have r5 : Blk n8 b6 3 [.int .i64 ((pre.length + 1 : Nat) : Int)] := hC8.blk
    have r4 := p4'.far hC8 (by omega)
    have hE8n : Ext n3 [b5, b6] n8 := ((hE36.mono (by simp)).trans (hC7.ext.mono (M' := [b5, b6]) (by simp)) (by simp)).trans hC8.ext (by simp)
    have hD' : EachD m b2 b3 b4 b5 b6 b10 (.slice A l.length c) v' l q n8 :=
      ⟨hd1.ext hE8n (by simp; omega), hd2.ext hE8n (by simp; omega), hd3.ext hE8n (by simp; omega), hd4.trans hE8n (fun k hk => .inr (by simp at hk; omega)), hd5.ext hE8n (by simp; omega), Sl.ext hd6 hE8n (fun k hk => .inl hk) (by omega)⟩
    have hkn : Kn true m8.heap.size n3 n8 := hE8n.knLow (fun k hk hB => by simp at hk; omega)
    refine RL.nil ?_; repeat (first | with_reducible refine QN.block_normal ?_ | with_reducible refine QN.next ?_); repeat (first | with_reducible refine WP.seq ?_ | with_reducible refine WP.block ?_ | with_reducible refine WP.region ?_)
    refine RL.load T_ok rfl rfl rfl (r5.cell 0 rfl) rfl ?_
    refine RL.load T_ok rfl rfl rfl (hD'.2.1.cell 0 rfl) rfl ?_
    refine RL.pure T_ok 1 rfl ?_
    refine RL.nil (QN.next ?_)
    refine WP.cond rfl (fun hc => ?_) (fun hc => ?_)
    · have hc : q < pre.length + 1 := by have := of_decide_eq_true hc; omega
      refine WP.exit ?_
      repeat (first | with_reducible refine QN.then_exit ?_ | with_reducible refine QN.block_far rfl ?_)
      exact QN.rdExit hkn ⟨rfl, by rw [List.length_append, List.length_singleton]; omega, hD', by rw [List.length_append, List.length_singleton]; exact r5⟩
    · have hc : pre.length + 1 ≤ q := by have := of_decide_eq_false hc; omega
      refine WP.skip ?_
      repeat (first | with_reducible refine QN.block_normal ?_ | with_reducible refine QN.next ?_)
      exact QN.rdNormal hkn ⟨by rw [List.length_append, List.length_singleton]; exact hc, hV, hD', by rw [lastOf_snoc]; exact r4, by rw [List.length_append, List.length_singleton]; exact r5⟩
  · -- all told
    rintro Dk pre m9 hDk rfl ⟨hlq, _, hD, _, hB6⟩ hk
    have hDm : m.heap.size ≤ Dk := Nat.le_trans hE8m.size hDk
    generalize hpg : idsOf (clean l) = pre at hlq hB6
    have hend : pre.length = min (cnt (clean l)) (q + 1) := by rw [← idsOf_len, hpg]; omega
    have hrs := fun (a : World) (hE : Ext m [] a) => h.ext0 hE
    repeat (first | with_reducible refine QN.block_normal ?_ | with_reducible refine QN.next ?_)
    repeat (first | with_reducible refine WP.seq ?_ | with_reducible refine WP.block ?_ | with_reducible refine WP.region ?_)
    refine WP.calm ?_
    refine WP.drawQ (fun m' => Blk m' b6 3 [.int .i64 (pre.length : Nat)] ∧ Blk m' b2 46 [.slice A l.length c] ∧ Blk m' b3 3 [.int .i64 q] ∧ Ext m [] m') [9] (by kernel_rfl) ⟨hB6, hD.1, hD.2.1, hD.2.2.2.1⟩ PanicOk.calm (fun hQ => ?_)
    refine RH.load T_ok hQ 0 (fun m' hm' => hm'.1.cell 0 rfl) rfl (by kernel_rfl) rfl rfl rfl rfl ?_
    refine RH.pure T_ok hQ [1] (by kernel_rfl) rfl ?_
    refine RH.eqv (v' := .int .u64 (pre.length : Nat)) (congrArg _ (wrap_u64_in _ (by omega) (by omega))) ?_
    refine RH.load T_ok hQ 2 (fun m' hm' => hm'.2.1.cell 0 rfl) rfl (by kernel_rfl) rfl rfl rfl rfl ?_
    refine RH.load T_ok hQ 4 (fun m' hm' => hm'.2.2.1.cell 0 rfl) rfl (by kernel_rfl) rfl rfl rfl rfl ?_
    refine RH.pure T_ok hQ [5] (by kernel_rfl) rfl ?_
    refine RH.eqv (v' := .int .u64 q) (congrArg _ (wrap_u64_in _ (by omega) (by omega))) ?_
    refine RH.pure T_ok hQ [6] (by kernel_rfl) rfl ?_
    refine RH.eqv (v' := .int .u64 (q + 1 : Nat)) (congrArg _ (by rw [wrap_u64_in _ (by omega) (by omega)]; rfl)) ?_
    refine RH.only 3 rfl (by kernel_rfl) (fun _ => ?_)
    refine RL.call (fi := []) (ca := []) rfl rfl rfl rfl (count_c m9 _ l (hrs m9 hD.2.2.2.1) (by omega) hcnt) ?_
    rintro _ m10 ⟨rfl, hE10⟩
    have hB10 := hD.2.2.1.ext hE10 (by simp)
    have hk10 : m10.heap[Dk]? = some (.deferred (some [])) := (hE10.far Dk (Array.getElem?_eq_some_iff.1 hk).1 (by simp)).trans hk
    have hEm10 := hD.2.2.2.1.trans hE10 (by simp)
    refine ⟨_, rfl, RL.nil (RH.cont ⟨hB6.ext hE10 (by simp), hD.1.ext hE10 (by simp), hD.2.1.ext hE10 (by simp), hEm10⟩ ?_)⟩
    refine RH.pure T_ok hQ [7] (by kernel_rfl) rfl ?_
    refine RH.eqv (v' := .int .u64 (min (cnt (clean l)) (q + 1) : Nat)) (congrArg _ (minInt _ _)) ?_
    refine RH.pure T_ok hQ [8] (by kernel_rfl) rfl ?_
    refine RH.eqv (v' := .bool true) (congrArg _ (by rw [deq]; exact decide_eq_true hend)) ?_
    refine RH.only 9 rfl (by kernel_rfl) (fun _ => ?_)
    refine RL.store T_ok hB10 (i := 0) (v := .bool true) (by simp) rfl rfl rfl rfl rfl rfl ?_
    intro m11 hC11
    have hDb : Dk ≠ b4 := fun hh => by rw [hh, hB10] at hk10; cases hk10
    have hk11 : m11.heap[Dk]? = some (.deferred (some [])) := (hC11.far Dk hDb).trans hk10
    have hE11 : Ext m [] m11 := hEm10.trans hC11.ext (fun k hk => .inr (by have h9 : k = b4 := (by simpa using hk); omega))
    refine RL.nil (RF.last (by kernel_rfl) (QN.calm ?_))
    repeat (first | with_reducible refine QN.block_normal ?_ | with_reducible refine QN.next ?_)
    refine WP.ret ?_; repeat (first | with_reducible refine QN.then_ret ?_ | with_reducible refine QN.block_ret ?_)
    have hB11 : Blk m11 b4 4 [.bool true] := hC11.blk
    exact QN.leaveM (.inl rfl) hk11 (fun m' hK hfar => ⟨Res.cell T_ok rfl rfl rfl ((hB11.kc hK).cell 0 rfl), ⟨_, rfl, rfl, hE11.of_kc hK hDm⟩⟩)
  · -- stopped
    rintro Dk k pre m9 hDk hSp ⟨rfl, hlq, hD, hB6⟩ hk
    have hDm : m.heap.size ≤ Dk := Nat.le_trans hE8m.size hDk
    have hend : pre.length = min (cnt (clean l)) (q + 1) := by
      have := hSp.length_le
      rw [idsOf_len] at this; omega
    refine WP.exit ?_
    refine QN.block_exit ?_
    have hrs := fun (a : World) (hE : Ext m [] a) => h.ext0 hE
    repeat (first | with_reducible refine QN.block_normal ?_ | with_reducible refine QN.next ?_)
    repeat (first | with_reducible refine WP.seq ?_ | with_reducible refine WP.block ?_ | with_reducible refine WP.region ?_)
    refine WP.calm ?_
    refine WP.drawQ (fun m' => Blk m' b6 3 [.int .i64 (pre.length : Nat)] ∧ Blk m' b2 46 [.slice A l.length c] ∧ Blk m' b3 3 [.int .i64 q] ∧ Ext m [] m') [9] (by kernel_rfl) ⟨hB6, hD.1, hD.2.1, hD.2.2.2.1⟩ PanicOk.calm (fun hQ => ?_)
    refine RH.load T_ok hQ 0 (fun m' hm' => hm'.1.cell 0 rfl) rfl (by kernel_rfl) rfl rfl rfl rfl ?_
    refine RH.pure T_ok hQ [1] (by kernel_rfl) rfl ?_
    refine RH.eqv (v' := .int .u64 (pre.length : Nat)) (congrArg _ (wrap_u64_in _ (by omega) (by omega))) ?_
    refine RH.load T_ok hQ 2 (fun m' hm' => hm'.2.1.cell 0 rfl) rfl (by kernel_rfl) rfl rfl rfl rfl ?_
    refine RH.load T_ok hQ 4 (fun m' hm' => hm'.2.2.1.cell 0 rfl) rfl (by kernel_rfl) rfl rfl rfl rfl ?_
    refine RH.pure T_ok hQ [5] (by kernel_rfl) rfl ?_
    refine RH.eqv (v' := .int .u64 q) (congrArg _ (wrap_u64_in _ (by omega) (by omega))) ?_
    refine RH.pure T_ok hQ [6] (by kernel_rfl) rfl ?_
    refine RH.eqv (v' := .int .u64 (q + 1 : Nat)) (congrArg _ (by rw [wrap_u64_in _ (by omega) (by omega)]; rfl)) ?_
    refine RH.only 3 rfl (by kernel_rfl) (fun _ => ?_)
    refine RL.call (fi := []) (ca := []) rfl rfl rfl rfl (count_c m9 _ l (hrs m9 hD.2.2.2.1) (by omega) hcnt) ?_
    rintro _ m10 ⟨rfl, hE10⟩
    have hB10 := hD.2.2.1.ext hE10 (by simp)
    have hk10 : m10.heap[Dk]? = some (.deferred (some [])) := (hE10.far Dk (Array.getElem?_eq_some_iff.1 hk).1 (by simp)).trans hk
    have hEm10 := hD.2.2.2.1.trans hE10 (by simp)
    refine ⟨_, rfl, RL.nil (RH.cont ⟨hB6.ext hE10 (by simp), hD.1.ext hE10 (by simp), hD.2.1.ext hE10 (by simp), hEm10⟩ ?_)⟩
    refine RH.pure T_ok hQ [7] (by kernel_rfl) rfl ?_
    refine RH.eqv (v' := .int .u64 (min (cnt (clean l)) (q + 1) : Nat)) (congrArg _ (minInt _ _)) ?_
    refine RH.pure T_ok hQ [8] (by kernel_rfl) rfl ?_
    refine RH.eqv (v' := .bool true) (congrArg _ (by rw [deq]; exact decide_eq_true hend)) ?_
    refine RH.only 9 rfl (by kernel_rfl) (fun _ => ?_)
    refine RL.store T_ok hB10 (i := 0) (v := .bool true) (by simp) rfl rfl rfl rfl rfl rfl ?_
    intro m11 hC11
    have hDb : Dk ≠ b4 := fun hh => by rw [hh, hB10] at hk10; cases hk10
    have hk11 : m11.heap[Dk]? = some (.deferred (some [])) := (hC11.far Dk hDb).trans hk10
    have hE11 : Ext m [] m11 := hEm10.trans hC11.ext (fun k hk => .inr (by have h9 : k = b4 := (by simpa using hk); omega))
    refine RL.nil (RF.last (by kernel_rfl) (QN.calm ?_))
    repeat (first | with_reducible refine QN.block_normal ?_ | with_reducible refine QN.next ?_)
    refine WP.ret ?_; repeat (first | with_reducible refine QN.then_ret ?_ | with_reducible refine QN.block_ret ?_)
    have hB11 : Blk m11 b4 4 [.bool true] := hC11.blk
    exact QN.leaveM (.inl rfl) hk11 (fun m' hK hfar => ⟨Res.cell T_ok rfl rfl rfl ((hB11.kc hK).cell 0 rfl), ⟨_, rfl, rfl, hE11.of_kc hK hDm⟩⟩)
theorem idseach_c (m : World) (v : Value) (l : List Rng) (h : Rs m [] v l) (z : Int) : FnR Try.prog 8 [v, .int .i64 z] m fun r m' => r = .bool true ∧ Ext m [] m' := by
  obtain ⟨A, c, rfl, _, _⟩ := h.shape
  refine FnE.enter ⟨_, Try.func8, by kernel_rfl, by kernel_rfl⟩ Try.func8 rfl rfl ?_
  repeat (first | with_reducible refine WP.seq ?_ | with_reducible refine WP.block ?_ | with_reducible refine WP.region ?_)
  refine RL.auto T_ok rfl ?_
  refine RL.nil ?_; repeat (first | with_reducible refine QN.block_normal ?_ | with_reducible refine QN.next ?_); repeat (first | with_reducible refine WP.seq ?_ | with_reducible refine WP.block ?_ | with_reducible refine WP.region ?_)
  refine RL.call (fi := []) (ca := []) rfl rfl rfl rfl (known_c m) ?_
  rintro _ m2 ⟨rfl, hE2⟩
  refine ⟨_, rfl, ?_⟩
  refine RL.auto T_ok rfl ?_
  refine RL.nil ?_; repeat (first | with_reducible refine QN.block_normal ?_ | with_reducible refine QN.next ?_); repeat (first | with_reducible refine WP.seq ?_ | with_reducible refine WP.block ?_ | with_reducible refine WP.region ?_)
  refine WP.condF rfl ?_
  refine WP.skip ?_; repeat (first | with_reducible refine QN.block_normal ?_ | with_reducible refine QN.next ?_); repeat (first | with_reducible refine WP.seq ?_ | with_reducible refine WP.block ?_ | with_reducible refine WP.region ?_)
  refine RL.auto T_ok rfl ?_
  refine RL.call (fi := []) (ca := []) rfl rfl rfl rfl (ilight_c m2 _ l (h.ext0 hE2)) ?_
  rintro _ m3 ⟨rfl, rfl⟩
  refine ⟨_, rfl, ?_⟩
  refine RL.auto T_ok rfl ?_
  refine RL.nil ?_; repeat (first | with_reducible refine QN.block_normal ?_ | with_reducible refine QN.next ?_); repeat (first | with_reducible refine WP.seq ?_ | with_reducible refine WP.block ?_ | with_reducible refine WP.region ?_)
  refine WP.cond rfl (fun hc => ?_) (fun hc => ?_)
  · repeat (first | with_reducible refine WP.seq ?_ | with_reducible refine WP.block ?_ | with_reducible refine WP.region ?_)
    refine RL.auto T_ok rfl ?_
    refine RL.nil ?_; repeat (first | with_reducible refine QN.block_normal ?_ | with_reducible refine QN.next ?_); repeat (first | with_reducible refine WP.seq ?_ | with_reducible refine WP.block ?_ | with_reducible refine WP.region ?_)
    refine WP.ret ?_; repeat (first | with_reducible refine QN.then_ret ?_ | with_reducible refine QN.block_ret ?_)
    exact QN.ret1 rfl rfl ⟨_, rfl, rfl, hE2⟩
  have hl : l.length ≤ 60 := by simpa using hc
  have hcnt : cnt (clean l) < 9223372036854775808 := by
    have h1 := cnt_le (clean l) (clean_canon l).1
    have h2 : (clean l).length * 9007199254740992 ≤ 60 * 9007199254740992 := Nat.mul_le_mul_right _ (Nat.le_trans (clean_len l) hl)
    omega
  have hz1 := Int.emod_nonneg z (b := 300) (by omega)
  have hz2 := Int.emod_lt_of_pos z (b := 300) (by omega)
  obtain ⟨q, hq⟩ : ∃ q : Nat, z % 300 = q := ⟨(z % 300).toNat, by omega⟩
  refine WP.skip ?_; repeat (first | with_reducible refine QN.block_normal ?_ | with_reducible refine QN.next ?_); repeat (first | with_reducible refine WP.seq ?_ | with_reducible refine WP.block ?_ | with_reducible refine WP.region ?_)
  refine RL.auto T_ok rfl ?_
  refine RL.call (fi := []) (ca := []) rfl rfl rfl rfl (place_c m3 z 299 (by omega)) ?_
  rintro _ m4 ⟨rfl, rfl⟩
  refine ⟨_, rfl, ?_⟩
  refine RL.eqv (v' := .int .i64 q) (congrArg _ hq) ?_
  refine RL.auto T_ok rfl ?_
  refine RL.nil ?_; repeat (first | with_reducible refine QN.block_normal ?_ | with_reducible refine QN.next ?_); repeat (first | with_reducible refine WP.seq ?_ | with_reducible refine WP.block ?_ | with_reducible refine WP.region ?_)
  refine RL.auto T_ok rfl ?_
  refine RL.call (fi := []) (ca := []) rfl rfl rfl rfl (each_c m4 _ l (h.ext0 hE2) (by omega) hcnt q (by omega)) ?_
  rintro _ m5 ⟨rfl, hE5⟩
  refine ⟨_, rfl, ?_⟩
  have hEm5 := hE2.trans hE5 (by simp)
  refine RL.auto T_ok rfl ?_
  refine RL.call (fi := []) (ca := []) rfl rfl rfl rfl (each_c m5 _ l (h.ext0 hEm5) (by omega) hcnt q (by omega)) ?_
  rintro _ m6 ⟨rfl, hE6⟩
  refine ⟨_, rfl, ?_⟩
  refine RL.auto T_ok rfl ?_
  refine RL.nil ?_; repeat (first | with_reducible refine QN.block_normal ?_ | with_reducible refine QN.next ?_); repeat (first | with_reducible refine WP.seq ?_ | with_reducible refine WP.block ?_ | with_reducible refine WP.region ?_)
  refine WP.ret ?_; repeat (first | with_reducible refine QN.then_ret ?_ | with_reducible refine QN.block_ret ?_)
  exact QN.ret1 rfl rfl ⟨_, rfl, rfl, hEm5.trans hE6 (by simp)⟩
set_option maxRecDepth 100000 in
theorem idseach_lifted (os : Os) (started : os.Started) (H : Type) (enc : TypeId × Value → H) :
    ReturnsInHanded {} Try.checked os 8 .any (Rows.idsEachSpec.pre6 enc Try.prog Try.f8 Rows.idsEachRow.domain false) (Rows.idsEachSpec.post enc Try.prog Try.f8 false true false false) := by
  refine law_lift (tb := 4) own started (by kernel_rfl) Try.func8
    (ChangeSpec.witness6 (enc := enc) (C := Try.checked) false ⟨#[], #[.slice none 0 0, .int .i64 0], []⟩ 8 (by kernel_rfl) (by kernel_rfl) (by kernel_rfl) (by kernel_rfl))
    laidOut (by kernel_rfl) rfl (und 4 rfl rfl) rfl (fun ds h => by
      match ds, h with
      | [_, _], _ => exact ⟨rfl, rfl, rfl⟩) ?_
  intro W base args ds p hval hA hw
  rw [Try.params8] at hA hval hw
  obtain ⟨v0, v1, d0, d1, p0, p1, rfl, rfl, rfl, h0, h1⟩ := trodAll_two hA
  obtain ⟨l, hl⟩ := open_rs (hval 0 46 v0 rfl rfl) (Fit.arg hw 0 rfl rfl) h0
  obtain ⟨z, rfl, rfl, rfl, _⟩ := open_int (und 3 rfl rfl) (hval 1 3 v1 rfl rfl) h1
  exact idseach_c W v0 l hl z
theorem idsEach_holds : Rows.IdsEachSaid :=
  OpenClaim.holds_of_wide 8 Try.f8 rfl rfl rfl rfl rfl rfl rfl ⟨rfl, rfl, rfl, rfl, rfl⟩ rfl rfl rfl rfl rfl (by kernel_rfl) Try.func8 (by kernel_rfl)
    (of_decide_eq_true (by kernel_rfl)) (by unfold Func.isWrapper; first | (rw [if_pos (by decide +kernel)]; kernel_rfl) | (rw [if_neg (by decide +kernel)]; exact ⟨rfl, rfl⟩))
    (fun os started H enc _ => idseach_lifted os started H enc)
end Go.Proofs.Ytkfakfbndnbpiaa
