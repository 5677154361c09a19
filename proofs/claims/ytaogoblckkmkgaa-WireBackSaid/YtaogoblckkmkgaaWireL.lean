/- A script written both ways: the same bytes. -/
import Derived.Test.YtaogoblckkmkgaaWireK
namespace Go.Proofs.Ytaogoblckkmkgaa
open Go.RowKit Go.Ev

/-- The bytes of a step. -/
def encS (st : Stp) : List UInt8 :=
  if st.what = 0 then encU st.n else if st.what = 1 then encU (zig (IntKind.i64.wrap st.n)) else if st.what = 2 then [UInt8.ofNat st.n]
  else if st.what = 3 then enc8 st.n 8 else if st.what = 4 then encU st.s.length ++ st.s else []
theorem wrapi_bounds (x : Int) : -9223372036854775808 ≤ IntKind.i64.wrap x ∧ IntKind.i64.wrap x ≤ 9223372036854775807 := by
  rw [wrap_i64]; split <;> omega
theorem encS_len (st : Stp) (h : st.n < 18446744073709551616) (hs : st.s.length < 1000000000) : (encS st).length ≤ 10 * (1 + st.s.length) := by
  have hw := wrapi_bounds st.n
  have hz := zig_lt _ hw.1 hw.2
  unfold encS
  split
  · have := encU_len10 h; omega
  split
  · have := encU_len10 hz; omega
  split
  · simp; omega
  split
  · rw [enc8_len]; omega
  split
  · have := encU_len10 (n := st.s.length) (by omega); simp; omega
  · simp
theorem encAll_len (l : List Stp) (h : ∀ x ∈ l, x.n < 18446744073709551616) (hs : ∀ x ∈ l, x.s.length < 1000000000) : (l.flatMap encS).length ≤ 10 * tot l := by
  induction l with
  | nil => simp
  | cons x l ih =>
    have h1 := ih (fun y hy => h y (List.mem_cons_of_mem _ hy)) (fun y hy => hs y (List.mem_cons_of_mem _ hy))
    have h2 := encS_len x (h x (List.mem_cons_self ..)) (hs x (List.mem_cons_self ..))
    rw [List.flatMap_cons, List.length_append]
    show _ ≤ 10 * (1 + x.s.length + tot l)
    omega
/-- The Writer and the reference's row, with the same bytes, both made since m0. -/
structure Both (m0 m : World) (bw : Nat) (S1 S2 : List Nat) (v : Value) (pre : List UInt8) : Prop where
  w : WAt m bw S1 pre
  o : Own m S2 5 1 v pre.length (u8s pre)
  dis : ∀ k ∈ S1, k ∉ S2
  n1 : ∀ k ∈ S1, m0.heap.size ≤ k
  n2 : ∀ k ∈ S2, m0.heap.size ≤ k
  ext : Ext m0 [] m
theorem Both.new {m0 m m' : World} {bw : Nat} {S1 S2 : List Nat} {v : Value} {pre : List UInt8} (h : Both m0 m bw S1 S2 v pre) (hE : Ext m [] m') : Both m0 m' bw S1 S2 v pre :=
  ⟨h.w.ext hE (by simp), h.o.ext hE (by simp), h.dis, h.n1, h.n2, h.ext.trans hE (by simp)⟩
theorem Both.own1 {m0 m m1 : World} {bw : Nat} {S1 S2 : List Nat} {v : Value} {pre : List UInt8} (h : Both m0 m bw S1 S2 v pre) (hE : Ext m S1 m1) : Own m1 S2 5 1 v pre.length (u8s pre) :=
  h.o.ext hE (fun k hk hk1 => h.dis k hk1 hk)
theorem Both.step {m0 m m1 m2 : World} {bw : Nat} {S1 S2 : List Nat} {v r : Value} {pre q : List UInt8} (h : Both m0 m bw S1 S2 v pre) {S1' : List Nat} (hW : WAt m1 bw S1' q) (hE : Ext m S1 m1) (hF : FpNew m S1 S1')
    (hO : OPost m1 S2 q r m2) : ∃ S1' S2', Both m0 m2 bw S1' S2' r q := by
  obtain ⟨S2', hO2, hE2, hF2⟩ := hO
  have hd1 : ∀ k ∈ S2, k ∉ S1' := fun k hk => hF.far (fun hh => h.dis k hh hk) (h.o.lt k hk)
  have hd2 : ∀ k ∈ S1', k ∉ S2' := fun k hk => hF2.far (fun hh => hd1 k hh hk) (hW.lt k hk)
  have e1 := h.ext.size
  have e2 := hE.size
  refine ⟨S1', S2', hW.ext hE2 (fun k hk hh => hd1 k hh hk), hO2, hd2, fun k hk => ?_, fun k hk => ?_, ?_⟩
  · rcases hF k hk with h9 | h9
    · exact h.n1 k h9
    · omega
  · rcases hF2 k hk with h9 | h9
    · exact h.n2 k h9
    · omega
  · exact (h.ext.trans hE (fun k hk => .inr (h.n1 k hk))).trans hE2 (fun k hk => .inr (h.n2 k hk))
set_option maxRecDepth 4000 in
set_option maxHeartbeats 400000 in
theorem write_c (m : World) (v : Value) (l : List Stp) (h : Sts m [] v l) (hn : ∀ x ∈ l, x.n < 18446744073709551616) (ht : tot l ≤ 20000) :
    FnR Try.prog 28 [v] m fun r m' => ∃ u S', r = .tuple #[u, .bool true] ∧ Own m' S' 5 1 u (l.flatMap encS).length (u8s (l.flatMap encS)) ∧ New m S' m' := by
  obtain ⟨A, c, rfl, hlc, hcm⟩ := h.shape
  have hlm : l.length ≤ 9223372036854775807 := by unfold maxLen at hcm; omega
  have hs : ∀ x ∈ l, x.s.length < 1000000000 := fun x hx => by
    obtain ⟨k, hk, rfl⟩ := List.getElem_of_mem hx
    have := tot_mem hk
    omega
  refine FnE.enter ⟨_, Try.func28, by kernel_rfl, by kernel_rfl⟩ Try.func28 rfl rfl ?_
  repeat (first | with_reducible refine WP.seq ?_ | with_reducible refine WP.block ?_ | with_reducible refine WP.region ?_)
  refine RL.auto T_ok rfl ?_
  refine RL.nil ?_; repeat (first | with_reducible refine QN.block_normal ?_ | with_reducible refine QN.next ?_); repeat (first | with_reducible refine WP.seq ?_ | with_reducible refine WP.block ?_ | with_reducible refine WP.region ?_)
  refine RL.alloc T_ok rfl rfl (fun bw m1 hbw hC1 => ⟨_, rfl, ?_⟩)
  have hW1 := newW hC1
  have hE1 : Ext m [] m1 := hC1.new (by omega)
  refine RL.nil ?_; repeat (first | with_reducible refine QN.block_normal ?_ | with_reducible refine QN.next ?_); repeat (first | with_reducible refine WP.seq ?_ | with_reducible refine WP.block ?_ | with_reducible refine WP.region ?_)
  refine RL.auto T_ok rfl ?_
  refine RL.nil ?_; repeat (first | with_reducible refine QN.block_normal ?_ | with_reducible refine QN.next ?_); repeat (first | with_reducible refine WP.seq ?_ | with_reducible refine WP.block ?_ | with_reducible refine WP.region ?_)
  refine RL.auto T_ok rfl ?_
  refine RL.nil ?_; repeat (first | with_reducible refine QN.block_normal ?_ | with_reducible refine QN.next ?_); repeat (first | with_reducible refine WP.seq ?_ | with_reducible refine WP.block ?_ | with_reducible refine WP.region ?_)
  refine WP.loop (X := Nat × Value) (fun x => [(0, .slice A l.length c), (4, .pointer (some ⟨bw, 0, none⟩)), (5, x.2), (6, .int .i64 x.1)])
    (fun x m' => x.1 ≤ l.length ∧ ∃ S1 S2, Both m m' bw S1 S2 x.2 ((l.take x.1).flatMap encS)) (fun x => l.length - x.1) (0, .slice none 0 0)
    (Sub.cons rfl (Sub.cons rfl (Sub.cons rfl (Sub.cons rfl Sub.nil)))) ⟨by simp, [bw], [], hW1, Own.empty _ _ _ _, by simp, by simp; omega, by simp, hE1⟩ ?_
  rintro ⟨k, u⟩ m5 ⟨hk, S1, S2, hB⟩
  simp only at hk hB
  have hpl : ((l.take k).flatMap encS).length ≤ 200000 := by
    have h1 := encAll_len (l.take k) (fun x hx => hn x (List.mem_of_mem_take hx)) (fun x hx => hs x (List.mem_of_mem_take hx))
    have h2 := tot_le l k
    omega
  repeat (first | with_reducible refine WP.seq ?_ | with_reducible refine WP.block ?_ | with_reducible refine WP.region ?_)
  refine RL.auto T_ok rfl ?_
  refine RL.nil ?_; repeat (first | with_reducible refine QN.block_normal ?_ | with_reducible refine QN.next ?_); repeat (first | with_reducible refine WP.seq ?_ | with_reducible refine WP.block ?_ | with_reducible refine WP.region ?_)
  refine WP.cond rfl (fun hc => ?_) (fun hc => ?_)
  · have hc : k < l.length := by have := of_decide_eq_true hc; omega
    have hget : ∀ j, j < 3 → (l.flatMap stC)[k * 3 + j]? = (stC l[k])[j]? := fun j hj => stC_get l k hc j hj
    have htk : (l.take (k + 1)).flatMap encS = (l.take k).flatMap encS ++ encS l[k] := by
      rw [List.take_succ_eq_append_getElem hc, List.flatMap_append]; simp
    have hsn := hn l[k] (List.getElem_mem hc)
    have hss := hs l[k] (List.getElem_mem hc)
    have h5 : Sts m5 [] (.slice A l.length c) l := Sl.ext h hB.ext (by simp) (by omega)
    generalize l[k] = st at *
    generalize hpre : (l.take k).flatMap encS = pre at *
    refine WP.skip ?_; repeat (first | with_reducible refine QN.block_normal ?_ | with_reducible refine QN.next ?_)
    refine WP.cut (X := Value) (fun u => [(0, .slice A l.length c), (4, .pointer (some ⟨bw, 0, none⟩)), (5, u), (6, .int .i64 k)])
      (fun u m' => ∃ S1 S2, Both m m' bw S1 S2 u (pre ++ encS st)) ?_ ?_
    rotate_left
    · rintro u' m8 ⟨S1', S2', hB8⟩
      repeat (first | with_reducible refine WP.seq ?_ | with_reducible refine WP.block ?_ | with_reducible refine WP.region ?_)
      refine RL.auto T_ok rfl ?_
      refine RL.nil (QN.round (k + 1, u') ?_ ⟨?_, S1', S2', ?_⟩ (by show _ - (k + 1) < _ - k; omega))
      · refine Sub.cons rfl (Sub.cons rfl (Sub.cons rfl (Sub.cons ?_ Sub.nil)))
        show some (Value.int .i64 (IntKind.i64.wrap ((k : Int) + 1))) = some (Value.int .i64 ((k + 1 : Nat) : Int))
        rw [wrap_i64_in _ (by omega) (by omega)]; rfl
      · show k + 1 ≤ _
        omega
      · show Both m m8 bw S1' S2' u' ((l.take (k + 1)).flatMap encS)
        rw [htk]; exact hB8
    repeat (first | with_reducible refine WP.seq ?_ | with_reducible refine WP.block ?_ | with_reducible refine WP.region ?_)
    refine RL.auto T_ok rfl ?_
    refine RL.index T_ok (show Sl m5 [] 3 _ _ from h5) (k := k) rfl hc rfl rfl rfl rfl (fun ad _ _ hcell => ⟨_, rfl, ?_⟩)
    refine RL.loadAgg T_ok (stC st) rfl rfl rfl (fun j u hu => hcell j u ((hget j (by have := (List.getElem?_eq_some_iff.1 hu).1; exact this)).trans hu)) rfl ?_
    refine RL.alloc T_ok rfl rfl (fun bx m6 hbx hC6 => ⟨_, rfl, ?_⟩)
    refine RL.storeAgg (vs := stC st) (i := 0) (k := 3) T_ok hC6.here rfl rfl rfl rfl rfl (by simp) (by simp [stC, Value.oneCell']) rfl ?_
    intro m7 hC7
    have hX7 : Blk m7 bx 57 (stC st) := hC7.here
    have hE7 : Ext m5 [] m7 := (hC6.new (by omega)).trans hC7.ext (fun k hk => .inr (by have h9 : k = bx := (by simpa using hk); omega))
    have hB7 := hB.new hE7
    have hx1 : bx ∉ S1 := fun hh => by have := hB.w.lt bx hh; omega
    clear hC6 hC7
    refine RL.nil ?_; repeat (first | with_reducible refine QN.block_normal ?_ | with_reducible refine QN.next ?_); repeat (first | with_reducible refine WP.seq ?_ | with_reducible refine WP.block ?_ | with_reducible refine WP.region ?_)
    refine RL.auto T_ok rfl ?_
    refine RL.load T_ok rfl rfl rfl (hX7.cell 0 rfl) rfl ?_
    refine RL.nil ?_; repeat (first | with_reducible refine QN.block_normal ?_ | with_reducible refine QN.next ?_); repeat (first | with_reducible refine WP.seq ?_ | with_reducible refine WP.block ?_ | with_reducible refine WP.region ?_)
    have st8 : ∀ m8, Ext m7 S1 m8 → Blk m8 bx 57 (stC st) := fun m8 e1 => hX7.ext e1 hx1
    refine RL.auto T_ok rfl ?_
    refine RL.nil ?_; repeat (first | with_reducible refine QN.block_normal ?_ | with_reducible refine QN.next ?_); repeat (first | with_reducible refine WP.seq ?_ | with_reducible refine WP.block ?_ | with_reducible refine WP.region ?_)
    refine WP.cond rfl (fun h0 => ?_) (fun h0 => ?_)
    · have he : encS st = encU st.n := by unfold encS; rw [if_pos (by simpa using h0)]
      repeat (first | with_reducible refine WP.seq ?_ | with_reducible refine WP.block ?_ | with_reducible refine WP.region ?_)
      refine RL.auto T_ok rfl ?_
      refine RL.load T_ok rfl rfl rfl (hX7.cell 1 rfl) rfl ?_
      refine RL.call (fi := []) (ca := []) rfl rfl rfl rfl (wuint m7 st.n hsn bw S1 pre hB7.w (by omega)) ?_
      rintro _ m8 ⟨rfl, S1', hW8, hE8, hF8⟩
      refine ⟨_, rfl, ?_⟩
      refine RL.nil ?_; repeat (first | with_reducible refine QN.block_normal ?_ | with_reducible refine QN.next ?_); repeat (first | with_reducible refine WP.seq ?_ | with_reducible refine WP.block ?_ | with_reducible refine WP.region ?_)
      refine RL.auto T_ok rfl ?_
      refine RL.load T_ok rfl rfl rfl ((st8 m8 hE8).cell 1 rfl) rfl ?_
      refine RL.call (fi := []) (ca := []) rfl rfl rfl rfl (refuint_c m8 st.n hsn S2 u pre (hB7.own1 hE8) (by omega)) ?_
      intro u' m9 hO9
      refine ⟨_, rfl, ?_⟩
      refine RL.auto T_ok rfl ?_
      exact RL.nil (QN.block_normal (QN.block_normal (QN.cutEnd u' (Sub.cons rfl (Sub.cons rfl (Sub.cons rfl (Sub.cons rfl Sub.nil)))) (by rw [he]; exact hB7.step hW8 hE8 hF8 hO9))))
    repeat (first | with_reducible refine WP.seq ?_ | with_reducible refine WP.block ?_ | with_reducible refine WP.region ?_)
    refine RL.auto T_ok rfl ?_
    refine RL.nil ?_; repeat (first | with_reducible refine QN.block_normal ?_ | with_reducible refine QN.next ?_); repeat (first | with_reducible refine WP.seq ?_ | with_reducible refine WP.block ?_ | with_reducible refine WP.region ?_)
    refine WP.cond rfl (fun h1 => ?_) (fun h1 => ?_)
    · have he : encS st = encU (zig (IntKind.i64.wrap st.n)) := by unfold encS; rw [if_neg (by simpa using h0), if_pos (by simpa using h1)]
      have hw := wrapi_bounds st.n
      repeat (first | with_reducible refine WP.seq ?_ | with_reducible refine WP.block ?_ | with_reducible refine WP.region ?_)
      refine RL.auto T_ok rfl ?_
      refine RL.load T_ok rfl rfl rfl (hX7.cell 1 rfl) rfl ?_
      refine RL.auto T_ok rfl ?_
      refine RL.call (fi := []) (ca := []) rfl rfl rfl rfl (wint m7 (IntKind.i64.wrap st.n) hw.1 hw.2 bw S1 pre hB7.w (by omega)) ?_
      rintro _ m8 ⟨rfl, S1', hW8, hE8, hF8⟩
      refine ⟨_, rfl, ?_⟩
      refine RL.nil ?_; repeat (first | with_reducible refine QN.block_normal ?_ | with_reducible refine QN.next ?_); repeat (first | with_reducible refine WP.seq ?_ | with_reducible refine WP.block ?_ | with_reducible refine WP.region ?_)
      refine RL.auto T_ok rfl ?_
      refine RL.load T_ok rfl rfl rfl ((st8 m8 hE8).cell 1 rfl) rfl ?_
      refine RL.auto T_ok rfl ?_
      refine RL.call (fi := []) (ca := []) rfl rfl rfl rfl (refint_c m8 (IntKind.i64.wrap st.n) hw.1 hw.2 S2 u pre (hB7.own1 hE8) (by omega)) ?_
      intro u' m9 hO9
      refine ⟨_, rfl, ?_⟩
      refine RL.auto T_ok rfl ?_
      exact RL.nil (QN.block_normal (QN.block_normal (QN.cutEnd u' (Sub.cons rfl (Sub.cons rfl (Sub.cons rfl (Sub.cons rfl Sub.nil)))) (by rw [he]; exact hB7.step hW8 hE8 hF8 hO9))))
    repeat (first | with_reducible refine WP.seq ?_ | with_reducible refine WP.block ?_ | with_reducible refine WP.region ?_)
    refine RL.auto T_ok rfl ?_
    refine RL.nil ?_; repeat (first | with_reducible refine QN.block_normal ?_ | with_reducible refine QN.next ?_); repeat (first | with_reducible refine WP.seq ?_ | with_reducible refine WP.block ?_ | with_reducible refine WP.region ?_)
    refine WP.cond rfl (fun h2 => ?_) (fun h2 => ?_)
    · have he : encS st = [UInt8.ofNat st.n] := by unfold encS; rw [if_neg (by simpa using h0), if_neg (by simpa using h1), if_pos (by simpa using h2)]
      repeat (first | with_reducible refine WP.seq ?_ | with_reducible refine WP.block ?_ | with_reducible refine WP.region ?_)
      refine RL.auto T_ok rfl ?_
      refine RL.load T_ok rfl rfl rfl (hX7.cell 1 rfl) rfl ?_
      refine RL.pure T_ok 1 rfl ?_
      refine RL.eqv (v' := .int .u8 ((UInt8.ofNat st.n).toNat : Int)) (congrArg _ (wrap_u8_nat _)) ?_
      refine RL.call (fi := []) (ca := []) rfl rfl rfl rfl (wbyte m7 (UInt8.ofNat st.n) bw S1 pre hB7.w (by omega)) ?_
      rintro _ m8 ⟨rfl, S1', hW8, hE8, hF8⟩
      refine ⟨_, rfl, ?_⟩
      refine RL.nil ?_; repeat (first | with_reducible refine QN.block_normal ?_ | with_reducible refine QN.next ?_); repeat (first | with_reducible refine WP.seq ?_ | with_reducible refine WP.block ?_ | with_reducible refine WP.region ?_)
      refine RL.auto T_ok rfl ?_
      refine RL.load T_ok rfl rfl rfl ((st8 m8 hE8).cell 1 rfl) rfl ?_
      refine RL.pure T_ok 1 rfl ?_
      refine RL.eqv (v' := .int .u8 ((UInt8.ofNat st.n).toNat : Int)) (congrArg _ (wrap_u8_nat _)) ?_
      refine RL.append1 T_ok [.tmp 50] (hB7.own1 hE8) (u8s [UInt8.ofNat st.n]) rfl rfl rfl rfl rfl rfl rfl rfl rfl (by simp [Value.cells]) rfl (u8s_one _) (by unfold maxLen; omega) (by show (_ + 1) * 1 ≤ _; omega) ?_
      intro u' m9 S9 hO1 hE9 hF9
      refine ⟨_, rfl, ?_⟩
      have hO9 : OPost m8 S2 (pre ++ [UInt8.ofNat st.n]) u' m9 := own_more (d := [UInt8.ofNat st.n]) hO1 hE9 hF9
      refine RL.auto T_ok rfl ?_
      exact RL.nil (QN.block_normal (QN.block_normal (QN.cutEnd u' (Sub.cons rfl (Sub.cons rfl (Sub.cons rfl (Sub.cons rfl Sub.nil)))) (by rw [he]; exact hB7.step hW8 hE8 hF8 hO9))))
    repeat (first | with_reducible refine WP.seq ?_ | with_reducible refine WP.block ?_ | with_reducible refine WP.region ?_)
    refine RL.auto T_ok rfl ?_
    refine RL.nil ?_; repeat (first | with_reducible refine QN.block_normal ?_ | with_reducible refine QN.next ?_); repeat (first | with_reducible refine WP.seq ?_ | with_reducible refine WP.block ?_ | with_reducible refine WP.region ?_)
    refine WP.cond rfl (fun h3 => ?_) (fun h3 => ?_)
    · have he : encS st = enc8 st.n 8 := by unfold encS; rw [if_neg (by simpa using h0), if_neg (by simpa using h1), if_neg (by simpa using h2), if_pos (by simpa using h3)]
      repeat (first | with_reducible refine WP.seq ?_ | with_reducible refine WP.block ?_ | with_reducible refine WP.region ?_)
      refine RL.auto T_ok rfl ?_
      refine RL.load T_ok rfl rfl rfl (hX7.cell 1 rfl) rfl ?_
      refine RL.call (fi := []) (ca := []) rfl rfl rfl rfl (wfixed m7 st.n bw S1 pre hB7.w (by omega)) ?_
      rintro _ m8 ⟨rfl, S1', hW8, hE8, hF8⟩
      refine ⟨_, rfl, ?_⟩
      refine RL.nil ?_; repeat (first | with_reducible refine QN.block_normal ?_ | with_reducible refine QN.next ?_); repeat (first | with_reducible refine WP.seq ?_ | with_reducible refine WP.block ?_ | with_reducible refine WP.region ?_)
      refine RL.auto T_ok rfl ?_
      refine RL.load T_ok rfl rfl rfl ((st8 m8 hE8).cell 1 rfl) rfl ?_
      refine RL.call (fi := []) (ca := []) rfl rfl rfl rfl (reffixed_c m8 st.n S2 u pre (hB7.own1 hE8) (by omega)) ?_
      intro u' m9 hO9
      refine ⟨_, rfl, ?_⟩
      refine RL.auto T_ok rfl ?_
      exact RL.nil (QN.block_normal (QN.block_normal (QN.cutEnd u' (Sub.cons rfl (Sub.cons rfl (Sub.cons rfl (Sub.cons rfl Sub.nil)))) (by rw [he]; exact hB7.step hW8 hE8 hF8 hO9))))
    repeat (first | with_reducible refine WP.seq ?_ | with_reducible refine WP.block ?_ | with_reducible refine WP.region ?_)
    refine RL.auto T_ok rfl ?_
    refine RL.nil ?_; repeat (first | with_reducible refine QN.block_normal ?_ | with_reducible refine QN.next ?_); repeat (first | with_reducible refine WP.seq ?_ | with_reducible refine WP.block ?_ | with_reducible refine WP.region ?_)
    refine WP.cond rfl (fun h4 => ?_) (fun h4 => ?_)
    · have he : encS st = encU st.s.length ++ st.s := by unfold encS; rw [if_neg (by simpa using h0), if_neg (by simpa using h1), if_neg (by simpa using h2), if_neg (by simpa using h3), if_pos (by simpa using h4)]
      have hsz : (str st.s).size = st.s.length := by show st.s.toArray.size = _; simp
      have hst : (str st.s).data.toList = st.s := by show st.s.toArray.toList = st.s; simp
      have hwt := wtext m7 (str st.s) (by omega) bw S1 pre hB7.w (by omega)
      rw [hsz, hst] at hwt
      repeat (first | with_reducible refine WP.seq ?_ | with_reducible refine WP.block ?_ | with_reducible refine WP.region ?_)
      refine RL.auto T_ok rfl ?_
      refine RL.load T_ok rfl rfl rfl (hX7.cell 2 rfl) rfl ?_
      refine RL.call (fi := []) (ca := []) rfl rfl rfl rfl hwt ?_
      rintro _ m8 ⟨rfl, S1', hW8, hE8, hF8⟩
      refine ⟨_, rfl, ?_⟩
      refine RL.nil ?_; repeat (first | with_reducible refine QN.block_normal ?_ | with_reducible refine QN.next ?_); repeat (first | with_reducible refine WP.seq ?_ | with_reducible refine WP.block ?_ | with_reducible refine WP.region ?_)
      refine RL.auto T_ok rfl ?_
      refine RL.load T_ok rfl rfl rfl ((st8 m8 hE8).cell 2 rfl) rfl ?_
      refine RL.call (fi := []) (ca := []) rfl rfl rfl rfl (reftext_c m8 st.s hss S2 u pre (hB7.own1 hE8) (by omega)) ?_
      intro u' m9 hO9
      refine ⟨_, rfl, ?_⟩
      rw [List.append_assoc] at hW8 hO9
      refine RL.auto T_ok rfl ?_
      exact RL.nil (QN.block_normal (QN.block_normal (QN.cutEnd u' (Sub.cons rfl (Sub.cons rfl (Sub.cons rfl (Sub.cons rfl Sub.nil)))) (by rw [he]; exact hB7.step hW8 hE8 hF8 hO9))))
    have he : encS st = [] := by unfold encS; rw [if_neg (by simpa using h0), if_neg (by simpa using h1), if_neg (by simpa using h2), if_neg (by simpa using h3), if_neg (by simpa using h4)]
    refine WP.skip (QN.block_normal (QN.block_normal (QN.cutEnd u (Sub.cons rfl (Sub.cons rfl (Sub.cons rfl (Sub.cons rfl Sub.nil)))) ⟨S1, S2, by rw [he, List.append_nil]; exact hB7⟩)))
  · have hc : k = l.length := by have := of_decide_eq_false hc; omega
    subst hc
    rw [List.take_length] at hB hpl
    refine WP.exit ?_; repeat (first | with_reducible refine QN.then_exit ?_ | with_reducible refine QN.block_exit ?_ | with_reducible refine QN.block_far rfl ?_ | with_reducible refine QN.block_normal ?_ | with_reducible refine QN.next ?_); repeat (first | with_reducible refine WP.seq ?_ | with_reducible refine WP.block ?_ | with_reducible refine WP.region ?_)
    refine RL.call (fi := []) (ca := []) rfl rfl rfl rfl (wbytes m5 bw S1 _ hB.w (by omega)) ?_
    rintro u1 m6 ⟨S6, hO6, hN6⟩
    obtain ⟨A6, c6, rfl, _⟩ := hO6.shape
    refine ⟨_, rfl, ?_⟩
    have hB6 := hB.new hN6.1
    obtain ⟨A7, c7, rfl, _⟩ := hB6.o.shape
    refine RL.auto T_ok rfl ?_
    refine RL.nil ?_; repeat (first | with_reducible refine QN.block_normal ?_ | with_reducible refine QN.next ?_); repeat (first | with_reducible refine WP.seq ?_ | with_reducible refine WP.block ?_ | with_reducible refine WP.region ?_)
    refine RL.auto T_ok rfl ?_
    refine RL.call (fi := []) (ca := []) rfl rfl rfl rfl (hbytes_c m6 [] _ _ _ _ (Own.sl hO6 (by simp)) (Own.sl hB6.o (by simp))) ?_
    rintro _ m7 ⟨rfl, rfl⟩
    refine ⟨_, rfl, ?_⟩
    refine RL.eqv (v' := .bool true) (congrArg _ (by simp)) ?_
    refine RL.auto T_ok rfl ?_
    refine RL.call (fi := []) (ca := []) rfl rfl rfl rfl (wbytes m7 bw S1 _ hB6.w (by omega)) ?_
    rintro u2 m8 ⟨S8, hO8, hN8⟩
    obtain ⟨A8, c8, rfl, _⟩ := hO8.shape
    refine ⟨_, rfl, ?_⟩
    have hB8 := hB6.new hN8.1
    refine RL.auto T_ok rfl ?_
    refine RL.call (fi := []) (ca := []) rfl rfl rfl rfl (hbytes_c m8 [] _ _ _ _ (Own.sl hO8 (by simp)) (Own.sl hB8.o (by simp))) ?_
    rintro _ m9 ⟨rfl, rfl⟩
    refine ⟨_, rfl, ?_⟩
    refine RL.eqv (v' := .bool true) (congrArg _ (by simp)) ?_
    refine RL.auto T_ok rfl ?_
    refine RL.nil ?_; repeat (first | with_reducible refine QN.block_normal ?_ | with_reducible refine QN.next ?_); repeat (first | with_reducible refine WP.seq ?_ | with_reducible refine WP.block ?_ | with_reducible refine WP.region ?_)
    refine WP.ret ?_; repeat (first | with_reducible refine QN.then_ret ?_ | with_reducible refine QN.block_ret ?_)
    refine QN.ret2 rfl rfl rfl ⟨_, rfl, _, S6, rfl, hO6.ext hN8.1 (by simp), hB8.ext, fun k hk => .inr ?_⟩
    have := hN6.ge k hk
    have := hB.ext.size
    omega
end Go.Proofs.Ytaogoblckkmkgaa
