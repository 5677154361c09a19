/- Turns, the walk. The lengths stay below 2^28. -/
import Derived.Test.YtkfakfbndnbpiaaIdsM
namespace Go.Proofs.Ytkfakfbndnbpiaa
open Go.RowKit Go.Ev Go.Ids

/-- What the loop over the right ones leaves. -/
def TurnsI (m : World) (b1 b2 b3 : Nat) (v : Value) (l : List Trn) (pre : List Trn) (a : World) : Prop :=
  ∃ S ov, Blk a b3 61 [ov] ∧ Ev.Own a S 101 4 ov pre.length (pre.flatMap tC) ∧ (∀ k ∈ S, m.heap.size ≤ k ∧ k ≠ b3 ∧ k ≠ b1 ∧ k ≠ b2) ∧ Ext m [] a ∧ TK b1 b2 v l 81 a
theorem TurnsI.kc {m a b : World} {b1 b2 b3 B : Nat} {v : Value} {l pre : List Trn} (h : TurnsI m b1 b2 b3 v l pre a) (hK : Kc B a b) (hB : m.heap.size ≤ B) : TurnsI m b1 b2 b3 v l pre b := by
  obtain ⟨S, ov, h1, h2, h3, h4, h5, h6, h7⟩ := h
  exact ⟨S, ov, h1.kc hK, h2.kc hK, h3, h4.of_kc hK hB, h5.kc hK, h6.kc hK, Sl.kc h7 hK⟩
/-- Turns that a call made. -/
def TMade (m : World) (r : Value) (L : List Trn) (m' : World) : Prop := ∃ S', Ev.Own m' S' 101 4 r L.length (L.flatMap tC) ∧ New m S' m'
theorem TMade.ext {m m' : World} {r : Value} {l : List Trn} (h : TMade m r l m') : Ext m [] m' := by obtain ⟨_, _, h⟩ := h; exact h.1
theorem TMade.ts {m m' : World} {r : Value} {l : List Trn} (h : TMade m r l m') : Ts m' [] r l := by obtain ⟨_, h, _⟩ := h; exact h.sl (by simp)
/-- The one form of turns. -/
def TForm (l L : List Trn) : Prop := TCanon L ∧ (∀ c k, turnOf L c k = turnOf l c k) ∧ L.length ≤ 2 * l.length + 2
theorem TForm.unique {l L L' : List Trn} (h : TForm l L) (h' : TForm l L') : L = L' := tcanon_unique h.1 h'.1 fun c k => by rw [h.2.1, h'.2.1]
theorem turnsF_c (m : World) (v : Value) (l : List Trn) (h : Ts m [] v l) (hl : l.length < 200000000) :
    FnR Try.prog 45 [v] m fun r m' => ∃ L, TForm l L ∧ TMade m r L m' := by
  obtain ⟨A, c, rfl, _, _⟩ := h.shape
  refine FnE.enterM ⟨_, Try.func45, by kernel_rfl, by kernel_rfl⟩ Try.func45 rfl rfl ?_
  repeat (first | with_reducible refine WP.seq ?_ | with_reducible refine WP.block ?_ | with_reducible refine WP.region ?_)
  refine RL.auto T_ok rfl ?_
  refine RL.nil ?_; repeat (first | with_reducible refine QN.block_normal ?_ | with_reducible refine QN.next ?_)
  repeat (first | with_reducible refine WP.seq ?_ | with_reducible refine WP.block ?_ | with_reducible refine WP.region ?_)
  refine RL.alloc T_ok rfl rfl (fun b3 m1 hb3 hC1 => ⟨_, rfl, ?_⟩)
  have hB1 : Blk m1 b3 61 [.slice none 0 0] := hC1.blk
  have hE1 : Ext m [] m1 := hC1.new (by omega)
  have s1 := hC1.size
  refine RL.nil ?_; repeat (first | with_reducible refine QN.block_normal ?_ | with_reducible refine QN.next ?_); repeat (first | with_reducible refine WP.seq ?_ | with_reducible refine WP.block ?_ | with_reducible refine WP.region ?_)
  refine RL.auto T_ok rfl ?_
  refine RL.call (fi := []) (ca := []) rfl rfl rfl rfl (rightsT_c m1 (.slice A l.length c) l 81) ?_
  rintro _ m2 ⟨b1, b2, rfl, g1, g2, hE2, hRK⟩
  refine ⟨_, rfl, ?_⟩
  have hRK := hRK (h.ext0 hE1)
  have hB2 := hB1.ext hE2 (by simp)
  have hEm := hE1.trans hE2 (by simp)
  have lb1 := hRK.1.lt
  have lb2 := hRK.2.1.lt
  have lb3 := hB2.lt
  refine RL.sub (e' := [(3, .pointer (some ⟨b3, 0, none⟩)), (13, .func (.func 106) #[] #[.pointer (some ⟨b1, 0, none⟩), .pointer (some ⟨b2, 0, none⟩)])]) (Sub.cons rfl (Sub.cons rfl Sub.nil)) ?_
  refine RL.nil ?_; repeat (first | with_reducible refine QN.block_normal ?_ | with_reducible refine QN.next ?_); repeat (first | with_reducible refine WP.seq ?_ | with_reducible refine WP.block ?_ | with_reducible refine WP.region ?_)
  refine WP.rangeFunc (ps := [14]) (gf := 106) (lb := [.pointer (some ⟨b1, 0, none⟩), .pointer (some ⟨b2, 0, none⟩)]) (fun x : Trn => [tV x]) rfl (rightsT1_c m2 b1 b2 (.slice A l.length c) l (by omega) 81 Trn.right (fun m1 x => turn_c m1 x)) ⟨_, Try.func106, by kernel_rfl, by kernel_rfl⟩
    (TurnsI m b1 b2 b3 (.slice A l.length c) l) (fun _ _ _ => False) (fun pre a b hi hK => hi.kc hK hEm.size) (fun _ _ _ _ hi _ => hi) (fun pre a ⟨_, _, _, _, _, _, hk⟩ => hk)
    ⟨[], .slice none 0 0, hB2, Own.empty _ _ _ _, (by simp), hEm, hRK⟩
    (fun x => [(14, tV x), (3, .pointer (some ⟨b3, 0, none⟩)), (13, .func (.func 106) #[] #[.pointer (some ⟨b1, 0, none⟩), .pointer (some ⟨b2, 0, none⟩)])]) (fun x => rfl) (fun x => rfl)
    (fun x b4 => [(4, .pointer (some ⟨b4, 0, none⟩)), (3, .pointer (some ⟨b3, 0, none⟩))]) (fun pre x b4 a => Blk a b4 101 (tC x) ∧ TurnsI m b1 b2 b3 (.slice A l.length c) l pre a) (fun pre x y a b hi hK => ⟨hi.1.kc hK, hi.2.kc hK hEm.size⟩)
    ?_ ?_ ?_ ?_
  · -- the round's variable
    rintro lp pre x m3 hI hlen hsz
    refine WP.region ?_
    refine RL.alloc T_ok rfl rfl (fun b4 m4 hb4 hC4 => ⟨_, rfl, ?_⟩)
    have hE4 : Ext m3 [] m4 := hC4.new (by omega)
    refine RL.storeAgg T_ok (b := b4) (i := 0) (vs := tC x) (cs := [.int .u64 0, .int .u64 0, .int .u64 0, .int .u64 0]) hC4.blk rfl rfl rfl rfl rfl (by simp) (by simp [tC, Value.oneCell']) rfl ?_
    intro m5 hC5
    have hE5 : Ext m3 [] m5 := hE4.trans hC5.ext (fun q hq => .inr (by have h9 : q = b4 := (by simpa using hq); omega))
    exact RL.nil (QN.asgEnd b4 (Sub.cons rfl (Sub.cons rfl Sub.nil)) hE5.kn0 ⟨hC5.blk, hI.kc hE5.kc hEm.size⟩)
  · -- one more
    rintro lp pre x b4 m3 ⟨hB4, S, ov, hB3, hO, hS, hE3, hRK3⟩ hlen hsz
    replace hlen : pre.length < l.length := hlen.2
    repeat (first | with_reducible refine WP.seq ?_ | with_reducible refine WP.block ?_ | with_reducible refine WP.region ?_)
    refine RL.load T_ok rfl rfl rfl (hB3.cell 0 rfl) rfl ?_
    refine RL.loadAgg T_ok (tC x) rfl rfl rfl (fun j u hu => by rw [add_block]; exact hB4.cell _ (by simpa using hu)) rfl ?_
    refine RL.append1 T_ok [.tmp 16] hO (us := [tV x]) (tC x) rfl rfl rfl rfl rfl rfl rfl rfl rfl (by simp [tV, tC, Value.cells]) (by simp [tV, Value.cells]) (tC_one x) (by unfold maxLen; omega) (by show (_ + 1) * 32 ≤ _; omega) ?_
    intro v4 m4 S4 hO4 hE4 hF4
    refine ⟨_, rfl, ?_⟩
    have hB34 := hB3.ext hE4 (fun hh => (hS _ hh).2.1 rfl)
    refine RL.store T_ok hB34 (i := 0) (v := v4) (by simp) rfl rfl rfl rfl hO4.one rfl ?_
    intro m5 hC5
    have l1 := hRK3.1.lt
    have l2 := hRK3.2.1.lt
    have l3 := hB3.lt
    have hS4 : ∀ k ∈ S4, m.heap.size ≤ k ∧ k ≠ b3 ∧ k ≠ b1 ∧ k ≠ b2 := fun k hk => by
      rcases hF4 k hk with h9 | h9
      · exact hS k h9
      · have := hE3.size; exact ⟨by omega, by omega, by omega, by omega⟩
    have hE5 : Ext m3 (b3 :: S) m5 := (hE4.mono (fun k hk _ => List.mem_cons_of_mem _ hk)).trans hC5.ext (fun k hk => .inl (by have h9 : k = b3 := (by simpa using hk); simp [h9]))
    have hE5m : Ext m [] m5 := hE3.trans hE5 (fun k hk => .inr (by
      rcases List.mem_cons.1 hk with rfl | hk
      · omega
      · exact (hS k hk).1))
    refine RL.nil ?_
    repeat (first | with_reducible refine QN.block_normal ?_ | with_reducible refine QN.next ?_)
    refine QN.rdNormal (hE5.kn (fun k hk _ _ => ?_)) ⟨S4, v4, hC5.blk, ?_, hS4, hE5m, hRK3.1.ext hE5 ?_, hRK3.2.1.ext hE5 ?_, h.ext0 hE5m⟩
    · rcases List.mem_cons.1 hk with rfl | hk
      · exact ⟨_, _, _, hB3⟩
      · exact hO.cells k hk
    · rw [List.length_append, List.flatMap_append]
      exact (hO4.ext hC5.ext (fun k hk => by have := (hS4 k hk).2.1; simpa using this))
    · intro hh
      rcases List.mem_cons.1 hh with h9 | h9
      · omega
      · exact (hS _ h9).2.2.1 rfl
    · intro hh
      rcases List.mem_cons.1 hh with h9 | h9
      · omega
      · exact (hS _ h9).2.2.2 rfl
  · -- sorted, then swept
    rintro D xs m3 hD rfl ⟨S, ov, hB3, hO, hS, hE3, _⟩ hk
    have hDm : m.heap.size ≤ D := Nat.le_trans hEm.size hD
    have hDlt : D < m3.heap.size := (Array.getElem?_eq_some_iff.1 hk).1
    have hDnS : D ∉ S := fun hh => by
      obtain ⟨c1, t1, z1, h9⟩ := hO.cells D hh
      rw [h9] at hk; cases hk
    have hxl : (l.filter Trn.right).length ≤ l.length := List.length_filter_le _ _
    repeat (first | with_reducible refine WP.seq ?_ | with_reducible refine WP.block ?_ | with_reducible refine WP.region ?_)
    repeat (first | with_reducible refine QN.block_normal ?_ | with_reducible refine QN.next ?_)
    repeat (first | with_reducible refine WP.seq ?_ | with_reducible refine WP.block ?_ | with_reducible refine WP.region ?_)
    refine RL.load T_ok rfl rfl rfl (hB3.cell 0 rfl) rfl ?_
    refine RL.call (fi := []) (ca := []) rfl rfl rfl rfl (sortT_c m3 S ov _ hO (by omega)) ?_
    rintro _ m4 ⟨rfl, hE4, d, hperm, hsort, hO4⟩
    refine ⟨_, rfl, ?_⟩
    have hB4 := hB3.ext hE4 (fun hh => (hS _ hh).2.1 rfl)
    have hk4 : m4.heap[D]? = some (.deferred (some [])) := (hE4.far D hDlt hDnS).trans hk
    have hE4m : Ext m [] m4 := hE3.trans hE4 (fun k hk => .inr (hS k hk).1)
    have hlen' : d.length ≤ l.length := by rw [hperm.length_eq]; exact hxl
    have hdr : ∀ x ∈ d, x.right = true := fun x hx => (List.mem_filter.1 (hperm.mem_iff.1 hx)).2
    obtain ⟨A', c', rfl, hc'⟩ := hO4.shape
    have hR4 : Ts m4 [] (.slice A' d.length c') d := hO4.sl (by simp)
    have hDlt4 : D < m4.heap.size := (Array.getElem?_eq_some_iff.1 hk4).1
    refine RL.nil ?_; repeat (first | with_reducible refine QN.block_normal ?_ | with_reducible refine QN.next ?_); repeat (first | with_reducible refine WP.seq ?_ | with_reducible refine WP.block ?_ | with_reducible refine WP.region ?_)
    refine RL.alloc T_ok rfl rfl (fun b5 m5 hb5 hC5 => ⟨_, rfl, ?_⟩)
    refine RL.alloc T_ok rfl rfl (fun b6 m6 hb6 hC6 => ⟨_, rfl, ?_⟩)
    have hE5 : Ext m4 [] m5 := hC5.new (by omega)
    have hE6 : Ext m5 [] m6 := hC6.new (by omega)
    have s5 := hC5.size
    have s6 := hC6.size
    have hX5 : Blk m6 b5 61 [.slice none 0 0] := Blk.ext hC5.blk hE6 (by simp)
    have hX6 : Blk m6 b6 61 [.slice none 0 0] := hC6.blk
    clear hC5 hC6
    refine RL.nil ?_; repeat (first | with_reducible refine QN.block_normal ?_ | with_reducible refine QN.next ?_); repeat (first | with_reducible refine WP.seq ?_ | with_reducible refine WP.block ?_ | with_reducible refine WP.region ?_)
    refine RL.alloc T_ok rfl rfl (fun b7 m7 hb7 hC7 => ⟨_, rfl, ?_⟩)
    have hE7 : Ext m6 [] m7 := hC7.new (by omega)
    have s7 := hC7.size
    refine RL.store T_ok (b := b7) (i := 0) (v := .int .u64 0) (cs := [.int .u64 0]) hC7.blk (by simp) rfl rfl rfl rfl rfl rfl ?_
    intro m8 hC8
    have hE8 : Ext m6 [] m8 := hE7.trans hC8.ext (fun k hk => .inr (by have h9 : k = b7 := (by simpa using hk); omega))
    have hE48 : Ext m4 [] m8 := (hE5.trans hE6 (by simp)).trans hE8 (by simp)
    have hsw0 : Swp m4 m4 [] m8 b5 b6 b7 [] 0 0 [] [] := ⟨Swept.start 0 0, hE48, [], [], _, _, hX5.ext hE8 (by simp), hX6.ext hE8 (by simp), hC8.blk, Own.empty _ _ _ _, Own.empty _ _ _ _, by simp, by simp, by simp⟩
    have hbs : b5 ≠ b6 ∧ b5 ≠ b7 ∧ b6 ≠ b7 ∧ m4.heap.size ≤ b5 ∧ m4.heap.size ≤ b6 ∧ m4.heap.size ≤ b7 := ⟨by omega, by omega, by omega, by omega, by omega, by omega⟩
    clear hC7 hC8
    refine RL.nil ?_; repeat (first | with_reducible refine QN.block_normal ?_ | with_reducible refine QN.next ?_); repeat (first | with_reducible refine WP.seq ?_ | with_reducible refine WP.block ?_ | with_reducible refine WP.region ?_)
    refine RL.auto T_ok rfl ?_
    refine RL.nil ?_; repeat (first | with_reducible refine QN.block_normal ?_ | with_reducible refine QN.next ?_); repeat (first | with_reducible refine WP.seq ?_ | with_reducible refine WP.block ?_ | with_reducible refine WP.region ?_)
    refine RL.load T_ok rfl rfl rfl ((hB4.ext hE48 (by simp)).cell 0 rfl) rfl ?_
    refine RL.auto T_ok rfl ?_
    refine RL.nil ?_; repeat (first | with_reducible refine QN.block_normal ?_ | with_reducible refine QN.next ?_); repeat (first | with_reducible refine WP.seq ?_ | with_reducible refine WP.block ?_ | with_reducible refine WP.region ?_)
    obtain ⟨fv, hfv⟩ : ∃ fv : Value, fv = .func (.func 84) #[] #[.pointer (some ⟨b6, 0, none⟩), .pointer (some ⟨b7, 0, none⟩), .pointer (some ⟨b5, 0, none⟩)] := ⟨_, rfl⟩
    refine (WP.loop (X := Nat × Nat × Nat × List Trn × List Trn) (fun x => [(22, .slice A' d.length c'), (23, .int .i64 d.length), (24, .int .i64 x.1), (5, .pointer (some ⟨b5, 0, none⟩)), (6, .pointer (some ⟨b6, 0, none⟩)), (7, .pointer (some ⟨b7, 0, none⟩)), (8, fv)])
      (fun x m' => x.1 ≤ d.length ∧ Swp m4 m4 [] m' b5 b6 b7 (d.take x.1) x.2.1 x.2.2.1 x.2.2.2.1 x.2.2.2.2 ∧ x.2.2.2.2.length + x.2.2.2.1.length ≤ 2 * x.1 ∧ ∀ y ∈ d.drop x.1, x.2.1 < y.c ∨ (x.2.1 = y.c ∧ x.2.2.1 ≤ y.f)) (fun x => d.length - x.1) (0, 0, 0, [], [])
      (Sub.cons rfl (Sub.cons rfl (Sub.cons rfl (Sub.cons rfl (Sub.cons rfl (Sub.cons rfl (Sub.cons ?_ Sub.nil))))))) ⟨by simp, hsw0, by simp, fun y hy => .inl (by have := tright_iff.1 (hdr y (by simpa using hy)); show 0 < y.c; omega)⟩ ?_)
    · rw [hfv]; rfl
    rintro ⟨i, c0, a, op, out⟩ m9 ⟨hi, hsw, hln, hord⟩
    simp only at hi hsw hln hord
    repeat (first | with_reducible refine WP.seq ?_ | with_reducible refine WP.block ?_ | with_reducible refine WP.region ?_)
    refine RL.auto T_ok rfl ?_
    refine RL.nil ?_; repeat (first | with_reducible refine QN.block_normal ?_ | with_reducible refine QN.next ?_); repeat (first | with_reducible refine WP.seq ?_ | with_reducible refine WP.block ?_ | with_reducible refine WP.region ?_)
    refine WP.cond rfl (fun hc => ?_) (fun hc => ?_)
    · replace hc : i < d.length := by have := of_decide_eq_true hc; simp only at this; omega
      obtain ⟨ad, rfl, hx⟩ := (hR4.ext0 hsw.2.1).cell i hc
      obtain ⟨x, hxe⟩ : ∃ x, d[i] = x := ⟨_, rfl⟩
      have hxr : x.right = true := by rw [← hxe]; exact hdr _ (List.getElem_mem _)
      have gx := tright_iff.1 hxr
      have hxo : c0 < x.c ∨ (c0 = x.c ∧ a ≤ x.f) := hord x (by rw [← hxe, List.drop_eq_getElem_cons hc]; exact List.mem_cons_self ..)
      have hsnext : ∀ y ∈ d.drop (i + 1), x.c < y.c ∨ (x.c = y.c ∧ x.f ≤ y.f) := fun y hy => by
        obtain ⟨q, hq, rfl⟩ := List.mem_iff_getElem.1 hy
        rw [List.getElem_drop, ← hxe]
        rw [List.length_drop] at hq
        exact List.pairwise_iff_getElem.1 hsort i (i + 1 + q) hc (by omega) (by omega)
      have htake : d.take (i + 1) = d.take i ++ [x] := by rw [List.take_succ_eq_append_getElem hc, hxe]
      rw [hxe] at hx
      refine WP.skip ?_; repeat (first | with_reducible refine QN.block_normal ?_ | with_reducible refine QN.next ?_); repeat (first | with_reducible refine WP.seq ?_ | with_reducible refine WP.block ?_ | with_reducible refine WP.region ?_)
      refine RL.indexAddr (k := i) T_ok rfl rfl rfl rfl rfl rfl rfl hc rfl ?_
      refine RL.loadAgg T_ok (tC x) rfl rfl rfl hx rfl ?_
      refine RL.alloc T_ok rfl rfl (fun b10 m10 hb10 hC10 => ⟨_, rfl, ?_⟩)
      refine RL.storeAgg T_ok (b := b10) (i := 0) (vs := tC x) (cs := [.int .u64 0, .int .u64 0, .int .u64 0, .int .u64 0]) hC10.blk rfl rfl rfl rfl rfl (by simp) (by simp [tC, Value.oneCell']) rfl ?_
      intro m11 hC11
      have hE11 : Ext m9 [] m11 := (hC10.new (by omega)).trans hC11.ext (fun q hq => .inr (by have h9 : q = b10 := (by simpa using hq); omega))
      have hB11 : Blk m11 b10 101 (tC x) := hC11.blk
      have hswZ : Swp m4 m11 [b10] m11 b5 b6 b7 (d.take i) c0 a op out := by
        obtain ⟨y0, y1, S5, S6, v5, v6, g1, g2, g3, g4, g5, g6, g7, _⟩ := hsw
        refine ⟨y0, y1.trans hE11 (by simp), S5, S6, v5, v6, g1.ext hE11 (by simp), g2.ext hE11 (by simp), g3.ext hE11 (by simp), g4.ext hE11 (by simp), g5.ext hE11 (by simp), g6, g7, fun k hk => ?_⟩
        have hk : k = b10 := by simpa using hk
        subst hk
        have e5 := g1.lt
        have e6 := g2.lt
        have e7 := g3.lt
        exact ⟨hB11.lt, rfl, by omega, by omega, by omega, fun hh => by have := g4.lt _ hh; omega, fun hh => by have := g5.lt _ hh; omega⟩
      clear hsw hC10 hC11
      refine RL.nil ?_; repeat (first | with_reducible refine QN.block_normal ?_ | with_reducible refine QN.next ?_)
      refine WP.cut (X := Nat × List Trn × List Trn) (fun _ => [(22, .slice (some ad) d.length c'), (23, .int .i64 d.length), (24, .int .i64 i), (5, .pointer (some ⟨b5, 0, none⟩)), (6, .pointer (some ⟨b6, 0, none⟩)), (7, .pointer (some ⟨b7, 0, none⟩)), (8, fv), (10, .pointer (some ⟨b10, 0, none⟩))])
        (fun q m' => Swp m4 m11 [b10] m' b5 b6 b7 (d.take i) c0 q.1 q.2.1 q.2.2 ∧ q.2.2.length + q.2.1.length ≤ 2 * i + 1 ∧ (q.2.1 = [] ∨ c0 = x.c ∧ q.1 = x.f) ∧ (c0 < x.c ∨ c0 = x.c ∧ q.1 ≤ x.f)) ?_ ?_
      · have hsw1 := hswZ
        obtain ⟨y0, y1, S5, S6, v5, v6, g1, g2, g3, g4, g5, g6, g7, g8⟩ := hswZ
        obtain ⟨A6, c6, rfl, _⟩ := g5.shape
        repeat (first | with_reducible refine WP.seq ?_ | with_reducible refine WP.block ?_ | with_reducible refine WP.region ?_)
        refine RL.load T_ok rfl rfl rfl (g2.cell 0 rfl) rfl ?_
        refine RL.pure T_ok 1 rfl ?_
        rcases hop : op with _ | ⟨y, op2⟩
        · subst hop
          refine RL.auto T_ok rfl ?_
          refine RL.nil ?_; repeat (first | with_reducible refine QN.block_normal ?_ | with_reducible refine QN.next ?_)
          refine WP.condF rfl ?_
          refine WP.skip ?_
          exact QN.cutEnd (a, [], out) (Sub.cons rfl (Sub.cons rfl (Sub.cons rfl (Sub.cons rfl (Sub.cons rfl (Sub.cons rfl (Sub.cons rfl (Sub.cons rfl Sub.nil)))))))) ⟨hsw1, by show out.length + 0 ≤ _; simp only [List.length_nil] at hln; omega, .inl rfl, hxo⟩
        have hy0 := y0.opens y (by rw [hop]; simp)
        have gy := tright_iff.1 hy0.1
        rw [← hop]
        have hpos : 0 < op.length := by rw [hop]; simp
        have hR6 : Ts m11 [] (.slice A6 op.length c6) op := g5.sl (by simp)
        obtain ⟨ad6, rfl, hz⟩ := hR6.cell 0 hpos
        have hz0 : op[0] = y := by simp [hop]
        rw [hz0] at hz
        refine RL.pure T_ok 1 rfl ?_
        refine RL.eqv (v' := .bool true) (congrArg _ (decide_eq_true (by omega))) ?_
        refine RL.nil ?_; repeat (first | with_reducible refine QN.block_normal ?_ | with_reducible refine QN.next ?_)
        refine WP.condT rfl ?_
        repeat (first | with_reducible refine WP.seq ?_ | with_reducible refine WP.block ?_ | with_reducible refine WP.region ?_)
        refine RL.pure T_ok 1 rfl ?_
        refine RL.load T_ok rfl rfl rfl (hB11.cell 1 rfl) rfl ?_
        refine RL.auto T_ok rfl ?_
        refine RL.nil (QN.next ?_)
        refine WP.cut (X := Unit) (fun _ => [(22, .slice (some ad) d.length c'), (23, .int .i64 d.length), (24, .int .i64 i), (5, .pointer (some ⟨b5, 0, none⟩)), (6, .pointer (some ⟨b6, 0, none⟩)), (7, .pointer (some ⟨b7, 0, none⟩)), (8, fv), (10, .pointer (some ⟨b10, 0, none⟩)), (11, .int .u64 (if c0 = x.c then x.f else 9007199254740992 : Nat))]) (fun _ m' => m' = m11) ?_ ?_
        · refine WP.seq ?_
          refine WP.calm ?_
          refine WP.drawQ (fun m' => m' = m11) [] (by kernel_rfl) rfl PanicOk.calm (fun hQ => ?_)
          refine RH.load T_ok hQ 0 (fun m' hm' => by rw [hm']; exact g2.cell 0 rfl) rfl (by kernel_rfl) rfl rfl rfl rfl ?_
          refine RH.indexAddr T_ok hQ 1 (k := 0) rfl (by kernel_rfl) rfl rfl rfl rfl rfl rfl rfl hpos rfl ?_
          refine RH.pure T_ok hQ [2] (by kernel_rfl) rfl ?_
          refine RH.load T_ok hQ 3 (fun m' hm' => by rw [hm']; exact hz 0 _ rfl) rfl (by kernel_rfl) rfl rfl rfl rfl ?_
          refine RH.pure T_ok hQ [4] (by kernel_rfl) rfl ?_
          refine RH.load T_ok hQ 5 (fun m' hm' => by rw [hm']; exact hB11.cell 0 rfl) rfl (by kernel_rfl) rfl rfl rfl rfl ?_
          refine RH.pure T_ok hQ [6] (by kernel_rfl) rfl ?_
          by_cases hcc : c0 = x.c
          · refine RH.eqv (v' := .bool false) (congrArg _ (by rw [bne_nat']; exact decide_eq_false (fun hh => hh (by rw [hy0.2.1]; exact hcc)))) ?_
            refine RH.done (by kernel_rfl) (fun _ => QN.calm ?_)
            refine QN.next ?_
            refine WP.condF rfl ?_
            refine WP.skip ?_
            rw [if_pos hcc]
            exact QN.cutEnd () (Sub.cons rfl (Sub.cons rfl (Sub.cons rfl (Sub.cons rfl (Sub.cons rfl (Sub.cons rfl (Sub.cons rfl (Sub.cons rfl (Sub.cons rfl (Sub.nil)))))))))) rfl
          · refine RH.eqv (v' := .bool true) (congrArg _ (by rw [bne_nat']; exact decide_eq_true (fun hh => hcc (by rw [← hy0.2.1]; exact hh)))) ?_
            refine RH.done (by kernel_rfl) (fun _ => QN.calm ?_)
            refine QN.next ?_
            refine WP.condT rfl ?_
            repeat (first | with_reducible refine WP.seq ?_ | with_reducible refine WP.block ?_ | with_reducible refine WP.region ?_)
            refine RL.auto T_ok rfl ?_
            rw [if_neg hcc]
            exact RL.nil (QN.cutEnd () (Sub.cons rfl (Sub.cons rfl (Sub.cons rfl (Sub.cons rfl (Sub.cons rfl (Sub.cons rfl (Sub.cons rfl (Sub.cons rfl (Sub.cons rfl (Sub.nil)))))))))) rfl)
        · rintro _ mc rfl
          have hu : (if c0 = x.c then x.f else 9007199254740992) ≤ 9007199254740992 := by split <;> omega
          have hau : a ≤ (if c0 = x.c then x.f else 9007199254740992) := by
            split
            · rcases hxo with h1 | ⟨_, h1⟩ <;> omega
            · have := hy0.2.2.2; omega
          generalize hug : (if c0 = x.c then x.f else 9007199254740992) = u at hu hau
          subst hfv
          repeat (first | with_reducible refine WP.seq ?_ | with_reducible refine WP.block ?_ | with_reducible refine WP.region ?_)
          refine RL.auto T_ok rfl ?_
          refine RL.load T_ok rfl rfl rfl (g2.cell 0 rfl) rfl ?_
          refine RL.indexAddr (k := 0) T_ok rfl rfl rfl rfl rfl rfl rfl hpos rfl ?_
          refine RL.pure T_ok 1 rfl ?_
          refine RL.load T_ok rfl rfl rfl (hz 0 _ rfl) rfl ?_
          refine RL.eqv (v' := .int .u64 c0) (congrArg (fun (q : Nat) => Value.int .u64 q) hy0.2.1) ?_
          refine RL.auto T_ok rfl ?_
          refine RL.call (fi := []) (ca := [.pointer (some ⟨b6, 0, none⟩), .pointer (some ⟨b7, 0, none⟩), .pointer (some ⟨b5, 0, none⟩)]) rfl rfl rfl rfl (flush_c m4 mc [b10] mc b5 b6 b7 hbs (d.take i) c0 a op out u hu hsw1 (by omega) hau) ?_
          rintro _ m12 ⟨a', op', out', hsw12, hend, ha', hlen12⟩
          refine ⟨_, rfl, ?_⟩
          refine RL.nil ?_
          refine QN.cutEnd (a', op', out') (Sub.cons rfl (Sub.cons rfl (Sub.cons rfl (Sub.cons rfl (Sub.cons rfl (Sub.cons rfl (Sub.cons rfl (Sub.cons rfl (Sub.nil))))))))) ⟨hsw12, by show out'.length + op'.length ≤ 2 * i + 1; omega, ?_, ?_⟩
          · show op' = [] ∨ c0 = x.c ∧ a' = x.f
            by_cases hcc : c0 = x.c
            · rw [if_pos hcc] at hug
              rcases hend with h1 | h1
              · exact .inl h1
              · exact .inr ⟨hcc, by omega⟩
            · rw [if_neg hcc] at hug
              rcases hend with h1 | h1
              · exact .inl h1
              · refine .inl (List.eq_nil_iff_forall_not_mem.2 fun z hz => ?_)
                have h2 := hsw12.1.opens z hz
                have h3 := tright_iff.1 h2.1
                omega
          · show c0 < x.c ∨ c0 = x.c ∧ a' ≤ x.f
            by_cases hcc : c0 = x.c
            · rw [if_pos hcc] at hug
              exact .inr ⟨hcc, by omega⟩
            · rcases hxo with h1 | ⟨h1, _⟩
              · exact .inl h1
              · exact absurd h1 hcc
      · rintro ⟨a', op', out'⟩ m12 ⟨hsw12, hln12, hcz, hbz⟩
        simp only at hsw12 hln12 hcz hbz
        obtain ⟨y0, y1, S5, S6, v5, v6, g1, g2, g3, g4, g5, g6, g7, g8⟩ := hsw12
        obtain ⟨z1, z2, z3, z4, z5, z6, z7⟩ := g8 b10 (by simp)
        have hB12 : Blk m12 b10 101 (tC x) := z2.trans hB11
        repeat (first | with_reducible refine WP.seq ?_ | with_reducible refine WP.block ?_ | with_reducible refine WP.region ?_)
        refine RL.pure T_ok 1 rfl ?_
        refine RL.load T_ok rfl rfl rfl (hB12.cell 1 rfl) rfl ?_
        refine RL.store T_ok g3 (i := 0) (v := .int .u64 x.f) (by simp) rfl rfl rfl rfl rfl rfl ?_
        intro m13 hC13
        have h1 := g1.far hC13 (by omega)
        have h2 := g2.far hC13 (by omega)
        have h3 : Blk m13 b7 37 [.int .u64 x.f] := hC13.blk
        have h4 := g4.ext hC13.ext (fun k hk hh => (g6 k hk).2.2.2.1 (by simpa using hh))
        have h5 := g5.ext hC13.ext (fun k hk hh => (g7 k hk).2.2.2 (by simpa using hh))
        have hB13 := hB12.far hC13 (by omega)
        have hE13 := y1.trans hC13.ext (fun k hk => .inr (by have h9 : k = b7 := (by simpa using hk); omega))
        refine RL.nil ?_; repeat (first | with_reducible refine QN.block_normal ?_ | with_reducible refine QN.next ?_); repeat (first | with_reducible refine WP.seq ?_ | with_reducible refine WP.block ?_ | with_reducible refine WP.region ?_)
        refine RL.load T_ok rfl rfl rfl (h2.cell 0 rfl) rfl ?_
        refine RL.loadAgg T_ok (tC x) rfl rfl rfl (fun j u hu => by rw [add_block]; exact hB13.cell _ (by simpa using hu)) rfl ?_
        refine RL.append1 T_ok [.tmp 50] h5 (us := [tV x]) (tC x) rfl rfl rfl rfl rfl rfl rfl rfl rfl (by simp [tV, tC, Value.cells]) (by simp [tV, Value.cells]) (tC_one x) (by unfold maxLen; omega) (by show (_ + 1) * 32 ≤ _; omega) ?_
        intro v14 m14 S14 hO14 hE14 hF14
        refine ⟨_, rfl, ?_⟩
        have l1 := h1.lt
        have l2 := h2.lt
        have l3 := h3.lt
        have l4 := h4.lt
        have j14 : ∀ k ∈ S14, m4.heap.size ≤ k ∧ k ≠ b5 ∧ k ≠ b6 ∧ k ≠ b7 ∧ k ∉ S5 := fun k hk => by
          rcases hF14 k hk with h9 | h9
          · obtain ⟨q1, q2, q3, q4⟩ := g7 k h9
            exact ⟨q1, q2, q3, q4, fun hh => (g6 k hh).2.2.2.2 h9⟩
          · have := hE13.size
            exact ⟨by omega, by omega, by omega, by omega, fun hh => by have := l4 k hh; omega⟩
        have k1 := h1.ext hE14 (fun hh => (g7 _ hh).2.1 rfl)
        have k2 := h2.ext hE14 (fun hh => (g7 _ hh).2.2.1 rfl)
        have k3 := h3.ext hE14 (fun hh => (g7 _ hh).2.2.2 rfl)
        have k4 := h4.ext hE14 (fun k hk hh => (g6 k hk).2.2.2.2 hh)
        have hE4_14 := hE13.trans hE14 (fun k hk => .inr (g7 k hk).1)
        refine RL.store T_ok k2 (i := 0) (v := v14) (by simp) rfl rfl rfl rfl hO14.one rfl ?_
        intro m15 hC15
        have hE15 := hE4_14.trans hC15.ext (fun k hk => .inr (by have h9 : k = b6 := (by simpa using hk); omega))
        refine RL.nil ?_; repeat (first | with_reducible refine QN.block_normal ?_ | with_reducible refine QN.next ?_); repeat (first | with_reducible refine WP.seq ?_ | with_reducible refine WP.block ?_ | with_reducible refine WP.region ?_)
        refine RL.pure T_ok 1 rfl ?_
        refine RL.eqv (v' := .int .i64 ((i + 1 : Nat) : Int)) (congrArg _ (by rw [wrap_i64_in _ (by omega) (by omega)]; rfl)) ?_
        refine RL.auto T_ok rfl ?_
        have hswN := y0.more hxr hcz hbz
        rw [← htake] at hswN
        refine RL.nil (QN.round (i + 1, x.c, x.f, op' ++ [x], out') (Sub.cons rfl (Sub.cons rfl (Sub.cons rfl (Sub.cons rfl (Sub.cons rfl (Sub.cons rfl (Sub.cons rfl (Sub.nil)))))))) ⟨by show i + 1 ≤ _; omega, ⟨hswN, hE15, S5, S14, v5, v14, k1.far hC15 (by omega), hC15.blk, k3.far hC15 (by omega), k4.ext hC15.ext (fun k hk hh => (g6 k hk).2.2.1 (by simpa using hh)), ?_, fun k hk => ?_, fun k hk => ?_, by simp⟩, ?_, hsnext⟩ (by show _ - (i + 1) < _ - i; omega))
        · rw [List.length_append, ← tsC_app]
          have := hO14.ext hC15.ext (fun k hk hh => (j14 k hk).2.2.1 (by simpa using hh))
          simpa using this
        · obtain ⟨q1, q2, q3, q4, q5⟩ := g6 k hk
          exact ⟨q1, q2, q3, q4, fun hh => (j14 k hh).2.2.2.2 hk⟩
        · obtain ⟨q1, q2, q3, q4, _⟩ := j14 k hk
          exact ⟨q1, q2, q3, q4⟩
        · show out'.length + (op' ++ [x]).length ≤ 2 * (i + 1)
          rw [List.length_append, List.length_singleton]; omega
    · replace hc : i = d.length := by have := of_decide_eq_false hc; simp only at this; omega
      subst hc
      rw [List.take_length] at hsw
      refine WP.exit ?_
      repeat (first | with_reducible refine QN.then_exit ?_ | with_reducible refine QN.block_exit ?_ | with_reducible refine QN.block_normal ?_ | with_reducible refine QN.next ?_)
      refine WP.cut (X := Nat × List Trn) (fun _ => [(5, .pointer (some ⟨b5, 0, none⟩))]) (fun q m' => Swp m4 m4 [] m' b5 b6 b7 d c0 q.1 [] q.2 ∧ q.2.length ≤ 2 * d.length + 1) ?_ ?_
      · have hsw1 := hsw
        obtain ⟨y0, y1, S5, S6, v5, v6, g1, g2, g3, g4, g5, g6, g7, g8⟩ := hsw
        obtain ⟨A6, c6, rfl, _⟩ := g5.shape
        repeat (first | with_reducible refine WP.seq ?_ | with_reducible refine WP.block ?_ | with_reducible refine WP.region ?_)
        refine RL.load T_ok rfl rfl rfl (g2.cell 0 rfl) rfl ?_
        refine RL.pure T_ok 1 rfl ?_
        rcases hop : op with _ | ⟨y, op2⟩
        · subst hop
          refine RL.auto T_ok rfl ?_
          refine RL.nil ?_; repeat (first | with_reducible refine QN.block_normal ?_ | with_reducible refine QN.next ?_)
          refine WP.condF rfl ?_
          refine WP.skip ?_
          exact QN.cutEnd (a, out) (Sub.cons rfl Sub.nil) ⟨hsw1, by show out.length ≤ _; simp only [List.length_nil] at hln; omega⟩
        have hy0 := y0.opens y (by rw [hop]; simp)
        have gy := tright_iff.1 hy0.1
        rw [← hop]
        have hpos : 0 < op.length := by rw [hop]; simp
        have hR6 : Ts m9 [] (.slice A6 op.length c6) op := g5.sl (by simp)
        obtain ⟨ad6, rfl, hz⟩ := hR6.cell 0 hpos
        have hz0 : op[0] = y := by simp [hop]
        rw [hz0] at hz
        refine RL.pure T_ok 1 rfl ?_
        refine RL.eqv (v' := .bool true) (congrArg _ (decide_eq_true (by omega))) ?_
        refine RL.nil ?_; repeat (first | with_reducible refine QN.block_normal ?_ | with_reducible refine QN.next ?_)
        refine WP.condT rfl ?_
        subst hfv
        repeat (first | with_reducible refine WP.seq ?_ | with_reducible refine WP.block ?_ | with_reducible refine WP.region ?_)
        refine RL.auto T_ok rfl ?_
        refine RL.load T_ok rfl rfl rfl (g2.cell 0 rfl) rfl ?_
        refine RL.indexAddr (k := 0) T_ok rfl rfl rfl rfl rfl rfl rfl hpos rfl ?_
        refine RL.pure T_ok 1 rfl ?_
        refine RL.load T_ok rfl rfl rfl (hz 0 _ rfl) rfl ?_
        refine RL.eqv (v' := .int .u64 c0) (congrArg (fun (q : Nat) => Value.int .u64 q) hy0.2.1) ?_
        refine RL.call (fi := []) (ca := [.pointer (some ⟨b6, 0, none⟩), .pointer (some ⟨b7, 0, none⟩), .pointer (some ⟨b5, 0, none⟩)]) rfl rfl rfl rfl (flush_c m4 m4 [] m9 b5 b6 b7 hbs d c0 a op out 9007199254740992 (Nat.le_refl _) hsw1 (by omega) (by have := hy0.2.2.2; omega)) ?_
        rintro _ m12 ⟨a', op', out', hsw12, hend, ha', hlen12⟩
        refine ⟨_, rfl, ?_⟩
        have hop' : op' = [] := by
          rcases hend with h1 | h1
          · exact h1
          · refine List.eq_nil_iff_forall_not_mem.2 fun z hz => ?_
            have h2 := hsw12.1.opens z hz
            have h3 := tright_iff.1 h2.1
            omega
        subst hop'
        simp only [List.length_nil] at hlen12
        exact RL.nil (QN.cutEnd (a', out') (Sub.cons rfl Sub.nil) ⟨hsw12, by show out'.length ≤ _; omega⟩)
      · rintro ⟨a', out'⟩ m12 ⟨hsw12, hlen12⟩
        simp only at hsw12 hlen12
        obtain ⟨y0, y1, S5, S6, v5, v6, g1, g2, g3, g4, g5, g6, g7, g8⟩ := hsw12
        have hk12 : m12.heap[D]? = some (.deferred (some [])) := (y1.far D hDlt4 (by simp)).trans hk4
        obtain ⟨t1, t2⟩ := y0.done
        repeat (first | with_reducible refine WP.seq ?_ | with_reducible refine WP.block ?_ | with_reducible refine WP.region ?_)
        refine RL.load T_ok rfl rfl rfl (g1.cell 0 rfl) rfl ?_
        refine RL.auto T_ok rfl ?_
        refine RL.nil ?_; repeat (first | with_reducible refine QN.block_normal ?_ | with_reducible refine QN.next ?_); repeat (first | with_reducible refine WP.seq ?_ | with_reducible refine WP.block ?_ | with_reducible refine WP.region ?_)
        refine WP.ret ?_; repeat (first | with_reducible refine QN.then_ret ?_ | with_reducible refine QN.block_ret ?_)
        refine QN.leaveM (.inl rfl) hk12 (fun m' hK hfar => ⟨Res.tmp rfl rfl, ⟨_, rfl, out'.reverse, ⟨t1, fun c k => ?_, ?_⟩, S5, ?_, (hE4m.trans y1 (by simp)).of_kc hK hDm, fun k hk => .inr (by have := (g6 k hk).1; have := hE4m.size; omega)⟩⟩)
        · rw [t2, turnOf_perm hperm, turnOf_filter]
        · rw [List.length_reverse]; omega
        · rw [List.length_reverse]; exact g4.kc hK
  · rintro D c pre m' _ _ hx
    exact hx.elim
end Go.Proofs.Ytkfakfbndnbpiaa
