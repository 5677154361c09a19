/- The turn of an id. -/
import Derived.Test.YtkfakfbndnbpiaaIdsN
namespace Go.Proofs.Ytkfakfbndnbpiaa
open Go.RowKit Go.Ev Go.Ids

theorem maxZ (a b : Nat) : Value.int .u64 (if (b : Int) > (a : Int) then (b : Int) else (a : Int)) = .int .u64 (max a b : Nat) := congrArg _ (by split <;> omega)
theorem turnOf_snoc (pre : List Trn) (x : Trn) (c k : Nat) : turnOf (pre ++ [x]) c k = max (turnOf pre c k) (x.at c k) := by rw [turnOf_append]; simp [turnOf]
theorem at_id {x : Trn} {id : Idn} (hx : x.right = true) (h : ¬ (id.right = true ∧ x.c = id.c ∧ x.f ≤ id.k ∧ id.k < x.t)) : x.at id.c id.k = 0 := if_neg (fun hh => h ⟨by
  have g := tright_iff.1 hx
  obtain ⟨_, h1, h2, h3⟩ := hh
  simp [Idn.right, num]; omega, hh.2⟩)
def TofI (m : World) (b1 b2 b3 b5 : Nat) (v : Value) (l : List Trn) (id : Idn) (pre : List Trn) (a : World) : Prop :=
  Blk a b3 48 (iC id) ∧ Blk a b5 37 [.int .u64 (turnOf pre id.c id.k)] ∧ Ext m [] a ∧ TK b1 b2 v l 81 a
theorem TofI.kc {m a b : World} {b1 b2 b3 b5 B : Nat} {v : Value} {l pre : List Trn} {id : Idn} (h : TofI m b1 b2 b3 b5 v l id pre a) (hK : Kc B a b) (hB : m.heap.size ≤ B) : TofI m b1 b2 b3 b5 v l id pre b := by
  obtain ⟨h1, h2, h4, h5, h6, h7⟩ := h
  exact ⟨h1.kc hK, h2.kc hK, h4.of_kc hK hB, h5.kc hK, h6.kc hK, Sl.kc h7 hK⟩
theorem turnOf_c (m : World) (v : Value) (l : List Trn) (h : Ts m [] v l) (hl : l.length < 500000000) (id : Idn) : FnR Try.prog 46 [v, iV id] m fun r m' => r = .int .u64 (turnOf l id.c id.k) ∧ Ext m [] m' := by
  obtain ⟨A, c, rfl, _, _⟩ := h.shape
  refine FnE.enterM ⟨_, Try.func46, by kernel_rfl, by kernel_rfl⟩ Try.func46 rfl rfl ?_
  repeat (first | with_reducible refine WP.seq ?_ | with_reducible refine WP.block ?_ | with_reducible refine WP.region ?_)
  refine RL.box rfl rfl (fun b3 m1 hb3 hC1 => ⟨_, rfl, ?_⟩)
  have hB1 : Blk m1 b3 48 (iC id) := hC1.here
  have hE1 : Ext m [] m1 := hC1.new (by omega)
  have s1 := hC1.size
  refine RL.auto T_ok rfl ?_
  refine RL.nil ?_; repeat (first | with_reducible refine QN.block_normal ?_ | with_reducible refine QN.next ?_); repeat (first | with_reducible refine WP.seq ?_ | with_reducible refine WP.block ?_ | with_reducible refine WP.region ?_)
  refine RL.alloc T_ok rfl rfl (fun b5 m2 hb5 hC2 => ⟨_, rfl, ?_⟩)
  have hE2 : Ext m1 [] m2 := hC2.new (by omega)
  have s2 := hC2.size
  refine RL.store T_ok (b := b5) (i := 0) (v := .int .u64 0) (cs := [.int .u64 0]) hC2.blk (by simp) rfl rfl rfl rfl rfl rfl ?_
  intro m3 hC3
  have hE3 : Ext m1 [] m3 := hE2.trans hC3.ext (fun k hk => .inr (by have h9 : k = b5 := (by simpa using hk); omega))
  have hP5 : Blk m3 b5 37 [.int .u64 (turnOf [] id.c id.k)] := hC3.blk
  have hE3m := hE1.trans hE3 (by simp)
  have hP3 := hB1.ext hE3 (by simp)
  have l5 := hP5.lt
  refine RL.nil ?_; repeat (first | with_reducible refine QN.block_normal ?_ | with_reducible refine QN.next ?_); repeat (first | with_reducible refine WP.seq ?_ | with_reducible refine WP.block ?_ | with_reducible refine WP.region ?_)
  refine RL.auto T_ok rfl ?_
  refine RL.call (fi := []) (ca := []) rfl rfl rfl rfl (rightsT_c m3 (.slice A l.length c) l 81) ?_
  rintro _ m4 ⟨b1, b2, rfl, g1, g2, hE4, hRK⟩
  refine ⟨_, rfl, ?_⟩
  have hRK := hRK (h.ext0 hE3m)
  have hEm := hE3m.trans hE4 (by simp)
  have lb1 := hRK.1.lt
  have lb2 := hRK.2.1.lt
  refine RL.sub (e' := [(3, .pointer (some ⟨b3, 0, none⟩)), (5, .pointer (some ⟨b5, 0, none⟩)), (8, .func (.func 106) #[] #[.pointer (some ⟨b1, 0, none⟩), .pointer (some ⟨b2, 0, none⟩)])]) (Sub.cons rfl (Sub.cons rfl (Sub.cons rfl Sub.nil))) ?_
  refine RL.nil ?_; repeat (first | with_reducible refine QN.block_normal ?_ | with_reducible refine QN.next ?_); repeat (first | with_reducible refine WP.seq ?_ | with_reducible refine WP.block ?_ | with_reducible refine WP.region ?_)
  refine WP.rangeFunc (ps := [9]) (gf := 106) (lb := [.pointer (some ⟨b1, 0, none⟩), .pointer (some ⟨b2, 0, none⟩)]) (fun x : Trn => [tV x]) rfl (rightsT1_c m4 b1 b2 (.slice A l.length c) l (by omega) 81 Trn.right (fun m1 x => turn_c m1 x)) ⟨_, Try.func106, by kernel_rfl, by kernel_rfl⟩
    (TofI m b1 b2 b3 b5 (.slice A l.length c) l id) (fun _ _ _ => False) (fun pre a b hi hK => hi.kc hK hEm.size) (fun _ _ _ _ hi _ => hi) (fun pre a ⟨_, _, _, hk⟩ => hk)
    ⟨hP3.ext hE4 (by simp), hP5.ext hE4 (by simp), hEm, hRK⟩
    (fun x => [(9, tV x), (3, .pointer (some ⟨b3, 0, none⟩)), (5, .pointer (some ⟨b5, 0, none⟩)), (8, .func (.func 106) #[] #[.pointer (some ⟨b1, 0, none⟩), .pointer (some ⟨b2, 0, none⟩)])]) (fun x => rfl) (fun x => rfl)
    (fun x b6 => [(6, .pointer (some ⟨b6, 0, none⟩)), (3, .pointer (some ⟨b3, 0, none⟩)), (5, .pointer (some ⟨b5, 0, none⟩))]) (fun pre x b6 a => Blk a b6 101 (tC x) ∧ b6 ≠ b5 ∧ TofI m b1 b2 b3 b5 (.slice A l.length c) l id pre a) (fun pre x y a b hi hK => ⟨hi.1.kc hK, hi.2.1, hi.2.2.kc hK hEm.size⟩)
    ?_ ?_ ?_ ?_
  · rintro lp pre x n3 hI hV hsz
    refine WP.region ?_
    have l5' := hI.2.1.lt
    refine RL.alloc T_ok rfl rfl (fun b6 n4 hb6 hC4 => ⟨_, rfl, ?_⟩)
    have hE4 : Ext n3 [] n4 := hC4.new (by omega)
    refine RL.storeAgg T_ok (b := b6) (i := 0) (vs := tC x) (cs := [.int .u64 0, .int .u64 0, .int .u64 0, .int .u64 0]) hC4.blk rfl rfl rfl rfl rfl (by simp) (by simp [tC, Value.oneCell']) rfl ?_
    intro n5 hC5
    have hE5 : Ext n3 [] n5 := hE4.trans hC5.ext (fun q hq => .inr (by have h9 : q = b6 := (by simpa using hq); omega))
    exact RL.nil (QN.asgEnd b6 (Sub.cons rfl (Sub.cons rfl (Sub.cons rfl Sub.nil))) hE5.kn0 ⟨hC5.blk, by omega, hI.kc hE5.kc hEm.size⟩)
  · rintro lp pre x b6 n3 ⟨hB6, hne, hI⟩ ⟨hxr, _⟩ hsz
    obtain ⟨h1, h2, h3, hRK3⟩ := hI
    have hsk : ¬ (id.right = true ∧ x.c = id.c ∧ x.f ≤ id.k ∧ id.k < x.t) → ∀ n4, Ext n3 [] n4 → Kn false m4.heap.size n3 n4 ∧ TofI m b1 b2 b3 b5 (.slice A l.length c) l id (pre ++ [x]) n4 := fun hh n4 hE => by
      refine ⟨hE.kn0, h1.ext hE (by simp), ?_, h3.trans hE (by simp), hRK3.1.ext hE (by simp), hRK3.2.1.ext hE (by simp), h.ext0 (h3.trans hE (by simp))⟩
      rw [turnOf_snoc, at_id hxr hh, Nat.max_zero]
      exact h2.ext hE (by simp)
    repeat (first | with_reducible refine WP.seq ?_ | with_reducible refine WP.block ?_ | with_reducible refine WP.region ?_)
    refine RL.loadAgg T_ok (iC id) rfl rfl rfl (fun j u hu => by rw [add_block]; exact h1.cell _ (by simpa using hu)) rfl ?_
    refine RL.call (fi := []) (ca := []) rfl rfl rfl rfl (rightI_c n3 id) ?_
    rintro _ n4 ⟨rfl, hE4⟩
    refine ⟨_, rfl, ?_⟩
    have hBx := hB6.ext hE4 (by simp)
    have hBi := h1.ext hE4 (by simp)
    by_cases c1 : id.right = true
    rotate_left
    · refine RL.eqv (v' := .bool false) (congrArg _ (Bool.not_eq_true _ ▸ c1)) ?_
      repeat (first | refine RL.pure T_ok 1 rfl ?_ | refine RL.load T_ok rfl rfl rfl (hBx.cell _ rfl) rfl ?_ | refine RL.load T_ok rfl rfl rfl (hBi.cell _ rfl) rfl ?_)
      refine RL.nil (QN.next ?_)
      refine WP.condF rfl ?_
      refine WP.skip ?_
      repeat (first | with_reducible refine QN.block_normal ?_ | with_reducible refine QN.next ?_)
      obtain ⟨q1, q2⟩ := hsk (fun hh => c1 hh.1) n4 hE4
      exact QN.rdNormal q1 q2
    refine RL.eqv (v' := .bool true) (congrArg _ c1) ?_
    repeat (first | refine RL.pure T_ok 1 rfl ?_ | refine RL.load T_ok rfl rfl rfl (hBx.cell _ rfl) rfl ?_ | refine RL.load T_ok rfl rfl rfl (hBi.cell _ rfl) rfl ?_)
    by_cases c2 : x.c = id.c
    rotate_left
    · refine RL.eqv (v' := .bool false) (congrArg _ (by rw [deq]; exact decide_eq_false c2)) ?_
      repeat (first | refine RL.pure T_ok 1 rfl ?_ | refine RL.load T_ok rfl rfl rfl (hBx.cell _ rfl) rfl ?_ | refine RL.load T_ok rfl rfl rfl (hBi.cell _ rfl) rfl ?_)
      refine RL.nil (QN.next ?_)
      refine WP.condF rfl ?_
      refine WP.skip ?_
      repeat (first | with_reducible refine QN.block_normal ?_ | with_reducible refine QN.next ?_)
      obtain ⟨q1, q2⟩ := hsk (fun hh => c2 hh.2.1) n4 hE4
      exact QN.rdNormal q1 q2
    refine RL.eqv (v' := .bool true) (congrArg _ (by rw [deq]; exact decide_eq_true c2)) ?_
    repeat (first | refine RL.pure T_ok 1 rfl ?_ | refine RL.load T_ok rfl rfl rfl (hBx.cell _ rfl) rfl ?_ | refine RL.load T_ok rfl rfl rfl (hBi.cell _ rfl) rfl ?_)
    by_cases c3 : x.f ≤ id.k
    rotate_left
    · refine RL.eqv (v' := .bool false) (congrArg _ (by rw [dle x.f id.k id.k rfl]; exact decide_eq_false c3)) ?_
      repeat (first | refine RL.pure T_ok 1 rfl ?_ | refine RL.load T_ok rfl rfl rfl (hBx.cell _ rfl) rfl ?_ | refine RL.load T_ok rfl rfl rfl (hBi.cell _ rfl) rfl ?_)
      refine RL.nil (QN.next ?_)
      refine WP.condF rfl ?_
      refine WP.skip ?_
      repeat (first | with_reducible refine QN.block_normal ?_ | with_reducible refine QN.next ?_)
      obtain ⟨q1, q2⟩ := hsk (fun hh => c3 hh.2.2.1) n4 hE4
      exact QN.rdNormal q1 q2
    refine RL.eqv (v' := .bool true) (congrArg _ (by rw [dle x.f id.k id.k rfl]; exact decide_eq_true c3)) ?_
    repeat (first | refine RL.pure T_ok 1 rfl ?_ | refine RL.load T_ok rfl rfl rfl (hBx.cell _ rfl) rfl ?_ | refine RL.load T_ok rfl rfl rfl (hBi.cell _ rfl) rfl ?_)
    by_cases c4 : id.k < x.t
    rotate_left
    · refine RL.eqv (v' := .bool false) (congrArg _ (by rw [dlt]; exact decide_eq_false c4)) ?_
      refine RL.nil (QN.next ?_)
      refine WP.condF rfl ?_
      refine WP.skip ?_
      repeat (first | with_reducible refine QN.block_normal ?_ | with_reducible refine QN.next ?_)
      obtain ⟨q1, q2⟩ := hsk (fun hh => c4 hh.2.2.2) n4 hE4
      exact QN.rdNormal q1 q2
    refine RL.eqv (v' := .bool true) (congrArg _ (by rw [dlt]; exact decide_eq_true c4)) ?_
    refine RL.nil (QN.next ?_)
    refine WP.condT rfl ?_
    have hB5 := h2.ext hE4 (by simp)
    repeat (first | with_reducible refine WP.seq ?_ | with_reducible refine WP.block ?_ | with_reducible refine WP.region ?_)
    refine RL.load T_ok rfl rfl rfl (hB5.cell 0 rfl) rfl ?_
    repeat (first | refine RL.pure T_ok 1 rfl ?_ | refine RL.load T_ok rfl rfl rfl (hBx.cell _ rfl) rfl ?_ | refine RL.load T_ok rfl rfl rfl (hBi.cell _ rfl) rfl ?_)
    refine RL.eqv (v' := .int .u64 (turnOf (pre ++ [x]) id.c id.k)) (by rw [turnOf_snoc, at_of hxr c2 c3 c4]; exact maxZ _ _) ?_
    refine RL.store T_ok hB5 (i := 0) (v := .int .u64 (turnOf (pre ++ [x]) id.c id.k)) (by simp) rfl rfl rfl rfl rfl rfl ?_
    intro n5 hC5
    have hE5 : Ext n3 [b5] n5 := (hE4.mono (by simp)).trans hC5.ext (by simp)
    have l1 := hRK3.1.lt
    have l2 := hRK3.2.1.lt
    have hE5m : Ext m [] n5 := h3.trans hE5 (fun k hk => .inr (by have h9 : k = b5 := (by simpa using hk); omega))
    refine RL.nil ?_
    repeat (first | with_reducible refine QN.block_normal ?_ | with_reducible refine QN.next ?_)
    exact QN.rdNormal (hE5.knLow (fun k hk hB => by have h9 : k = b5 := (by simpa using hk); omega)) ⟨h1.ext hE5 (by simp; omega), hC5.blk, hE5m, hRK3.1.ext hE5 (by simp; omega), hRK3.2.1.ext hE5 (by simp; omega), h.ext0 hE5m⟩
  · rintro D xs m9 hD rfl ⟨h1, h2, h3, _⟩ hk
    have hDm : m.heap.size ≤ D := Nat.le_trans hEm.size hD
    repeat (first | with_reducible refine WP.seq ?_ | with_reducible refine WP.block ?_ | with_reducible refine WP.region ?_)
    repeat (first | with_reducible refine QN.block_normal ?_ | with_reducible refine QN.next ?_)
    repeat (first | with_reducible refine WP.seq ?_ | with_reducible refine WP.block ?_ | with_reducible refine WP.region ?_)
    refine RL.load T_ok rfl rfl rfl (h2.cell 0 rfl) rfl ?_
    refine RL.auto T_ok rfl ?_
    refine RL.nil ?_; repeat (first | with_reducible refine QN.block_normal ?_ | with_reducible refine QN.next ?_); repeat (first | with_reducible refine WP.seq ?_ | with_reducible refine WP.block ?_ | with_reducible refine WP.region ?_)
    refine WP.ret ?_; repeat (first | with_reducible refine QN.then_ret ?_ | with_reducible refine QN.block_ret ?_)
    refine QN.leaveM (.inl rfl) hk (fun m' hK hfar => ⟨Res.tmp rfl rfl, ⟨_, rfl, congrArg (fun (q : Nat) => Value.int .u64 q) (turnOf_filter _ _ _), h3.of_kc hK hDm⟩⟩)
  · rintro D c pre m' _ _ hx
    exact hx.elim
def tin (id : Idn) (r : Trn) : Bool := r.right && (decide (r.c = id.c) && (decide (r.f ≤ id.k) && decide (id.k < r.t)))
theorem tin_at (id : Idn) (x : Trn) : x.at id.c id.k = if tin id x = true then x.n else 0 := by
  unfold Trn.at tin
  simp only [Bool.and_eq_true, decide_eq_true_eq]
theorem refturnOf_c (m : World) (v : Value) (l : List Trn) (h : Ts m [] v l) (hl : l.length < 1000000000) (id : Idn) : FnR Try.prog 49 [v, iV id] m fun r m' => r = .int .u64 (turnOf l id.c id.k) ∧ Ext m [] m' := by
  obtain ⟨A, c, rfl, _, _⟩ := h.shape
  refine FnE.enter ⟨_, Try.func49, by kernel_rfl, by kernel_rfl⟩ Try.func49 rfl rfl ?_
  repeat (first | with_reducible refine WP.seq ?_ | with_reducible refine WP.block ?_ | with_reducible refine WP.region ?_)
  refine RL.box rfl rfl (fun b m1 hb hC => ⟨_, rfl, ?_⟩)
  have hB1 : Blk m1 b 48 (iC id) := hC.here
  have hE1 : Ext m [] m1 := hC.new (by omega)
  clear hC
  refine RL.auto T_ok rfl ?_
  refine RL.nil ?_; repeat (first | with_reducible refine QN.block_normal ?_ | with_reducible refine QN.next ?_); repeat (first | with_reducible refine WP.seq ?_ | with_reducible refine WP.block ?_ | with_reducible refine WP.region ?_)
  refine RL.auto T_ok rfl ?_
  refine RL.nil ?_; repeat (first | with_reducible refine QN.block_normal ?_ | with_reducible refine QN.next ?_); repeat (first | with_reducible refine WP.seq ?_ | with_reducible refine WP.block ?_ | with_reducible refine WP.region ?_)
  refine RL.auto T_ok rfl ?_
  refine RL.nil ?_; repeat (first | with_reducible refine QN.block_normal ?_ | with_reducible refine QN.next ?_); repeat (first | with_reducible refine WP.seq ?_ | with_reducible refine WP.block ?_ | with_reducible refine WP.region ?_)
  refine (WP.loop (X := Nat) (fun i => [(0, .slice A l.length c), (3, .pointer (some ⟨b, 0, none⟩)), (5, .int .u64 (turnOf (l.take i) id.c id.k)), (6, .int .i64 i)])
    (fun i m' => i ≤ l.length ∧ Ext m1 [] m') (fun i => l.length - i) 0
    (Sub.cons rfl (Sub.cons rfl (Sub.cons rfl (Sub.cons rfl Sub.nil)))) ⟨by simp, Ext.refl _ _⟩ ?_)
  rintro i m2 ⟨hi, hE2⟩
  repeat (first | with_reducible refine WP.seq ?_ | with_reducible refine WP.block ?_ | with_reducible refine WP.region ?_)
  refine RL.auto T_ok rfl ?_
  refine RL.nil ?_; repeat (first | with_reducible refine QN.block_normal ?_ | with_reducible refine QN.next ?_); repeat (first | with_reducible refine WP.seq ?_ | with_reducible refine WP.block ?_ | with_reducible refine WP.region ?_)
  refine WP.cond rfl (fun hc => ?_) (fun hc => ?_)
  · replace hc : i < l.length := by have := of_decide_eq_true hc; omega
    have hB2 := hB1.ext hE2 (by simp)
    have hE12 : Ext m [] m2 := hE1.trans hE2 (by simp)
    obtain ⟨ad, rfl, _⟩ := (h.ext0 hE12).cell i hc
    obtain ⟨x, hxe⟩ : ∃ x, l[i] = x := ⟨_, rfl⟩
    have hx : ∀ m', Ext m2 [] m' → ∀ j u, (tC x)[j]? = some u → m'.cell? ((ad.add (i * 4)).add j) = some u := fun m' hE => by
      obtain ⟨ad', h1, h2⟩ := (h.ext0 (hE12.trans hE (by simp))).cell i hc
      injection h1 with h1
      subst h1
      rw [hxe] at h2; exact h2
    have hI : ∀ m', Ext m2 [] m' → Blk m' b 48 (iC id) := fun m' hE => hB2.ext hE (by simp)
    have hnext : turnOf (l.take (i + 1)) id.c id.k = max (turnOf (l.take i) id.c id.k) (x.at id.c id.k) := by
      rw [List.take_succ_eq_append_getElem hc, hxe, turnOf_snoc]
    rw [tin_at] at hnext
    refine WP.skip ?_; repeat (first | with_reducible refine QN.block_normal ?_ | with_reducible refine QN.next ?_)
    refine WP.seq ?_
    refine WP.block ?_
    refine WP.cut (X := Bool) (fun q => [(0, .slice (some ad) l.length c), (3, .pointer (some ⟨b, 0, none⟩)), (5, .int .u64 (turnOf (l.take i) id.c id.k)), (6, .int .i64 i), (47, .bool q)]) (fun q m' => q = tin id x ∧ Ext m2 [] m') ?_ ?_
    · refine WP.drawQ (fun m' => Ext m2 [] m') [] (by kernel_rfl) (Ext.refl _ _) (by repeat (first | with_reducible exact PanicOk.body | with_reducible refine PanicOk.then_ ?_ | with_reducible refine PanicOk.block_ ?_)) (fun hQ => ?_)
      refine RH.pure T_ok hQ [0, 1] (by kernel_rfl) rfl ?_
      refine RH.indexAddr T_ok hQ 2 (k := i) rfl (by kernel_rfl) rfl rfl rfl rfl rfl rfl rfl hc rfl ?_
      refine RH.loadAgg T_ok hQ 3 (tC x) (fun m' hm' => hx m' hm') rfl (by kernel_rfl) rfl rfl rfl rfl ?_
      refine RH.only 4 rfl (by kernel_rfl) (fun _ => ?_)
      refine RL.call (fi := []) (ca := []) rfl rfl rfl rfl (refturn_c m2 x) ?_
      rintro _ m3 ⟨rfl, hE3⟩
      refine ⟨_, rfl, RL.nil (RH.cont hE3 ?_)⟩
      by_cases h1 : x.right = true
      · refine RH.eqv (v' := .bool true) (congrArg _ h1) ?_
        refine RH.pure T_ok hQ [5, 6, 7] (by kernel_rfl) rfl ?_
        refine RH.indexAddr T_ok hQ 8 (k := i) rfl (by kernel_rfl) rfl rfl rfl rfl rfl rfl rfl hc rfl ?_
        refine RH.pure T_ok hQ [9] (by kernel_rfl) rfl ?_
        refine RH.load T_ok hQ 10 (fun m' hm' => hx m' hm' 0 _ rfl) rfl (by kernel_rfl) rfl rfl rfl rfl ?_
        refine RH.pure T_ok hQ [11] (by kernel_rfl) rfl ?_
        refine RH.load T_ok hQ 12 (fun m' hm' => (hI m' hm').cell 0 rfl) rfl (by kernel_rfl) rfl rfl rfl rfl ?_
        refine RH.pure T_ok hQ [13] (by kernel_rfl) rfl ?_
        by_cases h2 : x.c = id.c
        · refine RH.eqv (v' := .bool true) (congrArg _ (by rw [deq]; exact decide_eq_true h2)) ?_
          refine RH.pure T_ok hQ [14, 15, 16, 17] (by kernel_rfl) rfl ?_
          refine RH.indexAddr T_ok hQ 18 (k := i) rfl (by kernel_rfl) rfl rfl rfl rfl rfl rfl rfl hc rfl ?_
          refine RH.pure T_ok hQ [19] (by kernel_rfl) rfl ?_
          refine RH.load T_ok hQ 20 (fun m' hm' => hx m' hm' 1 _ rfl) rfl (by kernel_rfl) rfl rfl rfl rfl ?_
          refine RH.pure T_ok hQ [21] (by kernel_rfl) rfl ?_
          refine RH.load T_ok hQ 22 (fun m' hm' => (hI m' hm').cell 1 rfl) rfl (by kernel_rfl) rfl rfl rfl rfl ?_
          refine RH.pure T_ok hQ [23] (by kernel_rfl) rfl ?_
          by_cases h3 : x.f ≤ id.k
          · refine RH.eqv (v' := .bool true) (congrArg _ (by rw [dle x.f id.k id.k rfl]; exact decide_eq_true h3)) ?_
            refine RH.pure T_ok hQ [24, 25, 26] (by kernel_rfl) rfl ?_
            refine RH.load T_ok hQ 27 (fun m' hm' => (hI m' hm').cell 1 rfl) rfl (by kernel_rfl) rfl rfl rfl rfl ?_
            refine RH.pure T_ok hQ [28, 29] (by kernel_rfl) rfl ?_
            refine RH.indexAddr T_ok hQ 30 (k := i) rfl (by kernel_rfl) rfl rfl rfl rfl rfl rfl rfl hc rfl ?_
            refine RH.pure T_ok hQ [31] (by kernel_rfl) rfl ?_
            refine RH.load T_ok hQ 32 (fun m' hm' => hx m' hm' 2 _ rfl) rfl (by kernel_rfl) rfl rfl rfl rfl ?_
            refine RH.pure T_ok hQ [33, 34] (by kernel_rfl) rfl ?_
            refine RH.done (by kernel_rfl) (fun _ => ?_)
            refine QN.cutEnd (decide (id.k < x.t)) (Sub.cons rfl (Sub.cons rfl (Sub.cons rfl (Sub.cons rfl (Sub.cons ?_ Sub.nil))))) ⟨by simp [tin, h1, h2, h3], hE3⟩
            show some (Value.bool (decide ((id.k : Int) < (x.t : Int)))) = _
            rw [dlt]
          · refine RH.eqv (v' := .bool false) (congrArg _ (by rw [dle x.f id.k id.k rfl]; exact decide_eq_false h3)) ?_
            refine RH.pure T_ok hQ [24, 25, 26, 27, 28, 29, 30, 31, 32, 33, 34] (by kernel_rfl) rfl ?_
            refine RH.done (by kernel_rfl) (fun _ => ?_)
            exact QN.cutEnd false (Sub.cons rfl (Sub.cons rfl (Sub.cons rfl (Sub.cons rfl (Sub.cons rfl Sub.nil))))) ⟨by simp [tin, h1, h2, h3], hE3⟩
        · refine RH.eqv (v' := .bool false) (congrArg _ (by rw [deq]; exact decide_eq_false h2)) ?_
          refine RH.pure T_ok hQ [14, 15, 16, 17, 18, 19, 20, 21, 22, 23, 24, 25, 26, 27, 28, 29, 30, 31, 32, 33, 34] (by kernel_rfl) rfl ?_
          refine RH.done (by kernel_rfl) (fun _ => ?_)
          exact QN.cutEnd false (Sub.cons rfl (Sub.cons rfl (Sub.cons rfl (Sub.cons rfl (Sub.cons rfl Sub.nil))))) ⟨by simp [tin, h1, h2], hE3⟩
      · refine RH.eqv (v' := .bool false) (congrArg _ (Bool.not_eq_true _ ▸ h1)) ?_
        refine RH.pure T_ok hQ [5, 6, 7, 8, 9, 10, 11, 12, 13, 14, 15, 16, 17, 18, 19, 20, 21, 22, 23, 24, 25, 26, 27, 28, 29, 30, 31, 32, 33, 34] (by kernel_rfl) rfl ?_
        refine RH.done (by kernel_rfl) (fun _ => ?_)
        exact QN.cutEnd false (Sub.cons rfl (Sub.cons rfl (Sub.cons rfl (Sub.cons rfl (Sub.cons rfl Sub.nil))))) ⟨by simp [tin, h1], hE3⟩
    · rintro q m3 ⟨hq, hE3⟩
      have hE13 := hE12.trans hE3 (by simp)
      refine WP.cond rfl (fun hp => ?_) (fun hp => ?_)
      · rw [hp] at hq
        rw [if_pos hq.symm] at hnext
        repeat (first | with_reducible refine WP.seq ?_ | with_reducible refine WP.block ?_ | with_reducible refine WP.region ?_)
        refine RL.pure T_ok 3 rfl ?_
        refine RL.indexAddr (k := i) T_ok rfl rfl rfl rfl rfl rfl rfl hc rfl ?_
        refine RL.pure T_ok 1 rfl ?_
        refine RL.load T_ok rfl rfl rfl (hx m3 hE3 3 _ rfl) rfl ?_
        refine RL.pure T_ok 1 rfl ?_
        refine RL.eqv (v' := .int .u64 (turnOf (l.take (i + 1)) id.c id.k)) (by rw [hnext]; exact maxZ _ _) ?_
        refine RL.auto T_ok rfl ?_
        refine RL.nil ?_; repeat (first | with_reducible refine QN.block_normal ?_ | with_reducible refine QN.next ?_); repeat (first | with_reducible refine WP.seq ?_ | with_reducible refine WP.block ?_ | with_reducible refine WP.region ?_)
        refine RL.pure T_ok 2 rfl ?_
        refine RL.eqv (v' := .int .i64 ((i + 1 : Nat) : Int)) (congrArg _ (by rw [wrap_i64_in _ (by omega) (by omega)]; rfl)) ?_
        refine RL.auto T_ok rfl ?_
        exact RL.nil (QN.round (i + 1) (Sub.cons rfl (Sub.cons rfl (Sub.cons rfl (Sub.cons rfl Sub.nil)))) ⟨by omega, hE2.trans hE3 (by simp)⟩ (by omega))
      · rw [hp] at hq
        rw [if_neg (by rw [← hq]; simp), Nat.max_zero] at hnext
        refine WP.skip ?_; repeat (first | with_reducible refine QN.block_normal ?_ | with_reducible refine QN.next ?_); repeat (first | with_reducible refine WP.seq ?_ | with_reducible refine WP.block ?_ | with_reducible refine WP.region ?_)
        refine RL.pure T_ok 2 rfl ?_
        refine RL.eqv (v' := .int .i64 ((i + 1 : Nat) : Int)) (congrArg _ (by rw [wrap_i64_in _ (by omega) (by omega)]; rfl)) ?_
        refine RL.auto T_ok rfl ?_
        refine RL.nil (QN.round (i + 1) (Sub.cons rfl (Sub.cons rfl (Sub.cons ?_ (Sub.cons rfl Sub.nil)))) ⟨by omega, hE2.trans hE3 (by simp)⟩ (by omega))
        show some (Value.int .u64 ((turnOf (l.take i) id.c id.k : Nat) : Int)) = some (Value.int .u64 ((turnOf (l.take (i + 1)) id.c id.k : Nat) : Int))
        rw [hnext]
  · replace hc : i = l.length := by have := of_decide_eq_false hc; omega
    subst hc
    rw [List.take_length]
    refine WP.exit ?_; repeat (first | with_reducible refine QN.then_exit ?_ | with_reducible refine QN.block_exit ?_ | with_reducible refine QN.block_far rfl ?_ | with_reducible refine QN.block_normal ?_ | with_reducible refine QN.next ?_); repeat (first | with_reducible refine WP.seq ?_ | with_reducible refine WP.block ?_ | with_reducible refine WP.region ?_)
    refine RL.auto T_ok rfl ?_
    refine RL.nil ?_; repeat (first | with_reducible refine QN.block_normal ?_ | with_reducible refine QN.next ?_); repeat (first | with_reducible refine WP.seq ?_ | with_reducible refine WP.block ?_ | with_reducible refine WP.region ?_)
    refine WP.ret ?_; repeat (first | with_reducible refine QN.then_ret ?_ | with_reducible refine QN.block_ret ?_)
    exact QN.ret1 rfl rfl ⟨_, rfl, rfl, hE1.trans hE2 (by simp)⟩
end Go.Proofs.Ytkfakfbndnbpiaa
