/- WireTries: walked, and its row. -/
import Derived.Test.YtaogoblckkmkgaaRows
import Derived.Test.YtaogoblckkmkgaaWireA
import Derived.Test.YtaogoblckkmkgaaRow
namespace Go.Proofs.Ytaogoblckkmkgaa
open Go.ChangeShapes Go.WideShapes Go.ChangeAt Go.RowKit Go.Ev

/-- What the tries share: the trail, how deep, the try itself, where it fails, with what. -/
structure Cells (m : World) (bt bd bi ba bw : Nat) (t D a e : Int) : Prop where
  t : Blk m bt 3 [.int .i64 t]
  d : Blk m bd 3 [.int .i64 D]
  i : Blk m bi 25 [.func (.func 11) #[] #[.pointer (some ⟨bt, 0, none⟩), .pointer (some ⟨bd, 0, none⟩), .pointer (some ⟨bi, 0, none⟩), .pointer (some ⟨ba, 0, none⟩), .pointer (some ⟨bw, 0, none⟩)]]
  a : Blk m ba 3 [.int .i64 a]
  w : Blk m bw 24 [.int .i64 e]
  far : bd ≠ bt ∧ bi ≠ bt ∧ ba ≠ bt ∧ bw ≠ bt
theorem Cells.new {m m' : World} {bt bd bi ba bw : Nat} {t D a e : Int} (h : Cells m bt bd bi ba bw t D a e) (hE : Ext m [] m') : Cells m' bt bd bi ba bw t D a e :=
  ⟨h.t.up hE, h.d.up hE, h.i.up hE, h.a.up hE, h.w.up hE, h.far⟩
theorem Cells.set {m m' : World} {bt bd bi ba bw : Nat} {t t' D a e : Int} (h : Cells m bt bd bi ba bw t D a e) (hE : Ext m [bt] m') (ht : Blk m' bt 3 [.int .i64 t']) : Cells m' bt bd bi ba bw t' D a e :=
  ⟨ht, h.d.ext hE (by simpa using h.far.1), h.i.ext hE (by simpa using h.far.2.1), h.a.ext hE (by simpa using h.far.2.2.1), h.w.ext hE (by simpa using h.far.2.2.2), h.far⟩
/-- The trail behind a try at depth n. -/
def trail (t D a : Int) (n : Nat) : Int := t + 2 * (D - n) - (if (n : Int) ≤ a ∧ a < D then 1 else 0)
def errOf (e : Int) : Int := if e = 0 then 11 else e
def InPost (m : World) (bt : Nat) (t D a e : Int) (n : Nat) (r : Value) (m' : World) : Prop :=
  r = .int .i64 (if (n : Int) = a then errOf e else 0) ∧ Blk m' bt 3 [.int .i64 (trail t D a n)] ∧ Ext m [bt] m'
/-- How the try's own function ends. -/
def In1Post (bt : Nat) (t D a e : Int) (n : Nat) (m : World) (ed : Ending) (m' : World) : Prop :=
  ed = (if (n : Int) = a then .panicked (brk (errOf e)) else .returned (.tuple #[])) ∧ Blk m' bt 3 [.int .i64 (trail t D a n)] ∧ Ext m [bt] m'
theorem in1_c (m : World) (bt bd bi ba bw bn : Nat) (t D a e : Int) (n : Nat) (h : Cells m bt bd bi ba bw t D a e) (hb : Blk m bn 3 [.int .i64 n]) (hbt : bn ≠ bt) (hnD : (n : Int) < D) (hD : D ≤ 20) (ht : 0 ≤ t ∧ t ≤ 100)
    (ih : ∀ (m1 : World) (t1 : Int), (n : Int) + 1 < D → 0 ≤ t1 ∧ t1 ≤ t + 1 → Cells m1 bt bd bi ba bw t1 D a e →
      FnR Try.prog 11 [.int .i64 ((n + 1 : Nat) : Int), .pointer (some ⟨bt, 0, none⟩), .pointer (some ⟨bd, 0, none⟩), .pointer (some ⟨bi, 0, none⟩), .pointer (some ⟨ba, 0, none⟩), .pointer (some ⟨bw, 0, none⟩)] m1 (InPost m1 bt t1 D a e (n + 1))) :
    FnE Try.prog 13 [.pointer (some ⟨bt, 0, none⟩), .pointer (some ⟨bn, 0, none⟩), .pointer (some ⟨bd, 0, none⟩), .pointer (some ⟨bi, 0, none⟩), .pointer (some ⟨ba, 0, none⟩), .pointer (some ⟨bw, 0, none⟩)] m (In1Post bt t D a e n m) := by
  have hn1 : IntKind.i64.wrap ((n : Int) + 1) = ((n + 1 : Nat) : Int) := by rw [wrap_i64_in _ (by omega) (by omega)]; rfl
  refine FnE.enter ⟨_, Try.func13, by kernel_rfl, by kernel_rfl⟩ Try.func13 rfl rfl ?_
  repeat (first | with_reducible refine WP.seq ?_ | with_reducible refine WP.block ?_ | with_reducible refine WP.region ?_)
  refine RL.load T_ok rfl rfl rfl (h.t.cell 0 rfl) rfl ?_
  refine RL.pure T_ok 1 rfl ?_
  refine RL.eqv (v' := .int .i64 (t + 1)) (congrArg _ (wrap_i64_in _ (by omega) (by omega))) ?_
  refine RL.store T_ok h.t (i := 0) (v := .int .i64 (t + 1)) (by simp) rfl rfl rfl rfl rfl rfl ?_
  intro m1 hC1
  have hE1 := hC1.ext
  have h1 := h.set hE1 (t' := t + 1) hC1.blk
  have hb1 := hb.ext hE1 (by simpa using hbt)
  refine RL.nil (QN.next ?_)
  -- behind the inner try: the trail
  refine WP.cut (X := Unit) (fun _ => [(0, .pointer (some ⟨bt, 0, none⟩)), (1, .pointer (some ⟨bn, 0, none⟩)), (4, .pointer (some ⟨ba, 0, none⟩)), (5, .pointer (some ⟨bw, 0, none⟩))])
    (fun _ m' => Ext m [bt] m' ∧ Cells m' bt bd bi ba bw (if (n : Int) + 1 < D then trail (t + 1) D a (n + 1) else t + 1) D a e ∧ Blk m' bn 3 [.int .i64 n]) ?_ ?_
  · repeat (first | with_reducible refine WP.seq ?_ | with_reducible refine WP.block ?_ | with_reducible refine WP.region ?_)
    refine RL.load T_ok rfl rfl rfl (hb1.cell 0 rfl) rfl ?_
    refine RL.pure T_ok 1 rfl ?_
    refine RL.eqv (v' := .int .i64 ((n + 1 : Nat) : Int)) (congrArg _ hn1) ?_
    refine RL.load T_ok rfl rfl rfl (h1.d.cell 0 rfl) rfl ?_
    refine RL.auto T_ok rfl ?_
    refine RL.nil ?_; repeat (first | with_reducible refine QN.block_normal ?_ | with_reducible refine QN.next ?_); repeat (first | with_reducible refine WP.seq ?_ | with_reducible refine WP.block ?_ | with_reducible refine WP.region ?_)
    refine WP.cond rfl (fun hc => ?_) (fun hc => ?_)
    · have hc : (n : Int) + 1 < D := by have := of_decide_eq_true hc; omega
      repeat (first | with_reducible refine WP.seq ?_ | with_reducible refine WP.block ?_ | with_reducible refine WP.region ?_)
      refine RL.load T_ok rfl rfl rfl (h1.i.cell 0 rfl) rfl ?_
      refine RL.load T_ok rfl rfl rfl (hb1.cell 0 rfl) rfl ?_
      refine RL.pure T_ok 1 rfl ?_
      refine RL.eqv (v' := .int .i64 ((n + 1 : Nat) : Int)) (congrArg _ hn1) ?_
      refine RL.call (fi := []) (ca := [.pointer (some ⟨bt, 0, none⟩), .pointer (some ⟨bd, 0, none⟩), .pointer (some ⟨bi, 0, none⟩), .pointer (some ⟨ba, 0, none⟩), .pointer (some ⟨bw, 0, none⟩)]) rfl rfl rfl rfl (ih m1 (t + 1) hc ⟨by omega, by omega⟩ h1) ?_
      rintro _ m2 ⟨rfl, hT2, hE2⟩
      refine ⟨_, rfl, ?_⟩
      have h2 := h1.set hE2 hT2
      have hb2 := hb1.ext hE2 (by simpa using hbt)
      have hE02 : Ext m [bt] m2 := hE1.trans hE2 (fun _ hk => .inl hk)
      by_cases hna : ((n + 1 : Nat) : Int) = a
      · rw [if_pos hna]
        refine RL.pure T_ok 1 rfl ?_
        refine RL.eqv (v' := .bool true) (congrArg _ (by unfold errOf; split <;> simp <;> omega)) ?_
        refine RL.auto T_ok rfl ?_
        refine RL.load T_ok rfl rfl rfl (hb2.cell 0 rfl) rfl ?_
        refine RL.pure T_ok 1 rfl ?_
        refine RL.eqv (v' := .int .i64 ((n + 1 : Nat) : Int)) (congrArg _ hn1) ?_
        refine RL.load T_ok rfl rfl rfl (h2.a.cell 0 rfl) rfl ?_
        refine RL.pure T_ok 1 rfl ?_
        refine RL.eqv (v' := .bool false) (congrArg _ (by rw [hna]; simp)) ?_
        refine RL.auto T_ok rfl ?_
        refine RL.nil ?_; repeat (first | with_reducible refine QN.block_normal ?_ | with_reducible refine QN.next ?_); repeat (first | with_reducible refine WP.seq ?_ | with_reducible refine WP.block ?_ | with_reducible refine WP.region ?_)
        refine WP.condF rfl ?_
        exact WP.skip (QN.cutEnd () (Sub.cons rfl (Sub.cons rfl (Sub.cons rfl (Sub.cons rfl Sub.nil)))) ⟨hE02, by rw [if_pos hc]; exact h2, hb2⟩)
      · rw [if_neg hna]
        refine RL.auto T_ok rfl ?_
        refine RL.nil ?_; repeat (first | with_reducible refine QN.block_normal ?_ | with_reducible refine QN.next ?_); repeat (first | with_reducible refine WP.seq ?_ | with_reducible refine WP.block ?_ | with_reducible refine WP.region ?_)
        refine WP.condF rfl ?_
        exact WP.skip (QN.cutEnd () (Sub.cons rfl (Sub.cons rfl (Sub.cons rfl (Sub.cons rfl Sub.nil)))) ⟨hE02, by rw [if_pos hc]; exact h2, hb2⟩)
    · have hc : ¬ (n : Int) + 1 < D := by have := of_decide_eq_false hc; omega
      exact WP.skip (QN.cutEnd () (Sub.cons rfl (Sub.cons rfl (Sub.cons rfl (Sub.cons rfl Sub.nil)))) ⟨hE1, by rw [if_neg hc]; exact h1, hb1⟩)
  rintro _ m3 ⟨hE3, h3, hb3⟩
  have htr : (if (n : Int) + 1 < D then trail (t + 1) D a (n + 1) else t + 1) + (if (n : Int) = a then 0 else 1) = trail t D a n := by
    unfold trail
    split <;> split <;> split <;> (try split) <;> omega
  generalize (if (n : Int) + 1 < D then trail (t + 1) D a (n + 1) else t + 1) = u at *
  have hub : -1000 ≤ trail t D a n ∧ trail t D a n ≤ 1000 := by unfold trail; split <;> omega
  repeat (first | with_reducible refine WP.seq ?_ | with_reducible refine WP.block ?_ | with_reducible refine WP.region ?_)
  refine RL.load T_ok rfl rfl rfl (hb3.cell 0 rfl) rfl ?_
  refine RL.load T_ok rfl rfl rfl (h3.a.cell 0 rfl) rfl ?_
  refine RL.pure T_ok 1 rfl ?_
  by_cases hna : (n : Int) = a
  · refine RL.eqv (v' := .bool true) (congrArg _ (by simp [hna])) ?_
    rw [if_pos hna] at htr
    refine RL.auto T_ok rfl ?_
    refine RL.nil ?_; repeat (first | with_reducible refine QN.block_normal ?_ | with_reducible refine QN.next ?_); repeat (first | with_reducible refine WP.seq ?_ | with_reducible refine WP.block ?_ | with_reducible refine WP.region ?_)
    refine WP.condT rfl ?_
    repeat (first | with_reducible refine WP.seq ?_ | with_reducible refine WP.block ?_ | with_reducible refine WP.region ?_)
    refine RL.load T_ok rfl rfl rfl (h3.w.cell 0 rfl) rfl ?_
    refine RL.callE (fi := []) (ca := []) rfl rfl rfl rfl (fail_c m3 e) ?_ ?_ ?_
    · rintro v m' ⟨_, h⟩; cases h
    · rintro ch m' ⟨rfl, h⟩
      injection h with h; subst h
      repeat (first | with_reducible refine QN.then_panic ?_ | with_reducible refine QN.block_panic ?_)
      refine QN.panic ⟨by rw [if_pos hna]; rfl, ?_, hE3⟩
      have : u = trail t D a n := by omega
      rw [← this]; exact h3.t
    · rintro m' ⟨_, h⟩; cases h
  · refine RL.eqv (v' := .bool false) (congrArg _ (by simp [hna])) ?_
    rw [if_neg hna] at htr
    refine RL.auto T_ok rfl ?_
    refine RL.nil ?_; repeat (first | with_reducible refine QN.block_normal ?_ | with_reducible refine QN.next ?_); repeat (first | with_reducible refine WP.seq ?_ | with_reducible refine WP.block ?_ | with_reducible refine WP.region ?_)
    refine WP.condF rfl ?_
    refine WP.skip ?_; repeat (first | with_reducible refine QN.block_normal ?_ | with_reducible refine QN.next ?_); repeat (first | with_reducible refine WP.seq ?_ | with_reducible refine WP.block ?_ | with_reducible refine WP.region ?_)
    refine RL.load T_ok rfl rfl rfl (h3.t.cell 0 rfl) rfl ?_
    refine RL.pure T_ok 1 rfl ?_
    refine RL.eqv (v' := .int .i64 (trail t D a n)) (congrArg _ (by rw [wrap_i64_in _ (by omega) (by omega)]; exact htr)) ?_
    refine RL.store T_ok h3.t (i := 0) (v := .int .i64 (trail t D a n)) (by simp) rfl rfl rfl rfl rfl rfl ?_
    intro m4 hC4
    exact RL.nil (QN.end0 rfl ⟨by rw [if_neg hna], hC4.blk, hE3.trans hC4.ext (fun _ hk => .inl hk)⟩)
theorem in_c (bt bd bi ba bw : Nat) (D a e : Int) (hD : D ≤ 20) : ∀ (j n : Nat), D = (n : Int) + j → 0 < j → ∀ (m : World) (t : Int), 0 ≤ t ∧ t ≤ n → Cells m bt bd bi ba bw t D a e →
    FnR Try.prog 11 [.int .i64 (n : Int), .pointer (some ⟨bt, 0, none⟩), .pointer (some ⟨bd, 0, none⟩), .pointer (some ⟨bi, 0, none⟩), .pointer (some ⟨ba, 0, none⟩), .pointer (some ⟨bw, 0, none⟩)] m (InPost m bt t D a e n) := by
  intro j
  induction j with
  | zero => intro n _ h; omega
  | succ j ihj =>
    intro n hn _ m t ht h
    refine FnE.enter ⟨_, Try.func11, by kernel_rfl, by kernel_rfl⟩ Try.func11 rfl rfl ?_
    repeat (first | with_reducible refine WP.seq ?_ | with_reducible refine WP.block ?_ | with_reducible refine WP.region ?_)
    refine RL.box rfl rfl (fun bn m1 hbn hC1 => ⟨_, rfl, ?_⟩)
    have hE1 : Ext m [] m1 := hC1.new (by omega)
    have hb1 : Blk m1 bn 3 [.int .i64 (n : Int)] := hC1.here
    have h1 := h.new hE1
    have hlt := h.t.lt
    refine RL.auto T_ok rfl ?_
    refine RL.nil ?_; repeat (first | with_reducible refine QN.block_normal ?_ | with_reducible refine QN.next ?_); repeat (first | with_reducible refine WP.seq ?_ | with_reducible refine WP.block ?_ | with_reducible refine WP.region ?_)
    refine RL.auto T_ok rfl ?_
    refine RL.call (fi := []) (ca := []) rfl rfl rfl rfl (try_c m1 13 [] _ _ rfl (fun m2 ed m3 => In1Post bt t D a e n m2 ed m3)
      (fun m2 hE2 _ => in1_c m2 bt bd bi ba bw bn t D a e n (h1.new hE2) (hb1.up hE2) (by omega) (by omega) hD ⟨by omega, by omega⟩
        (fun m3 t1 hc ht1 h3 => ihj (n + 1) (by omega) (by omega) m3 t1 ⟨by omega, by omega⟩ h3))
      (fun m2 m3 hh => by have := hh.1; split at this <;> cases this) (fun m2 ch m3 hh => by
        have := hh.1
        split at this
        · exact ⟨_, by injection this⟩
        · cases this)
      (fun m2 ed m3 hh _ _ => ⟨[bt], hh.2.2, by have := h1.t.lt; simp; omega⟩)) ?_
    rintro v m4 ⟨m2, m3, hE2, hsz, hE3, hout⟩
    refine ⟨_, rfl, ?_⟩
    have hlt1 := h1.t.lt
    have key : In1Post bt t D a e n m2 (if (n : Int) = a then .panicked (brk (errOf e)) else .returned (.tuple #[])) m3 ∧ v = .int .i64 (if (n : Int) = a then errOf e else 0) := by
      rcases hout with ⟨u, hh, rfl⟩ | ⟨q, hh, rfl⟩
      · have h9 := hh.1
        by_cases hna : (n : Int) = a
        · rw [if_pos hna] at h9; cases h9
        · rw [if_neg hna, if_neg hna]
          rw [if_neg hna] at h9
          rw [h9] at hh
          exact ⟨hh, rfl⟩
      · have h9 := hh.1
        by_cases hna : (n : Int) = a
        · rw [if_pos hna] at h9
          injection h9 with h9
          have : q = errOf e := by simpa [brk] using h9
          subst this
          rw [if_pos hna, if_pos hna]
          exact ⟨hh, rfl⟩
        · rw [if_neg hna] at h9; cases h9
    obtain ⟨⟨_, hT3, hE23⟩, rfl⟩ := key
    have hE14 : Ext m1 [bt] m4 := ((hE2.mono (M' := [bt]) (by simp)).trans hE23 (fun _ hk => .inl hk)).trans hE3 (fun k hk => .inr (by have h9 : k = m1.heap.size := (by simpa using hk); omega))
    have hT4 := hT3.ext hE3 (by simp; omega)
    refine RL.auto T_ok rfl ?_
    refine RL.nil ?_; repeat (first | with_reducible refine QN.block_normal ?_ | with_reducible refine QN.next ?_); repeat (first | with_reducible refine WP.seq ?_ | with_reducible refine WP.block ?_ | with_reducible refine WP.region ?_)
    refine WP.ret ?_; repeat (first | with_reducible refine QN.then_ret ?_ | with_reducible refine QN.block_ret ?_)
    exact QN.ret1 rfl rfl ⟨_, rfl, rfl, hT4, (hE1.mono (M' := [bt]) (by simp)).trans hE14 (fun _ hk => .inl hk)⟩
theorem place_lit (m : World) (k : Int) (n : Nat) (x : Int) (hx : x = ((n + 1 : Nat) : Int)) (hn : n < 1000000000) :
    FnR Try.prog 10 [.int .i64 k, .int .i64 x] m fun r m' => r = .int .i64 (k % x) ∧ m' = m ∧ 0 ≤ k % x ∧ k % x < x := by
  subst hx
  refine (place_c m k n hn).mono fun r m' ⟨h1, h2⟩ => ⟨h1, h2, Int.emod_nonneg k (by omega), Int.emod_lt_of_pos k (by omega)⟩
set_option maxRecDepth 4000 in
set_option maxHeartbeats 400000 in
theorem tries_c (m : World) (d a e : Int) : FnR Try.prog 3 [.int .i64 d, .int .i64 a, .int .i64 e] m fun r m' => r = .bool true ∧ Ext m [] m' := by
  refine FnE.enter ⟨_, Try.func3, by kernel_rfl, by kernel_rfl⟩ Try.func3 rfl rfl ?_
  repeat (first | with_reducible refine WP.seq ?_ | with_reducible refine WP.block ?_ | with_reducible refine WP.region ?_)
  refine RL.box rfl rfl (fun bd m1 hbd hC1 => ⟨_, rfl, ?_⟩)
  have hE1 : Ext m [] m1 := hC1.new (by omega)
  have hd1 : Blk m1 bd 3 [.int .i64 d] := hC1.here
  refine RL.box rfl rfl (fun ba m2 hba hC2 => ⟨_, rfl, ?_⟩)
  have hE2 : Ext m1 [] m2 := hC2.new (by omega)
  have ha2 : Blk m2 ba 3 [.int .i64 a] := hC2.here
  have hd2 := hd1.up hE2
  have hbad : ba ≠ bd := by have := hd1.lt; omega
  refine RL.auto T_ok rfl ?_
  refine RL.nil ?_; repeat (first | with_reducible refine QN.block_normal ?_ | with_reducible refine QN.next ?_); repeat (first | with_reducible refine WP.seq ?_ | with_reducible refine WP.block ?_ | with_reducible refine WP.region ?_)
  refine RL.call (fi := []) (ca := []) rfl rfl rfl rfl (known_c m2) ?_
  rintro _ m3 ⟨rfl, hE3⟩
  refine ⟨_, rfl, ?_⟩
  have ha3 := ha2.up hE3
  have hd3 := hd2.up hE3
  refine RL.auto T_ok rfl ?_
  refine RL.nil ?_; repeat (first | with_reducible refine QN.block_normal ?_ | with_reducible refine QN.next ?_); repeat (first | with_reducible refine WP.seq ?_ | with_reducible refine WP.block ?_ | with_reducible refine WP.region ?_)
  refine WP.condF rfl ?_
  refine WP.skip ?_; repeat (first | with_reducible refine QN.block_normal ?_ | with_reducible refine QN.next ?_)
  refine WP.seq ?_
  refine WP.drawQ (fun m' => m' = m3) [5, 6] (by kernel_rfl) rfl (by repeat (first | with_reducible exact PanicOk.body | with_reducible refine PanicOk.then_ ?_ | with_reducible refine PanicOk.block_ ?_)) (fun hQ => ?_)
  refine RH.load T_ok hQ 0 (fun m' hm' => by rw [hm']; exact hd3.cell 0 rfl) rfl (by kernel_rfl) rfl rfl rfl rfl ?_
  refine RH.load T_ok hQ 3 (fun m' hm' => by rw [hm']; exact ha3.cell 0 rfl) rfl (by kernel_rfl) rfl rfl rfl rfl ?_
  refine RH.only 1 rfl (by kernel_rfl) (fun _ => ?_)
  refine RL.call (fi := []) (ca := []) rfl rfl rfl rfl (place_lit m3 d 19 20 rfl (by omega)) ?_
  rintro _ m4 ⟨rfl, rfl, hD0, hD1⟩
  refine ⟨_, rfl, RL.nil (RH.cont rfl ?_)⟩
  generalize d % 20 = dd at *
  refine RH.pure T_ok hQ [2] (by kernel_rfl) rfl ?_
  refine RH.eqv (v' := .int .i64 (1 + dd)) (congrArg _ (wrap_i64_in _ (by omega) (by omega))) ?_
  refine RH.only 4 rfl (by kernel_rfl) (fun _ => ?_)
  refine RL.call (fi := []) (ca := []) rfl rfl rfl rfl (place_lit m4 a 24 25 rfl (by omega)) ?_
  rintro _ m5 ⟨rfl, rfl, hA0, hA1⟩
  refine ⟨_, rfl, RL.nil (RH.cont rfl ?_)⟩
  generalize a % 25 = aa at *
  refine RH.only 5 rfl (by kernel_rfl) (fun _ => ?_)
  refine RL.store T_ok hd3 (i := 0) (v := .int .i64 (1 + dd)) (by simp) rfl rfl rfl rfl rfl rfl ?_
  intro m6 hC6
  have hd6 : Blk m6 bd 3 [.int .i64 (1 + dd)] := hC6.blk
  have ha6 := ha3.far hC6 hbad
  refine RL.nil (RF.cont (by kernel_rfl) ?_)
  refine RF.only 6 rfl (by kernel_rfl) ?_
  refine RL.store T_ok ha6 (i := 0) (v := .int .i64 aa) (by simp) rfl rfl rfl rfl rfl rfl ?_
  intro m7 hC7
  have ha7 : Blk m7 ba 3 [.int .i64 aa] := hC7.blk
  have hd7 := hd6.far hC7 (fun hh => hbad hh.symm)
  refine RL.nil (RF.last (by kernel_rfl) ?_)
  have hE07 : Ext m [] m7 := by
    have e3 := ((hE1.trans hE2 (by simp)).trans hE3 (by simp))
    have s2 := hE1.size
    exact (e3.trans hC6.ext (fun k hk => .inr (by have h9 : k = bd := (by simpa using hk); omega))).trans hC7.ext (fun k hk => .inr (by have h9 : k = ba := (by simpa using hk); omega))
  refine QN.next ?_
  repeat (first | with_reducible refine WP.seq ?_ | with_reducible refine WP.block ?_ | with_reducible refine WP.region ?_)
  refine RL.auto T_ok rfl ?_
  refine RL.call (fi := []) (ca := []) rfl rfl rfl rfl (place_lit m7 e 999 1000 rfl (by omega)) ?_
  rintro _ m8 ⟨rfl, rfl, hW0, hW1⟩
  refine ⟨_, rfl, ?_⟩
  generalize e % 1000 = ee at *
  refine RL.alloc T_ok rfl rfl (fun bw m9 hbw hC9 => ⟨_, rfl, ?_⟩)
  have hbw2 : ba < bw ∧ bd < bw := by have := ha7.lt; have := hd7.lt; omega
  refine RL.store T_ok hC9.here (i := 0) (v := .int .i64 ee) (by simp) rfl rfl rfl rfl rfl rfl ?_
  intro m10 hC10
  have hw10 : Blk m10 bw 24 [.int .i64 ee] := hC10.here
  have hE10 : Ext m8 [] m10 := (hC9.new (by omega)).trans hC10.ext (fun k hk => .inr (by have h9 : k = bw := (by simpa using hk); omega))
  have ha10 := ha7.up hE10
  have hd10 := hd7.up hE10
  clear hC9 hC10
  refine RL.nil ?_; repeat (first | with_reducible refine QN.block_normal ?_ | with_reducible refine QN.next ?_); repeat (first | with_reducible refine WP.seq ?_ | with_reducible refine WP.block ?_ | with_reducible refine WP.region ?_)
  refine RL.alloc T_ok rfl rfl (fun bt m11 hbt hC11 => ⟨_, rfl, ?_⟩)
  refine RL.store T_ok hC11.here (i := 0) (v := .int .i64 0) (by simp) rfl rfl rfl rfl rfl rfl ?_
  intro m12 hC12
  have ht12 : Blk m12 bt 3 [.int .i64 0] := hC12.here
  have hE12 : Ext m10 [] m12 := (hC11.new (by omega)).trans hC12.ext (fun k hk => .inr (by have h9 : k = bt := (by simpa using hk); omega))
  have ha12 := ha10.up hE12
  have hd12 := hd10.up hE12
  have hw12 := hw10.up hE12
  have hltt : ba < bt ∧ bd < bt ∧ bw < bt := by have := ha10.lt; have := hd10.lt; have := hw10.lt; omega
  clear hC11 hC12
  refine RL.nil ?_; repeat (first | with_reducible refine QN.block_normal ?_ | with_reducible refine QN.next ?_); repeat (first | with_reducible refine WP.seq ?_ | with_reducible refine WP.block ?_ | with_reducible refine WP.region ?_)
  refine RL.alloc T_ok rfl rfl (fun bi m13 hbi hC13 => ⟨_, rfl, ?_⟩)
  have hE13 : Ext m12 [] m13 := hC13.new (by omega)
  have ht13 := ht12.up hE13
  have ha13 := ha12.up hE13
  have hd13 := hd12.up hE13
  have hw13 := hw12.up hE13
  have hbit : bt < bi := by have := ht12.lt; omega
  refine RL.nil ?_; repeat (first | with_reducible refine QN.block_normal ?_ | with_reducible refine QN.next ?_); repeat (first | with_reducible refine WP.seq ?_ | with_reducible refine WP.block ?_ | with_reducible refine WP.region ?_)
  refine RL.auto T_ok rfl ?_
  refine RL.store T_ok hC13.here (i := 0) (v := .func (.func 11) #[] #[.pointer (some ⟨bt, 0, none⟩), .pointer (some ⟨bd, 0, none⟩), .pointer (some ⟨bi, 0, none⟩), .pointer (some ⟨ba, 0, none⟩), .pointer (some ⟨bw, 0, none⟩)]) (by simp) rfl rfl rfl rfl rfl rfl ?_
  intro m14 hC14
  have hE14 := hC14.ext
  have hX14 : Cells m14 bt bd bi ba bw 0 (1 + dd) aa ee := ⟨ht13.ext hE14 (by simp; omega), hd13.ext hE14 (by simp; omega), hC14.here, ha13.ext hE14 (by simp; omega), hw13.ext hE14 (by simp; omega), by omega, by omega, by omega, by omega⟩
  have hE014 : Ext m [] m14 := by
    have e12 := (hE07.trans hE10 (by simp)).trans hE12 (by simp)
    have := e12.size
    exact (e12.trans hE13 (by simp)).trans hE14 (fun k hk => .inr (by have h9 : k = bi := (by simpa using hk); omega))
  refine RL.nil ?_; repeat (first | with_reducible refine QN.block_normal ?_ | with_reducible refine QN.next ?_); repeat (first | with_reducible refine WP.seq ?_ | with_reducible refine WP.block ?_ | with_reducible refine WP.region ?_)
  refine RL.load T_ok rfl rfl rfl (hX14.i.cell 0 rfl) rfl ?_
  refine RL.call (fi := []) (ca := [.pointer (some ⟨bt, 0, none⟩), .pointer (some ⟨bd, 0, none⟩), .pointer (some ⟨bi, 0, none⟩), .pointer (some ⟨ba, 0, none⟩), .pointer (some ⟨bw, 0, none⟩)]) rfl rfl rfl rfl
    (in_c bt bd bi ba bw (1 + dd) aa ee (by omega) (1 + dd).toNat 0 (by omega) (by omega) m14 0 (by omega) hX14) ?_
  rintro _ m15 ⟨rfl, hT15, hE15⟩
  refine ⟨_, rfl, ?_⟩
  have hX15 := hX14.set hE15 hT15
  have hE015 : Ext m [] m15 := by
    have e1 := (hE07.trans hE10 (by simp)).size
    exact hE014.trans hE15 (fun k hk => .inr (by have h9 : k = bt := (by simpa using hk); omega))
  generalize hgot : (if ((0 : Nat) : Int) = aa then errOf ee else 0) = got at *
  have htr : trail 0 (1 + dd) aa 0 = 2 * (1 + dd) - (if aa < 1 + dd then 1 else 0) := by
    unfold trail
    split <;> split <;> omega
  generalize trail 0 (1 + dd) aa 0 = tt at *
  have htb : 0 ≤ tt ∧ tt ≤ 40 := by split at htr <;> omega
  refine RL.auto T_ok rfl ?_
  refine RL.nil (QN.next ?_)
  refine WP.cut (X := Unit) (fun _ => [(3, .pointer (some ⟨bd, 0, none⟩)), (4, .pointer (some ⟨ba, 0, none⟩)), (7, .pointer (some ⟨bw, 0, none⟩)), (8, .pointer (some ⟨bt, 0, none⟩)), (10, .int .i64 got)])
    (fun _ m' => Ext m [] m' ∧ Blk m' bt 3 [.int .i64 tt] ∧ Blk m' bd 3 [.int .i64 (1 + dd)] ∧ Blk m' ba 3 [.int .i64 aa] ∧ Blk m' bw 24 [.int .i64 (errOf ee)]) ?_ ?_
  · repeat (first | with_reducible refine WP.seq ?_ | with_reducible refine WP.block ?_ | with_reducible refine WP.region ?_)
    refine RL.load T_ok rfl rfl rfl (hX15.w.cell 0 rfl) rfl ?_
    refine RL.auto T_ok rfl ?_
    refine RL.nil ?_; repeat (first | with_reducible refine QN.block_normal ?_ | with_reducible refine QN.next ?_); repeat (first | with_reducible refine WP.seq ?_ | with_reducible refine WP.block ?_ | with_reducible refine WP.region ?_)
    refine WP.cond rfl (fun hc => ?_) (fun hc => ?_)
    · have hc : ee = 0 := by simpa using hc
      refine WP.region ?_
      refine RL.store T_ok hX15.w (i := 0) (v := .int .i64 11) (by simp) rfl rfl rfl rfl rfl rfl ?_
      intro m16 hC16
      have hE16 := hC16.ext
      refine RL.nil (QN.cutEnd () (Sub.cons rfl (Sub.cons rfl (Sub.cons rfl (Sub.cons rfl (Sub.cons rfl Sub.nil))))) ⟨?_, hX15.t.ext hE16 (by simp; omega), hX15.d.ext hE16 (by simp; omega), hX15.a.ext hE16 (by simp; omega), ?_⟩)
      · exact hE015.trans hE16 (fun k hk => .inr (by have h9 : k = bw := (by simpa using hk); have := hE07.size; omega))
      · have : errOf ee = 11 := by unfold errOf; rw [if_pos hc]
        rw [this]; exact hC16.here
    · have hc : ee ≠ 0 := by simpa using hc
      have : errOf ee = ee := by unfold errOf; rw [if_neg hc]
      exact WP.skip (QN.cutEnd () (Sub.cons rfl (Sub.cons rfl (Sub.cons rfl (Sub.cons rfl (Sub.cons rfl Sub.nil))))) ⟨hE015, hX15.t, hX15.d, hX15.a, by rw [this]; exact hX15.w⟩)
  rintro _ m16 ⟨hE16, ht16, hd16, ha16, hw16⟩
  generalize errOf ee = ww at *
  repeat (first | with_reducible refine WP.seq ?_ | with_reducible refine WP.block ?_ | with_reducible refine WP.region ?_)
  refine RL.load T_ok rfl rfl rfl (ha16.cell 0 rfl) rfl ?_
  refine RL.pure T_ok 1 rfl ?_
  by_cases h0 : aa = 0
  · have hg : got = ww := by rw [← hgot, if_pos (by omega)]
    rw [if_pos (by omega)] at htr
    refine RL.eqv (v' := .bool true) (congrArg _ (by simp [h0])) ?_
    refine RL.auto T_ok rfl ?_
    refine RL.nil ?_; repeat (first | with_reducible refine QN.block_normal ?_ | with_reducible refine QN.next ?_); repeat (first | with_reducible refine WP.seq ?_ | with_reducible refine WP.block ?_ | with_reducible refine WP.region ?_)
    refine WP.condT rfl ?_
    repeat (first | with_reducible refine WP.seq ?_ | with_reducible refine WP.block ?_ | with_reducible refine WP.region ?_)
    refine RL.auto T_ok rfl ?_
    refine RL.load T_ok rfl rfl rfl (hw16.cell 0 rfl) rfl ?_
    refine RL.pure T_ok 1 rfl ?_
    refine RL.eqv (v' := .bool true) (congrArg _ (by simp [hg])) ?_
    refine RL.auto T_ok rfl ?_
    refine RL.load T_ok rfl rfl rfl (ht16.cell 0 rfl) rfl ?_
    refine RL.load T_ok rfl rfl rfl (hd16.cell 0 rfl) rfl ?_
    refine RL.pure T_ok 1 rfl ?_
    refine RL.eqv (v' := .int .i64 (2 * (1 + dd))) (congrArg _ (wrap_i64_in _ (by omega) (by omega))) ?_
    refine RL.pure T_ok 1 rfl ?_
    refine RL.eqv (v' := .int .i64 tt) (congrArg _ (by rw [wrap_i64_in _ (by omega) (by omega)]; omega)) ?_
    refine RL.pure T_ok 1 rfl ?_
    refine RL.eqv (v' := .bool true) (congrArg _ (by simp)) ?_
    refine RL.auto T_ok rfl ?_
    refine RL.nil ?_; repeat (first | with_reducible refine QN.block_normal ?_ | with_reducible refine QN.next ?_); repeat (first | with_reducible refine WP.seq ?_ | with_reducible refine WP.block ?_ | with_reducible refine WP.region ?_)
    refine WP.ret ?_; repeat (first | with_reducible refine QN.then_ret ?_ | with_reducible refine QN.block_ret ?_)
    exact QN.ret1 rfl rfl ⟨_, rfl, rfl, hE16⟩
  have hg : got = 0 := by rw [← hgot, if_neg (by omega)]
  subst hg
  refine RL.eqv (v' := .bool false) (congrArg _ (by simp [h0])) ?_
  refine RL.auto T_ok rfl ?_
  refine RL.nil ?_; repeat (first | with_reducible refine QN.block_normal ?_ | with_reducible refine QN.next ?_); repeat (first | with_reducible refine WP.seq ?_ | with_reducible refine WP.block ?_ | with_reducible refine WP.region ?_)
  refine WP.condF rfl ?_
  refine WP.skip ?_; repeat (first | with_reducible refine QN.block_normal ?_ | with_reducible refine QN.next ?_); repeat (first | with_reducible refine WP.seq ?_ | with_reducible refine WP.block ?_ | with_reducible refine WP.region ?_)
  refine RL.load T_ok rfl rfl rfl (ha16.cell 0 rfl) rfl ?_
  refine RL.load T_ok rfl rfl rfl (hd16.cell 0 rfl) rfl ?_
  refine RL.auto T_ok rfl ?_
  refine RL.nil ?_; repeat (first | with_reducible refine QN.block_normal ?_ | with_reducible refine QN.next ?_); repeat (first | with_reducible refine WP.seq ?_ | with_reducible refine WP.block ?_ | with_reducible refine WP.region ?_)
  refine WP.cond rfl (fun hc => ?_) (fun hc => ?_)
  · have hc : aa < 1 + dd := of_decide_eq_true hc
    rw [if_pos hc] at htr
    repeat (first | with_reducible refine WP.seq ?_ | with_reducible refine WP.block ?_ | with_reducible refine WP.region ?_)
    refine RL.auto T_ok rfl ?_
    refine RL.load T_ok rfl rfl rfl (ht16.cell 0 rfl) rfl ?_
    refine RL.load T_ok rfl rfl rfl (hd16.cell 0 rfl) rfl ?_
    refine RL.pure T_ok 1 rfl ?_
    refine RL.eqv (v' := .int .i64 (2 * (1 + dd))) (congrArg _ (wrap_i64_in _ (by omega) (by omega))) ?_
    refine RL.pure T_ok 1 rfl ?_
    refine RL.eqv (v' := .int .i64 tt) (congrArg _ (by rw [wrap_i64_in _ (by omega) (by omega)]; omega)) ?_
    refine RL.pure T_ok 1 rfl ?_
    refine RL.eqv (v' := .bool true) (congrArg _ (by simp)) ?_
    refine RL.auto T_ok rfl ?_
    refine RL.nil ?_; repeat (first | with_reducible refine QN.block_normal ?_ | with_reducible refine QN.next ?_); repeat (first | with_reducible refine WP.seq ?_ | with_reducible refine WP.block ?_ | with_reducible refine WP.region ?_)
    refine WP.ret ?_; repeat (first | with_reducible refine QN.then_ret ?_ | with_reducible refine QN.block_ret ?_)
    exact QN.ret1 rfl rfl ⟨_, rfl, rfl, hE16⟩
  · have hc : ¬ aa < 1 + dd := of_decide_eq_false hc
    rw [if_neg hc] at htr
    refine WP.skip ?_; repeat (first | with_reducible refine QN.block_normal ?_ | with_reducible refine QN.next ?_); repeat (first | with_reducible refine WP.seq ?_ | with_reducible refine WP.block ?_ | with_reducible refine WP.region ?_)
    refine RL.auto T_ok rfl ?_
    refine RL.load T_ok rfl rfl rfl (ht16.cell 0 rfl) rfl ?_
    refine RL.load T_ok rfl rfl rfl (hd16.cell 0 rfl) rfl ?_
    refine RL.pure T_ok 1 rfl ?_
    refine RL.eqv (v' := .int .i64 tt) (congrArg _ (by rw [wrap_i64_in _ (by omega) (by omega)]; omega)) ?_
    refine RL.pure T_ok 1 rfl ?_
    refine RL.eqv (v' := .bool true) (congrArg _ (by simp)) ?_
    refine RL.auto T_ok rfl ?_
    refine RL.nil ?_; repeat (first | with_reducible refine QN.block_normal ?_ | with_reducible refine QN.next ?_); repeat (first | with_reducible refine WP.seq ?_ | with_reducible refine WP.block ?_ | with_reducible refine WP.region ?_)
    refine WP.ret ?_; repeat (first | with_reducible refine QN.then_ret ?_ | with_reducible refine QN.block_ret ?_)
    exact QN.ret1 rfl rfl ⟨_, rfl, rfl, hE16⟩
set_option maxRecDepth 100000 in
theorem tries_lifted (os : Os) (started : os.Started) (H : Type) (enc : TypeId × Value → H) :
    ReturnsInHanded {} Try.checked os 3 .any (Rows.wireTriesSpec.pre6 enc Try.prog Try.f3 Rows.wireTriesRow.domain false) (Rows.wireTriesSpec.post enc Try.prog Try.f3 false true false false) := by
  refine law_lift (tb := 4) own started (by kernel_rfl) Try.func3
    (ChangeSpec.witness6 (enc := enc) (C := Try.checked) false ⟨#[], #[.int .i64 0, .int .i64 0, .int .i64 0], []⟩ 8 (by kernel_rfl) (by kernel_rfl) (by kernel_rfl) (by kernel_rfl))
    laidOut (by kernel_rfl) rfl (und 4 rfl rfl) rfl (fun ds h => by
      match ds, h with
      | [_, _, _], _ => exact ⟨rfl, rfl, rfl⟩) ?_
  intro W base args ds p hval hA hw
  rw [Try.params3] at hA hval hw
  obtain ⟨v0, v1, v2, d0, d1, d2, p0, p1, p2, rfl, rfl, rfl, h0, h1, h2⟩ := trodAll_three hA
  obtain ⟨x, rfl, rfl, rfl, _⟩ := open_int (und 3 rfl rfl) (hval 0 3 v0 rfl rfl) h0
  obtain ⟨y, rfl, rfl, rfl, _⟩ := open_int (und 3 rfl rfl) (hval 1 3 v1 rfl rfl) h1
  obtain ⟨z, rfl, rfl, rfl, _⟩ := open_int (und 3 rfl rfl) (hval 2 3 v2 rfl rfl) h2
  exact tries_c W x y z
theorem wireTries_holds : Rows.WireTriesSaid :=
  OpenClaim.holds_of_wide 3 Try.f3 rfl rfl rfl rfl rfl rfl rfl ⟨rfl, rfl, rfl, rfl, rfl⟩ rfl rfl rfl rfl rfl (by kernel_rfl) Try.func3 (by kernel_rfl)
    (of_decide_eq_true (by kernel_rfl)) (by unfold Func.isWrapper; first | (rw [if_pos (by decide +kernel)]; kernel_rfl) | (rw [if_neg (by decide +kernel)]; exact ⟨rfl, rfl⟩))
    (fun os started H enc _ => tries_lifted os started H enc)
end Go.Proofs.Ytaogoblckkmkgaa
