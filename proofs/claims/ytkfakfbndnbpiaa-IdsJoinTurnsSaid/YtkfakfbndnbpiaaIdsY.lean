/- IdsTurns: the row. -/
import Derived.Test.YtkfakfbndnbpiaaRows
import Derived.Test.YtkfakfbndnbpiaaIdsO
import Derived.Test.YtkfakfbndnbpiaaIdsX
import Derived.Carry
namespace Go.Proofs.Ytkfakfbndnbpiaa
open Go.ChangeShapes Go.WideShapes Go.ChangeAt Go.RowKit Go.Ev Go.Ids

theorem turn_el {H : Type} {enc : TypeId × Value → H} {W : World} {sp : Nat → Bool} {hd : Bool} {base : Nat} (cs : List Value) (n : Nat) (y : DataW H × List MemPlace) (hl : cs.length = 4) (hy : DataW.trod enc Try.prog W base sp hd n 101 cs = some y) : ∃ x : Trn, cs = tC x ∧ True := by
  obtain ⟨n1, ds, _, _, hf⟩ := open_stru (und 101 rfl rfl) hy
  obtain ⟨y0, h0, _⟩ := hf 0 _ _ _ rfl
  obtain ⟨y1, h1, _⟩ := hf 1 _ _ _ rfl
  obtain ⟨y2, h2, _⟩ := hf 2 _ _ _ rfl
  obtain ⟨y3, h3, _⟩ := hf 3 _ _ _ rfl
  obtain ⟨k0, e0⟩ := u64_el _ _ _ h0
  obtain ⟨k1, e1⟩ := u64_el _ _ _ h1
  obtain ⟨k2, e2⟩ := u64_el _ _ _ h2
  obtain ⟨k3, e3⟩ := u64_el _ _ _ h3
  match cs, hl with
  | [a, b, c, d], _ =>
    simp at e0 e1 e2 e3
    subst e0; subst e1; subst e2; subst e3
    exact ⟨⟨k0, k1, k2, k3⟩, rfl, trivial⟩
set_option maxRecDepth 100000 in
theorem open_ts {H : Type} {enc : TypeId × Value → H} {W : World} {b0 : Nat} {r : Reach} {v : Value} {d : DataW H} {ps : List MemPlace}
    (hok : Value.okWide Try.prog W r b0 61 v) (hfit : Fit Try.prog 61 d) (h : DataW.Trod enc Try.prog W 0 (fun _ => true) true 61 v d ps) : ∃ l, Ts W [] v l := by
  obtain ⟨fuel, h⟩ := h
  obtain ⟨u, l, hcs, hS, _⟩ := open_sl (α := Trn) tC (fun _ => True) (und 61 rfl rfl) (cellsOf 101 rfl rfl) hfit (fun cs n y hl hy _ => turn_el cs n y hl hy) h
  have := cells_toList_one hcs (okWide_slice (und 61 rfl rfl) hok)
  subst this
  exact ⟨l, hS⟩
theorem tcanon_only : ∀ {L : List Trn} {x : Trn} {k : Nat}, TCanon L → x ∈ L → x.f ≤ k → k < x.t → turnOf L x.c k = x.n
  | [], _, _, _, h, _, _ => by cases h
  | y :: L, x, k, hL, h, h1, h2 => by
    rcases List.mem_cons.1 h with rfl | h
    · exact hL.head_at h1 h2
    · have h3 := hL.behind h
      have h4 : y.at x.c k = 0 := if_neg (fun hh => by rcases h3 with h5 | ⟨h5, h6 | ⟨h6, _⟩⟩ <;> omega)
      have := tcanon_only hL.tail h h1 h2
      simp only [turnOf, h4, this]; omega
theorem hid_mem {L : List Trn} (hL : TCanon L) (c k : Nat) : mem (hid L) c k ↔ turnOf L c k % 2 = 1 := by
  constructor
  · rintro ⟨r, hr, h⟩
    unfold hid at hr
    obtain ⟨x, hx, rfl⟩ := List.mem_map.1 hr
    obtain ⟨hx, ho⟩ := List.mem_filter.1 hx
    have ho := of_decide_eq_true ho
    have g := tright_iff.1 (hL.1 x hx)
    obtain ⟨rfl, h2, h3⟩ := (has_iff (x := ⟨x.c, x.f, x.t⟩) g.1 g.2.1 g.2.2.1 g.2.2.2.2.1 c k).1 h
    rw [tcanon_only hL hx h2 h3]
    exact ho
  · intro h
    obtain ⟨x, hx, h1⟩ := turnOf_mem (l := L) (c := c) (k := k) (by omega)
    obtain ⟨g1, rfl, g3, g4, g5⟩ := at_pos (x := x) (c := c) (k := k) (by omega)
    have g := tright_iff.1 g1
    refine ⟨⟨x.c, x.f, x.t⟩, ?_, (has_iff (x := ⟨x.c, x.f, x.t⟩) g.1 g.2.1 g.2.2.1 g.2.2.2.2.1 _ k).2 ⟨rfl, g3, g4⟩⟩
    unfold hid
    exact List.mem_map.2 ⟨x, List.mem_filter.2 ⟨hx, decide_eq_true (by rw [← g5, h1]; exact h)⟩, rfl⟩
theorem idsturns_c (m : World) (v : Value) (l : List Trn) (h : Ts m [] v l) (id : Idn) : FnR Try.prog 11 [v, iV id] m fun r m' => r = .bool true ∧ Ext m [] m' := by
  obtain ⟨A, c, rfl, _, _⟩ := h.shape
  refine FnE.enter ⟨_, Try.func11, by kernel_rfl, by kernel_rfl⟩ Try.func11 rfl rfl ?_
  repeat (first | with_reducible refine WP.seq ?_ | with_reducible refine WP.block ?_ | with_reducible refine WP.region ?_)
  refine RL.box rfl rfl (fun b m1 hb hC => ⟨_, rfl, ?_⟩)
  have hB1 : Blk m1 b 48 (iC id) := hC.here
  have hE1 : Ext m [] m1 := hC.new (by omega)
  clear hC
  refine RL.auto T_ok rfl ?_
  refine RL.nil ?_; repeat (first | with_reducible refine QN.block_normal ?_ | with_reducible refine QN.next ?_); repeat (first | with_reducible refine WP.seq ?_ | with_reducible refine WP.block ?_ | with_reducible refine WP.region ?_)
  refine RL.call (fi := []) (ca := []) rfl rfl rfl rfl (turned_c m1) ?_
  rintro _ m2 ⟨rfl, hE2⟩
  refine ⟨_, rfl, ?_⟩
  have hEm2 := hE1.trans hE2 (by simp)
  refine RL.auto T_ok rfl ?_
  refine RL.nil ?_; repeat (first | with_reducible refine QN.block_normal ?_ | with_reducible refine QN.next ?_); repeat (first | with_reducible refine WP.seq ?_ | with_reducible refine WP.block ?_ | with_reducible refine WP.region ?_)
  refine WP.condF rfl ?_
  refine WP.skip ?_; repeat (first | with_reducible refine QN.block_normal ?_ | with_reducible refine QN.next ?_); repeat (first | with_reducible refine WP.seq ?_ | with_reducible refine WP.block ?_ | with_reducible refine WP.region ?_)
  refine RL.auto T_ok rfl ?_
  refine RL.call (fi := []) (ca := []) rfl rfl rfl rfl (few_c m2 _ l (h.ext0 hEm2)) ?_
  rintro _ m3 ⟨rfl, hm3⟩
  subst hm3
  refine ⟨_, rfl, ?_⟩
  refine RL.auto T_ok rfl ?_
  refine RL.nil ?_; repeat (first | with_reducible refine QN.block_normal ?_ | with_reducible refine QN.next ?_); repeat (first | with_reducible refine WP.seq ?_ | with_reducible refine WP.block ?_ | with_reducible refine WP.region ?_)
  refine WP.cond rfl (fun hc => ?_) (fun hc => ?_)
  · repeat (first | with_reducible refine WP.seq ?_ | with_reducible refine WP.block ?_ | with_reducible refine WP.region ?_)
    refine RL.auto T_ok rfl ?_
    refine RL.nil ?_; repeat (first | with_reducible refine QN.block_normal ?_ | with_reducible refine QN.next ?_); repeat (first | with_reducible refine WP.seq ?_ | with_reducible refine WP.block ?_ | with_reducible refine WP.region ?_)
    refine WP.ret ?_; repeat (first | with_reducible refine QN.then_ret ?_ | with_reducible refine QN.block_ret ?_)
    exact QN.ret1 rfl rfl ⟨_, rfl, rfl, hEm2⟩
  have hl : l.length ≤ 60 := by simpa using hc
  have hll : l.length * (2 * l.length) ≤ 60 * 120 := Nat.mul_le_mul hl (by omega)
  refine WP.skip ?_; repeat (first | with_reducible refine QN.block_normal ?_ | with_reducible refine QN.next ?_); repeat (first | with_reducible refine WP.seq ?_ | with_reducible refine WP.block ?_ | with_reducible refine WP.region ?_)
  refine RL.auto T_ok rfl ?_
  have hSl : Sl m3 [] 4 (.slice A l.length c) (l.flatMap tC) := h.ext0 hEm2
  refine RL.append T_ok (Own.empty _ _ _ _) (l.flatMap tC) (Src.of_sl hSl) rfl rfl rfl rfl rfl (tsC_len l) (tsC_one l) (by unfold maxLen; omega) (by show (0 + _) * 32 ≤ _; omega) ?_
  intro v5 m5 S5 hO5 hE5 hF5
  refine ⟨_, rfl, ?_⟩
  rw [Nat.zero_add, List.nil_append] at hO5
  have hR5 : Ts m5 [] v5 l := hO5.sl (by simp)
  have hEm5 := hEm2.trans hE5 (by simp)
  refine RL.auto T_ok rfl ?_
  refine RL.nil ?_; repeat (first | with_reducible refine QN.block_normal ?_ | with_reducible refine QN.next ?_); repeat (first | with_reducible refine WP.seq ?_ | with_reducible refine WP.block ?_ | with_reducible refine WP.region ?_)
  refine RL.auto T_ok rfl ?_
  refine RL.call (fi := []) (ca := []) rfl rfl rfl rfl (turnsF_c m5 _ l hR5 (by omega)) ?_
  rintro v6 m6 ⟨L, hL, hM6⟩
  refine ⟨_, rfl, ?_⟩
  have hEm6 := hEm5.trans hM6.ext (by simp)
  have hR6 : Ts m6 [] v6 L := hM6.ts
  have hR56 : Ts m6 [] v5 l := hR5.ext0 hM6.ext
  have hRm6 : Ts m6 [] (.slice A l.length c) l := h.ext0 hEm6
  have hB6 : Blk m6 b 48 (iC id) := hB1.ext (hE2.trans (hE5.trans hM6.ext (by simp)) (by simp)) (by simp)
  have hLl := hL.2.2
  clear hO5 hF5 hR5 hM6
  refine RL.auto T_ok rfl ?_
  refine RL.nil ?_; repeat (first | with_reducible refine QN.block_normal ?_ | with_reducible refine QN.next ?_); repeat (first | with_reducible refine WP.seq ?_ | with_reducible refine WP.block ?_ | with_reducible refine WP.region ?_)
  refine RL.auto T_ok rfl ?_
  refine RL.loadAgg T_ok (iC id) rfl rfl rfl (fun j u hu => by rw [add_block]; exact hB6.cell _ (by simpa using hu)) rfl ?_
  refine RL.call (fi := []) (ca := []) rfl rfl rfl rfl (turnOf_c m6 _ l hRm6 (by omega) id) ?_
  rintro _ m7 ⟨rfl, hE7⟩
  refine ⟨_, rfl, ?_⟩
  replace hEm6 := hEm6.trans hE7 (by simp)
  replace hR6 := hR6.ext0 hE7
  replace hR56 := hR56.ext0 hE7
  replace hRm6 := hRm6.ext0 hE7
  replace hB6 := hB6.ext hE7 (by simp)
  refine RL.auto T_ok rfl ?_
  refine RL.nil ?_; repeat (first | with_reducible refine QN.block_normal ?_ | with_reducible refine QN.next ?_)
  repeat (first | with_reducible refine WP.seq ?_ | with_reducible refine WP.block ?_ | with_reducible refine WP.region ?_)
  refine WP.drawQ (fun m' => Ext m7 [] m') [] (by kernel_rfl) (Ext.refl _ _) (by repeat (first | with_reducible exact PanicOk.body | with_reducible refine PanicOk.then_ ?_ | with_reducible refine PanicOk.block_ ?_)) (fun hQ => ?_)
  have hI : ∀ m', Ext m7 [] m' → ∀ j u, (iC id)[j]? = some u → m'.cell? ((⟨b, 0, none⟩ : Addr).add j) = some u := fun m' hE j u hu => by rw [add_block]; exact (hB6.ext hE (by simp)).cell _ (by simpa using hu)
  refine RH.pure T_ok hQ [0, 1] (by kernel_rfl) rfl ?_
  refine RH.only 2 rfl (by kernel_rfl) (fun _ => ?_)
  refine RL.call (fi := []) (ca := []) rfl rfl rfl rfl (refturns_c m7 _ l hRm6 (by omega)) ?_
  rintro v8 m8 ⟨L8, hL8, hM8⟩
  have e8 := AForm.turns hL hL8
  subst e8
  have hE8 := hM8.ext
  refine ⟨_, rfl, RL.nil (RH.cont hE8 ?_)⟩
  refine RH.only 3 rfl (by kernel_rfl) (fun _ => ?_)
  refine RL.call (fi := []) (ca := []) rfl rfl rfl rfl (turns_c m8 _ _ _ _ (hR6.ext0 hE8) hM8.ts (by omega)) ?_
  rintro _ m9 ⟨rfl, hm9⟩
  subst hm9
  refine ⟨_, rfl, RL.nil (RH.cont hE8 ?_)⟩
  refine RH.eqv (v' := .bool true) (congrArg _ (decide_eq_true rfl)) ?_
  refine RH.pure T_ok hQ [4, 5, 7] (by kernel_rfl) rfl ?_
  refine RH.only 6 rfl (by kernel_rfl) (fun _ => ?_)
  refine RL.call (fi := []) (ca := []) rfl rfl rfl rfl (turnsF_c m9 _ _ (hR6.ext0 hE8) (by omega)) ?_
  rintro v10 m10 ⟨L10, hL10, hM10⟩
  have e10 : L10 = L8 := tcanon_unique hL10.1 hL.1 fun c k => hL10.2.1 c k
  subst e10
  have hE10 := hE8.trans hM10.ext (by simp)
  refine ⟨_, rfl, RL.nil (RH.cont hE10 ?_)⟩
  refine RH.only 8 rfl (by kernel_rfl) (fun _ => ?_)
  refine RL.call (fi := []) (ca := []) rfl rfl rfl rfl (turns_c m10 _ _ _ _ hM10.ts (hR6.ext0 hE10) (by omega)) ?_
  rintro _ m11 ⟨rfl, hm11⟩
  subst hm11
  refine ⟨_, rfl, RL.nil (RH.cont hE10 ?_)⟩
  refine RH.eqv (v' := .bool true) (congrArg _ (decide_eq_true rfl)) ?_
  refine RH.pure T_ok hQ [9, 10, 11, 12] (by kernel_rfl) rfl ?_
  refine RH.only 13 rfl (by kernel_rfl) (fun _ => ?_)
  refine RL.call (fi := []) (ca := []) rfl rfl rfl rfl (turns_c m11 _ _ _ _ (hR56.ext0 hE10) (hRm6.ext0 hE10) (by omega)) ?_
  rintro _ m12 ⟨rfl, hm12⟩
  subst hm12
  refine ⟨_, rfl, RL.nil (RH.cont hE10 ?_)⟩
  refine RH.eqv (v' := .bool true) (congrArg _ (decide_eq_true rfl)) ?_
  refine RH.pure T_ok hQ [14, 15, 16, 17] (by kernel_rfl) rfl ?_
  refine RH.loadAgg T_ok hQ 18 (iC id) hI rfl (by kernel_rfl) rfl rfl rfl rfl ?_
  refine RH.only 19 rfl (by kernel_rfl) (fun _ => ?_)
  refine RL.call (fi := []) (ca := []) rfl rfl rfl rfl (refturnOf_c m12 _ l (hRm6.ext0 hE10) (by omega) id) ?_
  rintro _ m13 ⟨rfl, hE13⟩
  replace hE13 := hE10.trans hE13 (by simp)
  refine ⟨_, rfl, RL.nil (RH.cont hE13 ?_)⟩
  refine RH.pure T_ok hQ [20] (by kernel_rfl) rfl ?_
  refine RH.eqv (v' := .bool true) (congrArg _ (by simp)) ?_
  refine RH.pure T_ok hQ [21, 22, 23] (by kernel_rfl) rfl ?_
  refine RH.loadAgg T_ok hQ 24 (iC id) hI rfl (by kernel_rfl) rfl rfl rfl rfl ?_
  refine RH.pure T_ok hQ [26] (by kernel_rfl) rfl ?_
  refine RH.only 25 rfl (by kernel_rfl) (fun _ => ?_)
  refine RL.call (fi := []) (ca := []) rfl rfl rfl rfl (turnOf_c m13 _ _ (hR6.ext0 hE13) (by omega) id) ?_
  rintro _ m14 ⟨rfl, hE14⟩
  replace hE14 := hE13.trans hE14 (by simp)
  rw [hL.2.1]
  refine ⟨_, rfl, RL.nil (RH.cont hE14 ?_)⟩
  refine RH.pure T_ok hQ [27] (by kernel_rfl) rfl ?_
  refine RH.eqv (v' := .bool true) (congrArg _ (by simp)) ?_
  refine RH.pure T_ok hQ [28, 29, 30, 32] (by kernel_rfl) rfl ?_
  refine RH.only 31 rfl (by kernel_rfl) (fun _ => ?_)
  refine RL.call (fi := []) (ca := []) rfl rfl rfl rfl (hidden_c m14 _ l (hRm6.ext0 hE14) (by omega)) ?_
  rintro v15 m15 ⟨L15, hL15, hM15⟩
  have e15 := hL15.unique hL
  subst e15
  have hE15 := hE14.trans hM15.ext (by simp)
  refine ⟨_, rfl, RL.nil (RH.cont hE15 ?_)⟩
  refine RH.only 33 rfl (by kernel_rfl) (fun _ => ?_)
  refine RL.call (fi := []) (ca := []) rfl rfl rfl rfl (refhidden_c m15 _ l (hRm6.ext0 hE15) (by omega)) ?_
  rintro v16 m16 ⟨L16, hL16, hM16⟩
  have e16 := AForm.turns hL hL16
  subst e16
  have hE16 := hE15.trans hM16.ext (by simp)
  have hcl := clean_len (hid L16)
  have hhl := hid_len L16
  refine ⟨_, rfl, RL.nil (RH.cont hE16 ?_)⟩
  refine RH.only 34 rfl (by kernel_rfl) (fun _ => ?_)
  refine RL.call (fi := []) (ca := []) rfl rfl rfl rfl (ranges_c m16 _ _ _ _ (hM15.rs.ext0 hM16.ext) hM16.rs (by omega)) ?_
  rintro _ m17 ⟨rfl, hm17⟩
  subst hm17
  refine ⟨_, rfl, RL.nil (RH.cont hE16 ?_)⟩
  refine RH.eqv (v' := .bool true) (congrArg _ (decide_eq_true rfl)) ?_
  refine RH.pure T_ok hQ [35, 36, 37] (by kernel_rfl) rfl ?_
  refine RH.loadAgg T_ok hQ 39 (iC id) hI rfl (by kernel_rfl) rfl rfl rfl rfl ?_
  refine RH.pure T_ok hQ [41, 42] (by kernel_rfl) rfl ?_
  refine RH.eqv (v' := .int .u64 (turnOf l id.c id.k % 2 : Nat)) (congrArg _ (Int.ofNat_tmod _ 2).symm) ?_
  refine RH.pure T_ok hQ [43] (by kernel_rfl) rfl ?_
  refine RH.eqv (v' := .bool (decide (turnOf l id.c id.k % 2 = 1))) (congrArg _ (deq (turnOf l id.c id.k % 2) 1)) ?_
  refine RH.only 38 rfl (by kernel_rfl) (fun _ => ?_)
  refine RL.call (fi := []) (ca := []) rfl rfl rfl rfl (hidden_c m17 _ l (hRm6.ext0 hE16) (by omega)) ?_
  rintro v18 m18 ⟨L18, hL18, hM18⟩
  have e18 := hL18.unique hL
  subst e18
  have hE18 := hE16.trans hM18.ext (by simp)
  refine ⟨_, rfl, RL.nil (RH.cont hE18 ?_)⟩
  refine RH.only 40 rfl (by kernel_rfl) (fun _ => ?_)
  refine RL.call (fi := []) (ca := []) rfl rfl rfl rfl (has_c m18 _ _ hM18.rs (by omega) id) ?_
  rintro _ m19 ⟨rfl, hE19⟩
  replace hE19 := hE18.trans hE19 (by simp)
  have hhas : hasB (clean (hid L18)) id = decide (turnOf l id.c id.k % 2 = 1) := by
    rw [Bool.eq_iff_iff, hasB_mem, clean_mem, hid_mem hL.1, hL.2.1, decide_eq_true_eq]
  rw [hhas]
  refine ⟨_, rfl, RL.nil (RH.cont hE19 ?_)⟩
  refine RH.pure T_ok hQ [44] (by kernel_rfl) rfl ?_
  refine RH.eqv (v' := .bool true) (congrArg _ (by simp)) ?_
  refine RH.pure T_ok hQ [45, 46] (by kernel_rfl) rfl ?_
  refine RH.done (by kernel_rfl) (fun _ => ?_)
  repeat (first | with_reducible refine QN.block_normal ?_ | with_reducible refine QN.next ?_)
  refine WP.ret ?_; repeat (first | with_reducible refine QN.then_ret ?_ | with_reducible refine QN.block_ret ?_)
  exact QN.ret1 rfl rfl ⟨_, rfl, rfl, hEm6.trans hE19 (by simp)⟩
set_option maxRecDepth 100000 in
theorem idsturns_lifted (os : Os) (started : os.Started) (H : Type) (enc : TypeId × Value → H) :
    ReturnsInHanded {} Try.checked os 11 .any (Rows.idsTurnsSpec.pre6 enc Try.prog Try.f11 Rows.idsTurnsRow.domain false) (Rows.idsTurnsSpec.post enc Try.prog Try.f11 false true false false) := by
  refine law_lift (tb := 4) own started (by kernel_rfl) Try.func11
    (ChangeSpec.witness6 (enc := enc) (C := Try.checked) false ⟨#[], #[.slice none 0 0, .agg #[.int .u64 0, .int .u64 0]], []⟩ 8 (by kernel_rfl) (by kernel_rfl) (by kernel_rfl) (by kernel_rfl))
    laidOut (by kernel_rfl) rfl (und 4 rfl rfl) rfl (fun ds h => by
      match ds, h with
      | [_, _], _ => exact ⟨rfl, rfl, rfl⟩) ?_
  intro W base args ds p hval hA hw
  rw [Try.params11] at hA hval hw
  obtain ⟨v0, v1, d0, d1, p0, p1, rfl, rfl, rfl, h0, h1⟩ := trodAll_two hA
  obtain ⟨l, hl⟩ := open_ts (hval 0 61 v0 rfl rfl) (Fit.arg hw 0 rfl rfl) h0
  obtain ⟨id, rfl⟩ := open_id h1
  exact idsturns_c W v0 l hl id
theorem idsTurns_holds : Rows.IdsTurnsSaid :=
  OpenClaim.holds_of_wide 11 Try.f11 rfl rfl rfl rfl rfl rfl rfl ⟨rfl, rfl, rfl, rfl, rfl⟩ rfl rfl rfl rfl rfl (by kernel_rfl) Try.func11 (by kernel_rfl)
    (of_decide_eq_true (by kernel_rfl)) (by unfold Func.isWrapper; first | (rw [if_pos (by decide +kernel)]; kernel_rfl) | (rw [if_neg (by decide +kernel)]; exact ⟨rfl, rfl⟩))
    (fun os started H enc _ => idsturns_lifted os started H enc)
end Go.Proofs.Ytkfakfbndnbpiaa
