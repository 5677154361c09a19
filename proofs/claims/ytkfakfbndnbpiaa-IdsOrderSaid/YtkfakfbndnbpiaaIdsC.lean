/- IdsOrder: the row. -/
import Derived.Test.YtkfakfbndnbpiaaRows
import Derived.Test.YtkfakfbndnbpiaaIdsO
import Derived.Carry
namespace Go.Proofs.Ytkfakfbndnbpiaa
open Go.ChangeShapes Go.WideShapes Go.ChangeAt Go.RowKit Go.Ev Go.Ids

deriving instance DecidableEq for Idn
theorem eqI_run (x y : Idn) (w : World) : (binOp .neq 48 (iV x) (iV y)).run Try.prog w = .ok (.bool (decide (x ≠ y))) w := by
  have hS : Try.prog.underlying 48 = some (.struct (Try.prog.fieldsOf 48)) := by kernel_rfl
  have hp : Try.prog.stoodInHeld 48 = false := by kernel_rfl
  have u37 := Try.underlying37
  have a37 := Try.isAgg37
  have z37 := Try.sizeOf37
  simp only [iV, iC]
  rw [run_neq_struct, show (10000 : Nat) = 9999 + 1 from rfl, run_equalIn_agg w 9999 48 _ _ hS hp]
  simp only [Program.fieldsOf, Try.underlying48]
  go_simp
  obtain ⟨a, b⟩ := x
  obtain ⟨a', b'⟩ := y
  by_cases h1 : a = a' <;> by_cases h2 : b = b' <;> simp [h1, h2, Int.natCast_inj] 
theorem eqI_guard (x y : Idn) (ox oy : Operand) (w : World) : (eqGuard .neq 48 ox oy (iV x) (iV y)).run Try.prog w = .ok () w := run_eqGuard_agg w .neq 48 ox oy _ _ (by kernel_rfl)
theorem ilt_irrefl (x : Idn) : x.lt x = false := by simp [Idn.lt]
theorem ilt_iff {x y : Idn} : x.lt y = true ↔ x.c < y.c ∨ (x.c = y.c ∧ x.k < y.k) := by simp [Idn.lt]
theorem ilt_total {x y : Idn} (h : x ≠ y) : (x.lt y == y.lt x) = false := by
  have h1 : ¬ (x.c = y.c ∧ x.k = y.k) := fun hh => h (by cases x; cases y; simp_all)
  have i1 := @ilt_iff x y
  have i2 := @ilt_iff y x
  cases e1 : x.lt y <;> cases e2 : y.lt x <;> simp_all <;> omega
theorem ilt_trans {x y z : Idn} (h : x.lt y = true) (h' : y.lt z = true) : x.lt z = true := by rw [ilt_iff] at *; omega
theorem bne_self (b : Bool) : (b != b) = false := by cases b <;> rfl
theorem idsorder_c (m : World) (x y z : Idn) : FnR Try.prog 7 [iV x, iV y, iV z] m fun r m' => r = .bool true ∧ Ext m [] m' := by
  refine FnE.enter ⟨_, Try.func7, by kernel_rfl, by kernel_rfl⟩ Try.func7 rfl rfl ?_
  repeat (first | with_reducible refine WP.seq ?_ | with_reducible refine WP.block ?_ | with_reducible refine WP.region ?_)
  refine RL.box rfl rfl (fun b1 m1 hb1 hC1 => ⟨_, rfl, ?_⟩)
  refine RL.box rfl rfl (fun b2 m2 hb2 hC2 => ⟨_, rfl, ?_⟩)
  refine RL.box rfl rfl (fun b3 m3 hb3 hC3 => ⟨_, rfl, ?_⟩)
  have hE1 : Ext m [] m1 := hC1.new (by omega)
  have hE2 : Ext m1 [] m2 := hC2.new (by omega)
  have hE3 : Ext m2 [] m3 := hC3.new (by omega)
  have hX1 : Blk m1 b1 48 (iC x) := hC1.here
  have hY2 : Blk m2 b2 48 (iC y) := hC2.here
  have hZ3 : Blk m3 b3 48 (iC z) := hC3.here
  have hX3 := (hX1.ext hE2 (by simp)).ext hE3 (by simp)
  have hY3 := hY2.ext hE3 (by simp)
  have hEm3 : Ext m [] m3 := (hE1.trans hE2 (by simp)).trans hE3 (by simp)
  clear hX1 hY2 hC1 hC2 hC3
  refine RL.auto T_ok rfl ?_
  refine RL.nil ?_; repeat (first | with_reducible refine QN.block_normal ?_ | with_reducible refine QN.next ?_); repeat (first | with_reducible refine WP.seq ?_ | with_reducible refine WP.block ?_ | with_reducible refine WP.region ?_)
  refine RL.call (fi := []) (ca := []) rfl rfl rfl rfl (known_c m3) ?_
  rintro _ m4 ⟨rfl, hE4⟩
  refine ⟨_, rfl, ?_⟩
  have hEm4 := hEm3.trans hE4 (by simp)
  have ad0 : ∀ (b : Nat) (j : Nat), (⟨b, 0, none⟩ : Addr).add j = ⟨b, j, none⟩ := fun b j => by rw [add_block, Nat.zero_add]
  have hX : ∀ m', Ext m4 [] m' → ∀ j u, (iC x)[j]? = some u → m'.cell? ((⟨b1, 0, none⟩ : Addr).add j) = some u := fun m' hE j u hu => by rw [ad0]; exact (hX3.ext (hE4.trans hE (by simp)) (by simp)).cell _ hu
  have hY : ∀ m', Ext m4 [] m' → ∀ j u, (iC y)[j]? = some u → m'.cell? ((⟨b2, 0, none⟩ : Addr).add j) = some u := fun m' hE j u hu => by rw [ad0]; exact (hY3.ext (hE4.trans hE (by simp)) (by simp)).cell _ hu
  have hZ : ∀ m', Ext m4 [] m' → ∀ j u, (iC z)[j]? = some u → m'.cell? ((⟨b3, 0, none⟩ : Addr).add j) = some u := fun m' hE j u hu => by rw [ad0]; exact (hZ3.ext (hE4.trans hE (by simp)) (by simp)).cell _ hu
  refine RL.auto T_ok rfl ?_
  refine RL.nil ?_; repeat (first | with_reducible refine QN.block_normal ?_ | with_reducible refine QN.next ?_); repeat (first | with_reducible refine WP.seq ?_ | with_reducible refine WP.block ?_ | with_reducible refine WP.region ?_)
  refine WP.condF rfl ?_
  refine WP.skip ?_; repeat (first | with_reducible refine QN.block_normal ?_ | with_reducible refine QN.next ?_)
  refine WP.seq ?_
  refine WP.cut (X := Unit) (fun _ => [(3, .pointer (some ⟨b1, 0, none⟩)), (4, .pointer (some ⟨b2, 0, none⟩)), (5, .pointer (some ⟨b3, 0, none⟩)), (34, .bool false)]) (fun _ m' => Ext m4 [] m') ?_ ?_
  refine WP.drawQ (fun m' => Ext m4 [] m') [] (by kernel_rfl) (Ext.refl _ _) (by repeat (first | with_reducible exact PanicOk.body | with_reducible refine PanicOk.then_ ?_ | with_reducible refine PanicOk.block_ ?_)) (fun hQ => ?_)
  refine RH.loadAgg T_ok hQ 0 (iC x) hX rfl (by kernel_rfl) rfl rfl rfl rfl ?_
  refine RH.loadAgg T_ok hQ 1 (iC y) hY rfl (by kernel_rfl) rfl rfl rfl rfl ?_
  refine RH.loadAgg T_ok hQ 3 (iC x) hX rfl (by kernel_rfl) rfl rfl rfl rfl ?_
  refine RH.loadAgg T_ok hQ 4 (iC y) hY rfl (by kernel_rfl) rfl rfl rfl rfl ?_
  refine RH.only 2 rfl (by kernel_rfl) (fun _ => ?_)
  refine RL.call (fi := []) (ca := []) rfl rfl rfl rfl (less_c m4 x y) ?_
  rintro _ m5 ⟨rfl, hE5⟩
  refine ⟨_, rfl, RL.nil (RH.cont hE5 ?_)⟩
  refine RH.only 5 rfl (by kernel_rfl) (fun _ => ?_)
  refine RL.call (fi := []) (ca := []) rfl rfl rfl rfl (refless_c m5 x y) ?_
  rintro _ m6 ⟨rfl, hE6⟩
  have hE6 := hE5.trans hE6 (by simp)
  refine ⟨_, rfl, RL.nil (RH.cont hE6 ?_)⟩
  refine RH.pure T_ok hQ [6] (by kernel_rfl) rfl ?_
  refine RH.eqv (v' := .bool false) (congrArg _ (bne_self _)) ?_
  refine RH.pure T_ok hQ [7] (by kernel_rfl) rfl ?_
  refine RH.loadAgg T_ok hQ 8 (iC x) hX rfl (by kernel_rfl) rfl rfl rfl rfl ?_
  refine RH.loadAgg T_ok hQ 9 (iC x) hX rfl (by kernel_rfl) rfl rfl rfl rfl ?_
  refine RH.only 10 rfl (by kernel_rfl) (fun _ => ?_)
  refine RL.call (fi := []) (ca := []) rfl rfl rfl rfl (less_c m6 x x) ?_
  rintro _ m7 ⟨rfl, hE7⟩
  have hE7 := hE6.trans hE7 (by simp)
  refine ⟨_, rfl, RL.nil (RH.cont hE7 ?_)⟩
  refine RH.eqv (v' := .bool false) (congrArg _ (ilt_irrefl x)) ?_
  refine RH.pure T_ok hQ [11, 12] (by kernel_rfl) rfl ?_
  refine RH.loadAgg T_ok hQ 13 (iC x) hX rfl (by kernel_rfl) rfl rfl rfl rfl ?_
  refine RH.loadAgg T_ok hQ 14 (iC y) hY rfl (by kernel_rfl) rfl rfl rfl rfl ?_
  refine RH.binOp (eqI_run x y) (eqI_guard x y _ _) hQ 15 rfl (by kernel_rfl) rfl rfl rfl rfl ?_
  by_cases hxy : x = y
  · refine RH.eqv (v' := .bool false) (congrArg _ (decide_eq_false (not_not_intro hxy))) ?_
    refine RH.pure T_ok hQ [16, 17, 18, 19, 20, 21, 22, 23, 24, 25] (by kernel_rfl) rfl ?_
    refine RH.done (by kernel_rfl) (fun _ => ?_)
    exact QN.cutEnd () (Sub.cons rfl (Sub.cons rfl (Sub.cons rfl (Sub.cons rfl Sub.nil)))) hE7
  · refine RH.eqv (v' := .bool true) (congrArg _ (decide_eq_true hxy)) ?_
    refine RH.pure T_ok hQ [16] (by kernel_rfl) rfl ?_
    refine RH.loadAgg T_ok hQ 17 (iC x) hX rfl (by kernel_rfl) rfl rfl rfl rfl ?_
    refine RH.loadAgg T_ok hQ 18 (iC y) hY rfl (by kernel_rfl) rfl rfl rfl rfl ?_
    refine RH.loadAgg T_ok hQ 20 (iC y) hY rfl (by kernel_rfl) rfl rfl rfl rfl ?_
    refine RH.loadAgg T_ok hQ 21 (iC x) hX rfl (by kernel_rfl) rfl rfl rfl rfl ?_
    refine RH.only 19 rfl (by kernel_rfl) (fun _ => ?_)
    refine RL.call (fi := []) (ca := []) rfl rfl rfl rfl (less_c m7 x y) ?_
    rintro _ m8 ⟨rfl, hE8⟩
    have hE8 := hE7.trans hE8 (by simp)
    refine ⟨_, rfl, RL.nil (RH.cont hE8 ?_)⟩
    refine RH.only 22 rfl (by kernel_rfl) (fun _ => ?_)
    refine RL.call (fi := []) (ca := []) rfl rfl rfl rfl (less_c m8 y x) ?_
    rintro _ m9 ⟨rfl, hE9⟩
    have hE9 := hE8.trans hE9 (by simp)
    refine ⟨_, rfl, RL.nil (RH.cont hE9 ?_)⟩
    refine RH.pure T_ok hQ [23] (by kernel_rfl) rfl ?_
    refine RH.eqv (v' := .bool false) (congrArg _ (ilt_total hxy)) ?_
    refine RH.pure T_ok hQ [24, 25] (by kernel_rfl) rfl ?_
    refine RH.done (by kernel_rfl) (fun _ => ?_)
    exact QN.cutEnd () (Sub.cons rfl (Sub.cons rfl (Sub.cons rfl (Sub.cons rfl Sub.nil)))) hE9
  rintro _ q hq
  have hEq : Ext m [] q := hEm4.trans hq (by simp)
  refine WP.condF rfl ?_
  refine WP.skip ?_; repeat (first | with_reducible refine QN.block_normal ?_ | with_reducible refine QN.next ?_); repeat (first | with_reducible refine WP.seq ?_ | with_reducible refine WP.block ?_ | with_reducible refine WP.region ?_)
  refine RL.loadAgg T_ok (iC x) rfl rfl rfl (hX q hq) rfl ?_
  refine RL.loadAgg T_ok (iC y) rfl rfl rfl (hY q hq) rfl ?_
  refine RL.call (fi := []) (ca := []) rfl rfl rfl rfl (less_c q x y) ?_
  rintro _ q1 ⟨rfl, hq1⟩
  refine ⟨_, rfl, ?_⟩
  have hEq1 := hq.trans hq1 (by simp)
  by_cases h1 : x.lt y = true
  · refine RL.eqv (v' := .bool true) (congrArg _ h1) ?_
    refine RL.pure T_ok 2 rfl ?_
    refine RL.loadAgg T_ok (iC y) rfl rfl rfl (hY q1 hEq1) rfl ?_
    refine RL.loadAgg T_ok (iC z) rfl rfl rfl (hZ q1 hEq1) rfl ?_
    refine RL.call (fi := []) (ca := []) rfl rfl rfl rfl (less_c q1 y z) ?_
    rintro _ q2 ⟨rfl, hq2⟩
    refine ⟨_, rfl, ?_⟩
    have hEq2 := hEq1.trans hq2 (by simp)
    by_cases h2 : y.lt z = true
    · refine RL.eqv (v' := .bool true) (congrArg _ h2) ?_
      refine RL.pure T_ok 3 rfl ?_
      refine RL.loadAgg T_ok (iC x) rfl rfl rfl (hX q2 hEq2) rfl ?_
      refine RL.loadAgg T_ok (iC z) rfl rfl rfl (hZ q2 hEq2) rfl ?_
      refine RL.call (fi := []) (ca := []) rfl rfl rfl rfl (less_c q2 x z) ?_
      rintro _ q3 ⟨rfl, hq3⟩
      refine ⟨_, rfl, ?_⟩
      refine RL.eqv (v' := .bool true) (congrArg _ (ilt_trans h1 h2)) ?_
      refine RL.auto T_ok rfl ?_
      refine RL.nil ?_; repeat (first | with_reducible refine QN.block_normal ?_ | with_reducible refine QN.next ?_); repeat (first | with_reducible refine WP.seq ?_ | with_reducible refine WP.block ?_ | with_reducible refine WP.region ?_)
      refine WP.ret ?_; repeat (first | with_reducible refine QN.then_ret ?_ | with_reducible refine QN.block_ret ?_)
      exact QN.ret1 rfl rfl ⟨_, rfl, rfl, (hEm4.trans hEq2 (by simp)).trans hq3 (by simp)⟩
    · refine RL.eqv (v' := .bool false) (congrArg _ (Bool.not_eq_true _ ▸ h2)) ?_
      refine RL.auto T_ok rfl ?_
      refine RL.nil ?_; repeat (first | with_reducible refine QN.block_normal ?_ | with_reducible refine QN.next ?_); repeat (first | with_reducible refine WP.seq ?_ | with_reducible refine WP.block ?_ | with_reducible refine WP.region ?_)
      refine WP.ret ?_; repeat (first | with_reducible refine QN.then_ret ?_ | with_reducible refine QN.block_ret ?_)
      exact QN.ret1 rfl rfl ⟨_, rfl, rfl, hEm4.trans hEq2 (by simp)⟩
  · refine RL.eqv (v' := .bool false) (congrArg _ (Bool.not_eq_true _ ▸ h1)) ?_
    refine RL.auto T_ok rfl ?_
    refine RL.nil ?_; repeat (first | with_reducible refine QN.block_normal ?_ | with_reducible refine QN.next ?_); repeat (first | with_reducible refine WP.seq ?_ | with_reducible refine WP.block ?_ | with_reducible refine WP.region ?_)
    refine WP.ret ?_; repeat (first | with_reducible refine QN.then_ret ?_ | with_reducible refine QN.block_ret ?_)
    exact QN.ret1 rfl rfl ⟨_, rfl, rfl, hEm4.trans hEq1 (by simp)⟩
set_option maxRecDepth 100000 in
theorem idsorder_lifted (os : Os) (started : os.Started) (H : Type) (enc : TypeId × Value → H) :
    ReturnsInHanded {} Try.checked os 7 .any (Rows.idsOrderSpec.pre6 enc Try.prog Try.f7 Rows.idsOrderRow.domain false) (Rows.idsOrderSpec.post enc Try.prog Try.f7 false true false false) := by
  refine law_lift (tb := 4) own started (by kernel_rfl) Try.func7
    (ChangeSpec.witness6 (enc := enc) (C := Try.checked) false ⟨#[], #[.agg #[.int .u64 0, .int .u64 0], .agg #[.int .u64 0, .int .u64 0], .agg #[.int .u64 0, .int .u64 0]], []⟩ 8 (by kernel_rfl) (by kernel_rfl) (by kernel_rfl) (by kernel_rfl))
    laidOut (by kernel_rfl) rfl (und 4 rfl rfl) rfl (fun ds h => by
      match ds, h with
      | [_, _, _], _ => exact ⟨rfl, rfl, rfl⟩) ?_
  intro W base args ds p hval hA hw
  rw [Try.params7] at hA hval hw
  obtain ⟨v0, v1, v2, d0, d1, d2, p0, p1, p2, rfl, rfl, rfl, h0, h1, h2⟩ := trodAll_three hA
  obtain ⟨x, rfl⟩ := open_id h0
  obtain ⟨y, rfl⟩ := open_id h1
  obtain ⟨z, rfl⟩ := open_id h2
  exact idsorder_c W x y z
theorem idsOrder_holds : Rows.IdsOrderSaid :=
  OpenClaim.holds_of_wide 7 Try.f7 rfl rfl rfl rfl rfl rfl rfl ⟨rfl, rfl, rfl, rfl, rfl⟩ rfl rfl rfl rfl rfl (by kernel_rfl) Try.func7 (by kernel_rfl)
    (of_decide_eq_true (by kernel_rfl)) (by unfold Func.isWrapper; first | (rw [if_pos (by decide +kernel)]; kernel_rfl) | (rw [if_neg (by decide +kernel)]; exact ⟨rfl, rfl⟩))
    (fun os started H enc _ => idsorder_lifted os started H enc)
end Go.Proofs.Ytkfakfbndnbpiaa
