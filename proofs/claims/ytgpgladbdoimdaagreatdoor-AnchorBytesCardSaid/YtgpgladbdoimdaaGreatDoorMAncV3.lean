/- Texts that belong together. -/
import Derived.Test.YtgpgladbdoimdaaGreatDoorMAncV2
import Derived.Sort.Statements
import Derived.Laws.StructEq
section
namespace Go.Proofs.YtgpgladbdoimdaaGreatDoor
open Go.RowKit Go.Ev Go.Ids
def rC (x : Rng) : List Value := [.int .u64 x.c, .int .u64 x.f, .int .u64 x.t]
def rV (x : Rng) : Value := .agg (rC x).toArray
structure Idn where
  c : Nat
  k : Nat
def iC (x : Idn) : List Value := [.int .u64 x.c, .int .u64 x.k]
def iV (x : Idn) : Value := .agg (iC x).toArray
def Idn.right (x : Idn) : Bool := num x.c && num x.k
def Idn.lt (x y : Idn) : Bool := decide (x.c < y.c) || (decide (x.c = y.c) && decide (x.k < y.k))
theorem dge (a : Nat) (b : Int) (c : Nat) (h : b = c) : decide ((a : Int) ≥ b) = decide (c ≤ a) := by subst h; rw [decide_eq_decide]; omega
theorem dle (a : Nat) (b : Int) (c : Nat) (h : b = c) : decide ((a : Int) ≤ b) = decide (a ≤ c) := by subst h; rw [decide_eq_decide]; omega
theorem dlt (a c : Nat) : decide ((a : Int) < (c : Int)) = decide (a < c) := by rw [decide_eq_decide]; omega
theorem deq (a c : Nat) : ((a : Int) == (c : Int)) = decide (a = c) := by
  by_cases h : a = c
  · simp [h]
  · have : ¬ (a : Int) = (c : Int) := by omega
    simp [h, this]
theorem number_c (m : World) (n : Nat) : FnR Tryz.prog 138 [.int .u64 n] m fun r m' => r = .bool (num n) ∧ m' = m := by
  refine FnE.enter ⟨_, Tryz.func138, by kernel_rfl, by kernel_rfl⟩ Tryz.func138 rfl rfl ?_
  (with_reducible repeat (first | refine WP.S1 ?_ | refine WP.B1 ?_ | refine WP.R1 ?_))
  refine RL.A1 T_ok rfl ?_
  refine RL.N1 ?_; (with_reducible repeat (first | refine QN.B1 ?_ | refine QN.N1 ?_ | refine WP.S1 ?_ | refine WP.B1 ?_ | refine WP.R1 ?_))
  refine RL.pure T_ok 3 rfl ?_
  by_cases h : 1 ≤ n
  · refine RL.eqv (v' := .bool true) (congrArg _ (by rw [dge n 1 1 rfl]; exact decide_eq_true h)) ?_
    refine RL.A1 T_ok rfl ?_
    refine RL.N1 ?_; (with_reducible repeat (first | refine QN.B1 ?_ | refine QN.N1 ?_ | refine WP.S1 ?_ | refine WP.B1 ?_ | refine WP.R1 ?_))
    refine WP.ret ?_; (with_reducible repeat (first | refine QN.tr ?_ | refine QN.br ?_))
    refine QN.ret1 rfl rfl ⟨_, rfl, congrArg _ ?_, rfl⟩
    rw [dle n 9007199254740991 9007199254740991 rfl]; simp [num, h]
  · refine RL.eqv (v' := .bool false) (congrArg _ (by rw [dge n 1 1 rfl]; exact decide_eq_false h)) ?_
    refine RL.A1 T_ok rfl ?_
    refine RL.N1 ?_; (with_reducible repeat (first | refine QN.B1 ?_ | refine QN.N1 ?_ | refine WP.S1 ?_ | refine WP.B1 ?_ | refine WP.R1 ?_))
    refine WP.ret ?_; (with_reducible repeat (first | refine QN.tr ?_ | refine QN.br ?_))
    refine QN.ret1 rfl rfl ⟨_, rfl, congrArg _ ?_, rfl⟩
    simp [num, h]
theorem right_c (m : World) (x : Rng) : FnR Tryz.prog 93 [rV x] m fun r m' => r = .bool x.right ∧ Ext m [] m' := by
  refine FnE.enter ⟨_, Tryz.func93, by kernel_rfl, by kernel_rfl⟩ Tryz.func93 rfl rfl ?_
  (with_reducible repeat (first | refine WP.S1 ?_ | refine WP.B1 ?_ | refine WP.R1 ?_))
  refine RL.box rfl rfl (fun b m1 hb hC => ⟨_, rfl, ?_⟩)
  have hB : Blk m1 b 167 (rC x) := hC.here
  have hE : Ext m [] m1 := hC.new (by omega)
  clear hC
  refine RL.A1 T_ok rfl ?_
  refine RL.N1 ?_; (with_reducible repeat (first | refine QN.B1 ?_ | refine QN.N1 ?_ | refine WP.S1 ?_ | refine WP.B1 ?_ | refine WP.R1 ?_))
  repeat (first | refine RL.pure T_ok 1 rfl ?_ | refine RL.load T_ok rfl rfl rfl (hB.cell _ rfl) rfl ?_)
  refine RL.call (fi := []) (ca := []) rfl rfl rfl rfl (number_c m1 x.c) ?_
  rintro _ m2 ⟨rfl, rfl⟩
  refine ⟨_, rfl, ?_⟩
  refine RL.pure T_ok 1 rfl ?_
  by_cases h1 : num x.c = true
  · refine RL.eqv (v' := .bool true) (congrArg _ h1) ?_
    repeat (first | refine RL.pure T_ok 1 rfl ?_ | refine RL.load T_ok rfl rfl rfl (hB.cell _ rfl) rfl ?_)
    by_cases h2 : 1 ≤ x.f
    · refine RL.eqv (v' := .bool true) (congrArg _ (by rw [dge x.f 1 1 rfl]; exact decide_eq_true h2)) ?_
      repeat (first | refine RL.pure T_ok 1 rfl ?_ | refine RL.load T_ok rfl rfl rfl (hB.cell _ rfl) rfl ?_)
      by_cases h3 : x.f < x.t
      · refine RL.eqv (v' := .bool true) (congrArg _ (by rw [dlt]; exact decide_eq_true h3)) ?_
        repeat (first | refine RL.pure T_ok 1 rfl ?_ | refine RL.load T_ok rfl rfl rfl (hB.cell _ rfl) rfl ?_)
        refine RL.N1 ?_; (with_reducible repeat (first | refine QN.B1 ?_ | refine QN.N1 ?_ | refine WP.S1 ?_ | refine WP.B1 ?_ | refine WP.R1 ?_))
        refine WP.ret ?_; (with_reducible repeat (first | refine QN.tr ?_ | refine QN.br ?_))
        refine QN.ret1 rfl rfl ⟨_, rfl, congrArg _ ?_, hE⟩
        rw [dle x.t 9007199254740992 9007199254740992 rfl]; simp [Rng.right, h1, h2, h3]
      · refine RL.eqv (v' := .bool false) (congrArg _ (by rw [dlt]; exact decide_eq_false h3)) ?_
        repeat (first | refine RL.pure T_ok 1 rfl ?_ | refine RL.load T_ok rfl rfl rfl (hB.cell _ rfl) rfl ?_)
        refine RL.N1 ?_; (with_reducible repeat (first | refine QN.B1 ?_ | refine QN.N1 ?_ | refine WP.S1 ?_ | refine WP.B1 ?_ | refine WP.R1 ?_))
        refine WP.ret ?_; (with_reducible repeat (first | refine QN.tr ?_ | refine QN.br ?_))
        refine QN.ret1 rfl rfl ⟨_, rfl, congrArg _ ?_, hE⟩
        simp [Rng.right, h1, h2, h3]
    · refine RL.eqv (v' := .bool false) (congrArg _ (by rw [dge x.f 1 1 rfl]; exact decide_eq_false h2)) ?_
      repeat (first | refine RL.pure T_ok 1 rfl ?_ | refine RL.load T_ok rfl rfl rfl (hB.cell _ rfl) rfl ?_)
      refine RL.N1 ?_; (with_reducible repeat (first | refine QN.B1 ?_ | refine QN.N1 ?_ | refine WP.S1 ?_ | refine WP.B1 ?_ | refine WP.R1 ?_))
      refine WP.ret ?_; (with_reducible repeat (first | refine QN.tr ?_ | refine QN.br ?_))
      refine QN.ret1 rfl rfl ⟨_, rfl, congrArg _ ?_, hE⟩
      simp [Rng.right, h1, h2]
  · refine RL.eqv (v' := .bool false) (congrArg _ (Bool.not_eq_true _ ▸ h1)) ?_
    repeat (first | refine RL.pure T_ok 1 rfl ?_ | refine RL.load T_ok rfl rfl rfl (hB.cell _ rfl) rfl ?_)
    refine RL.N1 ?_; (with_reducible repeat (first | refine QN.B1 ?_ | refine QN.N1 ?_ | refine WP.S1 ?_ | refine WP.B1 ?_ | refine WP.R1 ?_))
    refine WP.ret ?_; (with_reducible repeat (first | refine QN.tr ?_ | refine QN.br ?_))
    refine QN.ret1 rfl rfl ⟨_, rfl, congrArg _ ?_, hE⟩
    simp [Rng.right, h1]
theorem refrightI_c (m : World) (x : Idn) : FnR Tryz.prog 22 [iV x] m fun r m' => r = .bool x.right ∧ Ext m [] m' := by
  refine FnE.enter ⟨_, Tryz.func22, by kernel_rfl, by kernel_rfl⟩ Tryz.func22 rfl rfl ?_
  (with_reducible repeat (first | refine WP.S1 ?_ | refine WP.B1 ?_ | refine WP.R1 ?_))
  refine RL.box rfl rfl (fun b m1 hb hC => ⟨_, rfl, ?_⟩)
  have hB : Blk m1 b 30 (iC x) := hC.here
  have hE : Ext m [] m1 := hC.new (by omega)
  clear hC
  refine RL.A1 T_ok rfl ?_
  refine RL.N1 ?_; (with_reducible repeat (first | refine QN.B1 ?_ | refine QN.N1 ?_ | refine WP.S1 ?_ | refine WP.B1 ?_ | refine WP.R1 ?_))
  repeat (first | refine RL.pure T_ok 1 rfl ?_ | refine RL.load T_ok rfl rfl rfl (hB.cell _ rfl) rfl ?_)
  by_cases h1 : 1 ≤ x.c
  · refine RL.eqv (v' := .bool true) (congrArg _ (by rw [dge x.c 1 1 rfl]; exact decide_eq_true h1)) ?_
    repeat (first | refine RL.pure T_ok 1 rfl ?_ | refine RL.load T_ok rfl rfl rfl (hB.cell _ rfl) rfl ?_)
    by_cases h2 : x.c ≤ 9007199254740991
    · refine RL.eqv (v' := .bool true) (congrArg _ (by rw [dle x.c 9007199254740991 9007199254740991 rfl]; exact decide_eq_true h2)) ?_
      repeat (first | refine RL.pure T_ok 1 rfl ?_ | refine RL.load T_ok rfl rfl rfl (hB.cell _ rfl) rfl ?_)
      by_cases h3 : 1 ≤ x.k
      · refine RL.eqv (v' := .bool true) (congrArg _ (by rw [dge x.k 1 1 rfl]; exact decide_eq_true h3)) ?_
        repeat (first | refine RL.pure T_ok 1 rfl ?_ | refine RL.load T_ok rfl rfl rfl (hB.cell _ rfl) rfl ?_)
        refine RL.N1 ?_; (with_reducible repeat (first | refine QN.B1 ?_ | refine QN.N1 ?_ | refine WP.S1 ?_ | refine WP.B1 ?_ | refine WP.R1 ?_))
        refine WP.ret ?_; (with_reducible repeat (first | refine QN.tr ?_ | refine QN.br ?_))
        refine QN.ret1 rfl rfl ⟨_, rfl, congrArg _ ?_, hE⟩
        rw [dle x.k 9007199254740991 9007199254740991 rfl]; simp [Idn.right, num, h1, h2, h3]
      · refine RL.eqv (v' := .bool false) (congrArg _ (by rw [dge x.k 1 1 rfl]; exact decide_eq_false h3)) ?_
        repeat (first | refine RL.pure T_ok 1 rfl ?_ | refine RL.load T_ok rfl rfl rfl (hB.cell _ rfl) rfl ?_)
        refine RL.N1 ?_; (with_reducible repeat (first | refine QN.B1 ?_ | refine QN.N1 ?_ | refine WP.S1 ?_ | refine WP.B1 ?_ | refine WP.R1 ?_))
        refine WP.ret ?_; (with_reducible repeat (first | refine QN.tr ?_ | refine QN.br ?_))
        refine QN.ret1 rfl rfl ⟨_, rfl, congrArg _ ?_, hE⟩
        simp [Idn.right, num, h1, h2, h3]
    · refine RL.eqv (v' := .bool false) (congrArg _ (by rw [dle x.c 9007199254740991 9007199254740991 rfl]; exact decide_eq_false h2)) ?_
      repeat (first | refine RL.pure T_ok 1 rfl ?_ | refine RL.load T_ok rfl rfl rfl (hB.cell _ rfl) rfl ?_)
      refine RL.N1 ?_; (with_reducible repeat (first | refine QN.B1 ?_ | refine QN.N1 ?_ | refine WP.S1 ?_ | refine WP.B1 ?_ | refine WP.R1 ?_))
      refine WP.ret ?_; (with_reducible repeat (first | refine QN.tr ?_ | refine QN.br ?_))
      refine QN.ret1 rfl rfl ⟨_, rfl, congrArg _ ?_, hE⟩
      simp [Idn.right, num, h1, h2]
  · refine RL.eqv (v' := .bool false) (congrArg _ (by rw [dge x.c 1 1 rfl]; exact decide_eq_false h1)) ?_
    repeat (first | refine RL.pure T_ok 1 rfl ?_ | refine RL.load T_ok rfl rfl rfl (hB.cell _ rfl) rfl ?_)
    refine RL.N1 ?_; (with_reducible repeat (first | refine QN.B1 ?_ | refine QN.N1 ?_ | refine WP.S1 ?_ | refine WP.B1 ?_ | refine WP.R1 ?_))
    refine WP.ret ?_; (with_reducible repeat (first | refine QN.tr ?_ | refine QN.br ?_))
    refine QN.ret1 rfl rfl ⟨_, rfl, congrArg _ ?_, hE⟩
    simp [Idn.right, num, h1]
theorem rightI_c (m : World) (x : Idn) : FnR Tryz.prog 78 [iV x] m fun r m' => r = .bool x.right ∧ Ext m [] m' := by
  refine FnE.enter ⟨_, Tryz.func78, by kernel_rfl, by kernel_rfl⟩ Tryz.func78 rfl rfl ?_
  (with_reducible repeat (first | refine WP.S1 ?_ | refine WP.B1 ?_ | refine WP.R1 ?_))
  refine RL.box rfl rfl (fun b m1 hb hC => ⟨_, rfl, ?_⟩)
  have hB : Blk m1 b 30 (iC x) := hC.here
  have hE : Ext m [] m1 := hC.new (by omega)
  clear hC
  refine RL.A1 T_ok rfl ?_
  refine RL.N1 ?_; (with_reducible repeat (first | refine QN.B1 ?_ | refine QN.N1 ?_ | refine WP.S1 ?_ | refine WP.B1 ?_ | refine WP.R1 ?_))
  repeat (first | refine RL.pure T_ok 1 rfl ?_ | refine RL.load T_ok rfl rfl rfl (hB.cell _ rfl) rfl ?_)
  refine RL.call (fi := []) (ca := []) rfl rfl rfl rfl (number_c m1 x.c) ?_
  rintro _ m2 ⟨rfl, rfl⟩
  refine ⟨_, rfl, ?_⟩
  refine RL.pure T_ok 1 rfl ?_
  by_cases h1 : num x.c = true
  · refine RL.eqv (v' := .bool true) (congrArg _ h1) ?_
    repeat (first | refine RL.pure T_ok 1 rfl ?_ | refine RL.load T_ok rfl rfl rfl (hB.cell _ rfl) rfl ?_)
    refine RL.call (fi := []) (ca := []) rfl rfl rfl rfl (number_c m2 x.k) ?_
    rintro _ m3 ⟨rfl, rfl⟩
    refine ⟨_, rfl, ?_⟩
    repeat (first | refine RL.pure T_ok 1 rfl ?_ | refine RL.load T_ok rfl rfl rfl (hB.cell _ rfl) rfl ?_)
    refine RL.N1 ?_; (with_reducible repeat (first | refine QN.B1 ?_ | refine QN.N1 ?_ | refine WP.S1 ?_ | refine WP.B1 ?_ | refine WP.R1 ?_))
    refine WP.ret ?_; (with_reducible repeat (first | refine QN.tr ?_ | refine QN.br ?_))
    refine QN.ret1 rfl rfl ⟨_, rfl, congrArg _ ?_, hE⟩
    simp [Idn.right, h1]
  · refine RL.eqv (v' := .bool false) (congrArg _ (Bool.not_eq_true _ ▸ h1)) ?_
    repeat (first | refine RL.pure T_ok 1 rfl ?_ | refine RL.load T_ok rfl rfl rfl (hB.cell _ rfl) rfl ?_)
    refine RL.N1 ?_; (with_reducible repeat (first | refine QN.B1 ?_ | refine QN.N1 ?_ | refine WP.S1 ?_ | refine WP.B1 ?_ | refine WP.R1 ?_))
    refine WP.ret ?_; (with_reducible repeat (first | refine QN.tr ?_ | refine QN.br ?_))
    refine QN.ret1 rfl rfl ⟨_, rfl, congrArg _ ?_, hE⟩
    simp [Idn.right, h1]
theorem less_c (m : World) (x y : Idn) : FnR Tryz.prog 184 [iV x, iV y] m fun r m' => r = .bool (x.lt y) ∧ Ext m [] m' := by
  refine FnE.enter ⟨_, Tryz.func184, by kernel_rfl, by kernel_rfl⟩ Tryz.func184 rfl rfl ?_
  (with_reducible repeat (first | refine WP.S1 ?_ | refine WP.B1 ?_ | refine WP.R1 ?_))
  refine RL.box rfl rfl (fun b m1 hb hC => ⟨_, rfl, ?_⟩)
  refine RL.box rfl rfl (fun b2 m2 hb2 hC2 => ⟨_, rfl, ?_⟩)
  have hE1 : Ext m [] m1 := hC.new (by omega)
  have hE2 : Ext m1 [] m2 := hC2.new (by omega)
  have s1 := hC.size
  have hB0 : Blk m1 b 30 (iC x) := hC.here
  have hB : Blk m2 b 30 (iC x) := hB0.ext hE2 (by simp)
  have hD : Blk m2 b2 30 (iC y) := hC2.here
  have hE : Ext m [] m2 := hE1.trans hE2 (by simp)
  clear hC hC2 hB0 hE1 hE2
  refine RL.A1 T_ok rfl ?_
  refine RL.N1 ?_; (with_reducible repeat (first | refine QN.B1 ?_ | refine QN.N1 ?_ | refine WP.S1 ?_ | refine WP.B1 ?_ | refine WP.R1 ?_))
  repeat (first | refine RL.pure T_ok 1 rfl ?_ | refine RL.load T_ok rfl rfl rfl (hB.cell _ rfl) rfl ?_ | refine RL.load T_ok rfl rfl rfl (hD.cell _ rfl) rfl ?_)
  by_cases h1 : x.c < y.c
  · refine RL.eqv (v' := .bool true) (congrArg _ (by rw [dlt]; exact decide_eq_true h1)) ?_
    repeat (first | refine RL.pure T_ok 1 rfl ?_ | refine RL.load T_ok rfl rfl rfl (hB.cell _ rfl) rfl ?_ | refine RL.load T_ok rfl rfl rfl (hD.cell _ rfl) rfl ?_)
    refine RL.N1 ?_; (with_reducible repeat (first | refine QN.B1 ?_ | refine QN.N1 ?_ | refine WP.S1 ?_ | refine WP.B1 ?_ | refine WP.R1 ?_))
    refine WP.ret ?_; (with_reducible repeat (first | refine QN.tr ?_ | refine QN.br ?_))
    refine QN.ret1 rfl rfl ⟨_, rfl, congrArg _ ?_, hE⟩
    simp [Idn.lt, h1]
  · refine RL.eqv (v' := .bool false) (congrArg _ (by rw [dlt]; exact decide_eq_false h1)) ?_
    repeat (first | refine RL.pure T_ok 1 rfl ?_ | refine RL.load T_ok rfl rfl rfl (hB.cell _ rfl) rfl ?_ | refine RL.load T_ok rfl rfl rfl (hD.cell _ rfl) rfl ?_)
    by_cases h2 : x.c = y.c
    · refine RL.eqv (v' := .bool true) (congrArg _ (by rw [deq]; exact decide_eq_true h2)) ?_
      repeat (first | refine RL.pure T_ok 1 rfl ?_ | refine RL.load T_ok rfl rfl rfl (hB.cell _ rfl) rfl ?_ | refine RL.load T_ok rfl rfl rfl (hD.cell _ rfl) rfl ?_)
      refine RL.N1 ?_; (with_reducible repeat (first | refine QN.B1 ?_ | refine QN.N1 ?_ | refine WP.S1 ?_ | refine WP.B1 ?_ | refine WP.R1 ?_))
      refine WP.ret ?_; (with_reducible repeat (first | refine QN.tr ?_ | refine QN.br ?_))
      refine QN.ret1 rfl rfl ⟨_, rfl, congrArg _ ?_, hE⟩
      rw [dlt]; simp [Idn.lt, h2]
    · refine RL.eqv (v' := .bool false) (congrArg _ (by rw [deq]; exact decide_eq_false h2)) ?_
      repeat (first | refine RL.pure T_ok 1 rfl ?_ | refine RL.load T_ok rfl rfl rfl (hB.cell _ rfl) rfl ?_ | refine RL.load T_ok rfl rfl rfl (hD.cell _ rfl) rfl ?_)
      refine RL.N1 ?_; (with_reducible repeat (first | refine QN.B1 ?_ | refine QN.N1 ?_ | refine WP.S1 ?_ | refine WP.B1 ?_ | refine WP.R1 ?_))
      refine WP.ret ?_; (with_reducible repeat (first | refine QN.tr ?_ | refine QN.br ?_))
      refine QN.ret1 rfl rfl ⟨_, rfl, congrArg _ ?_, hE⟩
      simp [Idn.lt, h1, h2]
end Go.Proofs.YtgpgladbdoimdaaGreatDoor
end
section
namespace Go.Mrg
open Go.Sort
variable {α : Type}
end Go.Mrg
end
section
namespace Go.Ev
open Go.RowKit
section
variable {P : Program} {ops : Array Oper} {Q : Exit → Act → World → Prop} {J : World → Prop} {fin : List Nat} {fuel : Nat} {listed : Array Bool} {rest : List Oper} {n : Nat} {e e' : Env} {D : Fr} {ds : List Deferred} {m : World}
  {d : Option Tmp} {x y : Operand} {t yt ty : TypeId} {pos : String} {aft : Array Edge} {g : Option (Nat × Bool)} {op : BinOp} {a b v : Value}
theorem binOp_run (hr : ∀ w, (binOp op t a b).run P w = .ok v w) (hq : ∀ w, (eqGuard op t x y a b).run P w = .ok () w) {ac : Act} (hf : Fits n e D ac) (hx : e.ev x = some a) (hy : e.ev y = some b) (w : World) :
    (execOp ac.eval (⟨d, .binOp op t x y yt, ty, pos, aft, g⟩ : Oper)).run P w = .ok (.value v) w := by
  unfold execOp
  simp [hf.ev hx, hf.ev hy, hr, hq]
theorem RL.binOp (hr : ∀ w, (Go.binOp op t a b).run P w = .ok v w) (hq : ∀ w, (eqGuard op t x y a b).run P w = .ok () w) (hg : gd ops e ⟨d, .binOp op t x y yt, ty, pos, aft, g⟩ = some true) (hx : e.ev x = some a) (hy : e.ev y = some b)
    (hp : putE n d v e = some e') (h : RL P ops Q rest n e' D m) : RL P ops Q (⟨d, .binOp op t x y yt, ty, pos, aft, g⟩ :: rest) n e D m :=
  RL.value v hg (fun _ w hf _ => binOp_run hr hq hf hx hy w) hp h
theorem RH.binOp (hr : ∀ w, (Go.binOp op t a b).run P w = .ok v w) (hq : ∀ w, (eqGuard op t x y a b).run P w = .ok () w) (hQ : PanicOk Q) (i : Nat) (hi : ops[i]? = some ⟨d, .binOp op t x y yt, ty, pos, aft, g⟩) (hB : (plainOps ops && takesB ops fin listed [i]) = true)
    (hg : gd ops e ⟨d, .binOp op t x y yt, ty, pos, aft, g⟩ = some true) (hx : e.ev x = some a) (hy : e.ev y = some b)
    (hp : putE n d v e = some e') (h : RH P ops Q J fin fuel (listed.setIfInBounds i true) n e' D m) : RH P ops Q J fin (fuel + 1) listed n e D m := by
  simp only [takesB, Bool.and_eq_true, Bool.and_true] at hB
  exact RH.take hi hB.1 hB.2.1 hB.2.2 hQ (fun ac hf => .inl ⟨gd_sound hf hg, fun w _ => binOp_run hr hq hf hx hy w⟩) hp h
end
end Go.Ev
end
section
namespace Go.Proofs.YtgpgladbdoimdaaGreatDoor
open Go.RowKit Go.Ev Go.Ids
theorem bne_nat' (a b : Nat) : ((a : Int) != (b : Int)) = decide (a ≠ b) := by
  by_cases h : a = b
  · simp [h]
  · have : ¬ (a : Int) = (b : Int) := by omega
    simp [h, bne, beq_eq_false_iff_ne.2 this]
theorem rsC_len : ∀ l : List Rng, (l.flatMap rC).length = l.length * 3
  | [] => rfl
  | x :: l => by simp [rC, rsC_len l]; omega
theorem rsC_get : ∀ (l : List Rng) (k : Nat) (h : k < l.length) (j : Nat), j < 3 → (l.flatMap rC)[k * 3 + j]? = (rC l[k])[j]?
  | x :: l, 0, _, j, hj => by
    rw [List.flatMap_cons, List.getElem?_append_left (by simp [rC]; omega)]
    simp
  | x :: l, k + 1, h, j, hj => by
    rw [List.flatMap_cons, List.getElem?_append_right (by simp [rC]; omega)]
    have : (k + 1) * 3 + j - (rC x).length = k * 3 + j := by simp [rC]; omega
    rw [this, rsC_get l k (by simpa using h) j hj]
    simp
theorem rsC_one (l : List Rng) : ∀ u ∈ l.flatMap rC, u.oneCell' = true := by
  intro u hu
  obtain ⟨x, _, hx⟩ := List.mem_flatMap.1 hu
  simp [rC] at hx
  rcases hx with rfl | rfl | rfl <;> rfl
def Rs (m : World) (M : List Nat) (v : Value) (l : List Rng) : Prop := Sl m M 3 v (l.flatMap rC)
theorem Rs.shape {m : World} {M : List Nat} {v : Value} {l : List Rng} (h : Rs m M v l) : ∃ A c, v = .slice A l.length c ∧ l.length ≤ c ∧ c ≤ maxLen := Sl.shape h (rsC_len l) (by omega)
theorem Rs.ext0 {m m' : World} {v : Value} {l : List Rng} (h : Rs m [] v l) (hE : Ext m [] m') : Rs m' [] v l := Sl.ext h hE (by simp) (by omega)
theorem Rs.cell {m : World} {M : List Nat} {A : Option Addr} {n c : Nat} {l : List Rng} (h : Rs m M (.slice A n c) l) (k : Nat) (hk : k < l.length) : ∃ ad, A = some ad ∧ ∀ j u, (rC l[k])[j]? = some u → m.cell? ((ad.add (k * 3)).add j) = some u := by
  obtain ⟨hl, _⟩ := Sl.len h
  rw [rsC_len] at hl
  obtain ⟨ad, rfl, _, hc⟩ := Sl.addr h (by omega)
  refine ⟨ad, rfl, fun j u hu => ?_⟩
  have hj : j < 3 := by have := (List.getElem?_eq_some_iff.1 hu).1; simpa [rC] using this
  rw [add_add]
  exact hc _ u (by rw [rsC_get l k hk j hj]; exact hu)
theorem indexF_c (m : World) (v : Value) (l : List Rng) (h : Rs m [] v l) (hl : l.length < 1000000000) (k : FuncId) (ca : List Value) (p : Rng → Bool) (hf : ∀ m1 x, Ext m [] m1 → FnR Tryz.prog k (rV x :: ca) m1 fun r m2 => r = .bool (p x) ∧ Ext m1 [] m2) :
    FnR Tryz.prog 140 [v, .func (.func k) #[] ca.toArray] m fun r m' => (∃ z : Int, r = .int .i64 z ∧ (0 ≤ z ↔ l.any p = true)) ∧ Ext m [] m' := by
  obtain ⟨A, c, rfl, _, _⟩ := h.shape
  refine FnE.enter ⟨_, Tryz.func140, by kernel_rfl, by kernel_rfl⟩ Tryz.func140 rfl rfl ?_
  (with_reducible repeat (first | refine WP.S1 ?_ | refine WP.B1 ?_ | refine WP.R1 ?_))
  refine RL.A1 T_ok rfl ?_
  refine RL.N1 ?_; (with_reducible repeat (first | refine QN.B1 ?_ | refine QN.N1 ?_ | refine WP.S1 ?_ | refine WP.B1 ?_ | refine WP.R1 ?_))
  refine RL.A1 T_ok rfl ?_
  refine RL.N1 ?_; (with_reducible repeat (first | refine QN.B1 ?_ | refine QN.N1 ?_ | refine WP.S1 ?_ | refine WP.B1 ?_ | refine WP.R1 ?_))
  refine WP.loop (X := Nat) (fun i => [(0, .slice A l.length c), (1, .func (.func k) #[] ca.toArray), (7, .int .i64 l.length), (8, .int .i64 i)]) (fun i m' => i ≤ l.length ∧ (l.take i).any p = false ∧ Ext m [] m') (fun i => l.length - i) 0
    (Sub.C1 rfl (Sub.C1 rfl (Sub.C1 rfl (Sub.C1 rfl Sub.nil)))) ⟨by simp, by simp, Ext.refl _ _⟩ ?_
  rintro i m1 ⟨hi, ht, hE⟩
  (with_reducible repeat (first | refine WP.S1 ?_ | refine WP.B1 ?_ | refine WP.R1 ?_))
  refine RL.A1 T_ok rfl ?_
  refine RL.N1 ?_; (with_reducible repeat (first | refine QN.B1 ?_ | refine QN.N1 ?_ | refine WP.S1 ?_ | refine WP.B1 ?_ | refine WP.R1 ?_))
  refine WP.cond rfl (fun hc => ?_) (fun hc => ?_)
  · have hc : i < l.length := by have := of_decide_eq_true hc; omega
    obtain ⟨ad, rfl, hx⟩ := (h.ext0 hE).cell i hc
    refine WP.skip ?_; (with_reducible repeat (first | refine QN.B1 ?_ | refine QN.N1 ?_ | refine WP.S1 ?_ | refine WP.B1 ?_ | refine WP.R1 ?_))
    refine RL.A1 T_ok rfl ?_
    refine RL.N1 ?_; (with_reducible repeat (first | refine QN.B1 ?_ | refine QN.N1 ?_ | refine WP.S1 ?_ | refine WP.B1 ?_ | refine WP.R1 ?_))
    refine RL.A1 T_ok rfl ?_
    refine RL.indexAddr (k := i) T_ok rfl rfl rfl rfl rfl rfl rfl hc rfl ?_
    refine RL.loadAgg T_ok (rC l[i]) rfl rfl rfl hx rfl ?_
    refine RL.call (fi := []) (ca := ca) rfl rfl rfl rfl (hf m1 l[i] hE) ?_
    rintro _ m2 ⟨rfl, hE2⟩
    refine ⟨_, rfl, ?_⟩
    have hEm := hE.trans hE2 (by simp)
    refine RL.N1 ?_; (with_reducible repeat (first | refine QN.B1 ?_ | refine QN.N1 ?_ | refine WP.S1 ?_ | refine WP.B1 ?_ | refine WP.R1 ?_))
    refine WP.cond rfl (fun hp => ?_) (fun hp => ?_)
    · (with_reducible repeat (first | refine WP.S1 ?_ | refine WP.B1 ?_ | refine WP.R1 ?_))
      refine RL.A1 T_ok rfl ?_
      refine RL.N1 ?_; (with_reducible repeat (first | refine QN.B1 ?_ | refine QN.N1 ?_ | refine WP.S1 ?_ | refine WP.B1 ?_ | refine WP.R1 ?_))
      refine WP.ret ?_; (with_reducible repeat (first | refine QN.tr ?_ | refine QN.br ?_))
      refine QN.ret1 rfl rfl ⟨_, rfl, ⟨(i : Int), rfl, fun _ => ?_, fun _ => by omega⟩, hEm⟩
      exact List.any_eq_true.2 ⟨l[i], List.getElem_mem _, hp⟩
    · refine WP.skip ?_; (with_reducible repeat (first | refine QN.B1 ?_ | refine QN.N1 ?_ | refine WP.S1 ?_ | refine WP.B1 ?_ | refine WP.R1 ?_))
      refine RL.A1 T_ok rfl ?_
      refine RL.N1 (QN.round (i + 1) (Sub.C1 rfl (Sub.C1 rfl (Sub.C1 rfl (Sub.C1 ?_ Sub.nil)))) ⟨by omega, ?_, hEm⟩ (by omega))
      · show some (Value.int .i64 (IntKind.i64.wrap ((i : Int) + 1))) = some (Value.int .i64 ((i + 1 : Nat) : Int))
        rw [wrap_i64_in _ (by omega) (by omega)]; rfl
      · rw [List.take_succ_eq_append_getElem hc, List.any_append, ht]
        simp [hp]
  · have hc : i = l.length := by have := of_decide_eq_false hc; omega
    subst hc
    rw [List.take_length] at ht
    refine WP.exit ?_; (with_reducible repeat (first | refine QN.tx ?_ | refine QN.bx ?_ | refine QN.block_far rfl ?_ | refine QN.B1 ?_ | refine QN.N1 ?_)); (with_reducible repeat (first | refine WP.S1 ?_ | refine WP.B1 ?_ | refine WP.R1 ?_))
    refine RL.A1 T_ok rfl ?_
    refine RL.N1 ?_; (with_reducible repeat (first | refine QN.B1 ?_ | refine QN.N1 ?_ | refine WP.S1 ?_ | refine WP.B1 ?_ | refine WP.R1 ?_))
    refine WP.ret ?_; (with_reducible repeat (first | refine QN.tr ?_ | refine QN.br ?_))
    exact QN.ret1 rfl rfl ⟨_, rfl, ⟨-1, rfl, fun h => absurd h (by omega), fun h => by rw [ht] at h; cases h⟩, hE⟩
theorem containsF_c (m : World) (v : Value) (l : List Rng) (h : Rs m [] v l) (hl : l.length < 1000000000) (k : FuncId) (ca : List Value) (p : Rng → Bool) (hf : ∀ m1 x, Ext m [] m1 → FnR Tryz.prog k (rV x :: ca) m1 fun r m2 => r = .bool (p x) ∧ Ext m1 [] m2) :
    FnR Tryz.prog 91 [v, .func (.func k) #[] ca.toArray] m fun r m' => r = .bool (l.any p) ∧ Ext m [] m' := by
  refine FnE.enter ⟨_, Tryz.func91, by kernel_rfl, by kernel_rfl⟩ Tryz.func91 rfl rfl ?_
  (with_reducible repeat (first | refine WP.S1 ?_ | refine WP.B1 ?_ | refine WP.R1 ?_))
  refine RL.A1 T_ok rfl ?_
  refine RL.N1 ?_; (with_reducible repeat (first | refine QN.B1 ?_ | refine QN.N1 ?_ | refine WP.S1 ?_ | refine WP.B1 ?_ | refine WP.R1 ?_))
  refine RL.A1 T_ok rfl ?_
  refine RL.call (fi := []) (ca := []) rfl rfl rfl rfl (indexF_c m v l h hl k ca p hf) ?_
  rintro _ m1 ⟨⟨z, rfl, hz⟩, hE⟩
  refine ⟨_, rfl, ?_⟩
  refine RL.A1 T_ok rfl ?_
  refine RL.N1 ?_; (with_reducible repeat (first | refine QN.B1 ?_ | refine QN.N1 ?_ | refine WP.S1 ?_ | refine WP.B1 ?_ | refine WP.R1 ?_))
  refine WP.ret ?_; (with_reducible repeat (first | refine QN.tr ?_ | refine QN.br ?_))
  refine QN.ret1 rfl rfl ⟨_, rfl, congrArg _ ?_, hE⟩
  cases hp : l.any p with
  | true => exact decide_eq_true (hz.2 hp)
  | false => exact decide_eq_false (fun h => by rw [hz.1 h] at hp; cases hp)
def inR (id : Idn) (r : Rng) : Bool := r.right && (decide (r.c = id.c) && (decide (r.f ≤ id.k) && decide (id.k < r.t)))
theorem has1_c (m : World) (x : Rng) (id : Idn) (bi : Nat) (hI : Blk m bi 30 (iC id)) : FnR Tryz.prog 92 [rV x, .pointer (some ⟨bi, 0, none⟩)] m fun r m' => r = .bool (inR id x) ∧ Ext m [] m' := by
  refine FnE.enter ⟨_, Tryz.func92, by kernel_rfl, by kernel_rfl⟩ Tryz.func92 rfl rfl ?_
  (with_reducible repeat (first | refine WP.S1 ?_ | refine WP.B1 ?_ | refine WP.R1 ?_))
  refine RL.box rfl rfl (fun b m1 hb hC => ⟨_, rfl, ?_⟩)
  have hB1 : Blk m1 b 167 (rC x) := hC.here
  have hE1 : Ext m [] m1 := hC.new (by omega)
  have hI1 := hI.ext hE1 (by simp)
  clear hC
  refine RL.A1 T_ok rfl ?_
  refine RL.N1 ?_; (with_reducible repeat (first | refine QN.B1 ?_ | refine QN.N1 ?_ | refine WP.S1 ?_ | refine WP.B1 ?_ | refine WP.R1 ?_))
  refine RL.loadAgg T_ok (rC x) rfl rfl rfl (fun j u hu => by rw [add_block]; exact hB1.cell _ (by simpa using hu)) rfl ?_
  refine RL.call (fi := []) (ca := []) rfl rfl rfl rfl (right_c m1 x) ?_
  rintro _ m2 ⟨rfl, hE2⟩
  refine ⟨_, rfl, ?_⟩
  have hB := hB1.ext hE2 (by simp)
  have hD := hI1.ext hE2 (by simp)
  have hE := hE1.trans hE2 (by simp)
  clear hB1 hI1 hE1 hE2
  refine RL.pure T_ok 1 rfl ?_
  by_cases h1 : x.right = true
  · refine RL.eqv (v' := .bool true) (congrArg _ h1) ?_
    repeat (first | refine RL.pure T_ok 1 rfl ?_ | refine RL.load T_ok rfl rfl rfl (hB.cell _ rfl) rfl ?_ | refine RL.load T_ok rfl rfl rfl (hD.cell _ rfl) rfl ?_)
    by_cases h2 : x.c = id.c
    · refine RL.eqv (v' := .bool true) (congrArg _ (by rw [deq]; exact decide_eq_true h2)) ?_
      repeat (first | refine RL.pure T_ok 1 rfl ?_ | refine RL.load T_ok rfl rfl rfl (hB.cell _ rfl) rfl ?_ | refine RL.load T_ok rfl rfl rfl (hD.cell _ rfl) rfl ?_)
      by_cases h3 : x.f ≤ id.k
      · refine RL.eqv (v' := .bool true) (congrArg _ (by rw [dle x.f id.k id.k rfl]; exact decide_eq_true h3)) ?_
        repeat (first | refine RL.pure T_ok 1 rfl ?_ | refine RL.load T_ok rfl rfl rfl (hB.cell _ rfl) rfl ?_ | refine RL.load T_ok rfl rfl rfl (hD.cell _ rfl) rfl ?_)
        refine RL.N1 ?_; (with_reducible repeat (first | refine QN.B1 ?_ | refine QN.N1 ?_ | refine WP.S1 ?_ | refine WP.B1 ?_ | refine WP.R1 ?_))
        refine WP.ret ?_; (with_reducible repeat (first | refine QN.tr ?_ | refine QN.br ?_))
        refine QN.ret1 rfl rfl ⟨_, rfl, congrArg _ ?_, hE⟩
        rw [dlt]; simp [inR, h1, h2, h3]
      · refine RL.eqv (v' := .bool false) (congrArg _ (by rw [dle x.f id.k id.k rfl]; exact decide_eq_false h3)) ?_
        repeat (first | refine RL.pure T_ok 1 rfl ?_ | refine RL.load T_ok rfl rfl rfl (hB.cell _ rfl) rfl ?_ | refine RL.load T_ok rfl rfl rfl (hD.cell _ rfl) rfl ?_)
        refine RL.N1 ?_; (with_reducible repeat (first | refine QN.B1 ?_ | refine QN.N1 ?_ | refine WP.S1 ?_ | refine WP.B1 ?_ | refine WP.R1 ?_))
        refine WP.ret ?_; (with_reducible repeat (first | refine QN.tr ?_ | refine QN.br ?_))
        refine QN.ret1 rfl rfl ⟨_, rfl, congrArg _ ?_, hE⟩
        simp [inR, h1, h2, h3]
    · refine RL.eqv (v' := .bool false) (congrArg _ (by rw [deq]; exact decide_eq_false h2)) ?_
      repeat (first | refine RL.pure T_ok 1 rfl ?_ | refine RL.load T_ok rfl rfl rfl (hB.cell _ rfl) rfl ?_ | refine RL.load T_ok rfl rfl rfl (hD.cell _ rfl) rfl ?_)
      refine RL.N1 ?_; (with_reducible repeat (first | refine QN.B1 ?_ | refine QN.N1 ?_ | refine WP.S1 ?_ | refine WP.B1 ?_ | refine WP.R1 ?_))
      refine WP.ret ?_; (with_reducible repeat (first | refine QN.tr ?_ | refine QN.br ?_))
      refine QN.ret1 rfl rfl ⟨_, rfl, congrArg _ ?_, hE⟩
      simp [inR, h1, h2]
  · refine RL.eqv (v' := .bool false) (congrArg _ (Bool.not_eq_true _ ▸ h1)) ?_
    repeat (first | refine RL.pure T_ok 1 rfl ?_ | refine RL.load T_ok rfl rfl rfl (hB.cell _ rfl) rfl ?_ | refine RL.load T_ok rfl rfl rfl (hD.cell _ rfl) rfl ?_)
    refine RL.N1 ?_; (with_reducible repeat (first | refine QN.B1 ?_ | refine QN.N1 ?_ | refine WP.S1 ?_ | refine WP.B1 ?_ | refine WP.R1 ?_))
    refine WP.ret ?_; (with_reducible repeat (first | refine QN.tr ?_ | refine QN.br ?_))
    refine QN.ret1 rfl rfl ⟨_, rfl, congrArg _ ?_, hE⟩
    simp [inR, h1]
def hasB (l : List Rng) (id : Idn) : Bool := id.right && l.any (inR id)
theorem has_c (m : World) (v : Value) (l : List Rng) (h : Rs m [] v l) (hl : l.length < 1000000000) (id : Idn) : FnR Tryz.prog 44 [v, iV id] m fun r m' => r = .bool (hasB l id) ∧ Ext m [] m' := by
  refine FnE.enter ⟨_, Tryz.func44, by kernel_rfl, by kernel_rfl⟩ Tryz.func44 rfl rfl ?_
  (with_reducible repeat (first | refine WP.S1 ?_ | refine WP.B1 ?_ | refine WP.R1 ?_))
  refine RL.box rfl rfl (fun b m1 hb hC => ⟨_, rfl, ?_⟩)
  have hB1 : Blk m1 b 30 (iC id) := hC.here
  have hE1 : Ext m [] m1 := hC.new (by omega)
  clear hC
  refine RL.A1 T_ok rfl ?_
  refine RL.N1 ?_; (with_reducible repeat (first | refine QN.B1 ?_ | refine QN.N1 ?_ | refine WP.S1 ?_ | refine WP.B1 ?_ | refine WP.R1 ?_))
  refine RL.loadAgg T_ok (iC id) rfl rfl rfl (fun j u hu => by rw [add_block]; exact hB1.cell _ (by simpa using hu)) rfl ?_
  refine RL.call (fi := []) (ca := []) rfl rfl rfl rfl (rightI_c m1 id) ?_
  rintro _ m2 ⟨rfl, hE2⟩
  refine ⟨_, rfl, ?_⟩
  have hB := hB1.ext hE2 (by simp)
  have hE := hE1.trans hE2 (by simp)
  clear hB1 hE1 hE2
  refine RL.pure T_ok 1 rfl ?_
  by_cases h1 : id.right = true
  · refine RL.eqv (v' := .bool true) (congrArg _ h1) ?_
    refine RL.A1 T_ok rfl ?_
    refine RL.call (fi := []) (ca := []) rfl rfl rfl rfl (containsF_c m2 v l (h.ext0 hE) hl 92 [.pointer (some ⟨b, 0, none⟩)] (inR id) (fun m3 x hE3 => has1_c m3 x id b (hB.ext hE3 (by simp)))) ?_
    rintro _ m3 ⟨rfl, hE3⟩
    refine ⟨_, rfl, ?_⟩
    refine RL.A1 T_ok rfl ?_
    refine RL.N1 ?_; (with_reducible repeat (first | refine QN.B1 ?_ | refine QN.N1 ?_ | refine WP.S1 ?_ | refine WP.B1 ?_ | refine WP.R1 ?_))
    refine WP.ret ?_; (with_reducible repeat (first | refine QN.tr ?_ | refine QN.br ?_))
    refine QN.ret1 rfl rfl ⟨_, rfl, congrArg _ ?_, hE.trans hE3 (by simp)⟩
    simp [hasB, h1]
  · refine RL.eqv (v' := .bool false) (congrArg _ (Bool.not_eq_true _ ▸ h1)) ?_
    refine RL.A1 T_ok rfl ?_
    refine RL.N1 ?_; (with_reducible repeat (first | refine QN.B1 ?_ | refine QN.N1 ?_ | refine WP.S1 ?_ | refine WP.B1 ?_ | refine WP.R1 ?_))
    refine WP.ret ?_; (with_reducible repeat (first | refine QN.tr ?_ | refine QN.br ?_))
    refine QN.ret1 rfl rfl ⟨_, rfl, congrArg _ ?_, hE⟩
    simp [hasB, h1]
end Go.Proofs.YtgpgladbdoimdaaGreatDoor
end
section
namespace Go.Proofs.YtgpgladbdoimdaaGreatDoor
open Go.RowKit Go.Ev Go.Ids
def cmpN (a b : Nat) : Int := if a < b then -1 else if b < a then 1 else 0
theorem isNaN_c (m : World) (a : Nat) : FnR Tryz.prog 215 [.int .u64 a] m fun r m' => r = .bool false ∧ m' = m := by
  refine FnE.enter ⟨_, Tryz.func215, by kernel_rfl, by kernel_rfl⟩ Tryz.func215 rfl rfl ?_
  (with_reducible repeat (first | refine WP.S1 ?_ | refine WP.B1 ?_ | refine WP.R1 ?_))
  refine RL.A1 T_ok rfl ?_
  refine RL.N1 ?_; (with_reducible repeat (first | refine QN.B1 ?_ | refine QN.N1 ?_ | refine WP.S1 ?_ | refine WP.B1 ?_ | refine WP.R1 ?_))
  refine RL.pure T_ok 3 rfl ?_
  refine RL.eqv (v' := .bool false) (congrArg _ (by simp)) ?_
  refine RL.A1 T_ok rfl ?_
  refine RL.N1 ?_; (with_reducible repeat (first | refine QN.B1 ?_ | refine QN.N1 ?_ | refine WP.S1 ?_ | refine WP.B1 ?_ | refine WP.R1 ?_))
  refine WP.ret ?_; (with_reducible repeat (first | refine QN.tr ?_ | refine QN.br ?_))
  exact QN.ret1 rfl rfl ⟨_, rfl, rfl, rfl⟩
theorem compare_c (m : World) (a b : Nat) : FnR Tryz.prog 173 [.int .u64 a, .int .u64 b] m fun r m' => r = .int .i64 (cmpN a b) ∧ m' = m := by
  refine FnE.enter ⟨_, Tryz.func173, by kernel_rfl, by kernel_rfl⟩ Tryz.func173 rfl rfl ?_
  (with_reducible repeat (first | refine WP.S1 ?_ | refine WP.B1 ?_ | refine WP.R1 ?_))
  refine RL.A1 T_ok rfl ?_
  refine RL.N1 ?_; (with_reducible repeat (first | refine QN.B1 ?_ | refine QN.N1 ?_ | refine WP.S1 ?_ | refine WP.B1 ?_ | refine WP.R1 ?_))
  refine RL.A1 T_ok rfl ?_
  refine RL.call (fi := []) (ca := []) rfl rfl rfl rfl (isNaN_c m a) ?_
  rintro _ m1 ⟨rfl, rfl⟩
  refine ⟨_, rfl, ?_⟩
  refine RL.A1 T_ok rfl ?_
  refine RL.N1 ?_; (with_reducible repeat (first | refine QN.B1 ?_ | refine QN.N1 ?_ | refine WP.S1 ?_ | refine WP.B1 ?_ | refine WP.R1 ?_))
  refine RL.A1 T_ok rfl ?_
  refine RL.call (fi := []) (ca := []) rfl rfl rfl rfl (isNaN_c m1 b) ?_
  rintro _ m2 ⟨rfl, rfl⟩
  refine ⟨_, rfl, ?_⟩
  refine RL.A1 T_ok rfl ?_
  refine RL.N1 ?_; (with_reducible repeat (first | refine QN.B1 ?_ | refine QN.N1 ?_ | refine WP.S1 ?_ | refine WP.B1 ?_ | refine WP.R1 ?_))
  refine RL.A1 T_ok rfl ?_
  refine RL.N1 ?_; (with_reducible repeat (first | refine QN.B1 ?_ | refine QN.N1 ?_ | refine WP.S1 ?_ | refine WP.B1 ?_ | refine WP.R1 ?_))
  refine WP.condF rfl ?_
  refine WP.skip ?_; (with_reducible repeat (first | refine QN.B1 ?_ | refine QN.N1 ?_ | refine WP.S1 ?_ | refine WP.B1 ?_ | refine WP.R1 ?_))
  refine RL.A1 T_ok rfl ?_
  refine RL.N1 ?_; (with_reducible repeat (first | refine QN.B1 ?_ | refine QN.N1 ?_ | refine WP.S1 ?_ | refine WP.B1 ?_ | refine WP.R1 ?_))
  refine WP.condF rfl ?_
  refine WP.skip ?_; (with_reducible repeat (first | refine QN.B1 ?_ | refine QN.N1 ?_ | refine WP.S1 ?_ | refine WP.B1 ?_ | refine WP.R1 ?_))
  refine RL.A1 T_ok rfl ?_
  refine RL.N1 ?_; (with_reducible repeat (first | refine QN.B1 ?_ | refine QN.N1 ?_ | refine WP.S1 ?_ | refine WP.B1 ?_ | refine WP.R1 ?_))
  refine WP.cond rfl (fun hc => ?_) (fun hc => ?_)
  · have hc : a < b := by have := of_decide_eq_true hc; omega
    (with_reducible repeat (first | refine WP.S1 ?_ | refine WP.B1 ?_ | refine WP.R1 ?_))
    refine RL.A1 T_ok rfl ?_
    refine RL.N1 ?_; (with_reducible repeat (first | refine QN.B1 ?_ | refine QN.N1 ?_ | refine WP.S1 ?_ | refine WP.B1 ?_ | refine WP.R1 ?_))
    refine WP.ret ?_; (with_reducible repeat (first | refine QN.tr ?_ | refine QN.br ?_))
    exact QN.ret1 rfl rfl ⟨_, rfl, by rw [cmpN, if_pos hc], rfl⟩
  have hc : ¬ a < b := by have := of_decide_eq_false hc; omega
  refine WP.skip ?_; (with_reducible repeat (first | refine QN.B1 ?_ | refine QN.N1 ?_ | refine WP.S1 ?_ | refine WP.B1 ?_ | refine WP.R1 ?_))
  refine RL.A1 T_ok rfl ?_
  refine RL.N1 ?_; (with_reducible repeat (first | refine QN.B1 ?_ | refine QN.N1 ?_ | refine WP.S1 ?_ | refine WP.B1 ?_ | refine WP.R1 ?_))
  refine WP.cond rfl (fun hc2 => ?_) (fun hc2 => ?_)
  · have hc2 : b < a := by have := of_decide_eq_true hc2; omega
    (with_reducible repeat (first | refine WP.S1 ?_ | refine WP.B1 ?_ | refine WP.R1 ?_))
    refine RL.A1 T_ok rfl ?_
    refine RL.N1 ?_; (with_reducible repeat (first | refine QN.B1 ?_ | refine QN.N1 ?_ | refine WP.S1 ?_ | refine WP.B1 ?_ | refine WP.R1 ?_))
    refine WP.ret ?_; (with_reducible repeat (first | refine QN.tr ?_ | refine QN.br ?_))
    exact QN.ret1 rfl rfl ⟨_, rfl, by rw [cmpN, if_neg hc, if_pos hc2], rfl⟩
  · have hc2 : ¬ b < a := by have := of_decide_eq_false hc2; omega
    refine WP.skip ?_; (with_reducible repeat (first | refine QN.B1 ?_ | refine QN.N1 ?_ | refine WP.S1 ?_ | refine WP.B1 ?_ | refine WP.R1 ?_))
    refine RL.A1 T_ok rfl ?_
    refine RL.N1 ?_; (with_reducible repeat (first | refine QN.B1 ?_ | refine QN.N1 ?_ | refine WP.S1 ?_ | refine WP.B1 ?_ | refine WP.R1 ?_))
    refine WP.ret ?_; (with_reducible repeat (first | refine QN.tr ?_ | refine QN.br ?_))
    exact QN.ret1 rfl rfl ⟨_, rfl, by rw [cmpN, if_neg hc, if_neg hc2], rfl⟩
theorem or_c (m : World) (v : Value) (a b : Int) (h : Sl m [] 1 v [.int .i64 a, .int .i64 b]) : FnR Tryz.prog 172 [v] m fun r m' => r = .int .i64 (if a = 0 then b else a) ∧ m' = m := by
  obtain ⟨A, c, rfl, hlc, _⟩ := h.shape (n := 2) rfl (by omega)
  refine FnE.enter ⟨_, Tryz.func172, by kernel_rfl, by kernel_rfl⟩ Tryz.func172 rfl rfl ?_
  (with_reducible repeat (first | refine WP.S1 ?_ | refine WP.B1 ?_ | refine WP.R1 ?_))
  refine RL.A1 T_ok rfl ?_
  refine RL.N1 ?_; (with_reducible repeat (first | refine QN.B1 ?_ | refine QN.N1 ?_ | refine WP.S1 ?_ | refine WP.B1 ?_ | refine WP.R1 ?_))
  refine RL.A1 T_ok rfl ?_
  refine RL.N1 ?_; (with_reducible repeat (first | refine QN.B1 ?_ | refine QN.N1 ?_ | refine WP.S1 ?_ | refine WP.B1 ?_ | refine WP.R1 ?_))
  refine RL.A1 T_ok rfl ?_
  refine RL.N1 ?_; (with_reducible repeat (first | refine QN.B1 ?_ | refine QN.N1 ?_ | refine WP.S1 ?_ | refine WP.B1 ?_ | refine WP.R1 ?_))
  refine WP.loop (X := Nat) (fun i => [(6, .slice A 2 c), (7, .int .i64 2), (3, .int .i64 0), (8, .int .i64 i)]) (fun i m' => i ≤ 2 ∧ m' = m ∧ (1 ≤ i → a = 0) ∧ (2 ≤ i → b = 0)) (fun i => 2 - i) 0
    (Sub.C1 rfl (Sub.C1 rfl (Sub.C1 rfl (Sub.C1 rfl Sub.nil)))) ⟨by omega, rfl, fun h => absurd h (by omega), fun h => absurd h (by omega)⟩ ?_
  rintro i m1 ⟨hi, rfl, h1, h2⟩
  have step : ∀ (x : Int) (hx : [Value.int .i64 a, Value.int .i64 b][i]? = some (.int .i64 x)) (hlt : i < 2), (x ≠ 0 → (if a = 0 then b else a) = x) → (x = 0 → (1 ≤ i + 1 → a = 0) ∧ (2 ≤ i + 1 → b = 0)) → True := fun _ _ _ _ _ => trivial
  (with_reducible repeat (first | refine WP.S1 ?_ | refine WP.B1 ?_ | refine WP.R1 ?_))
  refine RL.A1 T_ok rfl ?_
  refine RL.N1 ?_; (with_reducible repeat (first | refine QN.B1 ?_ | refine QN.N1 ?_ | refine WP.S1 ?_ | refine WP.B1 ?_ | refine WP.R1 ?_))
  refine WP.cond rfl (fun hc => ?_) (fun hc => ?_)
  · have hc : i < 2 := by have := of_decide_eq_true hc; omega
    obtain ⟨x, hx, hne, hze⟩ : ∃ x : Int, [Value.int .i64 a, Value.int .i64 b][i]? = some (.int .i64 x) ∧ (x ≠ 0 → (if a = 0 then b else a) = x) ∧ (x = 0 → (1 ≤ i + 1 → a = 0) ∧ (2 ≤ i + 1 → b = 0)) := by
      match i, hc with
      | 0, _ => exact ⟨a, rfl, fun h => by rw [if_neg h], fun h => ⟨fun _ => h, fun h => absurd h (by omega)⟩⟩
      | 1, _ => exact ⟨b, rfl, fun h => by rw [if_pos (h1 (by omega))], fun h => ⟨fun _ => h1 (by omega), fun _ => h⟩⟩
    refine WP.skip ?_; (with_reducible repeat (first | refine QN.B1 ?_ | refine QN.N1 ?_ | refine WP.S1 ?_ | refine WP.B1 ?_ | refine WP.R1 ?_))
    refine RL.index T_ok h (k := i) rfl hc rfl rfl rfl rfl (fun ad _ _ hcell => ⟨_, rfl, ?_⟩)
    have hx := hcell 0 _ (by rw [Nat.mul_one]; exact hx)
    refine RL.load T_ok rfl rfl rfl (by rw [add_add] at hx; exact hx) rfl ?_
    refine RL.A1 T_ok rfl ?_
    refine RL.N1 ?_; (with_reducible repeat (first | refine QN.B1 ?_ | refine QN.N1 ?_ | refine WP.S1 ?_ | refine WP.B1 ?_ | refine WP.R1 ?_))
    refine RL.pure T_ok 2 rfl ?_
    refine RL.pure T_ok 1 rfl ?_
    by_cases h0 : x = 0
    · refine RL.eqv (v' := .bool false) (congrArg _ (by simp [h0])) ?_
      refine RL.N1 ?_; (with_reducible repeat (first | refine QN.B1 ?_ | refine QN.N1 ?_ | refine WP.S1 ?_ | refine WP.B1 ?_ | refine WP.R1 ?_))
      refine WP.condF rfl ?_
      refine WP.skip ?_; (with_reducible repeat (first | refine QN.B1 ?_ | refine QN.N1 ?_ | refine WP.S1 ?_ | refine WP.B1 ?_ | refine WP.R1 ?_))
      refine RL.pure T_ok 1 rfl ?_
      refine RL.eqv (v' := .int .i64 ((i + 1 : Nat) : Int)) (congrArg _ (by rw [wrap_i64_in _ (by omega) (by omega)]; rfl)) ?_
      refine RL.A1 T_ok rfl ?_
      exact RL.N1 (QN.round (i + 1) (Sub.C1 rfl (Sub.C1 rfl (Sub.C1 rfl (Sub.C1 rfl Sub.nil)))) ⟨by omega, rfl, (hze h0).1, (hze h0).2⟩ (by omega))
    · refine RL.eqv (v' := .bool true) (congrArg _ (by simp [h0])) ?_
      refine RL.N1 ?_; (with_reducible repeat (first | refine QN.B1 ?_ | refine QN.N1 ?_ | refine WP.S1 ?_ | refine WP.B1 ?_ | refine WP.R1 ?_))
      refine WP.condT rfl ?_
      (with_reducible repeat (first | refine WP.S1 ?_ | refine WP.B1 ?_ | refine WP.R1 ?_))
      refine RL.A1 T_ok rfl ?_
      refine RL.N1 ?_; (with_reducible repeat (first | refine QN.B1 ?_ | refine QN.N1 ?_ | refine WP.S1 ?_ | refine WP.B1 ?_ | refine WP.R1 ?_))
      refine WP.ret ?_; (with_reducible repeat (first | refine QN.tr ?_ | refine QN.br ?_))
      exact QN.ret1 rfl rfl ⟨_, rfl, by rw [hne h0], rfl⟩
  · have hc : i = 2 := by have := of_decide_eq_false hc; omega
    refine WP.exit ?_; (with_reducible repeat (first | refine QN.tx ?_ | refine QN.bx ?_ | refine QN.block_far rfl ?_ | refine QN.B1 ?_ | refine QN.N1 ?_)); (with_reducible repeat (first | refine WP.S1 ?_ | refine WP.B1 ?_ | refine WP.R1 ?_))
    refine RL.A1 T_ok rfl ?_
    refine RL.N1 ?_; (with_reducible repeat (first | refine QN.B1 ?_ | refine QN.N1 ?_ | refine WP.S1 ?_ | refine WP.B1 ?_ | refine WP.R1 ?_))
    refine WP.ret ?_; (with_reducible repeat (first | refine QN.tr ?_ | refine QN.br ?_))
    exact QN.ret1 rfl rfl ⟨_, rfl, by rw [if_pos (h1 (by omega)), h2 (by omega)], rfl⟩
def cfR (x y : Rng) : Int := if cmpN x.c y.c = 0 then cmpN x.f y.f else cmpN x.c y.c
theorem cmpR_c (m : World) (x y : Rng) : FnR Tryz.prog 181 [rV x, rV y] m fun r m' => r = .int .i64 (cfR x y) ∧ Ext m [] m' := by
  refine FnE.enter ⟨_, Tryz.func181, by kernel_rfl, by kernel_rfl⟩ Tryz.func181 rfl rfl ?_
  (with_reducible repeat (first | refine WP.S1 ?_ | refine WP.B1 ?_ | refine WP.R1 ?_))
  refine RL.box rfl rfl (fun b m1 hb hC => ⟨_, rfl, ?_⟩)
  refine RL.box rfl rfl (fun b2 m2 hb2 hC2 => ⟨_, rfl, ?_⟩)
  have hE1 : Ext m [] m1 := hC.new (by omega)
  have hE2 : Ext m1 [] m2 := hC2.new (by omega)
  have s1 := hC.size
  have hB0 : Blk m1 b 167 (rC x) := hC.here
  have hB : Blk m2 b 167 (rC x) := hB0.ext hE2 (by simp)
  have hD : Blk m2 b2 167 (rC y) := hC2.here
  have hE : Ext m [] m2 := hE1.trans hE2 (by simp)
  clear hC hC2 hB0 hE1 hE2
  refine RL.A1 T_ok rfl ?_
  refine RL.N1 (QN.N1 ?_)
  refine WP.S1 ?_
  refine WP.drawQ (fun m' => Blk m' b 167 (rC x) ∧ Blk m' b2 167 (rC y)) [] (by kernel_rfl) ⟨hB, hD⟩ (by with_reducible repeat (first | exact PanicOk.body | refine PanicOk.then_ ?_ | refine PanicOk.block_ ?_)) (fun hQ => ?_)
  refine RH.pure T_ok hQ [0] (by kernel_rfl) rfl ?_
  refine RH.load T_ok hQ 1 (fun m' h => h.1.cell 0 rfl) rfl (by kernel_rfl) rfl rfl rfl rfl ?_
  refine RH.pure T_ok hQ [2] (by kernel_rfl) rfl ?_
  refine RH.load T_ok hQ 3 (fun m' h => h.2.cell 0 rfl) rfl (by kernel_rfl) rfl rfl rfl rfl ?_
  refine RH.pure T_ok hQ [5] (by kernel_rfl) rfl ?_
  refine RH.load T_ok hQ 6 (fun m' h => h.1.cell 1 rfl) rfl (by kernel_rfl) rfl rfl rfl rfl ?_
  refine RH.pure T_ok hQ [7] (by kernel_rfl) rfl ?_
  refine RH.load T_ok hQ 8 (fun m' h => h.2.cell 1 rfl) rfl (by kernel_rfl) rfl rfl rfl rfl ?_
  refine RH.only 4 rfl (by kernel_rfl) (fun _ => ?_)
  refine RL.call (fi := []) (ca := []) rfl rfl rfl rfl (compare_c m2 x.c y.c) ?_
  rintro _ m3 ⟨rfl, rfl⟩
  refine ⟨_, rfl, RL.N1 (RH.cont ⟨hB, hD⟩ ?_)⟩
  refine RH.only 9 rfl (by kernel_rfl) (fun _ => ?_)
  refine RL.call (fi := []) (ca := []) rfl rfl rfl rfl (compare_c m3 x.f y.f) ?_
  rintro _ m4 ⟨rfl, rfl⟩
  refine ⟨_, rfl, RL.N1 (RH.cont ⟨hB, hD⟩ ?_)⟩
  refine RH.only 10 rfl (by kernel_rfl) (fun _ => ?_)
  refine RL.buildSlice T_ok [.tmp 9, .tmp 14] [.int .i64 (cmpN x.c y.c), .int .i64 (cmpN x.f y.f)] rfl rfl rfl rfl rfl rfl (by simp [Value.cells]) rfl rfl (fun b5 m5 hb5 hC5 => ⟨_, rfl, ?_⟩)
  have hE5 : Ext m4 [] m5 := hC5.new (by omega)
  refine RL.N1 (RH.cont ⟨hB.ext hE5 (by simp), hD.ext hE5 (by simp)⟩ ?_)
  have hS5 : Sl m5 [] 1 (.slice (some ⟨b5, 0, none⟩) 2 2) [.int .i64 (cmpN x.c y.c), .int .i64 (cmpN x.f y.f)] := Sl.of_blk (M := []) (n := 2) (c := 2) (sz := 1) hC5.blk (by simp) (by simp) (by omega) (by unfold maxLen; omega)
  refine RH.only 11 rfl (by kernel_rfl) (fun _ => ?_)
  refine RL.call (fi := []) (ca := []) rfl rfl rfl rfl (or_c m5 _ _ _ hS5) ?_
  rintro _ m6 ⟨rfl, rfl⟩
  refine ⟨_, rfl, RL.N1 (RH.cont ⟨hB.ext hE5 (by simp), hD.ext hE5 (by simp)⟩ ?_)⟩
  refine RH.pure T_ok hQ [12] (by kernel_rfl) rfl ?_
  refine RH.done (by kernel_rfl) (fun _ => ?_)
  refine QN.N1 ?_
  refine WP.ret ?_; (with_reducible repeat (first | refine QN.tr ?_ | refine QN.br ?_))
  exact QN.ret1 rfl rfl ⟨_, rfl, rfl, hE.trans hE5 (by simp)⟩
end Go.Proofs.YtgpgladbdoimdaaGreatDoor
end
section
namespace Go.Proofs.YtgpgladbdoimdaaGreatDoor
open Go.RowKit Go.Ev
end Go.Proofs.YtgpgladbdoimdaaGreatDoor
end
section
namespace Go.Proofs.YtgpgladbdoimdaaGreatDoor
open Go.RowKit Go.Ev Go.Ids
def RK (b1 b2 : Nat) (v : Value) (l : List Rng) (k : FuncId) (a : World) : Prop := Blk a b1 46 [v] ∧ Blk a b2 165 [.func (.func k) #[] #[]] ∧ Rs a [] v l
theorem rights1_c (m : World) (b1 b2 : Nat) (v : Value) (l : List Rng) (hl : l.length < 1000000000) (k : FuncId) (p : Rng → Bool) (hf : ∀ m1 x, FnR Tryz.prog k [rV x] m1 fun r m2 => r = .bool (p x) ∧ Ext m1 [] m2) :
    SeqE Tryz.prog 217 [.pointer (some ⟨b1, 0, none⟩), .pointer (some ⟨b2, 0, none⟩)] (fun x : Rng => [rV x]) false (RK b1 b2 v l k) (fun pre _ => pre.length < l.length) (fun xs => xs = l.filter p) (fun _ => True) m := by
  intro lp J Jx m1 _ hJ hJx hK hround h0
  have hk0 := hK _ _ h0
  obtain ⟨A, c, rfl, _, _⟩ := hk0.2.2.shape
  refine FnE.enter ⟨_, Tryz.func217, by kernel_rfl, by kernel_rfl⟩ Tryz.func217 rfl rfl ?_
  (with_reducible repeat (first | refine WP.S1 ?_ | refine WP.B1 ?_ | refine WP.R1 ?_))
  refine RL.load T_ok rfl rfl rfl (hk0.1.cell 0 rfl) rfl ?_
  refine RL.A1 T_ok rfl ?_
  refine RL.N1 ?_; (with_reducible repeat (first | refine QN.B1 ?_ | refine QN.N1 ?_ | refine WP.S1 ?_ | refine WP.B1 ?_ | refine WP.R1 ?_))
  refine WP.loop (X := Nat) (fun i => [(0, .func (.yield lp) #[] #[]), (1, .pointer (some ⟨b1, 0, none⟩)), (2, .pointer (some ⟨b2, 0, none⟩)), (6, .slice A l.length c), (7, .int .i64 l.length), (8, .int .i64 i)])
    (fun i m' => i ≤ l.length ∧ J ((l.take i).filter p) m') (fun i => l.length - i) 0 (Sub.C1 rfl (Sub.C1 rfl (Sub.C1 rfl (Sub.C1 rfl (Sub.C1 rfl (Sub.C1 rfl Sub.nil)))))) ⟨by simp, h0⟩ ?_
  rintro i m2 ⟨hi, hj⟩
  have hk := hK _ _ hj
  (with_reducible repeat (first | refine WP.S1 ?_ | refine WP.B1 ?_ | refine WP.R1 ?_))
  refine RL.A1 T_ok rfl ?_
  refine RL.N1 ?_; (with_reducible repeat (first | refine QN.B1 ?_ | refine QN.N1 ?_ | refine WP.S1 ?_ | refine WP.B1 ?_ | refine WP.R1 ?_))
  refine WP.cond rfl (fun hc => ?_) (fun hc => ?_)
  · have hc : i < l.length := by have := of_decide_eq_true hc; omega
    obtain ⟨ad, rfl, hx⟩ := hk.2.2.cell i hc
    have hstep : (l.take (i + 1)).filter p = (l.take i).filter p ++ (if p l[i] then [l[i]] else []) := by
      rw [List.take_succ_eq_append_getElem hc, List.filter_append]
      cases h : p l[i] <;> simp [h]
    refine WP.skip ?_; (with_reducible repeat (first | refine QN.B1 ?_ | refine QN.N1 ?_ | refine WP.S1 ?_ | refine WP.B1 ?_ | refine WP.R1 ?_))
    refine RL.indexAddr (k := i) T_ok rfl rfl rfl rfl rfl rfl rfl hc rfl ?_
    refine RL.loadAgg T_ok (rC l[i]) rfl rfl rfl hx rfl ?_
    refine RL.alloc T_ok rfl rfl (fun b5 m3 hb5 hC3 => ⟨_, rfl, ?_⟩)
    refine RL.storeAgg T_ok (b := b5) (i := 0) (vs := rC l[i]) (cs := [.int .u64 0, .int .u64 0, .int .u64 0]) hC3.blk rfl rfl rfl rfl rfl (by simp) (by simp [rC, Value.oneCell']) rfl ?_
    intro m4 hC4
    have hE4 : Ext m2 [] m4 := (hC3.new (by omega)).trans hC4.ext (fun q hq => .inr (by have h9 : q = b5 := (by simpa using hq); omega))
    have hB4 : Blk m4 b5 167 (rC l[i]) := hC4.blk
    have hj4 := hJ _ _ _ hj hE4
    have hk4 := hK _ _ hj4
    refine RL.N1 ?_; (with_reducible repeat (first | refine QN.B1 ?_ | refine QN.N1 ?_ | refine WP.S1 ?_ | refine WP.B1 ?_ | refine WP.R1 ?_))
    refine RL.load T_ok rfl rfl rfl (hk4.2.1.cell 0 rfl) rfl ?_
    refine RL.loadAgg T_ok (rC l[i]) rfl rfl rfl (fun j u hu => by rw [add_block]; exact hB4.cell _ (by simpa using hu)) rfl ?_
    refine RL.call (fi := []) (ca := []) rfl rfl rfl rfl (hf m4 l[i]) ?_
    rintro _ m5 ⟨rfl, hE5⟩
    refine ⟨_, rfl, ?_⟩
    have hB5 := hB4.ext hE5 (by simp)
    have hj5 := hJ _ _ _ hj4 hE5
    refine RL.pure T_ok 1 rfl ?_
    by_cases hp : p l[i] = true
    · refine RL.eqv (v' := .bool true) (congrArg _ hp) ?_
      refine RL.A1 T_ok rfl ?_
      refine RL.loadAgg T_ok (rC l[i]) rfl rfl rfl (fun j u hu => by rw [add_block]; exact hB5.cell _ (by simpa using hu)) rfl ?_
      refine RL.yield rfl rfl rfl (hround _ l[i] m5 hj5 (Nat.lt_of_le_of_lt (List.length_filter_le _ _) (by simp; omega))) ?_ (by rintro ch m6 (⟨h, _⟩ | ⟨h, _⟩) <;> cases h) (by rintro m6 (⟨h, _⟩ | ⟨h, _⟩) <;> cases h)
      rintro _ m6 (⟨h6, hj6, _⟩ | ⟨h6, hj6⟩)
      · injection h6 with h6
        subst h6
        refine ⟨_, rfl, ?_⟩
        refine RL.A1 T_ok rfl ?_
        refine RL.N1 ?_; (with_reducible repeat (first | refine QN.B1 ?_ | refine QN.N1 ?_ | refine WP.S1 ?_ | refine WP.B1 ?_ | refine WP.R1 ?_))
        refine WP.condF rfl ?_
        refine WP.skip ?_; (with_reducible repeat (first | refine QN.B1 ?_ | refine QN.N1 ?_ | refine WP.S1 ?_ | refine WP.B1 ?_ | refine WP.R1 ?_))
        refine RL.pure T_ok 1 rfl ?_
        refine RL.eqv (v' := .int .i64 ((i + 1 : Nat) : Int)) (congrArg _ (by rw [wrap_i64_in _ (by omega) (by omega)]; rfl)) ?_
        refine RL.A1 T_ok rfl ?_
        refine RL.N1 (QN.round (i + 1) (Sub.C1 rfl (Sub.C1 rfl (Sub.C1 rfl (Sub.C1 rfl (Sub.C1 rfl (Sub.C1 rfl Sub.nil)))))) ⟨by omega, ?_⟩ (by omega))
        rw [hstep, if_pos hp]; exact hj6
      · injection h6 with h6
        subst h6
        refine ⟨_, rfl, ?_⟩
        refine RL.A1 T_ok rfl ?_
        refine RL.N1 ?_; (with_reducible repeat (first | refine QN.B1 ?_ | refine QN.N1 ?_ | refine WP.S1 ?_ | refine WP.B1 ?_ | refine WP.R1 ?_))
        refine WP.condT rfl ?_
        refine WP.ret ?_; (with_reducible repeat (first | refine QN.tr ?_ | refine QN.br ?_))
        exact QN.ret0 rfl ⟨_, rfl, .inr ⟨_, trivial, hj6⟩⟩
    · refine RL.eqv (v' := .bool false) (congrArg _ (Bool.not_eq_true _ ▸ hp)) ?_
      refine RL.A1 T_ok rfl ?_
      refine RL.N1 ?_; (with_reducible repeat (first | refine QN.B1 ?_ | refine QN.N1 ?_ | refine WP.S1 ?_ | refine WP.B1 ?_ | refine WP.R1 ?_))
      refine WP.condF rfl ?_
      refine WP.skip ?_; (with_reducible repeat (first | refine QN.B1 ?_ | refine QN.N1 ?_ | refine WP.S1 ?_ | refine WP.B1 ?_ | refine WP.R1 ?_))
      refine RL.pure T_ok 1 rfl ?_
      refine RL.eqv (v' := .int .i64 ((i + 1 : Nat) : Int)) (congrArg _ (by rw [wrap_i64_in _ (by omega) (by omega)]; rfl)) ?_
      refine RL.A1 T_ok rfl ?_
      refine RL.N1 (QN.round (i + 1) (Sub.C1 rfl (Sub.C1 rfl (Sub.C1 rfl (Sub.C1 rfl (Sub.C1 rfl (Sub.C1 rfl Sub.nil)))))) ⟨by omega, ?_⟩ (by omega))
      rw [hstep, if_neg hp, List.append_nil]; exact hj5
  · have hc : i = l.length := by have := of_decide_eq_false hc; omega
    subst hc
    rw [List.take_length] at hj
    refine WP.exit ?_; (with_reducible repeat (first | refine QN.tx ?_ | refine QN.bx ?_ | refine QN.block_far rfl ?_ | refine QN.B1 ?_ | refine QN.N1 ?_)); (with_reducible repeat (first | refine WP.S1 ?_ | refine WP.B1 ?_ | refine WP.R1 ?_))
    exact QN.end0 rfl ⟨_, rfl, .inl ⟨_, rfl, hj⟩⟩
theorem rights_c (m : World) (v : Value) (l : List Rng) (k : FuncId) : FnR Tryz.prog 179 [v, .func (.func k) #[] #[]] m fun r m' => ∃ b1 b2, r = .func (.func 217) #[] #[.pointer (some ⟨b1, 0, none⟩), .pointer (some ⟨b2, 0, none⟩)] ∧ m.heap.size ≤ b1 ∧ m.heap.size ≤ b2 ∧ Ext m [] m' ∧ (Rs m [] v l → RK b1 b2 v l k m') := by
  refine FnE.enter ⟨_, Tryz.func179, by kernel_rfl, by kernel_rfl⟩ Tryz.func179 rfl rfl ?_
  (with_reducible repeat (first | refine WP.S1 ?_ | refine WP.B1 ?_ | refine WP.R1 ?_))
  refine RL.box rfl rfl (fun b1 m1 hb1 hC1 => ⟨_, rfl, ?_⟩)
  refine RL.box rfl rfl (fun b2 m2 hb2 hC2 => ⟨_, rfl, ?_⟩)
  have hE1 : Ext m [] m1 := hC1.new (by omega)
  have hE2 : Ext m1 [] m2 := hC2.new (by omega)
  have s1 := hC1.size
  refine RL.A1 T_ok rfl ?_
  refine RL.N1 ?_; (with_reducible repeat (first | refine QN.B1 ?_ | refine QN.N1 ?_ | refine WP.S1 ?_ | refine WP.B1 ?_ | refine WP.R1 ?_))
  refine RL.A1 T_ok rfl ?_
  refine RL.N1 ?_; (with_reducible repeat (first | refine QN.B1 ?_ | refine QN.N1 ?_ | refine WP.S1 ?_ | refine WP.B1 ?_ | refine WP.R1 ?_))
  refine WP.ret ?_; (with_reducible repeat (first | refine QN.tr ?_ | refine QN.br ?_))
  refine QN.ret1 rfl rfl ⟨_, rfl, b1, b2, rfl, by omega, by omega, hE1.trans hE2 (by simp), fun h => ⟨?_, hC2.here, (h.ext0 hE1).ext0 hE2⟩⟩
  obtain ⟨A, c, rfl, _, _⟩ := h.shape
  exact Blk.ext (cs := [.slice A l.length c]) hC1.here hE2 (by simp)
end Go.Proofs.YtgpgladbdoimdaaGreatDoor
end
section
namespace Go.Proofs.YtgpgladbdoimdaaGreatDoor
open Go.RowKit Go.Ev
theorem grow_range (m : World) (k : Nat) (hk : k < 1000000000) :
    FnR Tryz.prog 200 [.slice none 0 0, .int .i64 k] m fun r m' => ∃ S', Ev.Own m' S' 167 3 r 0 [] ∧ New m S' m' := by
  refine FnE.enter ⟨_, Tryz.func200, by kernel_rfl, by kernel_rfl⟩ Tryz.func200 rfl rfl ?_
  (with_reducible repeat (first | refine WP.S1 ?_ | refine WP.B1 ?_ | refine WP.R1 ?_))
  refine RL.A1 T_ok rfl ?_
  refine RL.N1 ?_; (with_reducible repeat (first | refine QN.B1 ?_ | refine QN.N1 ?_ | refine WP.S1 ?_ | refine WP.B1 ?_ | refine WP.R1 ?_))
  refine RL.A1 T_ok rfl ?_
  refine RL.N1 ?_; (with_reducible repeat (first | refine QN.B1 ?_ | refine QN.N1 ?_ | refine WP.S1 ?_ | refine WP.B1 ?_ | refine WP.R1 ?_))
  refine WP.cond rfl (fun hc => absurd (of_decide_eq_true hc) (by omega)) (fun _ => ?_)
  refine WP.skip ?_; (with_reducible repeat (first | refine QN.B1 ?_ | refine QN.N1 ?_ | refine WP.S1 ?_ | refine WP.B1 ?_ | refine WP.R1 ?_))
  refine RL.pure T_ok 7 rfl ?_
  refine RL.eqv (v' := .int .i64 k) (congrArg _ (by show IntKind.i64.wrap ((k : Int) - IntKind.i64.wrap 0) = k; rw [wrap_i64_in 0 (by omega) (by omega), wrap_i64_in _ (by omega) (by omega)]; omega)) ?_
  refine RL.sub (e' := [(14, .int .i64 k), (0, .slice none 0 0)]) (Sub.C1 rfl (Sub.C1 rfl Sub.nil)) ?_
  refine RL.A1 T_ok rfl ?_
  refine RL.N1 ?_; (with_reducible repeat (first | refine QN.B1 ?_ | refine QN.N1 ?_ | refine WP.S1 ?_ | refine WP.B1 ?_ | refine WP.R1 ?_))
  refine RL.A1 T_ok rfl ?_
  refine RL.N1 ?_; (with_reducible repeat (first | refine QN.B1 ?_ | refine QN.N1 ?_ | refine WP.S1 ?_ | refine WP.B1 ?_ | refine WP.R1 ?_))
  refine WP.cond rfl (fun hc => ?_) (fun hc => ?_)
  · have hc : 0 < k := by have := of_decide_eq_true hc; omega
    (with_reducible repeat (first | refine WP.S1 ?_ | refine WP.B1 ?_ | refine WP.R1 ?_))
    refine RL.A1 T_ok rfl ?_
    refine RL.sliceTo (l := 0) T_ok rfl rfl rfl rfl rfl (Nat.le_refl _) rfl ?_
    refine RL.A1 T_ok rfl ?_
    refine RL.appendMake T_ok rfl rfl rfl rfl rfl rfl hc (by unfold maxLen; omega) (by show k * 24 ≤ _; omega) ?_
    intro cap cur m1 hB h1 h2 h3 hE
    refine ⟨_, rfl, ?_⟩
    refine RL.A1 T_ok rfl ?_
    refine RL.sliceTo (l := 0) T_ok rfl rfl rfl rfl rfl (Nat.zero_le _) rfl ?_
    refine RL.A1 T_ok rfl ?_
    refine RL.N1 ?_; (with_reducible repeat (first | refine QN.B1 ?_ | refine QN.N1 ?_ | refine WP.S1 ?_ | refine WP.B1 ?_ | refine WP.R1 ?_))
    refine RL.A1 T_ok rfl ?_
    refine RL.N1 ?_; (with_reducible repeat (first | refine QN.B1 ?_ | refine QN.N1 ?_ | refine WP.S1 ?_ | refine WP.B1 ?_ | refine WP.R1 ?_))
    refine WP.ret ?_; (with_reducible repeat (first | refine QN.tr ?_ | refine QN.br ?_))
    exact QN.ret1 rfl rfl ⟨_, rfl, _, Own.cut0 hB h2 h3, hE, fun q hq => .inr (by have h9 : q = m.heap.size := (by simpa using hq); omega)⟩
  · refine WP.skip ?_; (with_reducible repeat (first | refine QN.B1 ?_ | refine QN.N1 ?_ | refine WP.S1 ?_ | refine WP.B1 ?_ | refine WP.R1 ?_))
    refine RL.A1 T_ok rfl ?_
    refine RL.N1 ?_; (with_reducible repeat (first | refine QN.B1 ?_ | refine QN.N1 ?_ | refine WP.S1 ?_ | refine WP.B1 ?_ | refine WP.R1 ?_))
    refine WP.ret ?_; (with_reducible repeat (first | refine QN.tr ?_ | refine QN.br ?_))
    exact QN.ret1 rfl rfl ⟨_, rfl, [], Own.empty _ _ _ _, Ext.refl _ _, FpNew.nil _ _⟩
theorem concat_range (m : World) (v : Value) (vs : List Value) (xss : List (List Value)) (ns : List Nat) (hv : Sl m [] 1 v vs) (hl1 : vs.length = xss.length) (hl2 : ns.length = xss.length)
    (hs : ∀ (i : Nat) (u : Value) (xs : List Value) (k : Nat), vs[i]? = some u → xss[i]? = some xs → ns[i]? = some k → Sl m [] 3 u xs ∧ xs.length = k * 3) (h1 : ∀ xs ∈ xss, ∀ u ∈ xs, u.oneCell' = true) (htot : ns.sum < 1000000000) (hlen : vs.length < 1000000000) :
    FnR Tryz.prog 161 [v] m fun r m' => ∃ S', Ev.Own m' S' 167 3 r ns.sum xss.flatten ∧ New m S' m' := by
  obtain ⟨A, c, rfl, hlc, _⟩ := hv.shape (n := vs.length) (by simp) (by omega)
  have hsum : ∀ j, (ns.take j).sum ≤ ns.sum := fun j => by
    have := congrArg List.sum (List.take_append_drop j ns)
    rw [List.sum_append] at this; omega
  have hstep : ∀ j (h : j < ns.length), (ns.take (j + 1)).sum = (ns.take j).sum + ns[j] := fun j h => by rw [List.take_succ_eq_append_getElem h, List.sum_append]; simp
  have hflat : ∀ j (h : j < xss.length), (xss.take (j + 1)).flatten = (xss.take j).flatten ++ xss[j] := fun j h => by rw [List.take_succ_eq_append_getElem h, List.flatten_append]; simp
  refine FnE.enter ⟨_, Tryz.func161, by kernel_rfl, by kernel_rfl⟩ Tryz.func161 rfl rfl ?_
  (with_reducible repeat (first | refine WP.S1 ?_ | refine WP.B1 ?_ | refine WP.R1 ?_))
  refine RL.A1 T_ok rfl ?_
  refine RL.N1 ?_; (with_reducible repeat (first | refine QN.B1 ?_ | refine QN.N1 ?_ | refine WP.S1 ?_ | refine WP.B1 ?_ | refine WP.R1 ?_))
  refine RL.A1 T_ok rfl ?_
  refine RL.N1 ?_; (with_reducible repeat (first | refine QN.B1 ?_ | refine QN.N1 ?_ | refine WP.S1 ?_ | refine WP.B1 ?_ | refine WP.R1 ?_))
  refine RL.A1 T_ok rfl ?_
  refine RL.N1 ?_; (with_reducible repeat (first | refine QN.B1 ?_ | refine QN.N1 ?_ | refine WP.S1 ?_ | refine WP.B1 ?_ | refine WP.R1 ?_))
  refine (WP.loop (X := Nat) (fun i => [(0, .slice A vs.length c), (9, .slice A vs.length c), (10, .int .i64 vs.length), (3, .int .i64 (ns.take i).sum), (11, .int .i64 i)]) (fun i m' => i ≤ vs.length ∧ m' = m) (fun i => vs.length - i) 0
    (Sub.C1 rfl (Sub.C1 rfl (Sub.C1 rfl (Sub.C1 rfl (Sub.C1 rfl Sub.nil))))) ⟨by simp, rfl⟩ ?_)
  rintro i m1 ⟨hi, rfl⟩
  (with_reducible repeat (first | refine WP.S1 ?_ | refine WP.B1 ?_ | refine WP.R1 ?_))
  refine RL.A1 T_ok rfl ?_
  refine RL.N1 ?_; (with_reducible repeat (first | refine QN.B1 ?_ | refine QN.N1 ?_ | refine WP.S1 ?_ | refine WP.B1 ?_ | refine WP.R1 ?_))
  refine WP.cond rfl (fun hc => ?_) (fun hc => ?_)
  · have hc : i < vs.length := by have := of_decide_eq_true hc; omega
    obtain ⟨hS, hk⟩ := hs i vs[i] xss[i] ns[i] (List.getElem?_eq_getElem _) (List.getElem?_eq_getElem _) (List.getElem?_eq_getElem _)
    obtain ⟨A1, c1, he, _, _⟩ := hS.shape hk (by omega)
    have hle : ns[i] ≤ ns.sum := by have := hstep i (by omega); have := hsum (i + 1); omega
    have hle2 := hsum i
    refine WP.skip ?_; (with_reducible repeat (first | refine QN.B1 ?_ | refine QN.N1 ?_ | refine WP.S1 ?_ | refine WP.B1 ?_ | refine WP.R1 ?_))
    refine RL.index T_ok hv (k := i) rfl hc rfl rfl rfl rfl (fun ad _ _ hcell => ⟨_, rfl, ?_⟩)
    have hx := hcell 0 vs[i] (by simp)
    refine RL.load T_ok rfl rfl rfl (by rw [add_add] at hx; exact hx) rfl ?_
    refine RL.eqv he ?_
    refine RL.A1 T_ok rfl ?_
    refine RL.N1 ?_; (with_reducible repeat (first | refine QN.B1 ?_ | refine QN.N1 ?_ | refine WP.S1 ?_ | refine WP.B1 ?_ | refine WP.R1 ?_))
    refine RL.pure T_ok 3 rfl ?_
    refine RL.pure T_ok 1 rfl ?_
    refine RL.eqv (v' := .int .i64 (ns.take (i + 1)).sum) (congrArg _ (by show IntKind.i64.wrap (((ns.take i).sum : Int) + (ns[i] : Int)) = _; rw [wrap_i64_in _ (by omega) (by omega), hstep i (by omega)]; omega)) ?_
    have hle3 := hsum (i + 1)
    refine RL.A1 T_ok rfl ?_
    refine RL.N1 ?_; (with_reducible repeat (first | refine QN.B1 ?_ | refine QN.N1 ?_ | refine WP.S1 ?_ | refine WP.B1 ?_ | refine WP.R1 ?_))
    refine RL.A1 T_ok rfl ?_
    refine RL.N1 ?_; (with_reducible repeat (first | refine QN.B1 ?_ | refine QN.N1 ?_ | refine WP.S1 ?_ | refine WP.B1 ?_ | refine WP.R1 ?_))
    refine WP.condF (by exact congrArg (fun q => some (Value.bool q)) (decide_eq_false (by omega))) ?_
    refine WP.skip ?_; (with_reducible repeat (first | refine QN.B1 ?_ | refine QN.N1 ?_ | refine WP.S1 ?_ | refine WP.B1 ?_ | refine WP.R1 ?_))
    refine RL.A1 T_ok rfl ?_
    refine RL.N1 (QN.round (i + 1) (Sub.C1 rfl (Sub.C1 rfl (Sub.C1 rfl (Sub.C1 rfl (Sub.C1 ?_ Sub.nil))))) ⟨by omega, rfl⟩ (by omega))
    show some (Value.int .i64 (IntKind.i64.wrap ((i : Int) + 1))) = some (Value.int .i64 ((i + 1 : Nat) : Int))
    rw [wrap_i64_in _ (by omega) (by omega)]; rfl
  · have hc : i = vs.length := by have := of_decide_eq_false hc; omega
    subst hc
    refine WP.exit ?_; (with_reducible repeat (first | refine QN.tx ?_ | refine QN.bx ?_ | refine QN.block_far rfl ?_ | refine QN.B1 ?_ | refine QN.N1 ?_)); (with_reducible repeat (first | refine WP.S1 ?_ | refine WP.B1 ?_ | refine WP.R1 ?_))
    have e0 : ns.take vs.length = ns := by rw [hl1, ← hl2, List.take_length]
    rw [e0]
    refine RL.A1 T_ok rfl ?_
    refine RL.call (fi := []) (ca := []) rfl rfl rfl rfl (grow_range m1 ns.sum htot) ?_
    rintro r m2 ⟨S2, hO2, hN2⟩
    refine ⟨_, rfl, ?_⟩
    refine RL.A1 T_ok rfl ?_
    refine RL.N1 ?_; (with_reducible repeat (first | refine QN.B1 ?_ | refine QN.N1 ?_ | refine WP.S1 ?_ | refine WP.B1 ?_ | refine WP.R1 ?_))
    refine RL.A1 T_ok rfl ?_
    refine RL.N1 ?_; (with_reducible repeat (first | refine QN.B1 ?_ | refine QN.N1 ?_ | refine WP.S1 ?_ | refine WP.B1 ?_ | refine WP.R1 ?_))
    refine (WP.loop (X := Nat × Value × List Nat) (fun x => [(25, .slice A vs.length c), (26, .int .i64 vs.length), (6, x.2.1), (27, .int .i64 x.1)])
      (fun x m' => x.1 ≤ vs.length ∧ Ev.Own m' x.2.2 167 3 x.2.1 (ns.take x.1).sum (xss.take x.1).flatten ∧ New m1 x.2.2 m') (fun x => vs.length - x.1) (0, r, S2)
      (Sub.C1 rfl (Sub.C1 rfl (Sub.C1 rfl (Sub.C1 rfl Sub.nil)))) ⟨by simp, by simpa using hO2, hN2⟩ ?_)
    rintro ⟨i, u, S3⟩ m3 ⟨hi, hO3, hN3⟩
    simp only at hi hO3 hN3
    (with_reducible repeat (first | refine WP.S1 ?_ | refine WP.B1 ?_ | refine WP.R1 ?_))
    refine RL.A1 T_ok rfl ?_
    refine RL.N1 ?_; (with_reducible repeat (first | refine QN.B1 ?_ | refine QN.N1 ?_ | refine WP.S1 ?_ | refine WP.B1 ?_ | refine WP.R1 ?_))
    refine WP.cond rfl (fun hc => ?_) (fun hc => ?_)
    · have hc : i < vs.length := by have := of_decide_eq_true hc; omega
      obtain ⟨hS, hk⟩ := hs i vs[i] xss[i] ns[i] (List.getElem?_eq_getElem _) (List.getElem?_eq_getElem _) (List.getElem?_eq_getElem _)
      obtain ⟨A1, c1, he, _, _⟩ := hS.shape hk (by omega)
      have hle := hstep i (by omega)
      have hle2 := hsum (i + 1)
      have hv3 := hv.ext (M' := []) hN3.1 (by simp) (by omega)
      have hS3 := hS.ext (M' := []) hN3.1 (by simp) (by omega)
      refine WP.skip ?_; (with_reducible repeat (first | refine QN.B1 ?_ | refine QN.N1 ?_ | refine WP.S1 ?_ | refine WP.B1 ?_ | refine WP.R1 ?_))
      refine RL.index T_ok hv3 (k := i) rfl hc rfl rfl rfl rfl (fun ad _ _ hcell => ⟨_, rfl, ?_⟩)
      have hx := hcell 0 vs[i] (by simp)
      refine RL.load T_ok rfl rfl rfl (by rw [add_add] at hx; exact hx) rfl ?_
      rw [he] at hS3
      refine RL.eqv he ?_
      refine RL.A1 T_ok rfl ?_
      refine RL.N1 ?_; (with_reducible repeat (first | refine QN.B1 ?_ | refine QN.N1 ?_ | refine WP.S1 ?_ | refine WP.B1 ?_ | refine WP.R1 ?_))
      refine RL.A1 T_ok rfl ?_
      refine RL.append T_ok hO3 _ (Src.of_sl hS3) rfl rfl rfl rfl rfl hk (h1 _ (List.getElem_mem _)) (by unfold maxLen; omega) (by show (_ + _) * 24 ≤ _; omega) ?_
      intro u4 m4 S4 hO4 hE4 hF4
      refine ⟨_, rfl, ?_⟩
      refine RL.A1 T_ok rfl ?_
      refine RL.N1 ?_; (with_reducible repeat (first | refine QN.B1 ?_ | refine QN.N1 ?_ | refine WP.S1 ?_ | refine WP.B1 ?_ | refine WP.R1 ?_))
      refine RL.A1 T_ok rfl ?_
      rw [← hle, ← hflat i (by omega)] at hO4
      have hN4 : New m1 S4 m4 := ⟨hN3.1.trans hE4 (fun k hk => .inr (hN3.ge k hk)), hN3.2.trans hF4 hN3.1.size⟩
      refine RL.N1 (QN.round (i + 1, u4, S4) (Sub.C1 rfl (Sub.C1 rfl (Sub.C1 rfl (Sub.C1 ?_ Sub.nil)))) ⟨by show i + 1 ≤ _; omega, hO4, hN4⟩ (by show _ - (i + 1) < _ - i; omega))
      show some (Value.int .i64 (IntKind.i64.wrap ((i : Int) + 1))) = some (Value.int .i64 ((i + 1 : Nat) : Int))
      rw [wrap_i64_in _ (by omega) (by omega)]; rfl
    · have hc : i = vs.length := by have := of_decide_eq_false hc; omega
      subst hc
      refine WP.exit ?_; (with_reducible repeat (first | refine QN.tx ?_ | refine QN.bx ?_ | refine QN.block_far rfl ?_ | refine QN.B1 ?_ | refine QN.N1 ?_)); (with_reducible repeat (first | refine WP.S1 ?_ | refine WP.B1 ?_ | refine WP.R1 ?_))
      have e1 : ns.take vs.length = ns := by rw [hl1, ← hl2, List.take_length]
      have e2 : xss.take vs.length = xss := by rw [hl1, List.take_length]
      rw [e1, e2] at hO3
      refine RL.A1 T_ok rfl ?_
      refine RL.N1 ?_; (with_reducible repeat (first | refine QN.B1 ?_ | refine QN.N1 ?_ | refine WP.S1 ?_ | refine WP.B1 ?_ | refine WP.R1 ?_))
      refine WP.ret ?_; (with_reducible repeat (first | refine QN.tr ?_ | refine QN.br ?_))
      exact QN.ret1 rfl rfl ⟨_, rfl, S3, hO3, hN3⟩
end Go.Proofs.YtgpgladbdoimdaaGreatDoor
end
section
namespace Go.Proofs.YtgpgladbdoimdaaGreatDoor
open Go.RowKit Go.Ev
def WAt (m : World) (b : Nat) (S : List Nat) (l : List UInt8) : Prop :=
  ∃ v S1, Blk m b 76 [v] ∧ Ev.Own m S1 5 1 v l.length (u8s l) ∧ b ∉ S1 ∧ S = b :: S1
theorem WAt.ext {m m' : World} {b : Nat} {S M : List Nat} {l : List UInt8} (h : WAt m b S l) (hE : Ext m M m') (hM : ∀ k ∈ S, k ∉ M) : WAt m' b S l := by
  obtain ⟨v, S1, h1, h2, h3, rfl⟩ := h
  exact ⟨v, S1, h1.ext hE (hM b (by simp)), h2.ext hE (fun k hk => hM k (by simp [hk])), h3, rfl⟩
theorem WAt.lt {m : World} {b : Nat} {S : List Nat} {l : List UInt8} (h : WAt m b S l) : ∀ k ∈ S, k < m.heap.size := by
  obtain ⟨v, S1, h1, h2, h3, rfl⟩ := h
  intro k hk
  rcases List.mem_cons.1 hk with rfl | hk
  · exact h1.lt
  · exact h2.lt k hk
def WPost (m : World) (b : Nat) (S : List Nat) (l : List UInt8) (v : Value) (m' : World) : Prop :=
  v = .tuple #[] ∧ ∃ S', WAt m' b S' l ∧ Ext m S m' ∧ FpNew m S S'
theorem W_step {m m1 m2 : World} {b : Nat} {v v1 : Value} {S1 S2 : List Nat} {l' : List UInt8} (hb : b ∉ S1) (hB : Blk m b 76 [v]) (hO : Ev.Own m1 S2 5 1 v1 l'.length (u8s l'))
    (hE : Ext m S1 m1) (hF : FpNew m S1 S2) (hC : Chg m1 b (.cells [v1].toArray 76 (0, 0)) m2) : ∃ S', WAt m2 b S' l' ∧ Ext m (b :: S1) m2 ∧ FpNew m (b :: S1) S' := by
  have hb2 : b ∉ S2 := hF.far hb hB.lt
  refine ⟨b :: S2, ⟨v1, S2, hC.blk, hO.ext hC.ext (fun k hk hk' => ?_), hb2, rfl⟩, ?_, ?_⟩
  · have : k = b := by simpa using hk'
    subst this; exact hb2 hk
  · exact (hE.mono (M' := b :: S1) (fun k hk _ => by simp [hk])).trans hC.ext (fun k hk => .inl (by simp at hk; simp [hk]))
  · exact (hF.more (fun k hk => by simp [hk])).cons b (.inl (by simp))
theorem wbyte (m : World) (x : UInt8) (b : Nat) (S : List Nat) (l : List UInt8) (h : WAt m b S l) (hl : l.length < 1000000000) :
    FnR Tryz.prog 74 [.pointer (some ⟨b, 0, none⟩), .int .u8 x.toNat] m (WPost m b S (l ++ [x])) := by
  obtain ⟨v, S1, hB, hO, hb, rfl⟩ := h
  refine FnE.enter ⟨_, Tryz.func74, by kernel_rfl, by kernel_rfl⟩ Tryz.func74 rfl rfl ?_
  refine WP.R1 ?_
  refine RL.A1 T_ok rfl ?_
  refine RL.load T_ok rfl rfl rfl (hB.cell 0 rfl) rfl ?_
  refine RL.A1 T_ok rfl ?_
  refine RL.append1 T_ok [.tmp 9] hO (u8s [x]) rfl rfl rfl rfl rfl rfl rfl rfl rfl (by simp [Value.cells]) rfl (u8s_one _) (by unfold maxLen; omega) (by show (_ + 1) * 1 ≤ _; omega) ?_
  intro v1 m1 S2 hO1 hE1 hF1
  refine ⟨_, rfl, ?_⟩
  have hB1 := hB.ext hE1 hb
  refine RL.A1 T_ok rfl ?_
  refine RL.store T_ok hB1 (i := 0) (v := v1) (by simp) rfl rfl rfl rfl hO1.one rfl ?_
  intro m2 hC
  refine RL.N1 (QN.end0 rfl ⟨_, rfl, rfl, ?_⟩)
  exact W_step hb hB (l' := l ++ [x]) (by rw [← u8s_append] at hO1; simpa using hO1) hE1 hF1 hC
theorem wuint (m : World) (n : Nat) (hn : n < 18446744073709551616) (b : Nat) (S : List Nat) (l : List UInt8) (h : WAt m b S l) (hl : l.length < 1000000000) :
    FnR Tryz.prog 73 [.pointer (some ⟨b, 0, none⟩), .int .u64 n] m (WPost m b S (l ++ encU n)) := by
  refine FnE.enter ⟨_, Tryz.func73, by kernel_rfl, by kernel_rfl⟩ Tryz.func73 rfl rfl ?_
  refine WP.S1 (WP.B1 (WP.loop (X := Nat × List UInt8) (fun x => [(0, .pointer (some ⟨b, 0, none⟩)), (1, .int .u64 x.1)])
    (fun x m' => x.1 < 18446744073709551616 ∧ x.2 ++ encU x.1 = l ++ encU n ∧ ∃ S', WAt m' b S' x.2 ∧ Ext m S m' ∧ FpNew m S S') (fun x => x.1) (n, l)
    (Sub.C1 rfl (Sub.C1 rfl Sub.nil)) ⟨hn, rfl, S, h, Ext.refl _ _, FpNew.refl _ _⟩ ?_))
  rintro ⟨k, pre⟩ m1 ⟨hk, hpre, S', hW, hE, hF⟩
  simp only at hk hpre hW
  have hlen : pre.length + (encU k).length = l.length + (encU n).length := by simpa using congrArg List.length hpre
  have h10 := encU_len10 hn
  (with_reducible repeat (first | refine WP.S1 ?_ | refine WP.B1 ?_ | refine WP.R1 ?_))
  refine RL.A1 T_ok rfl ?_
  refine RL.N1 ?_; (with_reducible repeat (first | refine QN.B1 ?_ | refine QN.N1 ?_ | refine WP.S1 ?_ | refine WP.B1 ?_ | refine WP.R1 ?_))
  obtain ⟨v, S1, hB, hO, hb, rfl⟩ := hW
  refine WP.cond rfl (fun hc => ?_) (fun hc => ?_)
  · have hc : 128 ≤ k := by have := of_decide_eq_true hc; omega
    refine WP.skip ?_; (with_reducible repeat (first | refine QN.B1 ?_ | refine QN.N1 ?_ | refine WP.S1 ?_ | refine WP.B1 ?_ | refine WP.R1 ?_))
    refine RL.A1 T_ok rfl ?_
    refine RL.load T_ok rfl rfl rfl (hB.cell 0 rfl) rfl ?_
    refine RL.A1 T_ok rfl ?_
    refine RL.append1 T_ok [.tmp 15] hO (u8s [UInt8.ofNat (k % 128 + 128)]) rfl rfl rfl rfl rfl rfl rfl rfl rfl (by simp [Value.cells]) ?_ (u8s_one _) (by unfold maxLen; omega) (by show (_ + 1) * 1 ≤ _; omega) ?_
    · simp [u8s, Value.cells, wrap_u8_nat]
      exact or128 k
    intro v1 m2 S2 hO1 hE1 hF1
    refine ⟨_, rfl, ?_⟩
    have hB1 := hB.ext hE1 hb
    refine RL.A1 T_ok rfl ?_
    refine RL.store T_ok hB1 (i := 0) (v := v1) (by simp) rfl rfl rfl rfl hO1.one rfl ?_
    intro m3 hC
    obtain ⟨S3, hW3, hE3, hF3⟩ := W_step hb hB (l' := pre ++ [UInt8.ofNat (k % 128 + 128)]) (by rw [← u8s_append] at hO1; simpa using hO1) hE1 hF1 hC
    refine RL.N1 ?_; (with_reducible repeat (first | refine QN.B1 ?_ | refine QN.N1 ?_ | refine WP.S1 ?_ | refine WP.B1 ?_ | refine WP.R1 ?_))
    refine RL.A1 T_ok rfl ?_
    refine RL.N1 (QN.round (k / 128, pre ++ [UInt8.ofNat (k % 128 + 128)]) ?_ ⟨?_, ?_, S3, hW3, hE.trans hE3 hF, hF.trans hF3 hE.size⟩ ?_)
    · refine Sub.C1 rfl (Sub.C1 ?_ Sub.nil)
      show some (Value.int .u64 ((k : Int).fdiv (2 ^ 7))) = some (Value.int .u64 ((k / 128 : Nat) : Int))
      rw [fdiv_pow k 7]
    · show k / 128 < _
      omega
    · show (pre ++ [_]) ++ encU (k / 128) = _
      rw [← hpre, encU_big hc]; simp
    · show k / 128 < k
      omega
  · have hc : k < 128 := by have := of_decide_eq_false hc; omega
    refine WP.exit ?_; (with_reducible repeat (first | refine QN.tx ?_ | refine QN.bx ?_ | refine QN.block_far rfl ?_ | refine QN.B1 ?_ | refine QN.N1 ?_)); (with_reducible repeat (first | refine WP.S1 ?_ | refine WP.B1 ?_ | refine WP.R1 ?_))
    refine RL.A1 T_ok rfl ?_
    refine RL.load T_ok rfl rfl rfl (hB.cell 0 rfl) rfl ?_
    refine RL.A1 T_ok rfl ?_
    refine RL.append1 T_ok [.tmp 26] hO (u8s [UInt8.ofNat k]) rfl rfl rfl rfl rfl rfl rfl rfl rfl (by simp [Value.cells]) ?_ (u8s_one _) (by unfold maxLen; omega) (by show (_ + 1) * 1 ≤ _; omega) ?_
    · simp only [u8s, List.map_cons, List.map_nil, List.flatMap_cons, List.flatMap_nil, Value.cells, wrap_u8_nat]; rfl
    intro v1 m2 S2 hO1 hE1 hF1
    refine ⟨_, rfl, ?_⟩
    have hB1 := hB.ext hE1 hb
    refine RL.A1 T_ok rfl ?_
    refine RL.store T_ok hB1 (i := 0) (v := v1) (by simp) rfl rfl rfl rfl hO1.one rfl ?_
    intro m3 hC
    obtain ⟨S3, hW3, hE3, hF3⟩ := W_step hb hB (l' := pre ++ [UInt8.ofNat k]) (by rw [← u8s_append] at hO1; simpa using hO1) hE1 hF1 hC
    refine RL.N1 (QN.end0 rfl ⟨_, rfl, rfl, S3, ?_, hE.trans hE3 hF, hF.trans hF3 hE.size⟩)
    rw [← hpre, encU_small hc]
    exact hW3
theorem clone_bytes (m : World) (M : List Nat) (v : Value) (l : List UInt8) (h : Bs m M v l) (hl : l.length < 1000000000) :
    FnR Tryz.prog 75 [v] m fun r m' => ∃ S', Ev.Own m' S' 5 1 r l.length (u8s l) ∧ New m S' m' := by
  obtain ⟨A, c, rfl, hlc, _⟩ := h.shape
  refine FnE.enter ⟨_, Tryz.func75, by kernel_rfl, by kernel_rfl⟩ Tryz.func75 rfl rfl ?_
  (with_reducible repeat (first | refine WP.S1 ?_ | refine WP.B1 ?_ | refine WP.R1 ?_))
  refine RL.A1 T_ok rfl ?_
  refine RL.N1 ?_; (with_reducible repeat (first | refine QN.B1 ?_ | refine QN.N1 ?_ | refine WP.S1 ?_ | refine WP.B1 ?_ | refine WP.R1 ?_))
  refine RL.A1 T_ok rfl ?_
  refine RL.N1 ?_; (with_reducible repeat (first | refine QN.B1 ?_ | refine QN.N1 ?_ | refine WP.S1 ?_ | refine WP.B1 ?_ | refine WP.R1 ?_))
  refine WP.cond rfl (fun hc => ?_) (fun hc => ?_)
  · have hn : l = [] := by
      rcases Nat.eq_zero_or_pos l.length with h0 | h0
      · exact List.eq_nil_of_length_eq_zero h0
      · obtain ⟨ad, rfl, _⟩ := Sl.addr h h0; cases hc
    subst hn
    (with_reducible repeat (first | refine WP.S1 ?_ | refine WP.B1 ?_ | refine WP.R1 ?_))
    refine RL.A1 T_ok rfl ?_
    refine RL.N1 ?_; (with_reducible repeat (first | refine QN.B1 ?_ | refine QN.N1 ?_ | refine WP.S1 ?_ | refine WP.B1 ?_ | refine WP.R1 ?_))
    refine WP.ret ?_; (with_reducible repeat (first | refine QN.tr ?_ | refine QN.br ?_))
    exact QN.ret1 rfl rfl ⟨_, rfl, [], Own.empty _ _ _ _, Ext.refl _ _, FpNew.nil _ _⟩
  · refine WP.skip ?_; (with_reducible repeat (first | refine QN.B1 ?_ | refine QN.N1 ?_ | refine WP.S1 ?_ | refine WP.B1 ?_ | refine WP.R1 ?_))
    refine RL.buildSlice0 T_ok rfl rfl (fun b m1 hb hE => ⟨_, rfl, ?_⟩)
    refine RL.A1 T_ok rfl ?_
    have hS1 : Sl m1 [] 1 (.slice A l.length c) (u8s l) := Sl.ext h (hE.mono (M' := M) (by simp)) (by simp) (by omega)
    refine RL.append T_ok (Own.empty m1 _ _ _) _ (Src.of_sl hS1) rfl rfl rfl rfl rfl (by simp [u8s_length]) (u8s_one _) (by simp; unfold maxLen; omega) (by simp; omega) ?_
    intro v2 m2 S2 hO hE2 hF
    refine ⟨_, rfl, ?_⟩
    refine RL.A1 T_ok rfl ?_
    refine RL.N1 ?_; (with_reducible repeat (first | refine QN.B1 ?_ | refine QN.N1 ?_ | refine WP.S1 ?_ | refine WP.B1 ?_ | refine WP.R1 ?_))
    refine WP.ret ?_; (with_reducible repeat (first | refine QN.tr ?_ | refine QN.br ?_))
    refine QN.ret1 rfl rfl ⟨_, rfl, S2, ?_, hE.trans hE2 (by simp), hF.trans' hE⟩
    simpa using hO
theorem wbytes (m : World) (b : Nat) (S : List Nat) (l : List UInt8) (h : WAt m b S l) (hl : l.length < 1000000000) :
    FnR Tryz.prog 27 [.pointer (some ⟨b, 0, none⟩)] m fun r m' => ∃ S', Ev.Own m' S' 5 1 r l.length (u8s l) ∧ New m S' m' := by
  obtain ⟨v, S1, hB, hO, hb, rfl⟩ := h
  refine FnE.enter ⟨_, Tryz.func27, by kernel_rfl, by kernel_rfl⟩ Tryz.func27 rfl rfl ?_
  (with_reducible repeat (first | refine WP.S1 ?_ | refine WP.B1 ?_ | refine WP.R1 ?_))
  refine RL.A1 T_ok rfl ?_
  refine RL.N1 ?_; (with_reducible repeat (first | refine QN.B1 ?_ | refine QN.N1 ?_ | refine WP.S1 ?_ | refine WP.B1 ?_ | refine WP.R1 ?_))
  refine RL.A1 T_ok rfl ?_
  refine RL.load T_ok rfl rfl rfl (hB.cell 0 rfl) rfl ?_
  refine RL.call (fi := []) (ca := []) rfl rfl rfl rfl (clone_bytes m [] v l (hO.sl (by simp)) hl) ?_
  rintro r m1 ⟨S', hO1, hN⟩
  refine ⟨_, rfl, ?_⟩
  refine RL.A1 T_ok rfl ?_
  refine RL.N1 ?_; (with_reducible repeat (first | refine QN.B1 ?_ | refine QN.N1 ?_ | refine WP.S1 ?_ | refine WP.B1 ?_ | refine WP.R1 ?_))
  refine WP.ret ?_; (with_reducible repeat (first | refine QN.tr ?_ | refine QN.br ?_))
  exact QN.ret1 rfl rfl ⟨_, rfl, S', hO1, hN⟩
end Go.Proofs.YtgpgladbdoimdaaGreatDoor
end
section
namespace Go.Proofs.YtgpgladbdoimdaaGreatDoor
open Go.RowKit Go.Ev
def brk (e : Int) : List PanicEntry := [{ v := .iface 276 (.agg #[.int .i64 e]), recovered := false }]
theorem fail_c (m : World) (e : Int) : FnE Tryz.prog 186 [.int .i64 e] m fun ed m' => m' = m ∧ ed = .panicked (brk (if e = 0 then 11 else e)) := by
  refine FnE.enter ⟨_, Tryz.func186, by kernel_rfl, by kernel_rfl⟩ Tryz.func186 rfl rfl ?_
  (with_reducible repeat (first | refine WP.S1 ?_ | refine WP.B1 ?_ | refine WP.R1 ?_))
  refine RL.A1 T_ok rfl ?_
  refine RL.N1 ?_; (with_reducible repeat (first | refine QN.B1 ?_ | refine QN.N1 ?_ | refine WP.S1 ?_ | refine WP.B1 ?_ | refine WP.R1 ?_))
  refine WP.cond rfl (fun hc => ?_) (fun hc => ?_)
  · have he : e = 0 := by simpa using hc
    subst he
    (with_reducible repeat (first | refine WP.S1 ?_ | refine WP.B1 ?_ | refine WP.R1 ?_))
    refine RL.A1 T_ok rfl ?_
    refine RL.N1 ?_; (with_reducible repeat (first | refine QN.B1 ?_ | refine QN.N1 ?_ | refine WP.S1 ?_ | refine WP.B1 ?_ | refine WP.R1 ?_))
    refine RL.A1 T_ok rfl ?_
    exact RL.panic rfl rfl rfl (QN.panic ⟨rfl, rfl⟩)
  · have he : ¬ e = 0 := by simpa using hc
    refine WP.skip ?_; (with_reducible repeat (first | refine QN.B1 ?_ | refine QN.N1 ?_ | refine WP.S1 ?_ | refine WP.B1 ?_ | refine WP.R1 ?_))
    refine RL.A1 T_ok rfl ?_
    refine RL.panic rfl rfl rfl (QN.panic ⟨rfl, ?_⟩)
    rw [if_neg he]; rfl
theorem try1_ret (m : World) (b : Nat) : DfE Tryz.prog 219 [.pointer (some ⟨b, 0, none⟩)] .returning m fun ed u' m' => ed = .returned (.tuple #[]) ∧ u' = .returning ∧ m' = m := by
  refine DfE.enter ⟨_, Tryz.func219, by kernel_rfl, by kernel_rfl⟩ Tryz.func219 rfl rfl rfl ?_
  (with_reducible repeat (first | refine WP.S1 ?_ | refine WP.B1 ?_ | refine WP.R1 ?_))
  refine RL.A1 T_ok rfl ?_
  refine RL.N1 ?_; (with_reducible repeat (first | refine QN.B1 ?_ | refine QN.N1 ?_ | refine WP.S1 ?_ | refine WP.B1 ?_ | refine WP.R1 ?_))
  refine WP.condT rfl ?_
  (with_reducible repeat (first | refine WP.S1 ?_ | refine WP.B1 ?_ | refine WP.R1 ?_))
  refine RL.A1 T_ok rfl ?_
  refine RL.N1 (QN.B1 ?_)
  exact QN.end0 rfl ⟨rfl, rfl, rfl⟩
theorem try1_pan (m : World) (b : Nat) (e x : Int) (hB : Blk m b 67 [.int .i64 x]) :
    DfE Tryz.prog 219 [.pointer (some ⟨b, 0, none⟩)] (.panicking (brk e)) m fun ed u' m' => ed = .returned (.tuple #[]) ∧ settle u' = .returning ∧ Blk m' b 67 [.int .i64 e] ∧ Ext m [b] m' := by
  refine DfE.enter ⟨_, Tryz.func219, by kernel_rfl, by kernel_rfl⟩ Tryz.func219 rfl rfl rfl ?_
  (with_reducible repeat (first | refine WP.S1 ?_ | refine WP.B1 ?_ | refine WP.R1 ?_))
  refine RL.A1 T_ok rfl ?_
  refine RL.N1 ?_; (with_reducible repeat (first | refine QN.B1 ?_ | refine QN.N1 ?_ | refine WP.S1 ?_ | refine WP.B1 ?_ | refine WP.R1 ?_))
  refine WP.condF rfl ?_
  (with_reducible repeat (first | refine WP.S1 ?_ | refine WP.B1 ?_ | refine WP.R1 ?_))
  refine RL.A1 T_ok rfl ?_
  refine RL.N1 ?_; (with_reducible repeat (first | refine QN.B1 ?_ | refine QN.N1 ?_ | refine WP.S1 ?_ | refine WP.B1 ?_ | refine WP.R1 ?_))
  refine WP.condT rfl ?_
  (with_reducible repeat (first | refine WP.S1 ?_ | refine WP.B1 ?_ | refine WP.R1 ?_))
  refine RL.alloc T_ok rfl rfl (fun b1 m1 hb1 hC1 => ⟨_, rfl, ?_⟩)
  have hne : b ≠ b1 := by have := hB.lt; omega
  have hB1 := hB.far hC1 hne
  refine RL.storeAgg T_ok (b := b1) (i := 0) (vs := [.int .i64 e]) (cs := [.int .i64 0]) hC1.blk rfl rfl rfl rfl rfl (by simp) (by simp [Value.oneCell']) rfl ?_
  intro m2 hC2
  have hB2 := hB1.far hC2 hne
  refine RL.N1 ?_; (with_reducible repeat (first | refine QN.B1 ?_ | refine QN.N1 ?_ | refine WP.S1 ?_ | refine WP.B1 ?_ | refine WP.R1 ?_))
  refine RL.A1 T_ok rfl ?_
  refine RL.load T_ok rfl rfl rfl (hC2.blk.cell 0 rfl) rfl ?_
  refine RL.store T_ok hB2 (i := 0) (v := .int .i64 e) (by simp) rfl rfl rfl rfl rfl rfl ?_
  intro m3 hC3
  refine RL.N1 (QN.B1 ?_)
  have hE := (hC1.new (by omega)).trans hC2.ext (fun k hk => .inr (by have h9 : k = b1 := (by simpa using hk); omega))
  refine QN.end0 rfl ⟨rfl, rfl, hC3.blk, ?_⟩
  exact (hE.mono (M' := [b]) (by simp)).trans hC3.ext (fun k hk => .inl hk)
theorem try_c (m : World) (k : FuncId) (fi ca al : List Value) (has : fi ++ ca = al) (R : World → Ending → World → Prop)
    (hf : ∀ m1, Ext m [] m1 → m1.heap.size = m.heap.size + 1 → FnE Tryz.prog k al m1 (R m1)) (hout : ∀ m1 m2, ¬ R m1 .outgrown m2) (hpan : ∀ m1 ch m2, R m1 (.panicked ch) m2 → ∃ e, ch = brk e)
    (hkeep : ∀ m1 ed m2, R m1 ed m2 → Ext m [] m1 → m1.heap.size = m.heap.size + 1 → ∃ N, Ext m1 N m2 ∧ m.heap.size ∉ N) :
    FnR Tryz.prog 185 [.func (.func k) fi.toArray ca.toArray] m fun v m' => ∃ m1 m2, Ext m [] m1 ∧ m1.heap.size = m.heap.size + 1 ∧ Ext m2 [m.heap.size] m' ∧
      ((∃ u, R m1 (.returned u) m2 ∧ v = .int .i64 0) ∨ ∃ e, R m1 (.panicked (brk e)) m2 ∧ v = .int .i64 e) := by
  refine FnE.enterD ⟨_, Tryz.func185, by kernel_rfl, by kernel_rfl⟩ Tryz.func185 rfl rfl ?_
  (with_reducible repeat (first | refine WP.S1 ?_ | refine WP.B1 ?_ | refine WP.R1 ?_))
  refine RL.alloc T_ok rfl rfl (fun b m1 hb hC1 => ⟨_, rfl, ?_⟩)
  subst hb
  have hE1 := hC1.new (Nat.le_refl _)
  have hs1 : m1.heap.size = m.heap.size + 1 := by rw [hC1.size]; omega
  have hB1 : Blk m1 m.heap.size 67 [.int .i64 0] := hC1.here
  refine RL.N1 ?_; (with_reducible repeat (first | refine QN.B1 ?_ | refine QN.N1 ?_ | refine WP.S1 ?_ | refine WP.B1 ?_ | refine WP.R1 ?_))
  refine RL.A1 T_ok rfl ?_
  refine RL.defer rfl rfl rfl ?_
  refine RL.N1 ?_; (with_reducible repeat (first | refine QN.B1 ?_ | refine QN.N1 ?_ | refine WP.S1 ?_ | refine WP.B1 ?_ | refine WP.R1 ?_))
  refine RL.A1 T_ok rfl ?_
  refine RL.callE rfl rfl rfl (by simpa using has) (hf m1 hE1 hs1) ?_ ?_ (hout m1)
  · intro u m2 hR
    obtain ⟨N, hE2, hN⟩ := hkeep m1 _ m2 hR hE1 hs1
    have hB2 := hB1.ext hE2 hN
    refine ⟨_, rfl, ?_⟩
    refine RL.N1 ?_; (with_reducible repeat (first | refine QN.B1 ?_ | refine QN.N1 ?_ | refine WP.S1 ?_ | refine WP.B1 ?_ | refine WP.R1 ?_))
    refine RL.store T_ok hB2 (i := 0) (v := .int .i64 0) (by simp) rfl rfl rfl rfl rfl rfl ?_
    intro m3 hC3
    refine RL.N1 ?_; (with_reducible repeat (first | refine QN.B1 ?_ | refine QN.N1 ?_ | refine WP.S1 ?_ | refine WP.B1 ?_ | refine WP.R1 ?_))
    refine WP.ret ?_; (with_reducible repeat (first | refine QN.tr ?_ | refine QN.br ?_))
    refine QN.leave (fi := []) (ca := [.pointer (some ⟨m.heap.size, 0, none⟩)]) (.inl ⟨rfl, rfl⟩) rfl (try1_ret m3 m.heap.size) ?_ ?_ ?_
    · rintro v u' m4 ⟨_, rfl, rfl⟩
      refine .inl ⟨rfl, .int .i64 0, Res.cell T_ok rfl rfl rfl (hC3.blk.cell 0 rfl), _, rfl, m1, m2, hE1, hs1, hC3.ext, .inl ⟨u, hR, rfl⟩⟩
    · rintro ch u' m4 ⟨h, _⟩; cases h
    · rintro u' m4 ⟨h, _⟩; cases h
  · intro ch m2 hR
    obtain ⟨e, rfl⟩ := hpan m1 ch m2 hR
    obtain ⟨N, hE2, hN⟩ := hkeep m1 _ m2 hR hE1 hs1
    have hB2 := hB1.ext hE2 hN
    refine QN.tp (QN.leave (fi := []) (ca := [.pointer (some ⟨m.heap.size, 0, none⟩)]) (.inr (.inr ⟨_, rfl, rfl⟩)) rfl (try1_pan m2 m.heap.size e 0 hB2) ?_ ?_ ?_)
    · rintro v u' m4 ⟨_, hu, hB4, hE4⟩
      refine .inl ⟨hu, .int .i64 e, Res.cell T_ok rfl rfl rfl (hB4.cell 0 rfl), _, rfl, m1, m2, hE1, hs1, hE4, .inr ⟨e, hR, rfl⟩⟩
    · rintro ch u' m4 ⟨h, _⟩; cases h
    · rintro u' m4 ⟨h, _⟩; cases h
end Go.Proofs.YtgpgladbdoimdaaGreatDoor
end
section
namespace Go.Proofs.YtgpgladbdoimdaaGreatDoor
open Go.RowKit Go.Ev
def RAt (m : World) (M : List Nat) (b : Nat) (l : List UInt8) (e : Int) : Prop := ∃ v, Blk m b 153 [v, .int .i64 e] ∧ Bs m M v l
theorem RAt.lt {m : World} {M : List Nat} {b : Nat} {l : List UInt8} {e : Int} (h : RAt m M b l e) : b < m.heap.size := by obtain ⟨v, h, _⟩ := h; exact h.lt
theorem RAt.ext {m m' : World} {M M' N : List Nat} {b : Nat} {l : List UInt8} {e : Int} (h : RAt m M b l e) (hE : Ext m N m') (hb : b ∉ N) (hN : ∀ k ∈ N, k < m.heap.size → k ∈ M) (hM : ∀ k ∈ M', k ∈ M ∨ m.heap.size ≤ k) : RAt m' M' b l e := by
  obtain ⟨v, hB, hS⟩ := h
  exact ⟨v, hB.ext hE hb, Sl.ext hS (hE.mono hN) hM (by omega)⟩
theorem take_c (m : World) (M : List Nat) (b : Nat) (l : List UInt8) (e : Int) (h : RAt m M b l e) (hbM : b ∈ M) (n : Nat) :
    FnE Tryz.prog 137 [.pointer (some ⟨b, 0, none⟩), .int .i64 n] m fun ed m' =>
      (n ≤ l.length ∧ ∃ v, ed = .returned v ∧ Bs m' M v (l.take n) ∧ RAt m' M b (l.drop n) e ∧ Ext m [b] m') ∨ (l.length < n ∧ ed = .panicked (brk 10) ∧ m' = m) := by
  obtain ⟨v, hB, hS⟩ := h
  obtain ⟨A, c, rfl, hlc, hcm⟩ := hS.shape
  refine FnE.enter ⟨_, Tryz.func137, by kernel_rfl, by kernel_rfl⟩ Tryz.func137 rfl rfl ?_
  (with_reducible repeat (first | refine WP.S1 ?_ | refine WP.B1 ?_ | refine WP.R1 ?_))
  refine RL.A1 T_ok rfl ?_
  refine RL.N1 ?_; (with_reducible repeat (first | refine QN.B1 ?_ | refine QN.N1 ?_ | refine WP.S1 ?_ | refine WP.B1 ?_ | refine WP.R1 ?_))
  refine RL.A1 T_ok rfl ?_
  refine RL.load T_ok rfl rfl rfl (hB.cell 0 rfl) rfl ?_
  refine RL.A1 T_ok rfl ?_
  refine RL.N1 ?_; (with_reducible repeat (first | refine QN.B1 ?_ | refine QN.N1 ?_ | refine WP.S1 ?_ | refine WP.B1 ?_ | refine WP.R1 ?_))
  refine WP.cond rfl (fun hc => ?_) (fun hc => ?_)
  · have hc : l.length < n := by have := of_decide_eq_true hc; omega
    (with_reducible repeat (first | refine WP.S1 ?_ | refine WP.B1 ?_ | refine WP.R1 ?_))
    refine RL.callE (fi := []) (ca := []) rfl rfl rfl rfl (fail_c m 10) ?_ ?_ ?_
    · rintro v m' ⟨_, h⟩; cases h
    · rintro ch m' ⟨rfl, h⟩
      injection h with h
      subst h
      exact QN.panic (.inr ⟨hc, rfl, rfl⟩)
    · rintro m' ⟨_, h⟩; cases h
  · have hc : n ≤ l.length := by have := of_decide_eq_false hc; omega
    refine WP.skip ?_; (with_reducible repeat (first | refine QN.B1 ?_ | refine QN.N1 ?_ | refine WP.S1 ?_ | refine WP.B1 ?_ | refine WP.R1 ?_))
    refine RL.A1 T_ok rfl ?_
    refine RL.load T_ok rfl rfl rfl (hB.cell 0 rfl) rfl ?_
    refine RL.A1 T_ok rfl ?_
    refine RL.sliceTo3 (l := n) (q := n) T_ok rfl rfl rfl rfl rfl rfl rfl (Nat.le_refl _) (by omega) rfl ?_
    refine RL.A1 T_ok rfl ?_
    refine RL.N1 ?_; (with_reducible repeat (first | refine QN.B1 ?_ | refine QN.N1 ?_ | refine WP.S1 ?_ | refine WP.B1 ?_ | refine WP.R1 ?_))
    refine RL.A1 T_ok rfl ?_
    refine RL.load T_ok rfl rfl rfl (hB.cell 0 rfl) rfl ?_
    refine RL.A1 T_ok rfl ?_
    refine RL.sliceFrom (l := n) T_ok rfl rfl rfl rfl rfl hc rfl ?_
    refine RL.A1 T_ok rfl ?_
    refine RL.store T_ok hB (i := 0) (by simp) rfl rfl rfl rfl rfl rfl ?_
    intro m1 hC
    have hE := hC.ext
    have h1 := Sl.upto hS hc (Nat.le_refl n) (by omega)
    have h2 := Sl.from_ hS hc
    rw [show (u8s l).take (n * 1) = u8s (l.take n) by rw [Nat.mul_one, u8s_take]] at h1
    rw [show (u8s l).drop (n * 1) = u8s (l.drop n) by rw [Nat.mul_one, u8s_drop]] at h2
    have hEM : Ext m M m1 := hE.mono (by simp [hbM])
    refine RL.N1 ?_; (with_reducible repeat (first | refine QN.B1 ?_ | refine QN.N1 ?_ | refine WP.S1 ?_ | refine WP.B1 ?_ | refine WP.R1 ?_))
    refine RL.A1 T_ok rfl ?_
    refine RL.N1 ?_; (with_reducible repeat (first | refine QN.B1 ?_ | refine QN.N1 ?_ | refine WP.S1 ?_ | refine WP.B1 ?_ | refine WP.R1 ?_))
    refine WP.ret ?_; (with_reducible repeat (first | refine QN.tr ?_ | refine QN.br ?_))
    refine QN.ret1 rfl rfl (.inl ⟨hc, _, rfl, Sl.ext h1 hEM (fun _ hk => .inl hk) (by omega), ⟨_, hC.blk, Sl.ext h2 hEM (fun _ hk => .inl hk) (by omega)⟩, hE⟩)
def UPost (m : World) (M : List Nat) (b : Nat) (e : Int) (r : Except Int (Nat × List UInt8)) (ed : Ending) (m' : World) : Prop :=
  Ext m [b] m' ∧ ((∃ n l', r = .ok (n, l') ∧ ed = .returned (.int .u64 n) ∧ RAt m' M b l' e) ∨ ∃ k l', r = .error k ∧ ed = .panicked (brk k) ∧ RAt m' M b l' e)
set_option maxHeartbeats 400000 in
theorem uint_c (m : World) (M : List Nat) (b : Nat) (l : List UInt8) (e : Int) (h : RAt m M b l e) (hbM : b ∈ M) (most : Nat) :
    FnE Tryz.prog 135 [.pointer (some ⟨b, 0, none⟩), .int .u64 most] m (UPost m M b e (rdU most 0 0 l)) := by
  refine FnE.enter ⟨_, Tryz.func135, by kernel_rfl, by kernel_rfl⟩ Tryz.func135 rfl rfl ?_
  (with_reducible repeat (first | refine WP.S1 ?_ | refine WP.B1 ?_ | refine WP.R1 ?_))
  refine RL.A1 T_ok rfl ?_
  refine RL.N1 ?_; (with_reducible repeat (first | refine QN.B1 ?_ | refine QN.N1 ?_ | refine WP.S1 ?_ | refine WP.B1 ?_ | refine WP.R1 ?_))
  refine RL.A1 T_ok rfl ?_
  refine RL.N1 ?_; (with_reducible repeat (first | refine QN.B1 ?_ | refine QN.N1 ?_ | refine WP.S1 ?_ | refine WP.B1 ?_ | refine WP.R1 ?_))
  refine RL.A1 T_ok rfl ?_
  refine RL.N1 ?_; (with_reducible repeat (first | refine QN.B1 ?_ | refine QN.N1 ?_ | refine WP.S1 ?_ | refine WP.B1 ?_ | refine WP.R1 ?_))
  refine WP.loop (X := Nat × Nat × List UInt8) (fun x => [(0, .pointer (some ⟨b, 0, none⟩)), (1, .int .u64 most), (5, .int .u64 x.2.1), (6, .int .i64 x.1)])
    (fun x m' => x.1 ≤ 9 ∧ x.2.1 < 128 ^ x.1 ∧ rdU most x.1 x.2.1 x.2.2 = rdU most 0 0 l ∧ RAt m' M b x.2.2 e ∧ Ext m [b] m') (fun x => 10 - x.1) (0, 0, l)
    (Sub.C1 rfl (Sub.C1 rfl (Sub.C1 rfl (Sub.C1 rfl Sub.nil)))) ⟨by simp, by simp, rfl, h, Ext.refl _ _⟩ ?_
  rintro ⟨i, n, l1⟩ m1 ⟨hi, hn, hrd, hR, hE⟩
  simp only at hi hn hrd hR
  have hEE : ∀ m2, Ext m1 [b] m2 → Ext m [b] m2 := fun m2 h2 => hE.trans h2 (fun k hk => .inl hk)
  (with_reducible repeat (first | refine WP.S1 ?_ | refine WP.B1 ?_ | refine WP.R1 ?_))
  refine RL.A1 T_ok rfl ?_
  refine RL.callE (fi := []) (ca := []) rfl rfl rfl rfl (take_c m1 M b l1 e hR hbM 1) ?_ ?_ ?_
  rotate_left
  · rintro ch m2 (⟨_, v, h, _⟩ | ⟨hlt, h, rfl⟩)
    · cases h
    · injection h with h
      subst h
      have h0 : l1 = [] := List.eq_nil_of_length_eq_zero (by omega)
      subst h0
      (with_reducible repeat (first | refine QN.tp ?_ | refine QN.bp ?_))
      exact QN.panic ⟨hE, .inr ⟨10, [], by rw [← hrd]; rfl, rfl, hR⟩⟩
  · rintro m2 (⟨_, v, h, _⟩ | ⟨_, h, _⟩) <;> cases h
  rintro v m2 (⟨hle, v', h, hB, hR2, hE2⟩ | ⟨_, h, _⟩)
  rotate_left
  · cases h
  injection h with h
  subst h
  match l1, hle with
  | x :: l2, _ =>
  replace hE := hEE _ hE2
  clear hEE hE2 hR
  have hB : Bs m2 M v [x] := hB
  have hR2 : RAt m2 M b l2 e := hR2
  obtain ⟨A, c, rfl, _, _⟩ := hB.shape
  refine ⟨_, rfl, ?_⟩
  refine RL.index T_ok hB (k := 0) rfl (by simp) rfl rfl rfl rfl (fun ad _ _ hcell => ⟨_, rfl, ?_⟩)
  have hx := hcell 0 (.int .u8 x.toNat) rfl
  refine RL.load T_ok rfl rfl rfl (by rw [add_add] at hx; exact hx) rfl ?_
  refine RL.A1 T_ok rfl ?_
  refine RL.N1 ?_; (with_reducible repeat (first | refine QN.B1 ?_ | refine QN.N1 ?_))
  have hxlt := x.toNat_lt
  have hp : 128 ^ i = 2 ^ (7 * i) := by rw [Nat.pow_mul]
  have hi9 : 128 ^ i ≤ 128 ^ 9 := Nat.pow_le_pow_right (by omega) hi
  -- i == 9 && b > 1
  refine WP.cut (X := Unit) (fun _ => [(0, .pointer (some ⟨b, 0, none⟩)), (1, .int .u64 most), (5, .int .u64 n), (6, .int .i64 i), (7, .int .u8 x.toNat)]) (fun _ m' => m' = m2 ∧ ¬ (i = 9 ∧ 1 < x.toNat)) ?_ ?_
  · have fail : i = 9 ∧ 1 < x.toNat → UPost m M b e (rdU most 0 0 l) (.panicked (brk 11)) m2 := fun hh => ⟨hE, .inr ⟨11, l2, by rw [← hrd]; simp [rdU, hh], rfl, hR2⟩⟩
    (with_reducible repeat (first | refine WP.S1 ?_ | refine WP.B1 ?_ | refine WP.R1 ?_))
    refine RL.pure T_ok 2 rfl ?_
    by_cases h9 : i = 9
    · refine RL.eqv (v' := .bool true) (by simp [h9]) ?_
      refine RL.A1 T_ok rfl ?_
      refine RL.N1 ?_; (with_reducible repeat (first | refine QN.B1 ?_ | refine QN.N1 ?_ | refine WP.S1 ?_ | refine WP.B1 ?_ | refine WP.R1 ?_))
      refine WP.cond rfl (fun hc => ?_) (fun hc => ?_)
      · have hc : 1 < x.toNat := by have := of_decide_eq_true hc; omega
        (with_reducible repeat (first | refine WP.S1 ?_ | refine WP.B1 ?_ | refine WP.R1 ?_))
        refine RL.callE (fi := []) (ca := []) rfl rfl rfl rfl (fail_c m2 11) ?_ ?_ ?_
        · rintro v m' ⟨_, h⟩; cases h
        · rintro ch m' ⟨rfl, h⟩
          injection h with h
          subst h
          (with_reducible repeat (first | refine QN.tp ?_ | refine QN.bp ?_))
          exact QN.panic (fail ⟨h9, hc⟩)
        · rintro m' ⟨_, h⟩; cases h
      · have hc : ¬ 1 < x.toNat := by have := of_decide_eq_false hc; omega
        refine WP.skip (QN.cutEnd () (Sub.C1 rfl (Sub.C1 rfl (Sub.C1 rfl (Sub.C1 rfl (Sub.C1 rfl Sub.nil))))) ⟨rfl, fun hh => hc hh.2⟩)
    · refine RL.eqv (v' := .bool false) (by simp; omega) ?_
      refine RL.A1 T_ok rfl ?_
      refine RL.N1 ?_; (with_reducible repeat (first | refine QN.B1 ?_ | refine QN.N1 ?_ | refine WP.S1 ?_ | refine WP.B1 ?_ | refine WP.R1 ?_))
      refine WP.condF rfl ?_
      refine WP.skip (QN.cutEnd () (Sub.C1 rfl (Sub.C1 rfl (Sub.C1 rfl (Sub.C1 rfl (Sub.C1 rfl Sub.nil))))) ⟨rfl, fun hh => h9 hh.1⟩)
  rintro _ m2' ⟨rfl, h9⟩
  have hy : i = 9 → x.toNat ≤ 1 := fun h => by
    rcases Nat.lt_or_ge 1 x.toNat with h1 | h1
    · exact absurd ⟨h, h1⟩ h9
    · exact h1
  have hfit : n + x.toNat % 128 * 128 ^ i < 18446744073709551616 ∧ (i < 9 → n + x.toNat % 128 * 128 ^ i < 128 ^ (i + 1)) := by
    have h1 : x.toNat % 128 * 128 ^ i ≤ 127 * 128 ^ i := Nat.mul_le_mul_right _ (by omega)
    refine ⟨?_, fun _ => by rw [Nat.pow_succ]; omega⟩
    rcases Nat.lt_or_ge i 9 with h | h
    · have : 128 ^ i ≤ 128 ^ 8 := Nat.pow_le_pow_right (by omega) (by omega)
      omega
    · have : i = 9 := by omega
      subst this
      have := hy rfl
      have : x.toNat % 128 * 128 ^ 9 ≤ 1 * 128 ^ 9 := Nat.mul_le_mul_right _ (by omega)
      omega
  have hyp : x.toNat % 128 * 128 ^ i = x.toNat % 128 * 2 ^ (7 * i) := by rw [hp]
  (with_reducible repeat (first | refine WP.S1 ?_ | refine WP.B1 ?_ | refine WP.R1 ?_))
  refine RL.pure T_ok 4 rfl ?_
  refine RL.eqv (v' := .int .u64 ((x.toNat % 128 : Nat) : Int)) (congrArg _ ?_) ?_
  · show IntKind.u64.wrap (bits .and .u8 (x.toNat : Int) 127) = _
    rw [and127, wrap_u64_in _ (by omega) (by omega)]
  refine RL.pure T_ok 3 rfl ?_
  refine RL.eqv (v' := .int .u64 ((7 * i : Nat) : Int)) (congrArg _ ?_) ?_
  · show IntKind.u64.wrap (IntKind.i64.wrap (7 * (i : Int))) = _
    rw [wrap_i64_in _ (by omega) (by omega), wrap_u64_in _ (by omega) (by omega)]; omega
  refine RL.pure T_ok 1 rfl ?_
  refine RL.eqv (v' := .int .u64 ((x.toNat % 128 * 2 ^ (7 * i) : Nat) : Int)) (congrArg _ ?_) ?_
  · show IntKind.u64.wrap (((x.toNat % 128 : Nat) : Int) * 2 ^ shAmt .u64 (7 * i)) = _
    have h1 : shAmt .u64 (7 * i) = 7 * i := by unfold shAmt; exact Nat.min_eq_left (by show 7 * i ≤ 64; omega)
    have h2 : ((x.toNat % 128 : Nat) : Int) * 2 ^ (7 * i) = ((x.toNat % 128 * 2 ^ (7 * i) : Nat) : Int) := by
      rw [Int.natCast_mul, Int.natCast_pow]; rfl
    rw [h1, h2, wrap_u64_in _ (by omega) (by rw [← hyp]; omega)]
  refine RL.pure T_ok 1 rfl ?_
  refine RL.eqv (v' := .int .u64 ((n + x.toNat % 128 * 128 ^ i : Nat) : Int)) (congrArg _ ?_) ?_
  · show bits .or .u64 (n : Int) ((x.toNat % 128 * 2 ^ (7 * i) : Nat) : Int) = _
    rw [or_add64 _ _ _ (by rw [← hp]; exact hn) (by rw [← hyp]; exact hfit.1), ← hyp]
  refine RL.A1 T_ok rfl ?_
  refine RL.N1 ?_; (with_reducible repeat (first | refine QN.B1 ?_ | refine QN.N1 ?_ | refine WP.S1 ?_ | refine WP.B1 ?_ | refine WP.R1 ?_))
  refine RL.A1 T_ok rfl ?_
  refine RL.N1 ?_; (with_reducible repeat (first | refine QN.B1 ?_ | refine QN.N1 ?_ | refine WP.S1 ?_ | refine WP.B1 ?_ | refine WP.R1 ?_))
  clear hyp
  refine WP.cond rfl (fun hc => ?_) (fun hc => ?_)
  · -- one more byte
    have hc : 128 ≤ x.toNat := by have := of_decide_eq_true hc; omega
    have hi' : i < 9 := by
      rcases Nat.lt_or_ge i 9 with h | h
      · exact h
      · have := hy (by omega); omega
    refine WP.exit ?_; (with_reducible repeat (first | refine QN.tx ?_ | refine QN.bx ?_ | refine QN.block_far rfl ?_ | refine QN.B1 ?_ | refine QN.N1 ?_)); (with_reducible repeat (first | refine WP.S1 ?_ | refine WP.B1 ?_ | refine WP.R1 ?_))
    refine RL.A1 T_ok rfl ?_
    refine RL.N1 (QN.round (i + 1, n + x.toNat % 128 * 128 ^ i, l2) ?_ ⟨?_, hfit.2 hi', ?_, hR2, hE⟩ ?_)
    · refine Sub.C1 rfl (Sub.C1 rfl (Sub.C1 rfl (Sub.C1 ?_ Sub.nil)))
      show some (Value.int .i64 (IntKind.i64.wrap ((i : Int) + 1))) = some (Value.int .i64 ((i + 1 : Nat) : Int))
      rw [wrap_i64_in _ (by omega) (by omega)]; rfl
    · show i + 1 ≤ 9
      omega
    · rw [← hrd]
      simp only [rdU]
      rw [if_neg h9, if_pos hc]
    · show 10 - (i + 1) < 10 - i
      omega
  · have hc : x.toNat < 128 := by have := of_decide_eq_false hc; omega
    refine WP.skip ?_; (with_reducible repeat (first | refine QN.B1 ?_ | refine QN.N1 ?_))
    have hrd1 : rdU most 0 0 l = if x.toNat = 0 ∧ 0 < i then .error 11 else if most < n + x.toNat % 128 * 128 ^ i then .error 12 else .ok (n + x.toNat % 128 * 128 ^ i, l2) := by
      rw [← hrd]
      simp only [rdU]
      rw [if_neg h9, if_neg (by omega)]
    have failing : ∀ (k : Int), rdU most 0 0 l = .error k → UPost m M b e (rdU most 0 0 l) (.panicked (brk k)) m2' := fun k hk => ⟨hE, .inr ⟨k, l2, hk, rfl, hR2⟩⟩
    generalize hN : n + x.toNat % 128 * 128 ^ i = N at *
    refine WP.S1 (WP.B1 ?_)
    refine WP.cut (X := Unit) (fun _ => [(0, .pointer (some ⟨b, 0, none⟩)), (1, .int .u64 most), (5, .int .u64 N), (32, .bool (decide (x.toNat = 0 ∧ 0 < i)))]) (fun _ m' => m' = m2') ?_ ?_
    · (with_reducible repeat (first | refine WP.S1 ?_ | refine WP.B1 ?_ | refine WP.R1 ?_))
      refine RL.pure T_ok 2 rfl ?_
      by_cases hx0 : x.toNat = 0
      · refine RL.eqv (v' := .bool true) (by simp [hx0]) ?_
        refine RL.A1 T_ok rfl ?_
        refine RL.N1 (QN.cutEnd () (Sub.C1 rfl (Sub.C1 rfl (Sub.C1 rfl (Sub.C1 (congrArg (fun q => some (Value.bool q)) ?_) Sub.nil)))) rfl)
        rw [decide_eq_decide]; omega
      · refine RL.eqv (v' := .bool false) (by simp [hx0]) ?_
        refine RL.A1 T_ok rfl ?_
        refine RL.N1 (QN.cutEnd () (Sub.C1 rfl (Sub.C1 rfl (Sub.C1 rfl (Sub.C1 (congrArg (fun q => some (Value.bool q)) ?_) Sub.nil)))) rfl)
        simp [hx0]
    rintro _ m3 rfl
    refine WP.cond rfl (fun hc => ?_) (fun hc => ?_)
    · have hc := of_decide_eq_true hc
      (with_reducible repeat (first | refine WP.S1 ?_ | refine WP.B1 ?_ | refine WP.R1 ?_))
      refine RL.callE (fi := []) (ca := []) rfl rfl rfl rfl (fail_c _ 11) ?_ ?_ ?_
      · rintro v m' ⟨_, h⟩; cases h
      · rintro ch m' ⟨rfl, h⟩
        injection h with h
        subst h
        (with_reducible repeat (first | refine QN.tp ?_ | refine QN.bp ?_))
        exact QN.panic (failing 11 (by rw [hrd1, if_pos hc]))
      · rintro m' ⟨_, h⟩; cases h
    have hc := of_decide_eq_false hc
    rw [if_neg hc] at hrd1
    (with_reducible repeat (first | refine WP.S1 ?_ | refine WP.B1 ?_ | refine WP.R1 ?_))
    refine RL.A1 T_ok rfl ?_
    refine RL.N1 ?_; (with_reducible repeat (first | refine QN.B1 ?_ | refine QN.N1 ?_ | refine WP.S1 ?_ | refine WP.B1 ?_ | refine WP.R1 ?_))
    refine WP.cond rfl (fun hc2 => ?_) (fun hc2 => ?_)
    · have hc2 : most < N := by have := of_decide_eq_true hc2; omega
      (with_reducible repeat (first | refine WP.S1 ?_ | refine WP.B1 ?_ | refine WP.R1 ?_))
      refine RL.callE (fi := []) (ca := []) rfl rfl rfl rfl (fail_c _ 12) ?_ ?_ ?_
      · rintro v m' ⟨_, h⟩; cases h
      · rintro ch m' ⟨rfl, h⟩
        injection h with h
        subst h
        (with_reducible repeat (first | refine QN.tp ?_ | refine QN.bp ?_))
        exact QN.panic (failing 12 (by rw [hrd1, if_pos hc2]))
      · rintro m' ⟨_, h⟩; cases h
    · have hc2 : ¬ most < N := by have := of_decide_eq_false hc2; omega
      refine WP.skip ?_; (with_reducible repeat (first | refine QN.B1 ?_ | refine QN.N1 ?_ | refine WP.S1 ?_ | refine WP.B1 ?_ | refine WP.R1 ?_))
      refine RL.A1 T_ok rfl ?_
      refine RL.N1 ?_; (with_reducible repeat (first | refine QN.B1 ?_ | refine QN.N1 ?_ | refine WP.S1 ?_ | refine WP.B1 ?_ | refine WP.R1 ?_))
      refine WP.ret ?_; (with_reducible repeat (first | refine QN.tr ?_ | refine QN.br ?_))
      refine QN.ret1 rfl rfl ⟨hE, .inl ⟨N, l2, by rw [hrd1, if_neg hc2], rfl, hR2⟩⟩
end Go.Proofs.YtgpgladbdoimdaaGreatDoor
end
section
namespace Go.Proofs.YtgpgladbdoimdaaGreatDoor
open Go.RowKit Go.Ev
theorem err_c (m : World) (M : List Nat) (b : Nat) (l : List UInt8) (e : Int) (h : RAt m M b l e) : FnR Tryz.prog 30 [.pointer (some ⟨b, 0, none⟩)] m fun v m' => v = .int .i64 e ∧ m' = m := by
  obtain ⟨v, hB, _⟩ := h
  refine FnE.enter ⟨_, Tryz.func30, by kernel_rfl, by kernel_rfl⟩ Tryz.func30 rfl rfl ?_
  (with_reducible repeat (first | refine WP.S1 ?_ | refine WP.B1 ?_ | refine WP.R1 ?_))
  refine RL.A1 T_ok rfl ?_
  refine RL.N1 ?_; (with_reducible repeat (first | refine QN.B1 ?_ | refine QN.N1 ?_ | refine WP.S1 ?_ | refine WP.B1 ?_ | refine WP.R1 ?_))
  refine RL.A1 T_ok rfl ?_
  refine RL.load T_ok rfl rfl rfl (hB.cell 1 rfl) rfl ?_
  refine RL.A1 T_ok rfl ?_
  refine RL.N1 ?_; (with_reducible repeat (first | refine QN.B1 ?_ | refine QN.N1 ?_ | refine WP.S1 ?_ | refine WP.B1 ?_ | refine WP.R1 ?_))
  refine WP.ret ?_; (with_reducible repeat (first | refine QN.tr ?_ | refine QN.br ?_))
  exact QN.ret1 rfl rfl ⟨_, rfl, rfl, rfl⟩
theorem left_c (m : World) (M : List Nat) (b : Nat) (l : List UInt8) (e : Int) (h : RAt m M b l e) : FnR Tryz.prog 31 [.pointer (some ⟨b, 0, none⟩)] m fun v m' => v = .int .i64 l.length ∧ m' = m := by
  obtain ⟨v, hB, hS⟩ := h
  obtain ⟨A, c, rfl, _, _⟩ := hS.shape
  refine FnE.enter ⟨_, Tryz.func31, by kernel_rfl, by kernel_rfl⟩ Tryz.func31 rfl rfl ?_
  (with_reducible repeat (first | refine WP.S1 ?_ | refine WP.B1 ?_ | refine WP.R1 ?_))
  refine RL.A1 T_ok rfl ?_
  refine RL.N1 ?_; (with_reducible repeat (first | refine QN.B1 ?_ | refine QN.N1 ?_ | refine WP.S1 ?_ | refine WP.B1 ?_ | refine WP.R1 ?_))
  refine RL.A1 T_ok rfl ?_
  refine RL.load T_ok rfl rfl rfl (hB.cell 0 rfl) rfl ?_
  refine RL.A1 T_ok rfl ?_
  refine RL.N1 ?_; (with_reducible repeat (first | refine QN.B1 ?_ | refine QN.N1 ?_ | refine WP.S1 ?_ | refine WP.B1 ?_ | refine WP.R1 ?_))
  refine WP.ret ?_; (with_reducible repeat (first | refine QN.tr ?_ | refine QN.br ?_))
  exact QN.ret1 rfl rfl ⟨_, rfl, rfl, rfl⟩
theorem newReader_c (m : World) (M : List Nat) (hM : ∀ k ∈ M, k < m.heap.size) (v : Value) (l : List UInt8) (h : Bs m M v l) (hl : l.length < 1000000000) :
    FnR Tryz.prog 25 [v] m fun r m' => ∃ b, r = .pointer (some ⟨b, 0, none⟩) ∧ m.heap.size ≤ b ∧ RAt m' (b :: M) b l 0 ∧ Ext m [] m' := by
  refine FnE.enter ⟨_, Tryz.func25, by kernel_rfl, by kernel_rfl⟩ Tryz.func25 rfl rfl ?_
  (with_reducible repeat (first | refine WP.S1 ?_ | refine WP.B1 ?_ | refine WP.R1 ?_))
  refine RL.A1 T_ok rfl ?_
  refine RL.N1 ?_; (with_reducible repeat (first | refine QN.B1 ?_ | refine QN.N1 ?_ | refine WP.S1 ?_ | refine WP.B1 ?_ | refine WP.R1 ?_))
  refine RL.A1 T_ok rfl ?_
  refine RL.call (fi := []) (ca := []) rfl rfl rfl rfl (clone_bytes m M v l h hl) ?_
  rintro r m1 ⟨S', hO, hN⟩
  refine ⟨_, rfl, ?_⟩
  obtain ⟨A, c, rfl, _⟩ := hO.shape
  refine RL.A1 T_ok rfl ?_
  refine RL.box rfl rfl (fun b m2 hb hC => ⟨_, rfl, ?_⟩)
  have hE2 := hC.new (by omega)
  refine RL.A1 T_ok rfl ?_
  refine RL.N1 ?_; (with_reducible repeat (first | refine QN.B1 ?_ | refine QN.N1 ?_ | refine WP.S1 ?_ | refine WP.B1 ?_ | refine WP.R1 ?_))
  refine WP.ret ?_; (with_reducible repeat (first | refine QN.tr ?_ | refine QN.br ?_))
  have hge := hN.ge
  have hlt := hO.lt
  have hs := hN.1.size
  have hO2 := hO.ext hE2 (by simp)
  refine QN.ret1 rfl rfl ⟨_, rfl, b, rfl, by omega, ⟨_, hC.blk, hO2.sl ?_⟩, hN.1.trans hE2 (by simp)⟩
  intro k hk hk'
  have h1 := hge k hk
  have h2 := hlt k hk
  rcases List.mem_cons.1 hk' with h3 | h3
  · omega
  · have := hM k h3; omega
theorem bad_c (m : World) (M : List Nat) (b : Nat) (l : List UInt8) (e k : Int) (h : RAt m M b l e) (hbM : b ∈ M) :
    FnR Tryz.prog 79 [.pointer (some ⟨b, 0, none⟩), .int .i64 k] m fun v m' => v = .tuple #[] ∧ RAt m' M b l (if e = 0 then k else e) ∧ Ext m [b] m' := by
  obtain ⟨v, hB, hS⟩ := h
  refine FnE.enter ⟨_, Tryz.func79, by kernel_rfl, by kernel_rfl⟩ Tryz.func79 rfl rfl ?_
  (with_reducible repeat (first | refine WP.S1 ?_ | refine WP.B1 ?_ | refine WP.R1 ?_))
  refine RL.A1 T_ok rfl ?_
  refine RL.load T_ok rfl rfl rfl (hB.cell 1 rfl) rfl ?_
  refine RL.A1 T_ok rfl ?_
  refine RL.N1 ?_; (with_reducible repeat (first | refine QN.B1 ?_ | refine QN.N1 ?_ | refine WP.S1 ?_ | refine WP.B1 ?_ | refine WP.R1 ?_))
  refine WP.cond rfl (fun hc => ?_) (fun hc => ?_)
  · have he : e = 0 := by simpa using hc
    subst he
    (with_reducible repeat (first | refine WP.S1 ?_ | refine WP.B1 ?_ | refine WP.R1 ?_))
    refine RL.A1 T_ok rfl ?_
    refine RL.store T_ok hB (i := 1) (v := .int .i64 k) (by simp) rfl rfl rfl rfl rfl rfl ?_
    intro m1 hC
    refine RL.N1 (QN.end0 rfl ⟨_, rfl, rfl, ⟨v, hC.blk, Sl.ext hS (hC.ext.mono (by simp [hbM])) (fun _ hk => .inl hk) (by omega)⟩, hC.ext⟩)
  · have he : ¬ e = 0 := by simpa using hc
    refine WP.skip (QN.end0 rfl ⟨_, rfl, rfl, ?_, Ext.refl _ _⟩)
    rw [if_neg he]; exact ⟨v, hB, hS⟩
theorem guard_off (m : World) (M : List Nat) (b : Nat) (l : List UInt8) (e : Int) (h : RAt m M b l e) (he : e ≠ 0) (f : Value) :
    FnR Tryz.prog 133 [.pointer (some ⟨b, 0, none⟩), f] m fun v m' => v = .bool false ∧ m' = m := by
  obtain ⟨v, hB, hS⟩ := h
  refine FnE.enter ⟨_, Tryz.func133, by kernel_rfl, by kernel_rfl⟩ Tryz.func133 rfl rfl ?_
  (with_reducible repeat (first | refine WP.S1 ?_ | refine WP.B1 ?_ | refine WP.R1 ?_))
  refine RL.A1 T_ok rfl ?_
  refine RL.N1 ?_; (with_reducible repeat (first | refine QN.B1 ?_ | refine QN.N1 ?_ | refine WP.S1 ?_ | refine WP.B1 ?_ | refine WP.R1 ?_))
  refine RL.A1 T_ok rfl ?_
  refine RL.load T_ok rfl rfl rfl (hB.cell 1 rfl) rfl ?_
  refine RL.A1 T_ok rfl ?_
  refine RL.N1 ?_; (with_reducible repeat (first | refine QN.B1 ?_ | refine QN.N1 ?_ | refine WP.S1 ?_ | refine WP.B1 ?_ | refine WP.R1 ?_))
  refine WP.cond rfl (fun hc => ?_) (fun hc => absurd (by simpa using hc) he)
  (with_reducible repeat (first | refine WP.S1 ?_ | refine WP.B1 ?_ | refine WP.R1 ?_))
  refine RL.A1 T_ok rfl ?_
  refine RL.N1 ?_; (with_reducible repeat (first | refine QN.B1 ?_ | refine QN.N1 ?_ | refine WP.S1 ?_ | refine WP.B1 ?_ | refine WP.R1 ?_))
  refine WP.ret ?_; (with_reducible repeat (first | refine QN.tr ?_ | refine QN.br ?_))
  exact QN.ret1 rfl rfl ⟨_, rfl, rfl, rfl⟩
def GIn (m : World) (M : List Nat) (b : Nat) (N : List Nat) (good : List UInt8 → World → Prop) (bad : Int → World → Prop) (m1 : World) (ed : Ending) (m2 : World) : Prop :=
  Ext m1 (b :: N) m2 ∧ ((∃ l2, ed = .returned (.tuple #[]) ∧ RAt m2 (m.heap.size :: M) b l2 0 ∧ good l2 m2) ∨
    ∃ q l2, q ≠ 0 ∧ ed = .panicked (brk q) ∧ RAt m2 (m.heap.size :: M) b l2 0 ∧ bad q m2)
theorem guard_on (m : World) (M : List Nat) (b : Nat) (l : List UInt8) (h : RAt m M b l 0) (N : List Nat) (hN : ∀ k ∈ b :: N, k ∈ M ∧ k < m.heap.size) (k : FuncId) (fi ca al : List Value) (has : fi ++ ca = al)
    (good : List UInt8 → World → Prop) (bad : Int → World → Prop) (hst : ∀ m2 m3, Ext m2 [m.heap.size, b] m3 → (∀ l, good l m2 → good l m3) ∧ ∀ q, bad q m2 → bad q m3)
    (hf : ∀ m1, Ext m [] m1 → m1.heap.size = m.heap.size + 1 → RAt m1 (m.heap.size :: M) b l 0 → FnE Tryz.prog k al m1 (GIn m M b N good bad m1)) :
    FnR Tryz.prog 133 [.pointer (some ⟨b, 0, none⟩), .func (.func k) fi.toArray ca.toArray] m fun v m' => Ext m (b :: N) m' ∧
      ((∃ l2, v = .bool true ∧ RAt m' M b l2 0 ∧ good l2 m') ∨ ∃ q, q ≠ 0 ∧ v = .bool false ∧ RAt m' M b l q ∧ bad q m') := by
  have hbM : b ∈ M := (hN b (by simp)).1
  have h0 := h
  obtain ⟨v, hB, hS⟩ := h
  have hblt := hB.lt
  refine FnE.enter ⟨_, Tryz.func133, by kernel_rfl, by kernel_rfl⟩ Tryz.func133 rfl rfl ?_
  (with_reducible repeat (first | refine WP.S1 ?_ | refine WP.B1 ?_ | refine WP.R1 ?_))
  refine RL.A1 T_ok rfl ?_
  refine RL.N1 ?_; (with_reducible repeat (first | refine QN.B1 ?_ | refine QN.N1 ?_ | refine WP.S1 ?_ | refine WP.B1 ?_ | refine WP.R1 ?_))
  refine RL.A1 T_ok rfl ?_
  refine RL.load T_ok rfl rfl rfl (hB.cell 1 rfl) rfl ?_
  refine RL.A1 T_ok rfl ?_
  refine RL.N1 ?_; (with_reducible repeat (first | refine QN.B1 ?_ | refine QN.N1 ?_ | refine WP.S1 ?_ | refine WP.B1 ?_ | refine WP.R1 ?_))
  refine WP.condF rfl ?_
  refine WP.skip ?_; (with_reducible repeat (first | refine QN.B1 ?_ | refine QN.N1 ?_ | refine WP.S1 ?_ | refine WP.B1 ?_ | refine WP.R1 ?_))
  refine RL.A1 T_ok rfl ?_
  refine RL.load T_ok rfl rfl rfl (hB.cell 0 rfl) rfl ?_
  refine RL.A1 T_ok rfl ?_
  refine RL.N1 ?_; (with_reducible repeat (first | refine QN.B1 ?_ | refine QN.N1 ?_ | refine WP.S1 ?_ | refine WP.B1 ?_ | refine WP.R1 ?_))
  refine RL.A1 T_ok rfl ?_
  refine RL.call (fi := []) (ca := []) rfl rfl rfl rfl (try_c m k fi ca al has (GIn m M b N good bad)
    (fun m1 h1 h2 => hf m1 h1 h2 (h0.ext h1 (by simp) (by simp) (fun k hk => by rcases List.mem_cons.1 hk with rfl | hk; exact .inr (Nat.le_refl _); exact .inl hk))) ?_ ?_ ?_) ?_
  · rintro m1 m2 ⟨_, ⟨_, h, _⟩ | ⟨_, _, _, h, _⟩⟩ <;> cases h
  · rintro m1 ch m2 ⟨_, ⟨_, h, _⟩ | ⟨q, _, _, h, _⟩⟩
    · cases h
    · injection h with h; exact ⟨q, h⟩
  · rintro m1 ed m2 ⟨hE, _⟩ _ _
    exact ⟨_, hE, fun hh => by have := (hN _ hh).2; omega⟩
  rintro tv m3 ⟨m1, m2, hE1, hs1, hE3, hcase⟩
  refine ⟨_, rfl, ?_⟩
  have big : ∀ {m1 : World}, Ext m [] m1 → Ext m1 (b :: N) m2 → Ext m (b :: N) m3 := fun h1 h2 =>
    ((h1.mono (M' := b :: N) (by simp)).trans h2 (fun k hk => .inl hk)).trans hE3 (fun k hk => .inr (by have h9 : k = m.heap.size := (by simpa using hk); omega))
  have carry : ∀ l2 q, RAt m2 (m.heap.size :: M) b l2 q → RAt m3 M b l2 q := fun l2 q hR => hR.ext hE3 (by simp; omega) (by simp) (fun k hk => .inl (by simp [hk]))
  have hst1 := hst m2 m3 (hE3.mono (by simp))
  rcases hcase with ⟨u, ⟨hE2, hin⟩, rfl⟩ | ⟨q, ⟨hE2, hin⟩, rfl⟩
  · rcases hin with ⟨l2, _, hR, hg⟩ | ⟨_, _, _, h, _⟩
    rotate_left
    · cases h
    refine RL.A1 T_ok rfl ?_
    refine RL.N1 ?_; (with_reducible repeat (first | refine QN.B1 ?_ | refine QN.N1 ?_ | refine WP.S1 ?_ | refine WP.B1 ?_ | refine WP.R1 ?_))
    refine RL.A1 T_ok rfl ?_
    refine RL.N1 ?_; (with_reducible repeat (first | refine QN.B1 ?_ | refine QN.N1 ?_ | refine WP.S1 ?_ | refine WP.B1 ?_ | refine WP.R1 ?_))
    refine WP.condF rfl ?_
    refine WP.skip ?_; (with_reducible repeat (first | refine QN.B1 ?_ | refine QN.N1 ?_ | refine WP.S1 ?_ | refine WP.B1 ?_ | refine WP.R1 ?_))
    refine RL.A1 T_ok rfl ?_
    refine RL.N1 ?_; (with_reducible repeat (first | refine QN.B1 ?_ | refine QN.N1 ?_ | refine WP.S1 ?_ | refine WP.B1 ?_ | refine WP.R1 ?_))
    refine WP.ret ?_; (with_reducible repeat (first | refine QN.tr ?_ | refine QN.br ?_))
    exact QN.ret1 rfl rfl ⟨_, rfl, big hE1 hE2, .inl ⟨l2, rfl, carry l2 0 hR, hst1.1 l2 hg⟩⟩
  · rcases hin with ⟨_, h, _⟩ | ⟨q', l2, hq, h, hR, hb⟩
    · cases h
    injection h with h
    have hqq : q' = q := by
      simp only [brk, List.cons.injEq, PanicEntry.mk.injEq, Value.iface.injEq, Value.agg.injEq, and_true, true_and] at h
      simpa using h.symm
    subst hqq
    obtain ⟨v2, hB2, hS2⟩ := carry l2 0 hR
    have hE4 := big hE1 hE2
    have hS3 : Bs m3 M v l := Sl.ext hS (hE4.mono (fun k hk _ => (hN k hk).1)) (fun _ hk => .inl hk) (by omega)
    refine RL.A1 T_ok rfl ?_
    refine RL.N1 ?_; (with_reducible repeat (first | refine QN.B1 ?_ | refine QN.N1 ?_ | refine WP.S1 ?_ | refine WP.B1 ?_ | refine WP.R1 ?_))
    refine RL.pure T_ok 1 rfl ?_
    refine RL.pure T_ok 1 rfl ?_
    refine RL.eqv (v' := .bool true) (by simp [hq]) ?_
    refine RL.N1 ?_; (with_reducible repeat (first | refine QN.B1 ?_ | refine QN.N1 ?_ | refine WP.S1 ?_ | refine WP.B1 ?_ | refine WP.R1 ?_))
    refine WP.condT rfl ?_
    (with_reducible repeat (first | refine WP.S1 ?_ | refine WP.B1 ?_ | refine WP.R1 ?_))
    refine RL.A1 T_ok rfl ?_
    refine RL.store T_ok hB2 (i := 0) (v := v) (by simp) rfl rfl rfl rfl hS3.one rfl ?_
    intro m4 hC4
    have hR4 : RAt m4 M b l 0 := ⟨v, hC4.blk, Sl.ext hS3 (hC4.ext.mono (by simp [hbM])) (fun _ hk => .inl hk) (by omega)⟩
    refine RL.N1 ?_; (with_reducible repeat (first | refine QN.B1 ?_ | refine QN.N1 ?_ | refine WP.S1 ?_ | refine WP.B1 ?_ | refine WP.R1 ?_))
    refine RL.A1 T_ok rfl ?_
    refine RL.call (fi := []) (ca := []) rfl rfl rfl rfl (bad_c m4 M b l 0 q' hR4 hbM) ?_
    rintro _ m5 ⟨rfl, hR5, hE5⟩
    refine ⟨_, rfl, ?_⟩
    refine RL.N1 ?_; (with_reducible repeat (first | refine QN.B1 ?_ | refine QN.N1 ?_ | refine WP.S1 ?_ | refine WP.B1 ?_ | refine WP.R1 ?_))
    refine RL.A1 T_ok rfl ?_
    refine RL.N1 ?_; (with_reducible repeat (first | refine QN.B1 ?_ | refine QN.N1 ?_ | refine WP.S1 ?_ | refine WP.B1 ?_ | refine WP.R1 ?_))
    refine WP.ret ?_; (with_reducible repeat (first | refine QN.tr ?_ | refine QN.br ?_))
    have hE6 : Ext m3 [b] m5 := hC4.ext.trans hE5 (fun k hk => .inl hk)
    refine QN.ret1 rfl rfl ⟨_, rfl, hE4.trans hE6 (fun k hk => .inl (by simp at hk; simp [hk])), .inr ⟨q', hq, rfl, hR5, ?_⟩⟩
    exact (hst m2 m5 ((hE3.mono (by simp)).trans (M' := [b]) hE6 (by simp))).2 q' hb
end Go.Proofs.YtgpgladbdoimdaaGreatDoor
end
section
namespace Go.Proofs.YtgpgladbdoimdaaGreatDoor
open Go.RowKit Go.Ev
theorem blk_st {m0 : World} {b b5 : Nat} {t : TypeId} {cs : List Value} (h5 : b5 < m0.heap.size) (hb : b5 ≠ b) {m2 m3 : World} (hE : Ext m2 [m0.heap.size, b] m3) (h : Blk m2 b5 t cs) : Blk m3 b5 t cs :=
  h.ext hE (by simp; omega)
theorem uint1_c (m m1 : World) (M : List Nat) (b b2 b3 b5 : Nat) (l : List UInt8) (most : Nat) (x : Value) (h2 : Blk m1 b2 80 [.pointer (some ⟨b, 0, none⟩)]) (h3 : Blk m1 b3 28 [.int .u64 most]) (h5 : Blk m1 b5 28 [x])
    (hR : RAt m1 (m.heap.size :: M) b l 0) (hbM : b ∈ M) (h5M : b5 ∈ M) (h5b : b5 ≠ b) :
    FnE Tryz.prog 134 [.pointer (some ⟨b2, 0, none⟩), .pointer (some ⟨b3, 0, none⟩), .pointer (some ⟨b5, 0, none⟩)] m1
      (GIn m M b [b5] (fun l2 m2 => ∃ n : Nat, rdU most 0 0 l = .ok (n, l2) ∧ Blk m2 b5 28 [.int .u64 n]) (fun q m2 => rdU most 0 0 l = .error q ∧ Blk m2 b5 28 [x]) m1) := by
  refine FnE.enter ⟨_, Tryz.func134, by kernel_rfl, by kernel_rfl⟩ Tryz.func134 rfl rfl ?_
  (with_reducible repeat (first | refine WP.S1 ?_ | refine WP.B1 ?_ | refine WP.R1 ?_))
  refine RL.load T_ok rfl rfl rfl (h2.cell 0 rfl) rfl ?_
  refine RL.load T_ok rfl rfl rfl (h3.cell 0 rfl) rfl ?_
  refine RL.callE (fi := []) (ca := []) rfl rfl rfl rfl (uint_c m1 (m.heap.size :: M) b l 0 hR (by simp [hbM]) most) ?_ ?_ ?_
  · rintro v m2 ⟨hE, ⟨n, l', hr, h, hR2⟩ | ⟨_, _, _, h, _⟩⟩
    rotate_left
    · cases h
    injection h with h
    subst h
    refine ⟨_, rfl, ?_⟩
    have h5' := h5.ext hE (by simp [h5b])
    refine RL.store T_ok h5' (i := 0) (v := .int .u64 n) (by simp) rfl rfl rfl rfl rfl rfl ?_
    intro m3 hC
    refine RL.N1 (QN.end0 rfl ⟨?_, .inl ⟨l', rfl, hR2.ext hC.ext (by simp; omega) (by simp [h5M]) (fun _ hk => .inl hk), n, hr, hC.blk⟩⟩)
    exact (hE.mono (M' := [b, b5]) (by simp)).trans hC.ext (by simp)
  · rintro ch m2 ⟨hE, ⟨_, _, _, h, _⟩ | ⟨k, l', hr, h, hR2⟩⟩
    · cases h
    injection h with h
    subst h
    have hk := rdU_err most l 0 0 k hr
    exact QN.panic ⟨hE.mono (by simp), .inr ⟨k, l', by omega, rfl, hR2, hr, h5.ext hE (by simp [h5b])⟩⟩
  · rintro m2 ⟨_, ⟨_, _, _, h, _⟩ | ⟨_, _, _, h, _⟩⟩ <;> cases h
def RPost (m : World) (M : List Nat) (b : Nat) {α : Type} (enc : α → Value) (r : α × List UInt8 × Int) (v : Value) (m' : World) : Prop :=
  v = enc r.1 ∧ RAt m' M b r.2.1 r.2.2 ∧ Ext m [b] m'
theorem ruint_c (m : World) (M : List Nat) (b : Nat) (l : List UInt8) (e : Int) (h : RAt m M b l e) (hbM : b ∈ M) (most : Nat) :
    FnR Tryz.prog 76 [.pointer (some ⟨b, 0, none⟩), .int .u64 most] m (RPost m M b (fun n : Nat => .int .u64 n) (gR 0 e l (rdU most 0 0 l))) := by
  have hblt := h.lt
  refine FnE.enter ⟨_, Tryz.func76, by kernel_rfl, by kernel_rfl⟩ Tryz.func76 rfl rfl ?_
  (with_reducible repeat (first | refine WP.S1 ?_ | refine WP.B1 ?_ | refine WP.R1 ?_))
  refine RL.box rfl rfl (fun b2 m2 hb2 hC2 => ⟨_, rfl, ?_⟩)
  refine RL.box rfl rfl (fun b3 m3 hb3 hC3 => ⟨_, rfl, ?_⟩)
  have hE2 := hC2.new (by omega)
  have hE3 := hC3.new (by omega)
  have s2 := hC2.size
  have s3 := hC3.size
  refine RL.A1 T_ok rfl ?_
  refine RL.N1 ?_; (with_reducible repeat (first | refine QN.B1 ?_ | refine QN.N1 ?_ | refine WP.S1 ?_ | refine WP.B1 ?_ | refine WP.R1 ?_))
  refine RL.alloc T_ok rfl rfl (fun b5 m5 hb5 hC5 => ⟨_, rfl, ?_⟩)
  have hE5 := hC5.new (by omega)
  have s5 := hC5.size
  have h2 := (Blk.up (Blk.up (Chg.blk (cs := [.pointer (some ⟨b, 0, none⟩)]) hC2) hE3) hE5)
  have h3 := Blk.up (Chg.blk (cs := [.int .u64 most]) hC3) hE5
  have h5 : Blk m5 b5 28 [.int .u64 0] := hC5.blk
  have hE : Ext m [] m5 := (hE2.trans hE3 (by simp)).trans hE5 (by simp)
  have hR5 : RAt m5 (b5 :: M) b l e := h.ext hE (by simp) (by simp) (fun k hk => by rcases List.mem_cons.1 hk with rfl | hk; exact .inr (by omega); exact .inl hk)
  refine RL.N1 ?_; (with_reducible repeat (first | refine QN.B1 ?_ | refine QN.N1 ?_ | refine WP.S1 ?_ | refine WP.B1 ?_ | refine WP.R1 ?_))
  refine RL.load T_ok rfl rfl rfl (h2.cell 0 rfl) rfl ?_
  refine RL.A1 T_ok rfl ?_
  by_cases he : e = 0
  · subst he
    refine RL.call (fi := []) (ca := []) rfl rfl rfl rfl (guard_on m5 (b5 :: M) b l hR5 [b5] (fun k hk => ?_) _ [] [.pointer (some ⟨b2, 0, none⟩), .pointer (some ⟨b3, 0, none⟩), .pointer (some ⟨b5, 0, none⟩)] _ rfl
      (fun l2 m2 => ∃ n : Nat, rdU most 0 0 l = .ok (n, l2) ∧ Blk m2 b5 28 [.int .u64 n]) (fun q m2 => rdU most 0 0 l = .error q ∧ Blk m2 b5 28 [.int .u64 0])
      (fun m2 m3 hE => ⟨fun l ⟨n, h1, h2⟩ => ⟨n, h1, blk_st (by omega) (by omega) hE h2⟩, fun q ⟨h1, h2⟩ => ⟨h1, blk_st (by omega) (by omega) hE h2⟩⟩)
      (fun m1 h1 _ h9 => uint1_c m5 m1 (b5 :: M) b b2 b3 b5 l most _ (h2.up h1) (h3.up h1) (h5.up h1) h9 (by simp [hbM]) (by simp) (by omega))) ?_
    · rcases List.mem_cons.1 hk with rfl | hk
      · exact ⟨by simp [hbM], by omega⟩
      · have : k = b5 := by simpa using hk
        exact ⟨by simp [this], by omega⟩
    rintro v m6 ⟨hE6, ⟨l2, rfl, hR6, n, hn, h56⟩ | ⟨q, hq, rfl, hR6, hn, h56⟩⟩
    · refine ⟨_, rfl, ?_⟩
      refine RL.A1 T_ok rfl ?_
      refine RL.N1 ?_; (with_reducible repeat (first | refine QN.B1 ?_ | refine QN.N1 ?_ | refine WP.S1 ?_ | refine WP.B1 ?_ | refine WP.R1 ?_))
      refine WP.condF rfl ?_
      refine WP.skip ?_; (with_reducible repeat (first | refine QN.B1 ?_ | refine QN.N1 ?_ | refine WP.S1 ?_ | refine WP.B1 ?_ | refine WP.R1 ?_))
      refine RL.load T_ok rfl rfl rfl (h56.cell 0 rfl) rfl ?_
      refine RL.A1 T_ok rfl ?_
      refine RL.N1 ?_; (with_reducible repeat (first | refine QN.B1 ?_ | refine QN.N1 ?_ | refine WP.S1 ?_ | refine WP.B1 ?_ | refine WP.R1 ?_))
      refine WP.ret ?_; (with_reducible repeat (first | refine QN.tr ?_ | refine QN.br ?_))
      refine QN.ret1 rfl rfl ⟨_, rfl, ?_⟩
      rw [gR_ok hn]
      exact ⟨rfl, hR6.ext (Ext.refl m6 []) (by simp) (by simp) (fun k hk => .inl (by simp [hk])), (hE.mono (M' := [b]) (by simp)).trans hE6 (fun k hk => by rcases List.mem_cons.1 hk with rfl | hk; exact .inl (by simp); exact .inr (by have h9 : k = b5 := (by simpa using hk); omega))⟩
    · refine ⟨_, rfl, ?_⟩
      refine RL.A1 T_ok rfl ?_
      refine RL.N1 ?_; (with_reducible repeat (first | refine QN.B1 ?_ | refine QN.N1 ?_ | refine WP.S1 ?_ | refine WP.B1 ?_ | refine WP.R1 ?_))
      refine WP.condT rfl ?_
      (with_reducible repeat (first | refine WP.S1 ?_ | refine WP.B1 ?_ | refine WP.R1 ?_))
      refine RL.A1 T_ok rfl ?_
      refine RL.N1 ?_; (with_reducible repeat (first | refine QN.B1 ?_ | refine QN.N1 ?_ | refine WP.S1 ?_ | refine WP.B1 ?_ | refine WP.R1 ?_))
      refine WP.ret ?_; (with_reducible repeat (first | refine QN.tr ?_ | refine QN.br ?_))
      refine QN.ret1 rfl rfl ⟨_, rfl, ?_⟩
      rw [gR_err hn]
      exact ⟨rfl, hR6.ext (Ext.refl m6 []) (by simp) (by simp) (fun k hk => .inl (by simp [hk])), (hE.mono (M' := [b]) (by simp)).trans hE6 (fun k hk => by rcases List.mem_cons.1 hk with rfl | hk; exact .inl (by simp); exact .inr (by have h9 : k = b5 := (by simpa using hk); omega))⟩
  · refine RL.call (fi := []) (ca := []) rfl rfl rfl rfl (guard_off m5 (b5 :: M) b l e hR5 he _) ?_
    rintro v m6 ⟨rfl, rfl⟩
    refine ⟨_, rfl, ?_⟩
    refine RL.A1 T_ok rfl ?_
    refine RL.N1 ?_; (with_reducible repeat (first | refine QN.B1 ?_ | refine QN.N1 ?_ | refine WP.S1 ?_ | refine WP.B1 ?_ | refine WP.R1 ?_))
    refine WP.condT rfl ?_
    (with_reducible repeat (first | refine WP.S1 ?_ | refine WP.B1 ?_ | refine WP.R1 ?_))
    refine RL.A1 T_ok rfl ?_
    refine RL.N1 ?_; (with_reducible repeat (first | refine QN.B1 ?_ | refine QN.N1 ?_ | refine WP.S1 ?_ | refine WP.B1 ?_ | refine WP.R1 ?_))
    refine WP.ret ?_; (with_reducible repeat (first | refine QN.tr ?_ | refine QN.br ?_))
    refine QN.ret1 rfl rfl ⟨_, rfl, ?_⟩
    rw [gR_off he]
    exact ⟨rfl, hR5.ext (Ext.refl _ []) (by simp) (by simp) (fun k hk => .inl (by simp [hk])), hE.mono (by simp)⟩
theorem byte1_c (m m1 : World) (M : List Nat) (b b2 b5 : Nat) (l : List UInt8) (x : Value) (h2 : Blk m1 b2 80 [.pointer (some ⟨b, 0, none⟩)]) (h5 : Blk m1 b5 5 [x])
    (hR : RAt m1 (m.heap.size :: M) b l 0) (hbM : b ∈ M) (h5M : b5 ∈ M) (h5b : b5 ≠ b) :
    FnE Tryz.prog 136 [.pointer (some ⟨b2, 0, none⟩), .pointer (some ⟨b5, 0, none⟩)] m1
      (GIn m M b [b5] (fun l2 m2 => ∃ n : UInt8, rdByte l = .ok (n, l2) ∧ Blk m2 b5 5 [.int .u8 n.toNat]) (fun q m2 => rdByte l = .error q ∧ Blk m2 b5 5 [x]) m1) := by
  refine FnE.enter ⟨_, Tryz.func136, by kernel_rfl, by kernel_rfl⟩ Tryz.func136 rfl rfl ?_
  (with_reducible repeat (first | refine WP.S1 ?_ | refine WP.B1 ?_ | refine WP.R1 ?_))
  refine RL.load T_ok rfl rfl rfl (h2.cell 0 rfl) rfl ?_
  refine RL.callE (fi := []) (ca := []) rfl rfl rfl rfl (take_c m1 (m.heap.size :: M) b l 0 hR (by simp [hbM]) 1) ?_ ?_ ?_
  · rintro v m2 (⟨hle, v', h, hB, hR2, hE⟩ | ⟨_, h, _⟩)
    rotate_left
    · cases h
    injection h with h
    subst h
    match l, hle with
    | y :: l2, _ =>
    have hB : Bs m2 (m.heap.size :: M) v [y] := hB
    have hR2 : RAt m2 (m.heap.size :: M) b l2 0 := hR2
    obtain ⟨A, c, rfl, _, _⟩ := hB.shape
    refine ⟨_, rfl, ?_⟩
    refine RL.index T_ok hB (k := 0) rfl (by simp) rfl rfl rfl rfl (fun ad _ _ hcell => ⟨_, rfl, ?_⟩)
    have hx := hcell 0 (.int .u8 y.toNat) rfl
    refine RL.load T_ok rfl rfl rfl (by rw [add_add] at hx; exact hx) rfl ?_
    have h5' := h5.ext hE (by simp [h5b])
    refine RL.store T_ok h5' (i := 0) (v := .int .u8 y.toNat) (by simp) rfl rfl rfl rfl rfl rfl ?_
    intro m3 hC
    refine RL.N1 (QN.end0 rfl ⟨?_, .inl ⟨l2, rfl, hR2.ext hC.ext (by simp; omega) (by simp [h5M]) (fun _ hk => .inl hk), y, rfl, hC.blk⟩⟩)
    exact (hE.mono (M' := [b, b5]) (by simp)).trans hC.ext (by simp)
  · rintro ch m2 (⟨_, _, h, _⟩ | ⟨hlt, h, rfl⟩)
    · cases h
    injection h with h
    subst h
    have h0 : l = [] := List.eq_nil_of_length_eq_zero (by omega)
    subst h0
    exact QN.panic ⟨Ext.refl _ _, .inr ⟨10, [], by omega, rfl, hR, rfl, h5⟩⟩
  · rintro m2 (⟨_, _, h, _⟩ | ⟨_, h, _⟩) <;> cases h
theorem rbyte_c (m : World) (M : List Nat) (b : Nat) (l : List UInt8) (e : Int) (h : RAt m M b l e) (hbM : b ∈ M) :
    FnR Tryz.prog 77 [.pointer (some ⟨b, 0, none⟩)] m (RPost m M b (fun n : UInt8 => .int .u8 n.toNat) (gR 0 e l (rdByte l))) := by
  have hblt := h.lt
  refine FnE.enter ⟨_, Tryz.func77, by kernel_rfl, by kernel_rfl⟩ Tryz.func77 rfl rfl ?_
  (with_reducible repeat (first | refine WP.S1 ?_ | refine WP.B1 ?_ | refine WP.R1 ?_))
  refine RL.box rfl rfl (fun b2 m2 hb2 hC2 => ⟨_, rfl, ?_⟩)
  have hE2 := hC2.new (by omega)
  have s2 := hC2.size
  refine RL.A1 T_ok rfl ?_
  refine RL.N1 ?_; (with_reducible repeat (first | refine QN.B1 ?_ | refine QN.N1 ?_ | refine WP.S1 ?_ | refine WP.B1 ?_ | refine WP.R1 ?_))
  refine RL.alloc T_ok rfl rfl (fun b5 m5 hb5 hC5 => ⟨_, rfl, ?_⟩)
  have hE5 := hC5.new (by omega)
  have s5 := hC5.size
  have h2 := Blk.up (Chg.blk (cs := [.pointer (some ⟨b, 0, none⟩)]) hC2) hE5
  have h5 : Blk m5 b5 5 [.int .u8 0] := hC5.blk
  have hE : Ext m [] m5 := hE2.trans hE5 (by simp)
  have hR5 : RAt m5 (b5 :: M) b l e := h.ext hE (by simp) (by simp) (fun k hk => by rcases List.mem_cons.1 hk with rfl | hk; exact .inr (by omega); exact .inl hk)
  refine RL.N1 ?_; (with_reducible repeat (first | refine QN.B1 ?_ | refine QN.N1 ?_ | refine WP.S1 ?_ | refine WP.B1 ?_ | refine WP.R1 ?_))
  refine RL.load T_ok rfl rfl rfl (h2.cell 0 rfl) rfl ?_
  refine RL.A1 T_ok rfl ?_
  have fin : ∀ {m6 : World}, Ext m5 [b, b5] m6 → Ext m [b] m6 := fun hE6 => (hE.mono (M' := [b]) (by simp)).trans hE6 (fun k hk => by rcases List.mem_cons.1 hk with rfl | hk; exact .inl (by simp); exact .inr (by have h9 : k = b5 := (by simpa using hk); omega))
  by_cases he : e = 0
  · subst he
    refine RL.call (fi := []) (ca := []) rfl rfl rfl rfl (guard_on m5 (b5 :: M) b l hR5 [b5] (fun k hk => ?_) _ [] [.pointer (some ⟨b2, 0, none⟩), .pointer (some ⟨b5, 0, none⟩)] _ rfl
      (fun l2 m2 => ∃ n : UInt8, rdByte l = .ok (n, l2) ∧ Blk m2 b5 5 [.int .u8 n.toNat]) (fun q m2 => rdByte l = .error q ∧ Blk m2 b5 5 [.int .u8 0])
      (fun m2 m3 hE => ⟨fun l ⟨n, h1, h2⟩ => ⟨n, h1, blk_st (by omega) (by omega) hE h2⟩, fun q ⟨h1, h2⟩ => ⟨h1, blk_st (by omega) (by omega) hE h2⟩⟩)
      (fun m1 h1 _ h9 => byte1_c m5 m1 (b5 :: M) b b2 b5 l _ (h2.up h1) (h5.up h1) h9 (by simp [hbM]) (by simp) (by omega))) ?_
    · rcases List.mem_cons.1 hk with rfl | hk
      · exact ⟨by simp [hbM], by omega⟩
      · have : k = b5 := by simpa using hk
        exact ⟨by simp [this], by omega⟩
    rintro v m6 ⟨hE6, ⟨l2, rfl, hR6, n, hn, h56⟩ | ⟨q, hq, rfl, hR6, hn, h56⟩⟩
    · refine ⟨_, rfl, ?_⟩
      refine RL.N1 ?_; (with_reducible repeat (first | refine QN.B1 ?_ | refine QN.N1 ?_ | refine WP.S1 ?_ | refine WP.B1 ?_ | refine WP.R1 ?_))
      refine RL.load T_ok rfl rfl rfl (h56.cell 0 rfl) rfl ?_
      refine RL.A1 T_ok rfl ?_
      refine RL.N1 ?_; (with_reducible repeat (first | refine QN.B1 ?_ | refine QN.N1 ?_ | refine WP.S1 ?_ | refine WP.B1 ?_ | refine WP.R1 ?_))
      refine WP.ret ?_; (with_reducible repeat (first | refine QN.tr ?_ | refine QN.br ?_))
      refine QN.ret1 rfl rfl ⟨_, rfl, ?_⟩
      rw [gR_ok hn]
      exact ⟨rfl, hR6.ext (Ext.refl m6 []) (by simp) (by simp) (fun k hk => .inl (by simp [hk])), fin hE6⟩
    · refine ⟨_, rfl, ?_⟩
      refine RL.N1 ?_; (with_reducible repeat (first | refine QN.B1 ?_ | refine QN.N1 ?_ | refine WP.S1 ?_ | refine WP.B1 ?_ | refine WP.R1 ?_))
      refine RL.load T_ok rfl rfl rfl (h56.cell 0 rfl) rfl ?_
      refine RL.A1 T_ok rfl ?_
      refine RL.N1 ?_; (with_reducible repeat (first | refine QN.B1 ?_ | refine QN.N1 ?_ | refine WP.S1 ?_ | refine WP.B1 ?_ | refine WP.R1 ?_))
      refine WP.ret ?_; (with_reducible repeat (first | refine QN.tr ?_ | refine QN.br ?_))
      refine QN.ret1 rfl rfl ⟨_, rfl, ?_⟩
      rw [gR_err hn]
      exact ⟨rfl, hR6.ext (Ext.refl m6 []) (by simp) (by simp) (fun k hk => .inl (by simp [hk])), fin hE6⟩
  · refine RL.call (fi := []) (ca := []) rfl rfl rfl rfl (guard_off m5 (b5 :: M) b l e hR5 he _) ?_
    rintro v m6 ⟨rfl, rfl⟩
    refine ⟨_, rfl, ?_⟩
    refine RL.N1 ?_; (with_reducible repeat (first | refine QN.B1 ?_ | refine QN.N1 ?_ | refine WP.S1 ?_ | refine WP.B1 ?_ | refine WP.R1 ?_))
    refine RL.load T_ok rfl rfl rfl (h5.cell 0 rfl) rfl ?_
    refine RL.A1 T_ok rfl ?_
    refine RL.N1 ?_; (with_reducible repeat (first | refine QN.B1 ?_ | refine QN.N1 ?_ | refine WP.S1 ?_ | refine WP.B1 ?_ | refine WP.R1 ?_))
    refine WP.ret ?_; (with_reducible repeat (first | refine QN.tr ?_ | refine QN.br ?_))
    refine QN.ret1 rfl rfl ⟨_, rfl, ?_⟩
    rw [gR_off he]
    exact ⟨rfl, hR5.ext (Ext.refl _ []) (by simp) (by simp) (fun k hk => .inl (by simp [hk])), hE.mono (by simp)⟩
end Go.Proofs.YtgpgladbdoimdaaGreatDoor
end
section
namespace Go.Proofs.YtgpgladbdoimdaaGreatDoor
open Go.RowKit Go.Ev
end Go.Proofs.YtgpgladbdoimdaaGreatDoor
end
section
namespace Go.Proofs.YtgpgladbdoimdaaGreatDoor
open Go.RowKit Go.Ev
def QAt (m : World) (M : List Nat) (b : Nat) (l : List UInt8) (e : Int) : Prop := ∃ v, Blk m b 90 [v, .int .i64 e] ∧ Bs m M v l
theorem QAt.lt {m : World} {M : List Nat} {b : Nat} {l : List UInt8} {e : Int} (h : QAt m M b l e) : b < m.heap.size := by obtain ⟨v, h, _⟩ := h; exact h.lt
theorem QAt.ext {m m' : World} {M M' N : List Nat} {b : Nat} {l : List UInt8} {e : Int} (h : QAt m M b l e) (hE : Ext m N m') (hb : b ∉ N) (hN : ∀ k ∈ N, k < m.heap.size → k ∈ M) (hM : ∀ k ∈ M', k ∈ M ∨ m.heap.size ≤ k) : QAt m' M' b l e := by
  obtain ⟨v, hB, hS⟩ := h
  exact ⟨v, hB.ext hE hb, Sl.ext hS (hE.mono hN) hM (by omega)⟩
def QPost (m : World) (M : List Nat) (b : Nat) {α : Type} (enc : α → Value) (r : α × List UInt8 × Int) (v : Value) (m' : World) : Prop :=
  v = enc r.1 ∧ QAt m' M b r.2.1 r.2.2 ∧ Ext m [b] m'
set_option maxRecDepth 4000 in
set_option maxHeartbeats 400000 in
theorem quint_c (m : World) (M : List Nat) (b : Nat) (l : List UInt8) (e : Int) (h : QAt m M b l e) (hbM : b ∈ M) (most : Nat) :
    FnR Tryz.prog 32 [.pointer (some ⟨b, 0, none⟩), .int .u64 most] m (QPost m M b (fun n : Nat => .int .u64 n) (gR 0 e l (rdU most 0 0 l))) := by
  obtain ⟨v, hB, hS⟩ := h
  obtain ⟨A, c, rfl, hlc, hcm⟩ := hS.shape
  have hlm : l.length ≤ 9223372036854775807 := by unfold maxLen at hcm; omega
  refine FnE.enter ⟨_, Tryz.func32, by kernel_rfl, by kernel_rfl⟩ Tryz.func32 rfl rfl ?_
  (with_reducible repeat (first | refine WP.S1 ?_ | refine WP.B1 ?_ | refine WP.R1 ?_))
  refine RL.A1 T_ok rfl ?_
  refine RL.N1 ?_; (with_reducible repeat (first | refine QN.B1 ?_ | refine QN.N1 ?_ | refine WP.S1 ?_ | refine WP.B1 ?_ | refine WP.R1 ?_))
  refine RL.A1 T_ok rfl ?_
  refine RL.load T_ok rfl rfl rfl (hB.cell 1 rfl) rfl ?_
  refine RL.pure T_ok 1 rfl ?_
  by_cases he : e = 0
  rotate_left
  · refine RL.eqv (v' := .bool true) (congrArg _ (by simp [he])) ?_
    refine RL.A1 T_ok rfl ?_
    refine RL.N1 ?_; (with_reducible repeat (first | refine QN.B1 ?_ | refine QN.N1 ?_ | refine WP.S1 ?_ | refine WP.B1 ?_ | refine WP.R1 ?_))
    refine WP.condT rfl ?_
    (with_reducible repeat (first | refine WP.S1 ?_ | refine WP.B1 ?_ | refine WP.R1 ?_))
    refine RL.A1 T_ok rfl ?_
    refine RL.N1 ?_; (with_reducible repeat (first | refine QN.B1 ?_ | refine QN.N1 ?_ | refine WP.S1 ?_ | refine WP.B1 ?_ | refine WP.R1 ?_))
    refine WP.ret ?_; (with_reducible repeat (first | refine QN.tr ?_ | refine QN.br ?_))
    refine QN.ret1 rfl rfl ⟨_, rfl, ?_⟩
    rw [gR_off he]
    exact ⟨rfl, ⟨_, hB, hS⟩, Ext.refl _ _⟩
  subst he
  have good : ∀ (n : Nat) (l' : List UInt8) (m' : World) (u : Value), rdU most 0 0 l = .ok (n, l') → Chg m b (.cells [u, .int .i64 0].toArray 90 (0, 0)) m' → Bs m' M u l' → QPost m M b (fun n : Nat => .int .u64 n) (gR 0 0 l (rdU most 0 0 l)) (.int .u64 n) m' :=
    fun n l' m' u h1 h2 h3 => by rw [gR_ok h1]; exact ⟨rfl, ⟨u, h2.blk, h3⟩, h2.ext⟩
  have bad : ∀ (k : Int) (m' : World), rdU most 0 0 l = .error k → Chg m b (.cells [.slice A l.length c, .int .i64 k].toArray 90 (0, 0)) m' → QPost m M b (fun n : Nat => .int .u64 n) (gR 0 0 l (rdU most 0 0 l)) (.int .u64 0) m' :=
    fun k m' h1 h2 => by rw [gR_err h1]; exact ⟨rfl, ⟨_, h2.blk, Sl.ext hS (h2.ext.mono (by simp [hbM])) (fun _ hk => .inl hk) (by omega)⟩, h2.ext⟩
  refine RL.eqv (v' := .bool false) (congrArg _ (by simp)) ?_
  refine RL.A1 T_ok rfl ?_
  refine RL.N1 ?_; (with_reducible repeat (first | refine QN.B1 ?_ | refine QN.N1 ?_ | refine WP.S1 ?_ | refine WP.B1 ?_ | refine WP.R1 ?_))
  refine WP.condF rfl ?_
  refine WP.skip ?_; (with_reducible repeat (first | refine QN.B1 ?_ | refine QN.N1 ?_ | refine WP.S1 ?_ | refine WP.B1 ?_ | refine WP.R1 ?_))
  refine RL.A1 T_ok rfl ?_
  refine RL.N1 ?_; (with_reducible repeat (first | refine QN.B1 ?_ | refine QN.N1 ?_ | refine WP.S1 ?_ | refine WP.B1 ?_ | refine WP.R1 ?_))
  refine RL.A1 T_ok rfl ?_
  refine RL.N1 ?_; (with_reducible repeat (first | refine QN.B1 ?_ | refine QN.N1 ?_ | refine WP.S1 ?_ | refine WP.B1 ?_ | refine WP.R1 ?_))
  refine WP.loop (X := Nat × Nat) (fun x => [(0, .pointer (some ⟨b, 0, none⟩)), (1, .int .u64 most), (5, .int .u64 x.2), (6, .int .i64 x.1)])
    (fun x m' => x.1 ≤ 9 ∧ x.1 ≤ l.length ∧ x.2 < 128 ^ x.1 ∧ rdU most x.1 x.2 (l.drop x.1) = rdU most 0 0 l ∧ m' = m) (fun x => 10 - x.1) (0, 0)
    (Sub.C1 rfl (Sub.C1 rfl (Sub.C1 rfl (Sub.C1 rfl Sub.nil)))) ⟨by simp, by simp, by simp, by simp, rfl⟩ ?_
  rintro ⟨i, n⟩ m1 ⟨hi, hil, hn, hrd, rfl⟩
  simp only at hi hil hn hrd
  (with_reducible repeat (first | refine WP.S1 ?_ | refine WP.B1 ?_ | refine WP.R1 ?_))
  refine RL.pure T_ok 2 rfl ?_
  refine RL.eqv (v' := .bool false) (congrArg _ (decide_eq_false (by omega))) ?_
  refine RL.A1 T_ok rfl ?_
  refine RL.N1 ?_; (with_reducible repeat (first | refine QN.B1 ?_ | refine QN.N1 ?_ | refine WP.S1 ?_ | refine WP.B1 ?_ | refine WP.R1 ?_))
  refine WP.condF rfl ?_
  refine WP.skip ?_; (with_reducible repeat (first | refine QN.B1 ?_ | refine QN.N1 ?_ | refine WP.S1 ?_ | refine WP.B1 ?_ | refine WP.R1 ?_))
  refine RL.A1 T_ok rfl ?_
  refine RL.load T_ok rfl rfl rfl (hB.cell 0 rfl) rfl ?_
  refine RL.A1 T_ok rfl ?_
  refine RL.N1 ?_; (with_reducible repeat (first | refine QN.B1 ?_ | refine QN.N1 ?_ | refine WP.S1 ?_ | refine WP.B1 ?_ | refine WP.R1 ?_))
  refine WP.cond rfl (fun hc => ?_) (fun hc => ?_)
  · have hc : l.length ≤ i := by have := of_decide_eq_true hc; omega
    have h0 : l.drop i = [] := List.drop_eq_nil_of_le hc
    rw [h0] at hrd
    (with_reducible repeat (first | refine WP.S1 ?_ | refine WP.B1 ?_ | refine WP.R1 ?_))
    refine RL.A1 T_ok rfl ?_
    refine RL.store T_ok hB (i := 1) (v := .int .i64 10) (by simp) rfl rfl rfl rfl rfl rfl ?_
    intro m2 hC
    refine RL.N1 ?_; (with_reducible repeat (first | refine QN.B1 ?_ | refine QN.N1 ?_ | refine WP.S1 ?_ | refine WP.B1 ?_ | refine WP.R1 ?_))
    refine RL.A1 T_ok rfl ?_
    refine RL.N1 ?_; (with_reducible repeat (first | refine QN.B1 ?_ | refine QN.N1 ?_ | refine WP.S1 ?_ | refine WP.B1 ?_ | refine WP.R1 ?_))
    refine WP.ret ?_; (with_reducible repeat (first | refine QN.tr ?_ | refine QN.br ?_))
    exact QN.ret1 rfl rfl ⟨_, rfl, bad 10 m2 (by rw [← hrd]; rfl) hC⟩
  have hc : i < l.length := by have := of_decide_eq_false hc; omega
  have hx := l[i].toNat_lt
  rw [List.drop_eq_getElem_cons hc] at hrd
  refine WP.skip ?_; (with_reducible repeat (first | refine QN.B1 ?_ | refine QN.N1 ?_ | refine WP.S1 ?_ | refine WP.B1 ?_ | refine WP.R1 ?_))
  refine RL.A1 T_ok rfl ?_
  refine RL.load T_ok rfl rfl rfl (hB.cell 0 rfl) rfl ?_
  refine RL.A1 T_ok rfl ?_
  refine RL.byteAt T_ok hS (k := i) rfl hc rfl rfl rfl rfl rfl rfl (fun p => ?_)
  generalize l[i] = x at *
  refine RL.A1 T_ok rfl ?_
  refine RL.N1 ?_; (with_reducible repeat (first | refine QN.B1 ?_ | refine QN.N1 ?_))
  have hp : 128 ^ i = 2 ^ (7 * i) := by rw [Nat.pow_mul]
  have hi9 : 128 ^ i ≤ 128 ^ 9 := Nat.pow_le_pow_right (by omega) hi
  refine WP.cut (X := Unit) (fun _ => [(0, .pointer (some ⟨b, 0, none⟩)), (1, .int .u64 most), (5, .int .u64 n), (6, .int .i64 i), (7, .int .u8 x.toNat)]) (fun _ m' => m' = m1 ∧ ¬ (i = 9 ∧ 1 < x.toNat)) ?_ ?_
  · (with_reducible repeat (first | refine WP.S1 ?_ | refine WP.B1 ?_ | refine WP.R1 ?_))
    refine RL.pure T_ok 2 rfl ?_
    by_cases h9 : i = 9
    · refine RL.eqv (v' := .bool true) (by simp [h9]) ?_
      refine RL.A1 T_ok rfl ?_
      refine RL.N1 ?_; (with_reducible repeat (first | refine QN.B1 ?_ | refine QN.N1 ?_ | refine WP.S1 ?_ | refine WP.B1 ?_ | refine WP.R1 ?_))
      refine WP.cond rfl (fun hc => ?_) (fun hc => ?_)
      · have hc : 1 < x.toNat := by have := of_decide_eq_true hc; omega
        (with_reducible repeat (first | refine WP.S1 ?_ | refine WP.B1 ?_ | refine WP.R1 ?_))
        refine RL.A1 T_ok rfl ?_
        refine RL.store T_ok hB (i := 1) (v := .int .i64 11) (by simp) rfl rfl rfl rfl rfl rfl ?_
        intro m2 hC
        refine RL.N1 ?_; (with_reducible repeat (first | refine QN.B1 ?_ | refine QN.N1 ?_ | refine WP.S1 ?_ | refine WP.B1 ?_ | refine WP.R1 ?_))
        refine RL.A1 T_ok rfl ?_
        refine RL.N1 ?_; (with_reducible repeat (first | refine QN.B1 ?_ | refine QN.N1 ?_ | refine WP.S1 ?_ | refine WP.B1 ?_ | refine WP.R1 ?_))
        refine WP.ret ?_; (with_reducible repeat (first | refine QN.tr ?_ | refine QN.br ?_))
        exact QN.ret1 rfl rfl ⟨_, rfl, bad 11 m2 (by rw [← hrd]; simp [rdU, h9, hc]) hC⟩
      · have hc : ¬ 1 < x.toNat := by have := of_decide_eq_false hc; omega
        refine WP.skip (QN.cutEnd () (Sub.C1 rfl (Sub.C1 rfl (Sub.C1 rfl (Sub.C1 rfl (Sub.C1 rfl Sub.nil))))) ⟨rfl, fun hh => hc hh.2⟩)
    · refine RL.eqv (v' := .bool false) (by simp; omega) ?_
      refine RL.A1 T_ok rfl ?_
      refine RL.N1 ?_; (with_reducible repeat (first | refine QN.B1 ?_ | refine QN.N1 ?_ | refine WP.S1 ?_ | refine WP.B1 ?_ | refine WP.R1 ?_))
      refine WP.condF rfl ?_
      refine WP.skip (QN.cutEnd () (Sub.C1 rfl (Sub.C1 rfl (Sub.C1 rfl (Sub.C1 rfl (Sub.C1 rfl Sub.nil))))) ⟨rfl, fun hh => h9 hh.1⟩)
  rintro _ m2' ⟨rfl, h9⟩
  have hy : i = 9 → x.toNat ≤ 1 := fun h => by
    rcases Nat.lt_or_ge 1 x.toNat with h1 | h1
    · exact absurd ⟨h, h1⟩ h9
    · exact h1
  have hfit : n + x.toNat % 128 * 128 ^ i < 18446744073709551616 ∧ (i < 9 → n + x.toNat % 128 * 128 ^ i < 128 ^ (i + 1)) := by
    have h1 : x.toNat % 128 * 128 ^ i ≤ 127 * 128 ^ i := Nat.mul_le_mul_right _ (by omega)
    refine ⟨?_, fun _ => by rw [Nat.pow_succ]; omega⟩
    rcases Nat.lt_or_ge i 9 with h | h
    · have : 128 ^ i ≤ 128 ^ 8 := Nat.pow_le_pow_right (by omega) (by omega)
      omega
    · have : i = 9 := by omega
      subst this
      have := hy rfl
      have : x.toNat % 128 * 128 ^ 9 ≤ 1 * 128 ^ 9 := Nat.mul_le_mul_right _ (by omega)
      omega
  have hyp : x.toNat % 128 * 128 ^ i = x.toNat % 128 * 2 ^ (7 * i) := by rw [hp]
  (with_reducible repeat (first | refine WP.S1 ?_ | refine WP.B1 ?_ | refine WP.R1 ?_))
  refine RL.pure T_ok 4 rfl ?_
  refine RL.eqv (v' := .int .u64 ((x.toNat % 128 : Nat) : Int)) (congrArg _ ?_) ?_
  · show IntKind.u64.wrap (bits .and .u8 (x.toNat : Int) 127) = _
    rw [and127, wrap_u64_in _ (by omega) (by omega)]
  refine RL.pure T_ok 2 rfl ?_
  refine RL.eqv (v' := .int .i64 ((7 * i : Nat) : Int)) (congrArg _ ?_) ?_
  · show IntKind.i64.wrap (7 * (i : Int)) = _
    rw [wrap_i64_in _ (by omega) (by omega)]; omega
  refine RL.pure T_ok 1 rfl ?_
  refine RL.eqv (v' := .int .u64 ((x.toNat % 128 * 2 ^ (7 * i) : Nat) : Int)) (congrArg _ ?_) ?_
  · show IntKind.u64.wrap (((x.toNat % 128 : Nat) : Int) * 2 ^ shAmt .u64 (7 * i)) = _
    have h1 : shAmt .u64 (7 * i) = 7 * i := by unfold shAmt; exact Nat.min_eq_left (by show 7 * i ≤ 64; omega)
    have h2 : ((x.toNat % 128 : Nat) : Int) * 2 ^ (7 * i) = ((x.toNat % 128 * 2 ^ (7 * i) : Nat) : Int) := by
      rw [Int.natCast_mul, Int.natCast_pow]; rfl
    rw [h1, h2, wrap_u64_in _ (by omega) (by rw [← hyp]; omega)]
  refine RL.pure T_ok 1 rfl ?_
  refine RL.eqv (v' := .int .u64 ((n + x.toNat % 128 * 128 ^ i : Nat) : Int)) (congrArg _ ?_) ?_
  · show bits .or .u64 (n : Int) ((x.toNat % 128 * 2 ^ (7 * i) : Nat) : Int) = _
    rw [or_add64 _ _ _ (by rw [← hp]; exact hn) (by rw [← hyp]; exact hfit.1), ← hyp]
  refine RL.A1 T_ok rfl ?_
  refine RL.N1 ?_; (with_reducible repeat (first | refine QN.B1 ?_ | refine QN.N1 ?_ | refine WP.S1 ?_ | refine WP.B1 ?_ | refine WP.R1 ?_))
  refine RL.A1 T_ok rfl ?_
  refine RL.N1 ?_; (with_reducible repeat (first | refine QN.B1 ?_ | refine QN.N1 ?_ | refine WP.S1 ?_ | refine WP.B1 ?_ | refine WP.R1 ?_))
  clear hyp
  refine WP.cond rfl (fun hc => ?_) (fun hc => ?_)
  · have hc : 128 ≤ x.toNat := by have := of_decide_eq_true hc; omega
    have hi' : i < 9 := by
      rcases Nat.lt_or_ge i 9 with h | h
      · exact h
      · have := hy (by omega); omega
    refine WP.exit ?_; (with_reducible repeat (first | refine QN.tx ?_ | refine QN.bx ?_ | refine QN.block_far rfl ?_ | refine QN.B1 ?_ | refine QN.N1 ?_)); (with_reducible repeat (first | refine WP.S1 ?_ | refine WP.B1 ?_ | refine WP.R1 ?_))
    refine RL.A1 T_ok rfl ?_
    refine RL.N1 (QN.round (i + 1, n + x.toNat % 128 * 128 ^ i) ?_ ⟨?_, ?_, hfit.2 hi', ?_, rfl⟩ ?_)
    · refine Sub.C1 rfl (Sub.C1 rfl (Sub.C1 rfl (Sub.C1 ?_ Sub.nil)))
      show some (Value.int .i64 (IntKind.i64.wrap ((i : Int) + 1))) = some (Value.int .i64 ((i + 1 : Nat) : Int))
      rw [wrap_i64_in _ (by omega) (by omega)]; rfl
    · show i + 1 ≤ 9
      omega
    · show i + 1 ≤ l.length
      omega
    · rw [← hrd]
      simp only [rdU]
      rw [if_neg h9, if_pos hc]
    · show 10 - (i + 1) < 10 - i
      omega
  have hc128 : x.toNat < 128 := by have := of_decide_eq_false hc; omega
  have hrd1 : rdU most 0 0 l = if x.toNat = 0 ∧ 0 < i then .error 11 else if most < n + x.toNat % 128 * 128 ^ i then .error 12 else .ok (n + x.toNat % 128 * 128 ^ i, l.drop (i + 1)) := by
    rw [← hrd]
    simp only [rdU]
    rw [if_neg h9, if_neg (by omega)]
  generalize hN : n + x.toNat % 128 * 128 ^ i = N at *
  refine WP.skip ?_; (with_reducible repeat (first | refine QN.B1 ?_ | refine QN.N1 ?_))
  refine WP.cut (X := Unit) (fun _ => [(0, .pointer (some ⟨b, 0, none⟩)), (1, .int .u64 most), (5, .int .u64 N), (6, .int .i64 i)]) (fun _ m' => m' = m2' ∧ ¬ (x.toNat = 0 ∧ 0 < i)) ?_ ?_
  · (with_reducible repeat (first | refine WP.S1 ?_ | refine WP.B1 ?_ | refine WP.R1 ?_))
    refine RL.pure T_ok 2 rfl ?_
    by_cases hx0 : x.toNat = 0
    · refine RL.eqv (v' := .bool true) (by simp [hx0]) ?_
      refine RL.A1 T_ok rfl ?_
      refine RL.N1 ?_; (with_reducible repeat (first | refine QN.B1 ?_ | refine QN.N1 ?_ | refine WP.S1 ?_ | refine WP.B1 ?_ | refine WP.R1 ?_))
      refine WP.cond rfl (fun hc => ?_) (fun hc => ?_)
      · have hc : 0 < i := by have := of_decide_eq_true hc; omega
        (with_reducible repeat (first | refine WP.S1 ?_ | refine WP.B1 ?_ | refine WP.R1 ?_))
        refine RL.A1 T_ok rfl ?_
        refine RL.store T_ok hB (i := 1) (v := .int .i64 11) (by simp) rfl rfl rfl rfl rfl rfl ?_
        intro m2 hC
        refine RL.N1 ?_; (with_reducible repeat (first | refine QN.B1 ?_ | refine QN.N1 ?_ | refine WP.S1 ?_ | refine WP.B1 ?_ | refine WP.R1 ?_))
        refine RL.A1 T_ok rfl ?_
        refine RL.N1 ?_; (with_reducible repeat (first | refine QN.B1 ?_ | refine QN.N1 ?_ | refine WP.S1 ?_ | refine WP.B1 ?_ | refine WP.R1 ?_))
        refine WP.ret ?_; (with_reducible repeat (first | refine QN.tr ?_ | refine QN.br ?_))
        exact QN.ret1 rfl rfl ⟨_, rfl, bad 11 m2 (by rw [hrd1, if_pos ⟨hx0, hc⟩]) hC⟩
      · have hc : ¬ 0 < i := by have := of_decide_eq_false hc; omega
        refine WP.skip (QN.cutEnd () (Sub.C1 rfl (Sub.C1 rfl (Sub.C1 rfl (Sub.C1 rfl Sub.nil)))) ⟨rfl, fun hh => hc hh.2⟩)
    · refine RL.eqv (v' := .bool false) (by simp [hx0]) ?_
      refine RL.A1 T_ok rfl ?_
      refine RL.N1 ?_; (with_reducible repeat (first | refine QN.B1 ?_ | refine QN.N1 ?_ | refine WP.S1 ?_ | refine WP.B1 ?_ | refine WP.R1 ?_))
      refine WP.condF rfl ?_
      refine WP.skip (QN.cutEnd () (Sub.C1 rfl (Sub.C1 rfl (Sub.C1 rfl (Sub.C1 rfl Sub.nil)))) ⟨rfl, fun hh => hx0 hh.1⟩)
  rintro _ m3 ⟨rfl, hz⟩
  rw [if_neg hz] at hrd1
  (with_reducible repeat (first | refine WP.S1 ?_ | refine WP.B1 ?_ | refine WP.R1 ?_))
  refine RL.A1 T_ok rfl ?_
  refine RL.N1 ?_; (with_reducible repeat (first | refine QN.B1 ?_ | refine QN.N1 ?_ | refine WP.S1 ?_ | refine WP.B1 ?_ | refine WP.R1 ?_))
  refine WP.cond rfl (fun hc2 => ?_) (fun hc2 => ?_)
  · have hc2 : most < N := by have := of_decide_eq_true hc2; omega
    (with_reducible repeat (first | refine WP.S1 ?_ | refine WP.B1 ?_ | refine WP.R1 ?_))
    refine RL.A1 T_ok rfl ?_
    refine RL.store T_ok hB (i := 1) (v := .int .i64 12) (by simp) rfl rfl rfl rfl rfl rfl ?_
    intro m4 hC
    refine RL.N1 ?_; (with_reducible repeat (first | refine QN.B1 ?_ | refine QN.N1 ?_ | refine WP.S1 ?_ | refine WP.B1 ?_ | refine WP.R1 ?_))
    refine RL.A1 T_ok rfl ?_
    refine RL.N1 ?_; (with_reducible repeat (first | refine QN.B1 ?_ | refine QN.N1 ?_ | refine WP.S1 ?_ | refine WP.B1 ?_ | refine WP.R1 ?_))
    refine WP.ret ?_; (with_reducible repeat (first | refine QN.tr ?_ | refine QN.br ?_))
    exact QN.ret1 rfl rfl ⟨_, rfl, bad 12 m4 (by rw [hrd1, if_pos hc2]) hC⟩
  · have hc2 : ¬ most < N := by have := of_decide_eq_false hc2; omega
    rw [if_neg hc2] at hrd1
    refine WP.skip ?_; (with_reducible repeat (first | refine QN.B1 ?_ | refine QN.N1 ?_ | refine WP.S1 ?_ | refine WP.B1 ?_ | refine WP.R1 ?_))
    refine RL.A1 T_ok rfl ?_
    refine RL.load T_ok rfl rfl rfl (hB.cell 0 rfl) rfl ?_
    refine RL.pure T_ok 2 rfl ?_
    refine RL.eqv (v' := .int .i64 ((i + 1 : Nat) : Int)) (congrArg _ (by rw [wrap_i64_in _ (by omega) (by omega)]; rfl)) ?_
    refine RL.sliceFrom (l := i + 1) T_ok rfl rfl rfl rfl rfl (by omega) rfl ?_
    refine RL.A1 T_ok rfl ?_
    refine RL.store T_ok hB (i := 0) (by simp) rfl rfl rfl rfl rfl rfl ?_
    intro m4 hC
    have h2 := Sl.from_ hS (l := i + 1) (by omega)
    rw [show (u8s l).drop ((i + 1) * 1) = u8s (l.drop (i + 1)) by rw [Nat.mul_one, u8s_drop]] at h2
    refine RL.N1 ?_; (with_reducible repeat (first | refine QN.B1 ?_ | refine QN.N1 ?_ | refine WP.S1 ?_ | refine WP.B1 ?_ | refine WP.R1 ?_))
    refine RL.A1 T_ok rfl ?_
    refine RL.N1 ?_; (with_reducible repeat (first | refine QN.B1 ?_ | refine QN.N1 ?_ | refine WP.S1 ?_ | refine WP.B1 ?_ | refine WP.R1 ?_))
    refine WP.ret ?_; (with_reducible repeat (first | refine QN.tr ?_ | refine QN.br ?_))
    exact QN.ret1 rfl rfl ⟨_, rfl, good N _ m4 _ hrd1 hC (Sl.ext h2 (hC.ext.mono (by simp [hbM])) (fun _ hk => .inl hk) (by omega))⟩
end Go.Proofs.YtgpgladbdoimdaaGreatDoor
end
section
namespace Go.Ev
open Go.RowKit
section
variable {P : Program} {T : Ty} {ops : Array Oper} {Q : Exit → Act → World → Prop} {rest : List Oper} {n : Nat} {e e' : Env} {D : Fr} {m : World}
  {d : Option Tmp} {x : Operand} {t ty : TypeId} {pos : String} {aft : Array Edge} {g : Option (Nat × Bool)}
end
end Go.Ev
namespace Go.Ev
open Go.RowKit
theorem Own.put {m : World} {S : List Nat} {t : TypeId} {v : Value} {n j : Nat} {xs : List Value} (h : Own m S t 1 v n xs) (hj : j < n) :
    ∃ g cap cur, v = .slice (some ⟨g, 0, none⟩) n cap ∧ Blk m g t cur ∧ S = [g] ∧ j < cur.length ∧ ∀ m' x, Chg m g (.cells (cur.set j x).toArray t (0, 0)) m' → Own m' S t 1 v n (xs.set j x) := by
  obtain ⟨g, cap, cur, rfl, hB, hcap, hcm, hcl, hct, rfl⟩ := h.at_ (by omega)
  refine ⟨g, cap, cur, rfl, hB, rfl, by omega, fun m' x hC => ⟨?_, .inr ⟨g, cap, _, rfl, hC.blk, hcap, hcm, by simpa using hcl, ?_, rfl⟩⟩⟩
  · rw [List.length_set]; exact h.1
  · rw [List.take_set, hct]
theorem u8s_set (l : List UInt8) (j : Nat) (x : UInt8) : (u8s l).set j (.int .u8 x.toNat) = u8s (l.set j x) := by
  unfold u8s
  rw [List.map_set]
end Go.Ev
end
section
namespace Go.Proofs.YtgpgladbdoimdaaGreatDoor
open Go.RowKit Go.Ev
theorem copy_c (m : World) (M : List Nat) (v : Value) (l : List UInt8) (h : Bs m M v l) (hl : l.length < 1000000000) :
    FnR Tryz.prog 26 [v] m fun r m' => ∃ S', Ev.Own m' S' 5 1 r l.length (u8s l) ∧ New m S' m' := by
  obtain ⟨A, c, rfl, hlc, _⟩ := h.shape
  refine FnE.enter ⟨_, Tryz.func26, by kernel_rfl, by kernel_rfl⟩ Tryz.func26 rfl rfl ?_
  (with_reducible repeat (first | refine WP.S1 ?_ | refine WP.B1 ?_ | refine WP.R1 ?_))
  refine RL.A1 T_ok rfl ?_
  refine RL.N1 ?_; (with_reducible repeat (first | refine QN.B1 ?_ | refine QN.N1 ?_ | refine WP.S1 ?_ | refine WP.B1 ?_ | refine WP.R1 ?_))
  refine RL.A1 T_ok rfl ?_
  refine RL.append T_ok (Own.empty _ _ _ none) (u8s l) (Src.of_sl (show Sl m M 1 _ (u8s l) from h)) rfl rfl rfl rfl rfl (by simp [u8s_length]) (u8s_one _) (by unfold maxLen; omega) (by show (_ + _) * 1 ≤ _; omega) ?_
  intro v1 m2 S2 hO1 hE1 hF1
  refine ⟨_, rfl, ?_⟩
  refine RL.A1 T_ok rfl ?_
  refine RL.N1 ?_; (with_reducible repeat (first | refine QN.B1 ?_ | refine QN.N1 ?_ | refine WP.S1 ?_ | refine WP.B1 ?_ | refine WP.R1 ?_))
  refine WP.ret ?_; (with_reducible repeat (first | refine QN.tr ?_ | refine QN.br ?_))
  refine QN.ret1 rfl rfl ⟨_, rfl, S2, ?_, hE1, hF1⟩
  simpa using hO1
theorem str_eq (a b : List UInt8) : ((str a).toList == (str b).toList) = decide (a = b) := by
  rw [str_toList, str_toList]
  by_cases h : a = b <;> simp [h]
theorem hbytes_c (m : World) (M : List Nat) (v u : Value) (a b : List UInt8) (h : Bs m M v a) (h' : Bs m M u b) :
    FnR Tryz.prog 28 [v, u] m fun r m' => r = .bool (decide (a = b)) ∧ m' = m := by
  obtain ⟨A, c, rfl, hlc, _⟩ := h.shape
  obtain ⟨A', c', rfl, hlc', _⟩ := h'.shape
  refine FnE.enter ⟨_, Tryz.func28, by kernel_rfl, by kernel_rfl⟩ Tryz.func28 rfl rfl ?_
  (with_reducible repeat (first | refine WP.S1 ?_ | refine WP.B1 ?_ | refine WP.R1 ?_))
  refine RL.A1 T_ok rfl ?_
  refine RL.N1 ?_; (with_reducible repeat (first | refine QN.B1 ?_ | refine QN.N1 ?_ | refine WP.S1 ?_ | refine WP.B1 ?_ | refine WP.R1 ?_))
  refine RL.pure T_ok 1 rfl ?_
  refine RL.bytesString T_ok h rfl rfl rfl rfl rfl rfl ?_
  refine RL.pure T_ok 1 rfl ?_
  refine RL.bytesString T_ok h' rfl rfl rfl rfl rfl rfl ?_
  refine RL.pure T_ok 1 rfl ?_
  refine RL.eqv (v' := .bool (decide (a = b))) (congrArg _ (str_eq a b)) ?_
  refine RL.A1 T_ok rfl ?_
  refine RL.N1 ?_; (with_reducible repeat (first | refine QN.B1 ?_ | refine QN.N1 ?_ | refine WP.S1 ?_ | refine WP.B1 ?_ | refine WP.R1 ?_))
  refine WP.ret ?_; (with_reducible repeat (first | refine QN.tr ?_ | refine QN.br ?_))
  exact QN.ret1 rfl rfl ⟨_, rfl, rfl, rfl⟩
end Go.Proofs.YtgpgladbdoimdaaGreatDoor
end
section
namespace Go.Proofs.YtgpgladbdoimdaaGreatDoor
open Go.RowKit Go.Ev
def OPost (m : World) (S : List Nat) (l : List UInt8) (v : Value) (m' : World) : Prop := ∃ S', Ev.Own m' S' 5 1 v l.length (u8s l) ∧ Ext m S m' ∧ FpNew m S S'
theorem OPost.next {m m1 m2 : World} {S S1 : List Nat} {l : List UInt8} {v : Value} (hE : Ext m S m1) (hF : FpNew m S S1) (h : OPost m1 S1 l v m2) : OPost m S l v m2 := by
  obtain ⟨S', h1, h2, h3⟩ := h
  exact ⟨S', h1, hE.trans h2 hF, hF.trans h3 hE.size⟩
theorem own_more {m m1 : World} {S S2 : List Nat} {v1 : Value} {l : List UInt8} {d : List UInt8} (hO : Ev.Own m1 S2 5 1 v1 (l.length + d.length) (u8s l ++ u8s d)) (hE : Ext m S m1) (hF : FpNew m S S2) : OPost m S (l ++ d) v1 m1 :=
  ⟨S2, by rw [← u8s_append] at hO; rw [List.length_append]; exact hO, hE, hF⟩
theorem refuint_c (m : World) (n : Nat) (hn : n < 18446744073709551616) (S : List Nat) (v : Value) (l : List UInt8) (h : Ev.Own m S 5 1 v l.length (u8s l)) (hl : l.length < 1000000000) :
    FnR Tryz.prog 24 [v, .int .u64 n] m (OPost m S (l ++ encU n)) := by
  refine FnE.enter ⟨_, Tryz.func24, by kernel_rfl, by kernel_rfl⟩ Tryz.func24 rfl rfl ?_
  (with_reducible repeat (first | refine WP.S1 ?_ | refine WP.B1 ?_ | refine WP.R1 ?_))
  refine RL.A1 T_ok rfl ?_
  refine RL.N1 ?_; (with_reducible repeat (first | refine QN.B1 ?_ | refine QN.N1 ?_ | refine WP.S1 ?_ | refine WP.B1 ?_ | refine WP.R1 ?_))
  refine WP.loop (X := Nat × List UInt8 × Value) (fun x => [(0, x.2.2), (1, .int .u64 x.1)])
    (fun x m' => x.1 < 18446744073709551616 ∧ x.2.1 ++ encU x.1 = l ++ encU n ∧ OPost m S x.2.1 x.2.2 m') (fun x => x.1) (n, l, v)
    (Sub.C1 rfl (Sub.C1 rfl Sub.nil)) ⟨hn, rfl, S, h, Ext.refl _ _, FpNew.refl _ _⟩ ?_
  rintro ⟨k, pre, u⟩ m1 ⟨hk, hpre, S', hO, hE, hF⟩
  simp only at hk hpre hO
  have hlen : pre.length + (encU k).length = l.length + (encU n).length := by simpa using congrArg List.length hpre
  have h10 := encU_len10 hn
  (with_reducible repeat (first | refine WP.S1 ?_ | refine WP.B1 ?_ | refine WP.R1 ?_))
  refine RL.A1 T_ok rfl ?_
  refine RL.N1 ?_; (with_reducible repeat (first | refine QN.B1 ?_ | refine QN.N1 ?_ | refine WP.S1 ?_ | refine WP.B1 ?_ | refine WP.R1 ?_))
  refine WP.cond rfl (fun hc => ?_) (fun hc => ?_)
  · have hc : 128 ≤ k := by have := of_decide_eq_true hc; omega
    refine WP.skip ?_; (with_reducible repeat (first | refine QN.B1 ?_ | refine QN.N1 ?_ | refine WP.S1 ?_ | refine WP.B1 ?_ | refine WP.R1 ?_))
    refine RL.A1 T_ok rfl ?_
    refine RL.append1 T_ok [.tmp 10] hO (u8s [UInt8.ofNat (k % 128 + 128)]) rfl rfl rfl rfl rfl rfl rfl rfl rfl (by simp [Value.cells]) ?_ (u8s_one _) (by unfold maxLen; omega) (by show (_ + 1) * 1 ≤ _; omega) ?_
    · simp [u8s, Value.cells, wrap_u8_nat]
      exact or128 k
    intro v1 m2 S2 hO1 hE1 hF1
    refine ⟨_, rfl, ?_⟩
    refine RL.A1 T_ok rfl ?_
    refine RL.N1 ?_; (with_reducible repeat (first | refine QN.B1 ?_ | refine QN.N1 ?_ | refine WP.S1 ?_ | refine WP.B1 ?_ | refine WP.R1 ?_))
    refine RL.A1 T_ok rfl ?_
    refine RL.N1 (QN.B1 (QN.round (k / 128, pre ++ [UInt8.ofNat (k % 128 + 128)], v1) ?_ ⟨?_, ?_, OPost.next hE hF (own_more (d := [UInt8.ofNat (k % 128 + 128)]) hO1 hE1 hF1)⟩ ?_))
    · refine Sub.C1 rfl (Sub.C1 ?_ Sub.nil)
      show some (Value.int .u64 ((k : Int).fdiv (2 ^ 7))) = some (Value.int .u64 ((k / 128 : Nat) : Int))
      rw [fdiv_pow k 7]
    · show k / 128 < _
      omega
    · show (pre ++ [_]) ++ encU (k / 128) = _
      rw [← hpre, encU_big hc]; simp
    · show k / 128 < k
      omega
  · have hc : k < 128 := by have := of_decide_eq_false hc; omega
    refine WP.exit ?_; (with_reducible repeat (first | refine QN.tx ?_ | refine QN.bx ?_ | refine QN.block_far rfl ?_ | refine QN.B1 ?_ | refine QN.N1 ?_)); (with_reducible repeat (first | refine WP.S1 ?_ | refine WP.B1 ?_ | refine WP.R1 ?_))
    refine RL.A1 T_ok rfl ?_
    refine RL.append1 T_ok [.tmp 17] hO (u8s [UInt8.ofNat k]) rfl rfl rfl rfl rfl rfl rfl rfl rfl (by simp [Value.cells]) ?_ (u8s_one _) (by unfold maxLen; omega) (by show (_ + 1) * 1 ≤ _; omega) ?_
    · simp only [u8s, List.map_cons, List.map_nil, List.flatMap_cons, List.flatMap_nil, Value.cells, wrap_u8_nat]; rfl
    intro v1 m2 S2 hO1 hE1 hF1
    refine ⟨_, rfl, ?_⟩
    refine RL.A1 T_ok rfl ?_
    refine RL.N1 ?_; (with_reducible repeat (first | refine QN.B1 ?_ | refine QN.N1 ?_ | refine WP.S1 ?_ | refine WP.B1 ?_ | refine WP.R1 ?_))
    refine WP.ret ?_; (with_reducible repeat (first | refine QN.tr ?_ | refine QN.br ?_))
    refine QN.ret1 rfl rfl ⟨_, rfl, ?_⟩
    rw [← hpre, encU_small hc]
    exact OPost.next hE hF (own_more (d := [UInt8.ofNat k]) hO1 hE1 hF1)
end Go.Proofs.YtgpgladbdoimdaaGreatDoor
end
