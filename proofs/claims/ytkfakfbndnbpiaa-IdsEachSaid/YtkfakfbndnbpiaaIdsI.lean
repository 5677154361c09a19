/- The order of ids, plainly. -/
import Derived.Test.YtkfakfbndnbpiaaIdsO
namespace Go.Proofs.Ytkfakfbndnbpiaa
open Go.ChangeShapes Go.WideShapes Go.ChangeAt Go.RowKit Go.Ev Go.Ids

deriving instance DecidableEq for Idn
theorem eqI_run (x y : Idn) (w : World) : (binOp .neq 48 (iV x) (iV y)).run Try.prog w = .ok (.bool (decide (x ≠ y))) w := by
  have hS : Try.prog.underlying 48 = some (.struct (Try.prog.fieldsOf 48)) := by kernel_rfl
  have hp : Try.prog.stoodInHeld 48 = false := by kernel_rfl
  have u37 := Try.underlying37
  have a37 := Try.isAgg37
  have z37 := Try.sizeOf37
  simp only [iV, iC]
  rw [run_neq_struct, show (10000 : Nat) = 9999 + 1 from rfl, run_equalIn_agg w 9999 48 _ _ hS hp]
  simp only [Program.fieldsOf, Try.underlying48]
  go_simp
  obtain ⟨a, b⟩ := x
  obtain ⟨a', b'⟩ := y
  by_cases h1 : a = a' <;> by_cases h2 : b = b' <;> simp [h1, h2, Int.natCast_inj] 
theorem eqI_guard (x y : Idn) (ox oy : Operand) (w : World) : (eqGuard .neq 48 ox oy (iV x) (iV y)).run Try.prog w = .ok () w := run_eqGuard_agg w .neq 48 ox oy _ _ (by kernel_rfl)
theorem ilt_irrefl (x : Idn) : x.lt x = false := by simp [Idn.lt]
theorem ilt_iff {x y : Idn} : x.lt y = true ↔ x.c < y.c ∨ (x.c = y.c ∧ x.k < y.k) := by simp [Idn.lt]
theorem ilt_total {x y : Idn} (h : x ≠ y) : (x.lt y == y.lt x) = false := by
  have h1 : ¬ (x.c = y.c ∧ x.k = y.k) := fun hh => h (by cases x; cases y; simp_all)
  have i1 := @ilt_iff x y
  have i2 := @ilt_iff y x
  cases e1 : x.lt y <;> cases e2 : y.lt x <;> simp_all <;> omega
theorem ilt_trans {x y z : Idn} (h : x.lt y = true) (h' : y.lt z = true) : x.lt z = true := by rw [ilt_iff] at *; omega
theorem bne_self (b : Bool) : (b != b) = false := by cases b <;> rfl
end Go.Proofs.Ytkfakfbndnbpiaa
