/- What the rows share: facts of the program, its types, bytes. -/
import Derived.Test.YtmjpcaiehfimgaaTypes
import Derived.Test.YtmjpcaiehfimgaaLaw
namespace Go.Proofs.Ytmjpcaiehfimgaa
open Go.ChangeShapes Go.WideShapes Go.ChangeAt Go.RowKit Go.Ev
theorem own : ownKnob Try.prog.godebug = none := by kernel_rfl
theorem laidOut : laidOutB Try.prog = true := by kernel_rfl
theorem und (t : TypeId) {k : TyK} {r : Row} (hr : T.row t = some r) (hk : r.k = k) : KOk Try.prog t k := hk ▸ (T_ok.row hr).k
theorem cellsOf (t : TypeId) {r : Row} (hr : T.row t = some r) {k : Nat} (hk : r.size = k) : Try.prog.cellsOf t = k := hk ▸ (T_ok.row hr).cells
theorem u8_of {z : Int} (hw : (Lit.int .u8 z).wf = true) : ∃ b : UInt8, z = (b.toNat : Int) := by
  have h1 : IntKind.u8.min = 0 := by decide
  have h2 : IntKind.u8.max = 255 := by decide
  simp only [Lit.wf, h1, h2, Bool.and_eq_true, decide_eq_true_eq] at hw
  refine ⟨UInt8.ofNat z.toNat, ?_⟩
  have : (UInt8.ofNat z.toNat).toNat = z.toNat := by rw [UInt8.toNat_ofNat', Nat.mod_eq_of_lt (by omega)]
  rw [this, Int.toNat_of_nonneg (by omega)]
end Go.Proofs.Ytmjpcaiehfimgaa
