/- WireSums: the row. -/
import Derived.Test.YtaogoblckkmkgaaRows
import Derived.Test.YtaogoblckkmkgaaWireB
import Derived.Test.YtaogoblckkmkgaaLaw
namespace Go.Proofs.Ytaogoblckkmkgaa
open Go.ChangeShapes Go.WideShapes Go.ChangeAt Go.RowKit Go.Ev

theorem own : ownKnob Try.prog.godebug = none := by kernel_rfl
theorem laidOut : laidOutB Try.prog = true := by kernel_rfl
theorem und (t : TypeId) {k : TyK} {r : Row} (hr : T.row t = some r) (hk : r.k = k) : KOk Try.prog t k := hk ▸ (T_ok.row hr).k
theorem cellsOf (t : TypeId) {r : Row} (hr : T.row t = some r) {k : Nat} (hk : r.size = k) : Try.prog.cellsOf t = k := hk ▸ (T_ok.row hr).cells
theorem u8_of {z : Int} (hw : (Lit.int .u8 z).wf = true) : ∃ b : UInt8, z = (b.toNat : Int) := by
  have h1 : IntKind.u8.min = 0 := by decide
  have h2 : IntKind.u8.max = 255 := by decide
  simp only [Lit.wf, h1, h2, Bool.and_eq_true, decide_eq_true_eq] at hw
  refine ⟨UInt8.ofNat z.toNat, ?_⟩
  have : (UInt8.ofNat z.toNat).toNat = z.toNat := by rw [UInt8.toNat_ofNat', Nat.mod_eq_of_lt (by omega)]
  rw [this, Int.toNat_of_nonneg (by omega)]
set_option maxRecDepth 100000 in
theorem sums_lifted (os : Os) (started : os.Started) (H : Type) (enc : TypeId × Value → H) :
    ReturnsInHanded {} Try.checked os 4 .any (Rows.wireSumsSpec.pre6 enc Try.prog Try.f4 Rows.wireSumsRow.domain false) (Rows.wireSumsSpec.post enc Try.prog Try.f4 false true false false) := by
  refine law_lift (tb := 4) own started (by kernel_rfl) Try.func4
    (ChangeSpec.witness6 (enc := enc) (C := Try.checked) false ⟨#[], #[.slice none 0 0, .int .i64 0, .int .u8 0], []⟩ 8 (by kernel_rfl) (by kernel_rfl) (by kernel_rfl) (by kernel_rfl))
    laidOut (by kernel_rfl) rfl (und 4 rfl rfl) rfl (fun ds h => by
      match ds, h with
      | [_, _, _], _ => exact ⟨rfl, rfl, rfl⟩) ?_
  intro W base args ds p hval hA hw
  rw [Try.params4] at hA hval
  obtain ⟨v0, v1, v2, d0, d1, d2, p0, p1, p2, rfl, rfl, rfl, h0, h1, h2⟩ := trodAll_three hA
  obtain ⟨l, hl⟩ := open_bytes (und 29 rfl rfl) (und 5 rfl rfl) (cellsOf 5 rfl rfl) (hval 0 29 v0 rfl rfl) h0
  obtain ⟨a, rfl, rfl, rfl, wa⟩ := open_int (und 3 rfl rfl) (hval 1 3 v1 rfl rfl) h1
  obtain ⟨z, rfl, rfl, rfl, wz⟩ := open_int (und 5 rfl rfl) (hval 2 5 v2 rfl rfl) h2
  obtain ⟨b, rfl⟩ := u8_of wz
  exact sums_c W [] v0 l hl a b
theorem wireSums_holds : Rows.WireSumsSaid :=
  OpenClaim.holds_of_wide 4 Try.f4 rfl rfl rfl rfl rfl rfl rfl ⟨rfl, rfl, rfl, rfl, rfl⟩ rfl rfl rfl rfl rfl (by kernel_rfl) Try.func4 (by kernel_rfl)
    (of_decide_eq_true (by kernel_rfl)) (by unfold Func.isWrapper; first | (rw [if_pos (by decide +kernel)]; kernel_rfl) | (rw [if_neg (by decide +kernel)]; exact ⟨rfl, rfl⟩))
    (fun os started H enc _ => sums_lifted os started H enc)
end Go.Proofs.Ytaogoblckkmkgaa
