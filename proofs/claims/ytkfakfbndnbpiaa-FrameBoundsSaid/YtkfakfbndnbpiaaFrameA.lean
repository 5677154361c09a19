/- FrameBounds: the row. -/
import Derived.Test.YtkfakfbndnbpiaaRows
import Derived.Test.YtkfakfbndnbpiaaFrame7
import Derived.Test.YtkfakfbndnbpiaaFrameO
import Derived.Test.YtkfakfbndnbpiaaRow
namespace Go.Proofs.Ytkfakfbndnbpiaa
open Go.ChangeShapes Go.WideShapes Go.ChangeAt Go.RowKit Go.Ev

set_option maxRecDepth 100000 in
theorem fbounds_lifted (os : Os) (started : os.Started) (H : Type) (enc : TypeId × Value → H) :
    ReturnsInHanded {} Try.checked os 5 .any (Rows.frameBoundsSpec.pre6 enc Try.prog Try.f5 Rows.frameBoundsRow.domain false) (Rows.frameBoundsSpec.post enc Try.prog Try.f5 false true false false) := by
  refine law_lift (tb := 4) own started (by kernel_rfl) Try.func5
    (ChangeSpec.witness6 (enc := enc) (C := Try.checked) false ⟨#[], #[.int .u64 0, .slice none 0 0], []⟩ 8 (by kernel_rfl) (by kernel_rfl) (by kernel_rfl) (by kernel_rfl))
    laidOut (by kernel_rfl) rfl (und 4 rfl rfl) rfl (fun ds h => by
      match ds, h with
      | [_, _], _ => exact ⟨rfl, rfl, rfl⟩) ?_
  intro W base args ds p hval hA hw
  rw [Try.params5] at hA hval hw
  obtain ⟨v0, v1, d0, d1, p0, p1, rfl, rfl, rfl, h0, h1⟩ := trodAll_two hA
  obtain ⟨z, rfl, rfl, rfl, wz⟩ := open_int (und 37 rfl rfl) (hval 0 37 v0 rfl rfl) h0
  obtain ⟨more, hm⟩ := open_bytes (und 23 rfl rfl) (und 5 rfl rfl) (cellsOf 5 rfl rfl) (hval 1 23 v1 rfl rfl) (Fit.arg hw 1 rfl rfl) h1
  have hz := int_wf wz (lo := 0) (hi := 18446744073709551615) (by decide) (by decide)
  obtain ⟨n, rfl⟩ : ∃ n : Nat, z = n := ⟨z.toNat, by omega⟩
  exact bounds_c W n (by omega) v1 more hm
theorem frameBounds_holds : Rows.FrameBoundsSaid :=
  OpenClaim.holds_of_wide 5 Try.f5 rfl rfl rfl rfl rfl rfl rfl ⟨rfl, rfl, rfl, rfl, rfl⟩ rfl rfl rfl rfl rfl (by kernel_rfl) Try.func5 (by kernel_rfl)
    (of_decide_eq_true (by kernel_rfl)) (by unfold Func.isWrapper; first | (rw [if_pos (by decide +kernel)]; kernel_rfl) | (rw [if_neg (by decide +kernel)]; exact ⟨rfl, rfl⟩))
    (fun os started H enc _ => fbounds_lifted os started H enc)
end Go.Proofs.Ytkfakfbndnbpiaa
