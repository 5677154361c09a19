/- A script that came in. -/
import Derived.Test.YtaogoblckkmkgaaRow
import Derived.Test.YtaogoblckkmkgaaWire9
namespace Go.Proofs.Ytaogoblckkmkgaa
open Go.ChangeShapes Go.WideShapes Go.ChangeAt Go.RowKit Go.Ev
variable {H : Type} {enc : TypeId × Value → H}
def Stp.ok (x : Stp) : Prop := x.n < 18446744073709551616 ∧ x.s.length ≤ reachBytes
theorem open_steps {W : World} {b0 : Nat} {r : Reach} {v : Value} {d : DataW H} {ps : List MemPlace} (hok : Value.okWide Try.prog W r b0 48 v) (hfit : Fit Try.prog 48 d) (h : DataW.Trod enc Try.prog W 0 (fun _ => true) true 48 v d ps) :
    ∃ l, Sts W [] v l ∧ ∀ x ∈ l, x.ok := by
  obtain ⟨fuel, h⟩ := h
  obtain ⟨u, l, hcs, hS, hg⟩ := open_sl (α := Stp) stC Stp.ok (und 48 rfl rfl) (cellsOf 57 rfl rfl) hfit (fun cs n y hlen hy hy1 => by
    obtain ⟨k, ds, hds, _, hf⟩ := open_stru (und 57 rfl rfl) hy
    match cs, hlen with
    | [c0, c1, c2], _ =>
    obtain ⟨y0, h0, _⟩ := hf 0 _ _ _ rfl
    obtain ⟨y1, h1, _⟩ := hf 1 _ _ _ rfl
    obtain ⟨y2, h2, hd2⟩ := hf 2 _ _ _ rfl
    rw [hds] at hy1
    have hs2 := Fit.field (und 57 rfl rfl) hy1 2 rfl hd2
    obtain ⟨z0, e0, _, _⟩ := DataW.trod_int (und 3 rfl rfl) h0
    obtain ⟨z1, e1, _, hw⟩ := DataW.trod_int (und 36 rfl rfl) h1
    obtain ⟨s, e2, rfl, hs⟩ := DataW.trod_string (und 9 rfl rfl) h2
    injection e0 with e0 _; injection e1 with e1 _; injection e2 with e2 _
    subst e0; subst e1; subst e2
    have hb := int_wf hw (lo := 0) (hi := 18446744073709551615) (by decide) (by decide)
    refine ⟨⟨z0, z1.toNat, s.data.toList⟩, ?_, by show z1.toNat < _; omega, hs2.str⟩
    show _ = [_, _, _]
    rw [Int.toNat_of_nonneg hb.1]; rfl) h
  have := cells_toList_one hcs (okWide_slice (und 48 rfl rfl) hok)
  subst this
  exact ⟨l, hS, hg⟩
end Go.Proofs.Ytaogoblckkmkgaa
