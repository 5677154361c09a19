/- A slice of slices of bytes that came in. -/
import Derived.Test.YtkfakfbndnbpiaaFrame3
import Derived.Test.YtkfakfbndnbpiaaRow
namespace Go.Proofs.Ytkfakfbndnbpiaa
open Go.ChangeShapes Go.WideShapes Go.ChangeAt Go.RowKit Go.Ev

theorem byte_el {H : Type} {enc : TypeId × Value → H} {W : World} {sp : Nat → Bool} {hd : Bool} {base : Nat} (cs : List Value) (n : Nat) (y : DataW H × List MemPlace) (hy : DataW.trod enc Try.prog W base sp hd n 5 cs = some y) : ∃ b : UInt8, cs = [Value.int .u8 b.toNat] ∧ True := by
  obtain ⟨z, rfl, _, hw⟩ := DataW.trod_int (und 5 rfl rfl) hy
  obtain ⟨b, rfl⟩ := u8_of hw
  exact ⟨b, rfl, trivial⟩
set_option maxRecDepth 100000 in
theorem open_bss {H : Type} {enc : TypeId × Value → H} {W : World} {b0 : Nat} {r : Reach} {v : Value} {d : DataW H} {ps : List MemPlace}
    (hok : Value.okWide Try.prog W r b0 22 v) (hfit : Fit Try.prog 22 d) (h : DataW.Trod enc Try.prog W 0 (fun _ => true) true 22 v d ps) : ∃ ls, Bss W v ls := by
  obtain ⟨fuel, h⟩ := h
  obtain ⟨u, l, hcs, hS, hG⟩ := open_sl (α := Value × List UInt8) (fun a => [a.1]) (fun a => Bs W [] a.1 a.2) (und 22 rfl rfl) (cellsOf 23 rfl rfl) hfit (fun cs n y _ hy hf => by
    obtain ⟨u, l, hcs, hS, _⟩ := open_sl (α := UInt8) (fun b => [Value.int .u8 b.toNat]) (fun _ => True) (und 23 rfl rfl) (cellsOf 5 rfl rfl) hf (fun cs n y _ hy _ => byte_el cs n y hy) hy
    rw [flatMap_one] at hS
    exact ⟨(u, l), hcs, hS⟩) h
  have := cells_toList_one hcs (okWide_slice (und 22 rfl rfl) hok)
  subst this
  rw [flatMap_one] at hS
  refine ⟨l.map (·.2), l.map (·.1), hS, by simp, fun i u x hu hx => ?_⟩
  rw [List.getElem?_map] at hu hx
  cases hl : l[i]? with
  | none => rw [hl] at hu; cases hu
  | some a =>
    rw [hl] at hu hx
    simp only [Option.map_some, Option.some.injEq] at hu hx
    subst hu; subst hx
    exact hG a (List.mem_of_getElem? hl)
end Go.Proofs.Ytkfakfbndnbpiaa
