/- Clocks and ids that came in. -/
import Derived.Test.YtmjpcaiehfimgaaVecD
namespace Go.Proofs.Ytmjpcaiehfimgaa
open Go.ChangeShapes Go.WideShapes Go.ChangeAt Go.RowKit Go.Ev Go.Ids

theorem vu64_el {H : Type} {enc : TypeId × Value → H} {W : World} {sp : Nat → Bool} {hd : Bool} {base : Nat} (cs : List Value) (n : Nat) (y : DataW H × List MemPlace) (hy : DataW.trod enc Try.prog W base sp hd n 23 cs = some y) : ∃ k : Nat, cs = [Value.int .u64 k] := by
  obtain ⟨z, rfl, _, hw⟩ := DataW.trod_int (und 23 rfl rfl) hy
  have hz := int_wf hw (lo := 0) (hi := 18446744073709551615) (by decide) (by decide)
  exact ⟨z.toNat, by rw [Int.toNat_of_nonneg hz.1]⟩
theorem clock_el {H : Type} {enc : TypeId × Value → H} {W : World} {sp : Nat → Bool} {hd : Bool} {base : Nat} (cs : List Value) (n : Nat) (y : DataW H × List MemPlace) (hl : cs.length = 2) (hy : DataW.trod enc Try.prog W base sp hd n 60 cs = some y) : ∃ x : Clk, cs = cC x ∧ True := by
  obtain ⟨n1, ds, _, _, hf⟩ := open_stru (und 60 rfl rfl) hy
  obtain ⟨y0, h0, _⟩ := hf 0 _ _ _ rfl
  obtain ⟨y1, h1, _⟩ := hf 1 _ _ _ rfl
  obtain ⟨k0, e0⟩ := vu64_el _ _ _ h0
  obtain ⟨k1, e1⟩ := vu64_el _ _ _ h1
  match cs, hl with
  | [a, b], _ =>
    simp at e0 e1
    subst e0; subst e1
    exact ⟨⟨k0, k1⟩, rfl, trivial⟩
set_option maxRecDepth 100000 in
theorem open_cs {H : Type} {enc : TypeId × Value → H} {W : World} {b0 : Nat} {r : Reach} {v : Value} {d : DataW H} {ps : List MemPlace}
    (hok : Value.okWide Try.prog W r b0 22 v) (hfit : Fit Try.prog 22 d) (h : DataW.Trod enc Try.prog W 0 (fun _ => true) true 22 v d ps) : ∃ l, Cs W [] v l := by
  obtain ⟨fuel, h⟩ := h
  obtain ⟨u, l, hcs, hS, _⟩ := open_sl (α := Clk) cC (fun _ => True) (und 22 rfl rfl) (cellsOf 60 rfl rfl) hfit (fun cs n y hl hy _ => clock_el cs n y hl hy) h
  have := cells_toList_one hcs (okWide_slice (und 22 rfl rfl) hok)
  subst this
  exact ⟨l, hS⟩
set_option maxRecDepth 100000 in
theorem vopen_id {H : Type} {enc : TypeId × Value → H} {W : World} {v : Value} {d : DataW H} {ps : List MemPlace}
    (h : DataW.Trod enc Try.prog W 0 (fun _ => true) true 25 v d ps) : ∃ x, v = iV x := by
  obtain ⟨fuel, h⟩ := h
  obtain ⟨n1, ds, _, hl, hf⟩ := open_stru (und 25 rfl rfl) h
  rw [cellsOf 25 rfl (k := 2) rfl] at hl
  obtain ⟨y0, h0, _⟩ := hf 0 _ _ _ rfl
  obtain ⟨y1, h1, _⟩ := hf 1 _ _ _ rfl
  obtain ⟨k0, e0⟩ := vu64_el _ _ _ h0
  obtain ⟨k1, e1⟩ := vu64_el _ _ _ h1
  have key : v.cells.toList = [.int .u64 k0, .int .u64 k1] := by
    generalize v.cells.toList = cs at hl e0 e1
    match cs, hl with
    | [a, b], _ =>
      simp at e0 e1
      subst e0; subst e1
      rfl
  have hv : ∃ c, v = .agg c := by
    cases v
    case agg c => exact ⟨c, rfl⟩
    all_goals (simp [Value.cells] at key)
  obtain ⟨c, rfl⟩ := hv
  refine ⟨⟨k0, k1⟩, congrArg Value.agg ?_⟩
  have : c.toList = [.int .u64 k0, .int .u64 k1] := key
  apply Array.ext'
  rw [this]
  rfl
end Go.Proofs.Ytmjpcaiehfimgaa
