/- AnchorBytes: the row and its card. -/
import Derived.Test.YtgpgladbdoimdaaGreatDoorMAncV11
import Derived.Test.YtgpgladbdoimdaaGreatDoorCards
import Derived.Test.YtgpgladbdoimdaaGreatDoorTie
import Derived.Test.YtgpgladbdoimdaaGreatDoorRows
import Derived.Lib.LaidU8T
import Derived.Lib.LaidIn
import Derived.SevenTiedAt
import Derived.Carry
namespace Go.Proofs.YtgpgladbdoimdaaGreatDoor
open Go.ChangeShapes Go.WideShapes Go.ChangeAt Go.RowKit Go.Ev Go.Ids

/-- What is listed. -/
abbrev laidL : List (String × DataW Unit) := [("unicode/utf8.acceptRanges", Rows.laid_unicode_utf8_acceptRanges), ("unicode/utf8.first", Rows.laid_unicode_utf8_first)]
theorem first_eq : Rows.laid_unicode_utf8_first = Lib.firstData := by kernel_rfl
theorem accept_eq : (Rows.laid_unicode_utf8_acceptRanges : DataW Unit) = Lib.acceptData := by kernel_rfl
theorem tabs_of {W : World} (h : laidMetH Tryz.prog laidL W) : Tabs (World.undrawn W) [] := by
  rw [MakeChecks.laidMetH_plain _ _ _ (by kernel_rfl)] at h
  have h1 : Lib.Utf8Tabs (Tryz.valid_ren.g 3) (Tryz.valid_ren.g 4) W := utf8Tabs_of_readsT (U8Types.of196 Tryz.valid) ⟨by kernel_rfl, by kernel_rfl, by kernel_rfl, by kernel_rfl, by kernel_rfl, by kernel_rfl, by kernel_rfl⟩
    (first_eq ▸ Lib.laidMet.reads h (.tail _ (.head _))) (accept_eq ▸ Lib.laidMet.reads h (.head _))
  exact ⟨⟨fun c hc => h1.1 c hc, fun i hi => h1.2 i hi⟩, by simp, by simp, rfl⟩
theorem met_any (os : Os) (args : Array Value) : laidMetH Tryz.prog laidL ((World.laidAll Tryz.prog os laidL).forCall (fun _ _ => 0) ⟨#[], args, []⟩).memory := by
  rw [MakeChecks.laidMetH_plain _ _ _ (by kernel_rfl)]
  exact laidMet_laidAll _ (by kernel_rfl) (by kernel_rfl)
theorem mu64_el {H : Type} {enc : TypeId × Value → H} {W : World} {sp : Nat → Bool} {hd : Bool} {base : Nat} (cs : List Value) (n : Nat) (y : DataW H × List MemPlace) (hy : DataW.trod enc Tryz.prog W base sp hd n 28 cs = some y) : ∃ k : Nat, cs = [Value.int .u64 k] ∧ k < 18446744073709551616 := by
  obtain ⟨z, rfl, _, hw⟩ := DataW.trod_int (und 28 rfl rfl) hy
  have hz := int_wf hw (lo := 0) (hi := 18446744073709551615) (by decide) (by decide)
  exact ⟨z.toNat, by rw [Int.toNat_of_nonneg hz.1], by omega⟩
set_option maxRecDepth 100000 in
theorem open_anc {H : Type} {enc : TypeId × Value → H} {W : World} {v : Value} {d : DataW H} {ps : List MemPlace}
    (h : DataW.Trod enc Tryz.prog W 0 (fun _ => true) true 32 v d ps) : ∃ a : Anc, v = aV a ∧ a.id.c < 18446744073709551616 ∧ a.id.k < 18446744073709551616 := by
  obtain ⟨fuel, h⟩ := h
  obtain ⟨n1, ds, _, hl, hf⟩ := open_stru (und 32 rfl rfl) h
  rw [cellsOf 32 rfl (k := 3) rfl] at hl
  obtain ⟨y0, h0, _⟩ := hf 0 _ _ _ rfl
  obtain ⟨y1, h1, _⟩ := hf 1 _ _ _ rfl
  obtain ⟨n2, ds2, _, _, hf2⟩ := open_stru (und 30 rfl rfl) h0
  obtain ⟨y2, h2, _⟩ := hf2 0 _ _ _ rfl
  obtain ⟨y3, h3, _⟩ := hf2 1 _ _ _ rfl
  obtain ⟨k0, e0, b0⟩ := mu64_el _ _ _ h2
  obtain ⟨k1, e1, b1⟩ := mu64_el _ _ _ h3
  obtain ⟨q, e2, _⟩ := DataW.trod_bool (und 4 rfl rfl) h1
  have key : v.cells.toList = [.int .u64 k0, .int .u64 k1, .bool q] := by
    generalize v.cells.toList = cs at hl e0 e1 e2
    match cs, hl with
    | [a, b, c], _ =>
      simp at e0 e1 e2
      subst e0; subst e1; subst e2
      rfl
  have hv : ∀ u : Value, u.cells.toList = [.int .u64 k0, .int .u64 k1, .bool q] → ∃ c, u = .agg c := fun u key => by
    cases u
    case agg c => exact ⟨c, rfl⟩
    all_goals (simp [Value.cells] at key)
  obtain ⟨c, hv⟩ := hv v key
  subst hv
  refine ⟨⟨⟨k0, k1⟩, q⟩, congrArg Value.agg ?_, b0, b1⟩
  have : c.toList = [.int .u64 k0, .int .u64 k1, .bool q] := key
  apply Array.ext'
  rw [this]
  rfl
set_option maxRecDepth 100000 in
theorem abytes_lifted (hkn : DoS Tryz.prog 9 [] [tabA] (fun r H => r = .bool true ∧ H = [])) (os : Os) (started : os.Started) (H : Type) (enc : TypeId × Value → H) :
    ReturnsInHanded {} Tryz.checked os 8 .any (fun w args => (Rows.anchorBytesSpec.pre enc Tryz.prog Tryz.f8 Rows.anchorBytesRow.domain false w args ∧ laidMetH Tryz.prog laidL w) ∧ sizedMet enc Tryz.prog Tryz.f8 (OpenSpec.ofChange Rows.anchorBytesSpec) false w args)
      (Rows.anchorBytesSpec.post enc Tryz.prog Tryz.f8 false true false false) := by
  refine law_liftL (X := fun w _ => laidMetH Tryz.prog laidL w) (tb := 4) (fun _ _ _ hh h => h.of_heap hh) own started (by kernel_rfl) Tryz.func8
    (ChangeSpec.witness_shaped (enc := enc) (C := Tryz.checked) (os := os) (X := fun w _ => laidMetH Tryz.prog laidL w) false (World.laidAll Tryz.prog os laidL) #[.agg #[.int .u64 0, .int .u64 0, .bool false], .slice none 0 0] 8 (World.laidAll_os _ _ _)
      (World.shaped_of_ZipB (by kernel_rfl) (by kernel_rfl)) (by kernel_rfl) (by kernel_rfl) (by kernel_rfl) (met_any os _))
    laidOut (by kernel_rfl) rfl (und 4 rfl rfl) rfl (fun ds h => by
      match ds, h with
      | [_, _], _ => exact ⟨rfl, rfl, rfl⟩) ?_
  intro W base args ds p hval hA hw hL
  rw [Tryz.params8] at hA hval hw
  obtain ⟨v0, v1, d0, d1, p0, p1, rfl, rfl, rfl, h0, h1⟩ := trodAll_two hA
  obtain ⟨a, rfl, hc, hk⟩ := open_anc h0
  obtain ⟨l, hl⟩ := open_bytes (und 73 rfl rfl) (und 5 rfl rfl) (cellsOf 5 rfl rfl) (hval 1 73 v1 rfl rfl) (Fit.arg hw 1 rfl rfl) h1
  exact DoS.law (abytes_s hkn a hc hk v1 l) (fun _ _ h => h.1) _ rfl (fun A hA => by
    simp only [List.mem_cons, List.not_mem_nil, or_false] at hA
    rcases hA with rfl | rfl
    · exact tabs_of hL
    · exact ⟨hl, by omega⟩)
theorem anchorBytes_row (hkn : DoS Tryz.prog 9 [] [tabA] (fun r H => r = .bool true ∧ H = [])) : Rows.AnchorBytesSaid :=
  OpenClaim.holds_of_wide 8 Tryz.f8 rfl rfl rfl rfl rfl rfl rfl ⟨rfl, rfl, rfl, rfl, rfl⟩ rfl rfl rfl rfl rfl (by kernel_rfl) Tryz.func8 (by kernel_rfl)
    (of_decide_eq_true (by kernel_rfl)) (by unfold Func.isWrapper; first | (rw [if_pos (by decide +kernel)]; kernel_rfl) | (rw [if_neg (by decide +kernel)]; exact ⟨rfl, rfl⟩))
    (fun os started H enc _ => abytes_lifted hkn os started H enc)
theorem anchorBytes_of (hkn : DoS Tryz.prog 9 [] [tabA] (fun r H => r = .bool true ∧ H = [])) : Rows.AnchorBytesCardSaid :=
  Claim7.holds_tied_plain_at .later [] [.data, .pinned] true (true, "20b1a235dca22b92c63c2f56b678d5bb6661e36c0aea3822084f9b25bef11931") true
    (anchorBytes_row hkn) (fun _ h => by cases h) (by kernel_rfl) (fun _ h => by cases h) anchorBytes_row_tie rfl ⟨rfl, rfl⟩ (by kernel_rfl) rfl
    (fun f fn hf hfn => by
      obtain rfl : f = 8 := Option.some.inj ((show Tryz.prog.funcNamed "quire/quirelaw19.AnchorBytes" = some 8 by kernel_rfl).symm.trans hf) |>.symm
      obtain rfl : fn = Tryz.f8 := (Option.some.inj (Tryz.func8.symm.trans hfn)).symm
      exact ⟨by kernel_rfl, fun j t ht => by
        rw [Tryz.params8] at ht
        have hm : t ∈ [32, 73] := by simpa using Array.mem_of_getElem? ht
        have hall : ([32, 73].all fun u => !Tryz.prog.wantsStandIn u) = true := by kernel_rfl
        exact (show Tryz.prog.wantsStandIn t = false by simpa using List.all_eq_true.1 hall t hm)⟩)
    (by kernel_rfl)
end Go.Proofs.YtgpgladbdoimdaaGreatDoor
