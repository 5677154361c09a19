/- MsgCuts: the row and its card. -/
import Derived.Test.YtmjpcaiehfimgaaDoorMMsgVC6
import Derived.Test.YtmjpcaiehfimgaaDoorCards
import Derived.Test.YtmjpcaiehfimgaaDoorTie
import Derived.SevenTiedAt
import Derived.Carry
namespace Go.Proofs.YtmjpcaiehfimgaaDoor
open Go.ChangeShapes Go.WideShapes Go.ChangeAt Go.RowKit Go.Ev Go.Ids

set_option maxRecDepth 100000 in
theorem msgcuts_lifted (os : Os) (started : os.Started) (H : Type) (enc : TypeId × Value → H) :
    ReturnsInHanded {} Tryd.checked os 3 .any (fun w args => (Rows.msgCutsSpec.pre enc Tryd.prog Tryd.f3 Rows.msgCutsRow.domain false w args ∧ laidMetH Tryd.prog laidL w) ∧ sizedMet enc Tryd.prog Tryd.f3 (OpenSpec.ofChange Rows.msgCutsSpec) false w args)
      (Rows.msgCutsSpec.post enc Tryd.prog Tryd.f3 false true false false) := by
  refine law_liftL (X := fun w _ => laidMetH Tryd.prog laidL w) (tb := 4) (fun _ _ _ hh h => h.of_heap hh) own started (by kernel_rfl) Tryd.func3
    (ChangeSpec.witness_shaped (enc := enc) (C := Tryd.checked) (os := os) (X := fun w _ => laidMetH Tryd.prog laidL w) false (World.laidAll Tryd.prog os laidL) #[.agg #[.int .i64 0, .int .u64 0, .int .u64 0, .string ⟨#[]⟩, .slice none 0 0, .slice none 0 0, .slice none 0 0], .int .i64 0, .slice none 0 0] 8 (World.laidAll_os _ _ _)
      (World.shaped_of_ZipB (by kernel_rfl) (by kernel_rfl)) (by kernel_rfl) (by kernel_rfl) (by kernel_rfl) (met_any os _))
    laidOut (by kernel_rfl) rfl (und 4 rfl rfl) rfl (fun ds h => by
      match ds, h with
      | [_, _, _], _ => exact ⟨rfl, rfl, rfl⟩) ?_
  intro W base args ds p hval hA hw hL
  rw [Tryd.params3] at hA hval hw
  obtain ⟨v0, v1, v2, d0, d1, d2, p0, p1, p2, rfl, rfl, rfl, h0, h1, h2⟩ := trodAll_three hA
  obtain ⟨g, vv, tv, bv, rfl, hc, hn, s1, s2, s3⟩ := open_msg (Fit.arg hw 0 rfl rfl) h0
  obtain ⟨z, rfl, rfl, rfl, _⟩ := open_int (und 3 rfl rfl) (hval 1 3 v1 rfl rfl) h1
  obtain ⟨l, hl⟩ := open_bytes (und 25 rfl rfl) (und 5 rfl rfl) (cellsOf 5 rfl rfl) (hval 2 25 v2 rfl rfl) (Fit.arg hw 2 rfl rfl) h2
  exact DoS.law (msgCuts_s g vv tv bv z v2 l) (fun _ _ h => h.1) _ rfl (fun A hA => by
    simp only [mR, zC, zN, List.mem_cons, List.not_mem_nil, or_false] at hA
    rcases hA with rfl | rfl | rfl | rfl | rfl
    · exact tabs_of hL
    · exact ⟨s1, by omega⟩
    · exact ⟨s2, by omega⟩
    · exact ⟨s3, by omega⟩
    · exact ⟨hl, by omega⟩)
theorem msgCuts_row : Rows.MsgCutsSaid :=
  OpenClaim.holds_of_wide 3 Tryd.f3 rfl rfl rfl rfl rfl rfl rfl ⟨rfl, rfl, rfl, rfl, rfl⟩ rfl rfl rfl rfl rfl (by kernel_rfl) Tryd.func3 (by kernel_rfl)
    (of_decide_eq_true (by kernel_rfl)) (by unfold Func.isWrapper; first | (rw [if_pos (by decide +kernel)]; kernel_rfl) | (rw [if_neg (by decide +kernel)]; exact ⟨rfl, rfl⟩))
    (fun os started H enc _ => msgcuts_lifted os started H enc)
theorem msgCuts_holds : Rows.MsgCutsCardSaid :=
  Claim7.holds_tied_plain_at .later [] [.data, .pinned] true (true, "c548fa0d808bc60b11182d9130815eab0fbbc7af7031de466792a81bf7e82085") true
    msgCuts_row (fun _ h => by cases h) (by kernel_rfl) (fun _ h => by cases h) msgCuts_row_tie rfl ⟨rfl, rfl⟩ (by kernel_rfl) rfl
    (fun f fn hf hfn => by
      obtain rfl : f = 3 := Option.some.inj ((show Tryd.prog.funcNamed "quire/quirelaw23.MsgCuts" = some 3 by kernel_rfl).symm.trans hf) |>.symm
      obtain rfl : fn = Tryd.f3 := (Option.some.inj (Tryd.func3.symm.trans hfn)).symm
      exact ⟨by kernel_rfl, fun j t ht => by
        rw [Tryd.params3] at ht
        have hm : t ∈ [27, 3, 25] := by simpa using Array.mem_of_getElem? ht
        have hall : ([27, 3, 25].all fun u => !Tryd.prog.wantsStandIn u) = true := by kernel_rfl
        exact (show Tryd.prog.wantsStandIn t = false by simpa using List.all_eq_true.1 hall t hm)⟩)
    (by kernel_rfl)
end Go.Proofs.YtmjpcaiehfimgaaDoor
