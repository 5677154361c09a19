/- MsgOnce: the row and its card. -/
import Derived.Test.YtmjpcaiehfimgaaGreatDoorMMsgVO8
import Derived.Test.YtmjpcaiehfimgaaGreatDoorCards
import Derived.Test.YtmjpcaiehfimgaaGreatDoorTie
import Derived.SevenTiedAt
import Derived.Carry
namespace Go.Proofs.YtmjpcaiehfimgaaGreatDoor
open Go.ChangeShapes Go.WideShapes Go.ChangeAt Go.RowKit Go.Ev Go.Ids

set_option maxRecDepth 100000 in
theorem msgonce_lifted (os : Os) (started : os.Started) (H : Type) (enc : TypeId × Value → H) :
    ReturnsInHanded {} Tryz.checked os 5 .any (fun w args => (Rows.msgOnceSpec.pre enc Tryz.prog Tryz.f5 Rows.msgOnceRow.domain false w args ∧ laidMetH Tryz.prog laidL w) ∧ sizedMet enc Tryz.prog Tryz.f5 (OpenSpec.ofChange Rows.msgOnceSpec) false w args)
      (Rows.msgOnceSpec.post enc Tryz.prog Tryz.f5 false true false false) := by
  refine law_liftL (X := fun w _ => laidMetH Tryz.prog laidL w) (tb := 4) (fun _ _ _ hh h => h.of_heap hh) own started (by kernel_rfl) Tryz.func5
    (ChangeSpec.witness_shaped (enc := enc) (C := Tryz.checked) (os := os) (X := fun w _ => laidMetH Tryz.prog laidL w) false (World.laidAll Tryz.prog os laidL) #[.agg #[.int .i64 0, .int .u64 0, .int .u64 0, .string ⟨#[]⟩, .slice none 0 0, .slice none 0 0, .slice none 0 0], .agg #[.int .i64 0, .int .u64 0, .int .u64 0, .string ⟨#[]⟩, .slice none 0 0, .slice none 0 0, .slice none 0 0]] 8 (World.laidAll_os _ _ _)
      (World.shaped_of_ZipB (by kernel_rfl) (by kernel_rfl)) (by kernel_rfl) (by kernel_rfl) (by kernel_rfl) (met_any os _))
    laidOut (by kernel_rfl) rfl (und 4 rfl rfl) rfl (fun ds h => by
      match ds, h with
      | [_, _], _ => exact ⟨rfl, rfl, rfl⟩) ?_
  intro W base args ds p hval hA hw hL
  rw [Tryz.params5] at hA hval hw
  obtain ⟨v0, v1, d0, d1, p0, p1, rfl, rfl, rfl, h0, h1⟩ := trodAll_two hA
  obtain ⟨f, vvf, tvf, bvf, rfl, _, _, s1, s2, s3⟩ := open_msg (Fit.arg hw 0 rfl rfl) h0
  obtain ⟨g, vvg, tvg, bvg, rfl, _, _, s4, s5, s6⟩ := open_msg (Fit.arg hw 1 rfl rfl) h1
  exact DoS.law (msgOnce_s f g vvf tvf bvf vvg tvg bvg) (fun _ _ h => h.1) _ rfl (fun A hA => by
    simp only [mR, zC, zN, List.mem_cons, List.not_mem_nil, or_false] at hA
    rcases hA with rfl | rfl | rfl | rfl | rfl | rfl | rfl
    · exact tabs_of hL
    · exact ⟨s1, by omega⟩
    · exact ⟨s2, by omega⟩
    · exact ⟨s3, by omega⟩
    · exact ⟨s4, by omega⟩
    · exact ⟨s5, by omega⟩
    · exact ⟨s6, by omega⟩)
theorem msgOnce_row : Rows.MsgOnceSaid :=
  OpenClaim.holds_of_wide 5 Tryz.f5 rfl rfl rfl rfl rfl rfl rfl ⟨rfl, rfl, rfl, rfl, rfl⟩ rfl rfl rfl rfl rfl (by kernel_rfl) Tryz.func5 (by kernel_rfl)
    (of_decide_eq_true (by kernel_rfl)) (by unfold Func.isWrapper; first | (rw [if_pos (by decide +kernel)]; kernel_rfl) | (rw [if_neg (by decide +kernel)]; exact ⟨rfl, rfl⟩))
    (fun os started H enc _ => msgonce_lifted os started H enc)
theorem msgOnce_holds : Rows.MsgOnceCardSaid :=
  Claim7.holds_tied_plain_at .later [] [.data, .pinned] true (true, "72ec9302ebd1025c0a37a904178d89fece274d3c19794786bce678f0c10156bc") true
    msgOnce_row (fun _ h => by cases h) (by kernel_rfl) (fun _ h => by cases h) msgOnce_row_tie rfl ⟨rfl, rfl⟩ (by kernel_rfl) rfl
    (fun f fn hf hfn => by
      obtain rfl : f = 5 := Option.some.inj ((show Tryz.prog.funcNamed "quire/quirelaw23.MsgOnce" = some 5 by kernel_rfl).symm.trans hf) |>.symm
      obtain rfl : fn = Tryz.f5 := (Option.some.inj (Tryz.func5.symm.trans hfn)).symm
      exact ⟨by kernel_rfl, fun j t ht => by
        rw [Tryz.params5] at ht
        have hm : t ∈ [27, 27] := by simpa using Array.mem_of_getElem? ht
        have hall : ([27, 27].all fun u => !Tryz.prog.wantsStandIn u) = true := by kernel_rfl
        exact (show Tryz.prog.wantsStandIn t = false by simpa using List.all_eq_true.1 hall t hm)⟩)
    (by kernel_rfl)
end Go.Proofs.YtmjpcaiehfimgaaGreatDoor
