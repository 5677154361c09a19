/- MsgWrites: the row and its card. -/
import Derived.Test.YtmjpcaiehfimgaaGreatDoorMMsgVW8
import Derived.Test.YtmjpcaiehfimgaaGreatDoorCards
import Derived.Test.YtmjpcaiehfimgaaGreatDoorTie
import Derived.SevenTiedAt
import Derived.Carry
namespace Go.Proofs.YtmjpcaiehfimgaaGreatDoor
open Go.ChangeShapes Go.WideShapes Go.ChangeAt Go.RowKit Go.Ev Go.Ids

set_option maxRecDepth 100000 in
theorem msgwrites_lifted (os : Os) (started : os.Started) (H : Type) (enc : TypeId × Value → H) :
    ReturnsInHanded {} Tryz.checked os 3 .any (fun w args => (Rows.msgWritesSpec.pre enc Tryz.prog Tryz.f3 Rows.msgWritesRow.domain false w args ∧ laidMetH Tryz.prog laidL w) ∧ sizedMet enc Tryz.prog Tryz.f3 (OpenSpec.ofChange Rows.msgWritesSpec) false w args)
      (Rows.msgWritesSpec.post enc Tryz.prog Tryz.f3 false true false false) := by
  refine law_liftL (X := fun w _ => laidMetH Tryz.prog laidL w) (tb := 4) (fun _ _ _ hh h => h.of_heap hh) own started (by kernel_rfl) Tryz.func3
    (ChangeSpec.witness_shaped (enc := enc) (C := Tryz.checked) (os := os) (X := fun w _ => laidMetH Tryz.prog laidL w) false (World.laidAll Tryz.prog os laidL) #[.agg #[.int .i64 0, .int .u64 0, .int .u64 0, .string ⟨#[]⟩, .slice none 0 0, .slice none 0 0, .slice none 0 0]] 8 (World.laidAll_os _ _ _)
      (World.shaped_of_ZipB (by kernel_rfl) (by kernel_rfl)) (by kernel_rfl) (by kernel_rfl) (by kernel_rfl) (met_any os _))
    laidOut (by kernel_rfl) rfl (und 4 rfl rfl) rfl (fun ds h => by
      match ds, h with
      | [_], _ => exact ⟨rfl, rfl, rfl⟩) ?_
  intro W base args ds p hval hA hw hL
  rw [Tryz.params3] at hA hval hw
  obtain ⟨v0, d0, rfl, rfl, h0⟩ := trodAll_one hA
  obtain ⟨g, vv, tv, bv, rfl, hc, hn, s1, s2, s3⟩ := open_msg (Fit.arg hw 0 rfl rfl) h0
  exact DoS.law (msgWrites_s g vv tv bv hc hn) (fun _ _ h => h.1) _ rfl (fun A hA => by
    simp only [mR, List.mem_cons, List.not_mem_nil, or_false] at hA
    rcases hA with rfl | rfl | rfl | rfl
    · exact tabs_of hL
    · exact ⟨s1, by omega⟩
    · exact ⟨s2, by omega⟩
    · exact ⟨s3, by omega⟩)
theorem msgWrites_row : Rows.MsgWritesSaid :=
  OpenClaim.holds_of_wide 3 Tryz.f3 rfl rfl rfl rfl rfl rfl rfl ⟨rfl, rfl, rfl, rfl, rfl⟩ rfl rfl rfl rfl rfl (by kernel_rfl) Tryz.func3 (by kernel_rfl)
    (of_decide_eq_true (by kernel_rfl)) (by unfold Func.isWrapper; first | (rw [if_pos (by decide +kernel)]; kernel_rfl) | (rw [if_neg (by decide +kernel)]; exact ⟨rfl, rfl⟩))
    (fun os started H enc _ => msgwrites_lifted os started H enc)
theorem msgWrites_holds : Rows.MsgWritesCardSaid :=
  Claim7.holds_tied_plain_at .later [] [.data, .pinned] true (true, "72ec9302ebd1025c0a37a904178d89fece274d3c19794786bce678f0c10156bc") true
    msgWrites_row (fun _ h => by cases h) (by kernel_rfl) (fun _ h => by cases h) msgWrites_row_tie rfl ⟨rfl, rfl⟩ (by kernel_rfl) rfl
    (fun f fn hf hfn => by
      obtain rfl : f = 3 := Option.some.inj ((show Tryz.prog.funcNamed "quire/quirelaw23.MsgWrites" = some 3 by kernel_rfl).symm.trans hf) |>.symm
      obtain rfl : fn = Tryz.f3 := (Option.some.inj (Tryz.func3.symm.trans hfn)).symm
      exact ⟨by kernel_rfl, fun j t ht => by
        rw [Tryz.params3] at ht
        have hm : t ∈ [27] := by simpa using Array.mem_of_getElem? ht
        have hall : ([27].all fun u => !Tryz.prog.wantsStandIn u) = true := by kernel_rfl
        exact (show Tryz.prog.wantsStandIn t = false by simpa using List.all_eq_true.1 hall t hm)⟩)
    (by kernel_rfl)
end Go.Proofs.YtmjpcaiehfimgaaGreatDoor
