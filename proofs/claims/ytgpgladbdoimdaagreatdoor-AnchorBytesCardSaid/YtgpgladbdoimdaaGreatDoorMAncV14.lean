/- Texts that belong together. -/
import Derived.Test.YtgpgladbdoimdaaGreatDoorMAncV12
import Derived.Test.YtgpgladbdoimdaaGreatDoorMAncV13
section
namespace Go.Proofs.YtgpgladbdoimdaaGreatDoor
open Go.ChangeShapes Go.WideShapes Go.ChangeAt Go.RowKit Go.Ev Go.Ids Go.SeqP
def o1 : Opr := ⟨⟨1, 1⟩, 1, 0, O0, O0, [97, 98, 99], Vl.zero, [], O0, ⟨O0, false⟩, ⟨O0, false⟩⟩
def o2 : Opr := ⟨⟨2, 1⟩, 1, 0, ⟨1, 1⟩, ⟨1, 2⟩, [120], Vl.zero, [], O0, ⟨O0, false⟩, ⟨O0, false⟩⟩
theorem n1 : o1.n = 3 := by decide +kernel
theorem n2 : o2.n = 1 := by decide +kernel
theorem good1 : Good o1 where
  id := by decide
  top := by rw [n1]; decide
  names := by decide
  own := by rw [n1]; decide
  kind := .inl ⟨rfl, by decide +kernel, by rw [n1]; decide, by rw [n1]; decide, rfl, rfl, rfl, rfl, rfl, rfl⟩
  small := by decide
theorem good2 : Good o2 where
  id := by decide
  top := by rw [n2]; decide
  names := by decide
  own := by rw [n2]; decide
  kind := .inl ⟨rfl, by decide +kernel, by rw [n2]; decide, by rw [n2]; decide, rfl, rfl, rfl, rfl, rfl, rfl⟩
  small := by decide
theorem Us.Ok.run {q : Us} (h : q.Ok) (x : Un) (n : Nat) : (q.run x n).Ok := by
  unfold Us.run
  split
  · rename_i hr
    exact Us.puts_ok h (Us.runs_iff.1 hr) n (Nat.le_refl _)
  · exact h
theorem ok0 : Us.Ok Sq0.toUs := ⟨by simp [Sq0, Fo.flat], by simp [Sq0, Fo.flat], by simp [Sq0], by simp [Sq0], fun i p s a b h => by cases h⟩
def U1 : Us := Us.run Sq0.toUs (oU o1) 3
def U2 : Us := Us.run U1 (oU o2) 1
theorem seen1_ids : (seenL [] U1.units).map (fun x => x.2.id) = [⟨1, 1⟩, ⟨1, 2⟩, ⟨1, 3⟩] := by decide +kernel
theorem len1 : U1.us.length = 3 := by decide +kernel
theorem len2 : U2.us.length = 4 := by decide +kernel
theorem mk1 : makeP [⟨1, 1⟩, ⟨1, 2⟩, ⟨1, 3⟩] 1 true = (⟨⟨1, 1⟩, true⟩, true) := by decide +kernel
theorem mk2 : makeP [⟨1, 1⟩, ⟨1, 2⟩, ⟨1, 3⟩] 3 false = (⟨O0, true⟩, true) := by decide +kernel
theorem mk3 : makeP [⟨1, 1⟩, ⟨1, 2⟩, ⟨1, 3⟩] 4 true = (⟨O0, false⟩, false) := by decide +kernel
theorem pl1 : placeP [] U2.units ⟨⟨1, 1⟩, true⟩ = (1, true) := by decide +kernel
theorem pl2 : placeP [] U2.units ⟨O0, true⟩ = (4, true) := by decide +kernel
end Go.Proofs.YtgpgladbdoimdaaGreatDoor
end
section
namespace Go.Proofs.YtgpgladbdoimdaaGreatDoor
open Go.ChangeShapes Go.WideShapes Go.ChangeAt Go.RowKit Go.Ev Go.Ids Go.SeqP
set_option maxRecDepth 20000
set_option maxHeartbeats 1000000
theorem c1 : o1.clean = o1 := by simp [Opr.clean, o1, Vl.clean, Vl.zero, bitsB, nanB_0]
theorem c2 : o2.clean = o2 := by simp [Opr.clean, o2, Vl.clean, Vl.zero, bitsB, nanB_0]
theorem aknown_s : DoS Tryz.prog 9 [] [tabA] (fun r H => r = .bool true ∧ H = []) := by
  intro m0 X hS
  obtain ⟨M0, hM0⟩ : ∃ M0, M0 = ofps [tabA] := ⟨_, rfl⟩
  rw [← hM0] at hS ⊢
  have hn1 : o1.needs = [] := by decide +kernel
  have hn2 : o2.needs = [⟨1, 1⟩, ⟨1, 2⟩] := by decide +kernel
  refine FnE.enter ⟨_, Tryz.func9, by kernel_rfl, by kernel_rfl⟩ Tryz.func9 rfl rfl ?_
  refine goS ?_
  refine RL.callM (fi := []) (ca := []) hS dnew_s rfl rfl rfl rfl .nil ?_
  clear hS
  rintro _ m _ ⟨d, x, rfl, hB, hes, hT, hD, hW, hh, hq, hM, hV, hE, rfl⟩ hS
  have hS : Tr m0 M0 X m (tabA :: dcH d x []) := hS.perm (List.perm_append_comm (l₁ := dcH d x []) (l₂ := [tabA]))
  refine ⟨_, rfl, ?_⟩
  refine goS ?_
  refine RL.buildSliceM T_ok hS [.tmp 17] (us := [oV o1]) (oC o1) rfl rfl rfl rfl rfl rfl (by intro u hu; simp only [List.mem_singleton] at hu; subst hu; rfl) rfl rfl rfl ?_
  clear hS
  intro b1 m hS
  refine ⟨_, rfl, ?_⟩
  refine goS ?_
  have hq0 : x.q.Ok := by rw [hq]; exact ok0
  refine RL.callM (fi := []) (ca := []) hS (apply_s d x [b1] _ o1 good1 rfl (by rw [hq]; rfl) hq0 (by rw [hq, n1]; decide) (by rw [hB]; decide) (by rw [hV]; decide) (fun c => ⟨0, by rw [hes]; rfl⟩) hh hW (by rw [hes]; rfl) (by rw [hn1]; intro i hi; cases hi)) rfl rfl rfl rfl (by repeat (first | with_reducible exact Sels.nil | apply Sels.ro (by repeat (first | exact zS .. | with_reducible apply zO)) (by rfl) | apply Sels.own (by repeat (first | exact Sel.head | with_reducible apply Sel.tail)))) ?_
  clear hS
  rintro _ m _ ⟨rfl, x1, hL1, rfl⟩ hS
  have hS := hS.tail.perm (List.perm_append_comm (l₁ := dcH d x1 []))
  have hS : Tr m0 M0 X m (tabA :: dcH d x1 []) := hS
  rw [c1] at hL1
  have hU1 : x1.q.toUs = U1 := by rw [hL1.q, hq, n1]; rfl
  have hq1 : x1.q.Ok := by rw [hL1.q]; exact hq0.run _ _
  have hD1 : x1.D = [] := hL1.D.trans hD
  have hu1 : x1.q.units = U1.units := by rw [← hU1]
  refine ⟨_, rfl, ?_⟩
  refine goS ?_
  have step : ∀ {m : World} {F : List Asn}, Tr m0 M0 X m (dcH d x1 [] ++ F) → Tr m0 M0 X m (F ++ dcH d x1 []) := fun h => h.perm List.perm_append_comm
  refine RL.callM (fi := []) (ca := []) hS (make_s d x1 hD1 1 true) rfl rfl rfl rfl (by repeat (first | with_reducible exact Sels.nil | apply Sels.ro (by repeat (first | exact zS .. | with_reducible apply zO)) (by rfl) | apply Sels.own (by repeat (first | exact Sel.head | with_reducible apply Sel.tail)))) ?_
  clear hS
  rintro _ m _ ⟨rfl, S5, rfl⟩ hS
  rw [hD1, hu1, seen1_ids, mk1]
  have hS : Tr m0 M0 X m (tabA :: dcH d { x1 with S5 := S5 } []) := hS.perm (List.perm_append_comm (l₁ := dcH d { x1 with S5 := S5 } []) (l₂ := [tabA]))
  refine ⟨_, rfl, ?_⟩
  refine goS ?_
  refine RL.allocS T_ok rfl hS rfl rfl ?_; (try clear hS); intro b2 m hS; refine ⟨_, rfl, ?_⟩
  refine goS ?_
  refine RL.ssM T_ok hS rfl rfl rfl rfl rfl (by rfl) (by rfl) (by with_reducible repeat (first | exact Rep.head | apply Rep.tail)) (by rfl) ?_; (try clear hS); intro m hS
  have hS : Tr m0 M0 X _ (blkA b2 32 (aC ⟨⟨1, 1⟩, true⟩) :: tabA :: dcH d { x1 with S5 := S5 } []) := hS
  refine goS ?_
  refine RL.callM (fi := []) (ca := []) hS (make_s d { x1 with S5 := S5 } hD1 3 false) rfl rfl rfl rfl (by repeat (first | with_reducible exact Sels.nil | apply Sels.ro (by repeat (first | exact zS .. | with_reducible apply zO)) (by rfl) | apply Sels.own (by repeat (first | exact Sel.head | with_reducible apply Sel.tail)))) ?_
  clear hS
  rintro _ m _ ⟨rfl, S5, rfl⟩ hS
  have e := mk2
  rw [← seen1_ids, ← hu1, ← hD1] at e
  rw [e]
  have hS : Tr m0 M0 X m (blkA b2 32 (aC ⟨⟨1, 1⟩, true⟩) :: tabA :: dcH d { x1 with S5 := S5 } []) := hS.perm (List.perm_append_comm (l₁ := dcH d { x1 with S5 := S5 } []) (l₂ := [_, tabA]))
  refine ⟨_, rfl, ?_⟩
  refine goS ?_
  refine RL.allocS T_ok rfl hS rfl rfl ?_; (try clear hS); intro b4 m hS; refine ⟨_, rfl, ?_⟩
  refine goS ?_
  refine RL.ssM T_ok hS rfl rfl rfl rfl rfl (by rfl) (by rfl) (by with_reducible repeat (first | exact Rep.head | apply Rep.tail)) (by rfl) ?_; (try clear hS); intro m hS
  have hS : Tr m0 M0 X _ (blkA b4 32 (aC ⟨O0, true⟩) :: blkA b2 32 (aC ⟨⟨1, 1⟩, true⟩) :: tabA :: dcH d { x1 with S5 := S5 } []) := hS
  refine goS ?_
  refine RL.callM (fi := []) (ca := []) hS (make_s d { x1 with S5 := S5 } hD1 4 true) rfl rfl rfl rfl (by repeat (first | with_reducible exact Sels.nil | apply Sels.ro (by repeat (first | exact zS .. | with_reducible apply zO)) (by rfl) | apply Sels.own (by repeat (first | exact Sel.head | with_reducible apply Sel.tail)))) ?_
  clear hS
  rintro _ m _ ⟨rfl, S5, rfl⟩ hS
  have e := mk3
  rw [← seen1_ids, ← hu1, ← hD1] at e
  rw [e]
  have hS : Tr m0 M0 X m (blkA b4 32 (aC ⟨O0, true⟩) :: blkA b2 32 (aC ⟨⟨1, 1⟩, true⟩) :: tabA :: dcH d { x1 with S5 := S5 } []) := hS.perm (List.perm_append_comm (l₁ := dcH d { x1 with S5 := S5 } []) (l₂ := [_, _, tabA]))
  refine ⟨_, rfl, ?_⟩
  refine goS ?_
  refine RL.allocS T_ok rfl hS rfl rfl ?_; (try clear hS); intro b6 m hS; refine ⟨_, rfl, ?_⟩
  refine goS ?_
  refine RL.ssM T_ok hS rfl rfl rfl rfl rfl (by rfl) (by rfl) (by with_reducible repeat (first | exact Rep.head | apply Rep.tail)) (by rfl) ?_; (try clear hS); intro m hS
  refine goS ?_
  refine RL.buildSliceM T_ok hS [.tmp 40] (us := [oV o2]) (oC o2) rfl rfl rfl rfl rfl rfl (by intro u hu; simp only [List.mem_singleton] at hu; subst hu; rfl) rfl rfl rfl ?_
  clear hS
  intro b7 m hS
  refine ⟨_, rfl, ?_⟩
  refine goS ?_
  have hl1 : x1.q.us.length = 3 := by
    have := congrArg (fun u : Us => u.us.length) hU1
    exact this.trans len1
  refine RL.callM (fi := []) (ca := []) hS (apply_s d { x1 with S5 := S5 } [b7] _ o2 good2 rfl hL1.tr hq1 (by rw [n2]; show x1.q.us.length + 1 ≤ _; omega) (by show x1.B < _; rw [hL1.B, hB]; decide) (by have := hL1.V; rw [hV] at this; show x1.V.length < _; simp at this; omega)
    (fun c => by
      show ∃ n, kget x1.es c = nU n
      rw [hL1.k, hes]
      split
      · exact ⟨_, rfl⟩
      · exact ⟨0, rfl⟩) (hL1.h.trans hh) (hL1.W.trans hW) (by show kget x1.es 2 = _; rw [hL1.k, hes]; rfl) (by
      rw [hn2]
      intro i hi
      refine ⟨3, ?_, ?_⟩
      · show kget x1.es i.c = _
        rw [hL1.k, n1]
        simp only [List.mem_cons, List.not_mem_nil, or_false] at hi
        rcases hi with rfl | rfl <;> rfl
      · simp only [List.mem_cons, List.not_mem_nil, or_false] at hi
        rcases hi with rfl | rfl <;> decide)) rfl rfl rfl rfl (by repeat (first | with_reducible exact Sels.nil | apply Sels.ro (by repeat (first | exact zS .. | with_reducible apply zO)) (by rfl) | apply Sels.own (by repeat (first | exact Sel.head | with_reducible apply Sel.tail)))) ?_
  clear hS
  rintro _ m _ ⟨rfl, x2, hL2, rfl⟩ hS
  rw [c2] at hL2
  have hS : Tr m0 M0 X m (blkA b6 32 (aC ⟨O0, false⟩) :: blkA b4 32 (aC ⟨O0, true⟩) :: blkA b2 32 (aC ⟨⟨1, 1⟩, true⟩) :: tabA :: dcH d x2 []) := hS.tail.perm (List.perm_append_comm (l₁ := dcH d x2 []) (l₂ := [_, _, _, tabA]))
  have hU2 : x2.q.toUs = U2 := by
    have := hL2.q
    rw [n2] at this
    show _ = Us.run U1 (oU o2) 1
    rw [← hU1]
    exact this
  have hq2 : x2.q.Ok := by rw [hU2, U2, ← hU1]; exact hq1.run _ _
  have hD2 : x2.D = [] := hL2.D.trans hD1
  have hu2 : x2.q.units = U2.units := by rw [← hU2]
  have hl2 : x2.q.us.length = 4 := by
    have := congrArg (fun u : Us => u.us.length) hU2
    exact this.trans len2
  refine ⟨_, rfl, ?_⟩
  refine goS ?_
  refine RL.callM (fi := []) (ca := []) hS (place_s d x2 ⟨⟨1, 1⟩, true⟩ hq2 (by omega) hL2.tr (by rw [hD2]; decide)) rfl rfl rfl rfl (by repeat (first | with_reducible exact Sels.nil | apply Sels.ro (by repeat (first | exact zS .. | with_reducible apply zO)) (by rfl) | apply Sels.own (by repeat (first | exact Sel.head | with_reducible apply Sel.tail)))) ?_
  clear hS
  rintro _ m _ ⟨rfl, S5', rfl⟩ hS
  have e := pl1
  rw [← hu2, ← hD2] at e
  rw [e]
  have hS : Tr m0 M0 X m (blkA b6 32 (aC ⟨O0, false⟩) :: blkA b4 32 (aC ⟨O0, true⟩) :: blkA b2 32 (aC ⟨⟨1, 1⟩, true⟩) :: tabA :: dcH d { x2 with S5 := S5' } []) := hS.perm (List.perm_append_comm (l₁ := dcH d { x2 with S5 := S5' } []) (l₂ := [_, _, _, tabA]))
  refine ⟨_, rfl, ?_⟩
  refine goS ?_
  refine RL.callM (fi := []) (ca := []) hS (place_s d { x2 with S5 := S5' } ⟨O0, true⟩ hq2 (by show x2.q.us.length ≤ _; omega) hL2.tr (by show x2.D.length < _; rw [hD2]; decide)) rfl rfl rfl rfl (by repeat (first | with_reducible exact Sels.nil | apply Sels.ro (by repeat (first | exact zS .. | with_reducible apply zO)) (by rfl) | apply Sels.own (by repeat (first | exact Sel.head | with_reducible apply Sel.tail)))) ?_
  clear hS
  rintro _ m _ ⟨rfl, S5', rfl⟩ hS
  have e := pl2
  rw [← hu2, ← hD2] at e
  rw [e]
  have hS : Tr m0 M0 X m (blkA b6 32 (aC ⟨O0, false⟩) :: blkA b4 32 (aC ⟨O0, true⟩) :: blkA b2 32 (aC ⟨⟨1, 1⟩, true⟩) :: tabA :: dcH d { x2 with S5 := S5' } []) := hS.perm (List.perm_append_comm (l₁ := dcH d { x2 with S5 := S5' } []) (l₂ := [_, _, _, tabA]))
  refine ⟨_, rfl, ?_⟩
  refine goS ?_
  refine RL.binOp (eqA_eql ⟨⟨1, 1⟩, true⟩ ⟨⟨1, 1⟩, true⟩) (eqA_guard _ _ _ _ _) rfl rfl rfl rfl ?_
  refine goS ?_
  refine RL.binOp (eqA_eql ⟨O0, true⟩ ⟨O0, true⟩) (eqA_guard _ _ _ _ _) rfl rfl rfl rfl ?_
  refine goS ?_
  exact QN.ret1 rfl rfl ⟨_, rfl, [], ⟨rfl, rfl⟩, Tr.drop (H := []) hS⟩
end Go.Proofs.YtgpgladbdoimdaaGreatDoor
end
