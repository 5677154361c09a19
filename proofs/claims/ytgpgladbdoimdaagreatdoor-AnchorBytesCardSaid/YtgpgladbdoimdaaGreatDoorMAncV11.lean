/- Texts that belong together. -/
import Derived.Test.YtgpgladbdoimdaaGreatDoorMAncV9
import Derived.Laws.Runes
import Derived.Lib.RuneCount
section
namespace Go.Proofs.YtgpgladbdoimdaaGreatDoor
open Go.ChangeShapes Go.WideShapes Go.ChangeAt Go.RowKit Go.Ev Go.Ids
set_option maxRecDepth 20000
set_option maxHeartbeats 4000000
theorem Tr.writer {m0 m : World} {M0 X : List Nat} {H : List Asn} {b : Nat} (h : Tr m0 M0 X m (blkA b 76 [.slice none 0 0] :: H)) : Tr m0 M0 X m (wA b [b] [] :: H) :=
  h.turn (B := wA b [b] []) (fun hP => ⟨_, [], hP, Ev.Own.empty _ _ _ _, by simp, rfl⟩) (fun k hk => hk) (by simp [wA])
theorem Tr.qreader {m0 m : World} {M0 X : List Nat} {H : List Asn} {b : Nat} {v : Value} {l : List UInt8} (h : Tr m0 M0 X m (blkA b 90 [v, .int .i64 0] :: H)) (hv : roA 1 v (u8s l) ∈ H) : Tr m0 M0 X m (qdA b l 0 :: H) :=
  h.turn (B := qdA b l 0) (fun hP => ⟨v, hP, (h.mem (zO _ hv)).1⟩) (fun _ hk => hk) (by simp [qdA])
theorem rdAnc_back (a : Anc) (h : a.id = ⟨0, 0⟩ ∨ a.id.right = true) (more : List UInt8) : rdAnc (encAn a ++ more, 0) = (a, more, 0) := by
  have hc : a.id.c ≤ 9007199254740991 ∧ a.id.k ≤ 9007199254740991 := by
    rcases h with h | h
    · rw [h]; decide
    · simp only [Idn.right, num, Bool.and_eq_true, decide_eq_true_eq] at h; omega
  obtain ⟨⟨c, k⟩, b⟩ := a
  simp only at h hc
  have e1 : rdN 9007199254740991 (encAn ⟨⟨c, k⟩, b⟩ ++ more, 0) = (c, encU k ++ ([if b then 1 else 0] ++ more), 0) := by
    have := rdN_back (most := 9007199254740991) (n := c) (encU k ++ ([if b then 1 else 0] ++ more)) hc.1 (by omega)
    rw [← this]; simp [encAn]
  have e2 : rdN 9007199254740991 (encU k ++ ([if b then 1 else 0] ++ more), 0) = (k, [if b then 1 else 0] ++ more, 0) := rdN_back _ hc.2 (by omega)
  have e3 : rdB ([if b then 1 else 0] ++ more, 0) = (if b then 1 else 0, more, 0) := rdB_back _ _
  have e4 : rdAid (encAn ⟨⟨c, k⟩, b⟩ ++ more, 0) = (⟨c, k⟩, if b then 1 else 0, more, 0) := by
    unfold rdAid
    simp only [e1, e2, e3]
  have e5 : wrongA ⟨c, k⟩ (if b then 1 else 0) = false := by
    unfold wrongA
    rcases h with h | h
    · simp [h]; cases b <;> decide
    · simp [h]; cases b <;> decide
  unfold rdAnc
  simp only [e4, e5]
  cases b <;> simp
theorem abytes_s (hkn : DoS Tryz.prog 9 [] [tabA] (fun r H => r = .bool true ∧ H = [])) (a : Anc) (hc : a.id.c < 18446744073709551616) (hk : a.id.k < 18446744073709551616) (v : Value) (l : List UInt8) : DoS Tryz.prog 8 [aV a, v] [tabA, roA 1 v (u8s l)] (fun r H => r = .bool true ∧ H = []) := by
  intro m0 X hS
  obtain ⟨M0, hM0⟩ : ∃ M0, M0 = ofps [tabA, roA 1 v (u8s l)] := ⟨_, rfl⟩
  rw [← hM0] at hS ⊢
  obtain ⟨vA, vc, hv, _⟩ := Bs.shape (hS.mem (A := roA 1 v (u8s l)) (by simp)).1
  refine FnE.enter ⟨_, Tryz.func8, by kernel_rfl, by kernel_rfl⟩ Tryz.func8 rfl rfl ?_
  refine goS ?_
  refine RL.boxS hS rfl rfl rfl ?_; (try clear hS); intro b2 m hS; refine ⟨_, rfl, ?_⟩
  refine goS ?_
  refine RL.callM (fi := []) (ca := []) hS hkn rfl rfl rfl rfl (by repeat (first | with_reducible exact Sels.nil | apply Sels.ro (by with_reducible repeat (first | exact zS .. | apply zO)) (by rfl) | apply Sels.own (by with_reducible repeat (first | exact Sel.head | apply Sel.tail)))) ?_
  clear hS
  rintro _ m _ ⟨rfl, rfl⟩ hS
  simp only [zN] at hS
  refine ⟨_, rfl, ?_⟩
  refine goS ?_
  rw [hv]
  refine goS ?_
  rw [← hv]
  by_cases hl : l.length ≤ 200
  rotate_left
  · have hd : decide ((l.length : Int) > 200) = true := decide_eq_true (by omega)
    rw [hd]
    refine goS ?_
    exact QN.ret1 rfl rfl ⟨_, rfl, [], ⟨rfl, rfl⟩, Tr.drop (H := []) hS⟩
  have hd : decide ((l.length : Int) > 200) = false := decide_eq_false (by omega)
  rw [hd]
  refine WP.condF rfl ?_
  refine WP.skip ?_; (with_reducible repeat (first | refine QN.B1 ?_ | refine QN.N1 ?_))
  refine WP.cut (X := Unit) (fun _ => [(1, v)]) (fun _ m => Tr m0 M0 X m [roA 1 v (u8s l)]) ?_ ?_
  · refine WP.cut (X := Bool) (fun q => [(26, .bool q), (2, pA b2), (1, v)]) (fun q m => (q = true → a.id = ⟨0, 0⟩ ∨ a.id.right = true) ∧ Tr m0 M0 X m [blkA b2 32 (aC a), roA 1 v (u8s l)]) ?_ ?_
    · refine goS ?_
      refine RL.binOp (eqI_eql a.id ⟨0, 0⟩) (eqI_guard _ _ _ _ _) rfl rfl rfl rfl ?_
      by_cases h0 : a.id = ⟨0, 0⟩
      · rw [decide_eq_true h0]
        refine goS ?_
        exact QN.cutEnd true (Sub.C1 rfl (Sub.C1 rfl (Sub.C1 rfl Sub.nil))) ⟨fun _ => .inl h0, (hS.sels (Pre := [blkA b2 32 (aC a), roA 1 v (u8s l)]) (by repeat (first | with_reducible exact Sels.nil | apply Sels.ro (by with_reducible repeat (first | exact zS .. | apply zO)) (by rfl) | apply Sels.own (by with_reducible repeat (first | exact Sel.head | apply Sel.tail))))).drop⟩
      · rw [decide_eq_false h0]
        refine goS ?_
        refine RL.call (fi := []) (ca := []) rfl rfl rfl rfl (refrightI_c _ a.id) ?_
        rintro _ m' ⟨rfl, hE⟩
        have hS := hS.calm hE
        refine ⟨_, rfl, ?_⟩
        refine goS ?_
        exact QN.cutEnd a.id.right (Sub.C1 rfl (Sub.C1 rfl (Sub.C1 rfl Sub.nil))) ⟨fun h => .inr h, (hS.sels (Pre := [blkA b2 32 (aC a), roA 1 v (u8s l)]) (by repeat (first | with_reducible exact Sels.nil | apply Sels.ro (by with_reducible repeat (first | exact zS .. | apply zO)) (by rfl) | apply Sels.own (by with_reducible repeat (first | exact Sel.head | apply Sel.tail))))).drop⟩
    · clear hS
      rintro q m ⟨hq, hS⟩
      cases q with
      | false =>
        refine goS ?_
        exact QN.cutEnd () (Sub.C1 rfl Sub.nil) hS.tail
      | true =>
        have hok := hq rfl
        have e1 := encU_len10 hc
        have e2 := encU_len10 hk
        refine goS ?_
        refine RL.allocS T_ok rfl hS rfl rfl ?_; (try clear hS); intro b5 m hS; refine ⟨_, rfl, ?_⟩
        have hS := Tr.writer hS
        refine goS ?_
        refine RL.callM (fi := []) (ca := []) hS (awrite_s a hc hk b5 [b5] [] (by decide)) rfl rfl rfl rfl (by repeat (first | with_reducible exact Sels.nil | apply Sels.ro (by with_reducible repeat (first | exact zS .. | apply zO)) (by rfl) | apply Sels.own (by with_reducible repeat (first | exact Sel.head | apply Sel.tail)))) ?_
        clear hS
        rintro _ m _ ⟨S5, rfl⟩ hS
        simp only [zC, zN] at hS
        refine ⟨_, rfl, ?_⟩
        have hS := hS.empty 5 1 none
        refine goS ?_
        refine WP.cutT (X := List Nat × Value) (fun z => [(1, v), (2, pA b2), (5, pA b5), (6, z.2)]) (fun z m => Tr m0 M0 X m [ownA z.1 5 1 z.2 ((encU a.id.c ++ encU a.id.k).length + 1) (u8s (encU a.id.c ++ encU a.id.k) ++ u8s [0]), wA b5 S5 (encAn a), blkA b2 32 (aC a), roA 1 v (u8s l)]) ?_ ?_
        · refine WP.drawJ [blkA b2 32 (aC a)] hS (by repeat (first | exact AllIn.nil | refine AllIn.cons (by repeat (first | with_reducible exact zS .. | exact zS .. | with_reducible apply zO)) ?_)) (by kernel_rfl) ?_
          refine goS ?_
          refine RH.two rfl (by kernel_rfl) rfl rfl ?_ ?_
          · refine RL.callM (fi := []) (ca := []) hS (refuint_s a.id.c hc [] (.slice none 0 0) ([]) (by first | decide | omega)) rfl rfl rfl rfl (by repeat (first | with_reducible exact Sels.nil | apply Sels.ro (by repeat (first | exact zS .. | with_reducible apply zO)) (by rfl) | apply Sels.own (by repeat (first | exact Sel.head | with_reducible apply Sel.tail)))) ?_
            clear hS
            rintro v32 m _ ⟨S6, rfl⟩ hS
            simp only [zC, zN] at hS
            refine ⟨_, rfl, ?_⟩
            refine RL.N1 (RH.contM hS (by repeat (first | exact AllIn.nil | refine AllIn.cons (by repeat (first | with_reducible exact zS .. | exact zS .. | with_reducible apply zO)) ?_)) ?_)
            refine goS ?_
            refine RH.two rfl (by kernel_rfl) rfl rfl ?_ ?_
            · refine RL.callM (fi := []) (ca := []) hS (refuint_s a.id.k hk S6 v32 (encU a.id.c) (by first | decide | omega)) rfl rfl rfl rfl (by repeat (first | with_reducible exact Sels.nil | apply Sels.ro (by repeat (first | exact zS .. | with_reducible apply zO)) (by rfl) | apply Sels.own (by repeat (first | exact Sel.head | with_reducible apply Sel.tail)))) ?_
              clear hS
              rintro v36 m _ ⟨S7, rfl⟩ hS
              simp only [zC, zN] at hS
              refine ⟨_, rfl, ?_⟩
              refine RL.N1 (RH.contM hS (by repeat (first | exact AllIn.nil | refine AllIn.cons (by repeat (first | with_reducible exact zS .. | exact zS .. | with_reducible apply zO)) ?_)) ?_)
              refine goS ?_
              refine RH.one rfl (by kernel_rfl) rfl ?_
              refine RL.buildSliceM T_ok hS [.const (.int .u8 0)] (us := [.int .u8 0]) (u8s [0]) rfl rfl rfl rfl rfl rfl (by intro u hu; simp only [List.mem_singleton] at hu; subst hu; rfl) rfl rfl rfl ?_
              clear hS
              intro b9 m hS
              refine ⟨_, rfl, ?_⟩
              refine RL.N1 (RH.contM hS (by repeat (first | exact AllIn.nil | refine AllIn.cons (by repeat (first | with_reducible exact zS .. | exact zS .. | with_reducible apply zO)) ?_)) ?_)
              refine goS ?_
              refine RH.one rfl (by kernel_rfl) rfl ?_
              refine RL.appendM T_ok hS (k := 1) (u8s [0]) rfl rfl rfl rfl rfl (by repeat (first | exact Sel.head | apply Sel.tail)) (Src.of_sl (hS.ownSl (show ownA [b9] 5 1 (.slice (some ⟨b9, 0, none⟩) 1 1) 1 (u8s [0]) ∈ _ from (by repeat (first | exact zS .. | with_reducible apply zO))))) rfl (u8s_one [0]) (by simp only [List.length_append]; unfold maxLen; omega) (by show (_ + _) * 1 ≤ _; simp only [List.length_append]; omega) ?_
              clear hS
              intro v38 m S8 hS
              refine ⟨_, rfl, ?_⟩
              refine RL.N1 (RH.contM hS (by repeat (first | exact AllIn.nil | refine AllIn.cons (by repeat (first | with_reducible exact zS .. | exact zS .. | with_reducible apply zO)) ?_)) ?_)
              refine goS ?_
              exact QN.cutEnd (S8, v38) (Sub.C1 rfl (Sub.C1 rfl (Sub.C1 rfl (Sub.C1 rfl Sub.nil)))) (hS.sels (by repeat (first | with_reducible exact Sels.nil | apply Sels.ro (by repeat (first | exact zS .. | with_reducible apply zO)) (by rfl) | apply Sels.own (by repeat (first | exact Sel.head | with_reducible apply Sel.tail))))).drop
            · refine RL.buildSliceM T_ok hS [.const (.int .u8 0)] (us := [.int .u8 0]) (u8s [0]) rfl rfl rfl rfl rfl rfl (by intro u hu; simp only [List.mem_singleton] at hu; subst hu; rfl) rfl rfl rfl ?_
              clear hS
              intro b9 m hS
              refine ⟨_, rfl, ?_⟩
              refine RL.N1 (RH.contM hS (by repeat (first | exact AllIn.nil | refine AllIn.cons (by repeat (first | with_reducible exact zS .. | exact zS .. | with_reducible apply zO)) ?_)) ?_)
              refine goS ?_
              refine RH.callS (fi := []) (ca := []) hS (refuint_s a.id.k hk S6 v32 (encU a.id.c) (by first | decide | omega)) rfl (by kernel_rfl) rfl rfl rfl rfl rfl (by repeat (first | with_reducible exact Sels.nil | apply Sels.ro (by repeat (first | exact zS .. | with_reducible apply zO)) (by rfl) | apply Sels.own (by repeat (first | exact Sel.head | with_reducible apply Sel.tail)))) ?_
              clear hS
              rintro v36 m _ ⟨S7, rfl⟩ hS
              simp only [zC, zN] at hS
              refine ⟨by simp only [zC, zN]; exact (by repeat (first | exact AllIn.nil | refine AllIn.cons (by repeat (first | with_reducible exact zS .. | exact zS .. | with_reducible apply zO)) ?_)), _, rfl, ?_⟩
              refine goS ?_
              refine RH.one rfl (by kernel_rfl) rfl ?_
              refine RL.appendM T_ok hS (k := 1) (u8s [0]) rfl rfl rfl rfl rfl (by repeat (first | exact Sel.head | apply Sel.tail)) (Src.of_sl (hS.ownSl (show ownA [b9] 5 1 (.slice (some ⟨b9, 0, none⟩) 1 1) 1 (u8s [0]) ∈ _ from (by repeat (first | exact zS .. | with_reducible apply zO))))) rfl (u8s_one [0]) (by simp only [List.length_append]; unfold maxLen; omega) (by show (_ + _) * 1 ≤ _; simp only [List.length_append]; omega) ?_
              clear hS
              intro v38 m S8 hS
              refine ⟨_, rfl, ?_⟩
              refine RL.N1 (RH.contM hS (by repeat (first | exact AllIn.nil | refine AllIn.cons (by repeat (first | with_reducible exact zS .. | exact zS .. | with_reducible apply zO)) ?_)) ?_)
              refine goS ?_
              exact QN.cutEnd (S8, v38) (Sub.C1 rfl (Sub.C1 rfl (Sub.C1 rfl (Sub.C1 rfl Sub.nil)))) (hS.sels (by repeat (first | with_reducible exact Sels.nil | apply Sels.ro (by repeat (first | exact zS .. | with_reducible apply zO)) (by rfl) | apply Sels.own (by repeat (first | exact Sel.head | with_reducible apply Sel.tail))))).drop
          · refine RL.buildSliceM T_ok hS [.const (.int .u8 0)] (us := [.int .u8 0]) (u8s [0]) rfl rfl rfl rfl rfl rfl (by intro u hu; simp only [List.mem_singleton] at hu; subst hu; rfl) rfl rfl rfl ?_
            clear hS
            intro b9 m hS
            refine ⟨_, rfl, ?_⟩
            refine RL.N1 (RH.contM hS (by repeat (first | exact AllIn.nil | refine AllIn.cons (by repeat (first | with_reducible exact zS .. | exact zS .. | with_reducible apply zO)) ?_)) ?_)
            refine goS ?_
            refine RH.callS (fi := []) (ca := []) hS (refuint_s a.id.c hc [] (.slice none 0 0) ([]) (by first | decide | omega)) rfl (by kernel_rfl) rfl rfl rfl rfl rfl (by repeat (first | with_reducible exact Sels.nil | apply Sels.ro (by repeat (first | exact zS .. | with_reducible apply zO)) (by rfl) | apply Sels.own (by repeat (first | exact Sel.head | with_reducible apply Sel.tail)))) ?_
            clear hS
            rintro v32 m _ ⟨S6, rfl⟩ hS
            simp only [zC, zN] at hS
            refine ⟨by simp only [zC, zN]; exact (by repeat (first | exact AllIn.nil | refine AllIn.cons (by repeat (first | with_reducible exact zS .. | exact zS .. | with_reducible apply zO)) ?_)), _, rfl, ?_⟩
            refine goS ?_
            refine RH.callS (fi := []) (ca := []) hS (refuint_s a.id.k hk S6 v32 (encU a.id.c) (by first | decide | omega)) rfl (by kernel_rfl) rfl rfl rfl rfl rfl (by repeat (first | with_reducible exact Sels.nil | apply Sels.ro (by repeat (first | exact zS .. | with_reducible apply zO)) (by rfl) | apply Sels.own (by repeat (first | exact Sel.head | with_reducible apply Sel.tail)))) ?_
            clear hS
            rintro v36 m _ ⟨S7, rfl⟩ hS
            simp only [zC, zN] at hS
            refine ⟨by simp only [zC, zN]; exact (by repeat (first | exact AllIn.nil | refine AllIn.cons (by repeat (first | with_reducible exact zS .. | exact zS .. | with_reducible apply zO)) ?_)), _, rfl, ?_⟩
            refine goS ?_
            refine RH.one rfl (by kernel_rfl) rfl ?_
            refine RL.appendM T_ok hS (k := 1) (u8s [0]) rfl rfl rfl rfl rfl (by repeat (first | exact Sel.head | apply Sel.tail)) (Src.of_sl (hS.ownSl (show ownA [b9] 5 1 (.slice (some ⟨b9, 0, none⟩) 1 1) 1 (u8s [0]) ∈ _ from (by repeat (first | exact zS .. | with_reducible apply zO))))) rfl (u8s_one [0]) (by simp only [List.length_append]; unfold maxLen; omega) (by show (_ + _) * 1 ≤ _; simp only [List.length_append]; omega) ?_
            clear hS
            intro v38 m S8 hS
            refine ⟨_, rfl, ?_⟩
            refine RL.N1 (RH.contM hS (by repeat (first | exact AllIn.nil | refine AllIn.cons (by repeat (first | with_reducible exact zS .. | exact zS .. | with_reducible apply zO)) ?_)) ?_)
            refine goS ?_
            exact QN.cutEnd (S8, v38) (Sub.C1 rfl (Sub.C1 rfl (Sub.C1 rfl (Sub.C1 rfl Sub.nil)))) (hS.sels (by repeat (first | with_reducible exact Sels.nil | apply Sels.ro (by repeat (first | exact zS .. | with_reducible apply zO)) (by rfl) | apply Sels.own (by repeat (first | exact Sel.head | with_reducible apply Sel.tail))))).drop
        · clear hS
          rintro ⟨S8, v6⟩ m hS
          dsimp only at hS ⊢
          refine WP.cut (X := List Nat) (fun z => [(1, v), (2, pA b2), (5, pA b5), (6, v6)]) (fun z m => Tr m0 M0 X m [ownA z 5 1 v6 (encAn a).length (u8s (encAn a)), wA b5 S5 (encAn a), blkA b2 32 (aC a), roA 1 v (u8s l)]) ?_ ?_
          · refine goS ?_
            cases hb : a.b with
            | false =>
              refine goS ?_
              have e : ownA S8 5 1 v6 ((encU a.id.c ++ encU a.id.k).length + 1) (u8s (encU a.id.c ++ encU a.id.k) ++ u8s [0]) = ownA S8 5 1 v6 (encAn a).length (u8s (encAn a)) := by simp [encAn, hb, u8s, Nat.add_assoc]
              rw [e] at hS
              exact QN.cutEnd S8 (Sub.C1 rfl (Sub.C1 rfl (Sub.C1 rfl (Sub.C1 rfl Sub.nil)))) hS
            | true =>
              refine goS ?_
              obtain ⟨N, hN⟩ : ∃ N, N = (encU a.id.c ++ encU a.id.k).length := ⟨_, rfl⟩
              have hNb : N ≤ 20 := by rw [hN, List.length_append]; omega
              rw [← hN] at hS
              obtain ⟨g, cap, cur, hv6, hB, hS8, hj, hput⟩ := Own.put (j := N) (show Ev.Own m S8 5 1 v6 (N + 1) (u8s (encU a.id.c ++ encU a.id.k) ++ u8s [0]) from hS.head) (by omega)
              have e : ∀ S, ownA S 5 1 v6 (N + 1) ((u8s (encU a.id.c ++ encU a.id.k) ++ u8s [0]).set N (.int .u8 1)) = ownA S 5 1 v6 (encAn a).length (u8s (encAn a)) := fun S => by
                have e1 : u8s (encU a.id.c ++ encU a.id.k) ++ u8s [0] = u8s (encU a.id.c ++ encU a.id.k ++ [0]) := by simp [u8s]
                have e2 := u8s_set (encU a.id.c ++ encU a.id.k ++ [0]) N 1
                rw [e1]
                have e3 : (u8s (encU a.id.c ++ encU a.id.k ++ [0])).set N (.int .u8 1) = u8s ((encU a.id.c ++ encU a.id.k ++ [0]).set N 1) := e2
                rw [e3, hN, List.set_append_right _ _ (Nat.le_refl _), Nat.sub_self]
                simp [encAn, hb, Nat.add_assoc]
              rw [hv6]
              refine goS ?_
              have hw : IntKind.i64.wrap (((N + 1 : Nat) : Int) - 1) = (N : Int) := by rw [wrap_i64_in _ (by omega) (by omega)]; omega
              rw [hw]
              refine RL.indexAddr (k := N) T_ok rfl rfl rfl rfl rfl rfl rfl (by omega) rfl ?_
              refine RL.store T_ok hB (i := N) (v := .int .u8 1) hj rfl (by show some (Value.pointer (some (Addr.add ⟨g, 0, none⟩ (N * 1)))) = _; rw [add_block, Nat.zero_add, Nat.mul_one]) rfl rfl rfl rfl ?_
              intro m' hC
              have hS := hS.grow (hput m' _ hC) (hC.ext.mono (by rw [hS8]; exact fun k hk _ => hk)) (FpNew.refl _ _)
              rw [e, hv6] at hS
              refine goS ?_
              exact QN.cutEnd S8 (Sub.C1 rfl (Sub.C1 rfl (Sub.C1 rfl (Sub.C1 rfl Sub.nil)))) hS
          · clear hS
            rintro S8 m hS
            have hS := Tr.freeze hS (by decide)
            have hel : (encAn a).length ≤ 21 := by simp only [encAn, List.length_append, List.length_singleton]; omega
            refine goS ?_
            refine RL.callM (fi := []) (ca := []) hS (wbytes_s b5 S5 (encAn a) (by omega)) rfl rfl rfl rfl (by repeat (first | with_reducible exact Sels.nil | apply Sels.ro (by with_reducible repeat (first | exact zS .. | apply zO)) (by rfl) | apply Sels.own (by with_reducible repeat (first | exact Sel.head | apply Sel.tail)))) ?_
            clear hS
            rintro v46 m _ ⟨S9, rfl⟩ hS
            simp only [zC, zN] at hS
            have hS := Tr.freeze hS (by decide)
            refine ⟨_, rfl, ?_⟩
            refine goS ?_
            refine RL.callM (fi := []) (ca := []) hS (copy_s v46 (encAn a) (by omega)) rfl rfl rfl rfl (by repeat (first | with_reducible exact Sels.nil | apply Sels.ro (by with_reducible repeat (first | exact zS .. | apply zO)) (by rfl) | apply Sels.own (by with_reducible repeat (first | exact Sel.head | apply Sel.tail)))) ?_
            clear hS
            rintro v47 m _ ⟨S10, rfl⟩ hS
            simp only [zC, zN] at hS
            refine ⟨_, rfl, ?_⟩
            refine goS ?_
            refine RL.append1M T_ok hS [.const (.int .u8 9)] (u8s [9]) rfl rfl rfl rfl rfl rfl rfl rfl rfl rfl (by repeat (first | exact Sel.head | apply Sel.tail)) (by simp [Value.cells]) (u8s_one [9]) (by unfold maxLen; omega) (by show (_ + _) * 1 ≤ _; omega) ?_
            clear hS
            intro bb v49 m S11 hS
            refine ⟨_, rfl, ?_⟩
            have hS := Tr.freeze hS (by decide)
            rw [show u8s (encAn a) ++ u8s [9] = u8s (encAn a ++ [9]) by simp [u8s]] at hS
            refine goS ?_
            refine RL.callM (fi := []) (ca := []) hS (newReader_s v49 (encAn a ++ [9]) (by simp only [List.length_append, List.length_singleton]; omega)) rfl rfl rfl rfl (by repeat (first | with_reducible exact Sels.nil | apply Sels.ro (by repeat (first | exact zS .. | with_reducible apply zO)) (by rfl) | apply Sels.own (by repeat (first | exact Sel.head | with_reducible apply Sel.tail)))) ?_
            clear hS
            rintro _ m _ ⟨br, rfl, rfl⟩ hS
            simp only [zC, zN] at hS
            refine ⟨_, rfl, ?_⟩
            refine goS ?_
            refine WP.drawJ [blkA b2 32 (aC a)] hS (by repeat (first | exact AllIn.nil | refine AllIn.cons (by repeat (first | with_reducible exact zS .. | exact zS .. | with_reducible apply zO)) ?_)) (by kernel_rfl) ?_
            refine goS ?_
            refine RH.callS (fi := []) (ca := []) hS (wbytes_s b5 S5 (encAn a) (by omega)) rfl (by kernel_rfl) rfl rfl rfl rfl rfl (by repeat (first | with_reducible exact Sels.nil | apply Sels.ro (by with_reducible repeat (first | exact zS .. | apply zO)) (by rfl) | apply Sels.own (by with_reducible repeat (first | exact Sel.head | apply Sel.tail)))) ?_
            clear hS
            rintro v51 m _ ⟨S12, rfl⟩ hS
            simp only [zC, zN] at hS
            have hS := Tr.freeze hS (by decide)
            refine ⟨by simp only [zC, zN]; exact (by repeat (first | exact AllIn.nil | refine AllIn.cons (by repeat (first | with_reducible exact zS .. | exact zS .. | with_reducible apply zO)) ?_)), _, rfl, ?_⟩
            refine goS ?_
            refine RH.callS (fi := []) (ca := []) hS (hbytes_s v51 v6 (encAn a) (encAn a)) rfl (by kernel_rfl) rfl rfl rfl rfl rfl (by repeat (first | with_reducible exact Sels.nil | apply Sels.ro (by with_reducible repeat (first | exact zS .. | apply zO)) (by rfl) | apply Sels.own (by with_reducible repeat (first | exact Sel.head | apply Sel.tail)))) ?_
            clear hS
            rintro _ m _ ⟨rfl, rfl⟩ hS
            simp only [zN] at hS
            refine ⟨by simp only [zN]; exact (by repeat (first | exact AllIn.nil | refine AllIn.cons (by repeat (first | with_reducible exact zS .. | exact zS .. | with_reducible apply zO)) ?_)), _, rfl, ?_⟩
            rw [decide_eq_true rfl]
            refine goS ?_
            refine RH.callS (fi := []) (ca := []) hS (aread_s br (encAn a ++ [9]) 0) rfl (by kernel_rfl) rfl rfl rfl rfl rfl (by repeat (first | with_reducible exact Sels.nil | apply Sels.ro (by with_reducible repeat (first | exact zS .. | apply zO)) (by rfl) | apply Sels.own (by with_reducible repeat (first | exact Sel.head | apply Sel.tail)))) ?_
            clear hS
            rintro _ m _ ⟨rfl, rfl⟩ hS
            simp only [zC, zN, rdAnc_back a hok [9]] at hS
            refine ⟨by simp only [zC, zN]; exact (by repeat (first | exact AllIn.nil | refine AllIn.cons (by repeat (first | with_reducible exact zS .. | exact zS .. | with_reducible apply zO)) ?_)), _, rfl, ?_⟩
            rw [rdAnc_back a hok [9]]
            refine goS ?_
            refine RH.binOp (eqA_neq a a) (eqA_guard _ _ _ _ _) PanicOk.calm 8 rfl (by kernel_rfl) rfl rfl rfl rfl ?_
            rw [decide_eq_true rfl]
            refine goS ?_
            refine RH.callS (fi := []) (ca := []) hS (rerr_s br [9] 0) rfl (by kernel_rfl) rfl rfl rfl rfl rfl (by repeat (first | with_reducible exact Sels.nil | apply Sels.ro (by with_reducible repeat (first | exact zS .. | apply zO)) (by rfl) | apply Sels.own (by with_reducible repeat (first | exact Sel.head | apply Sel.tail)))) ?_
            clear hS
            rintro _ m _ ⟨rfl, rfl⟩ hS
            simp only [zC, zN] at hS
            refine ⟨by simp only [zC, zN]; exact (by repeat (first | exact AllIn.nil | refine AllIn.cons (by repeat (first | with_reducible exact zS .. | exact zS .. | with_reducible apply zO)) ?_)), _, rfl, ?_⟩
            refine goS ?_
            refine RH.callS (fi := []) (ca := []) hS (rleft_s br [9] 0) rfl (by kernel_rfl) rfl rfl rfl rfl rfl (by repeat (first | with_reducible exact Sels.nil | apply Sels.ro (by with_reducible repeat (first | exact zS .. | apply zO)) (by rfl) | apply Sels.own (by with_reducible repeat (first | exact Sel.head | apply Sel.tail)))) ?_
            clear hS
            rintro _ m _ ⟨rfl, rfl⟩ hS
            simp only [zC, zN] at hS
            refine ⟨by simp only [zC, zN]; exact (by repeat (first | exact AllIn.nil | refine AllIn.cons (by repeat (first | with_reducible exact zS .. | exact zS .. | with_reducible apply zO)) ?_)), _, rfl, ?_⟩
            refine goS ?_
            exact QN.cutEnd () (Sub.C1 rfl Sub.nil) (hS.sels (Pre := [roA 1 v (u8s l)]) (by repeat (first | with_reducible exact Sels.nil | apply Sels.ro (by with_reducible repeat (first | exact zS .. | apply zO)) (by rfl) | apply Sels.own (by with_reducible repeat (first | exact Sel.head | apply Sel.tail))))).drop
  · clear hS
    rintro _ m hS
    subst hv
    refine goS ?_
    refine RL.callM (fi := []) (ca := []) hS (newReader_s _ l (by omega)) rfl rfl rfl rfl (by repeat (first | with_reducible exact Sels.nil | apply Sels.ro (by with_reducible repeat (first | exact zS .. | apply zO)) (by rfl) | apply Sels.own (by with_reducible repeat (first | exact Sel.head | apply Sel.tail)))) ?_
    clear hS
    rintro _ m _ ⟨br, rfl, rfl⟩ hS
    simp only [zC, zN] at hS
    refine ⟨_, rfl, ?_⟩
    refine goS ?_
    refine RL.boxS hS rfl rfl rfl ?_; (try clear hS); intro bq m hS; refine ⟨_, rfl, ?_⟩
    have hS := Tr.qreader (l := l) hS (by simp)
    refine goS ?_
    refine RL.callM (fi := []) (ca := []) hS (aread_s br l 0) rfl rfl rfl rfl (by repeat (first | with_reducible exact Sels.nil | apply Sels.ro (by with_reducible repeat (first | exact zS .. | apply zO)) (by rfl) | apply Sels.own (by with_reducible repeat (first | exact Sel.head | apply Sel.tail)))) ?_
    clear hS
    rintro _ m _ ⟨rfl, rfl⟩ hS
    simp only [zC, zN] at hS
    refine ⟨_, rfl, ?_⟩
    refine goS ?_
    refine RL.allocS T_ok rfl hS rfl rfl ?_; (try clear hS); intro b10 m hS; refine ⟨_, rfl, ?_⟩
    refine goS ?_
    refine RL.ssM T_ok hS rfl rfl rfl rfl rfl (by rfl) (by rfl) (by with_reducible repeat (first | exact Rep.head | apply Rep.tail)) (by rfl) ?_; (try clear hS); intro m hS
    obtain ⟨w, hw⟩ : ∃ w, w = rdAnc (l, 0) := ⟨_, rfl⟩
    rw [← hw] at hS
    obtain ⟨V, hV⟩ : ∃ V, V = Value.slice vA l.length vc := ⟨_, rfl⟩
    rw [← hV] at hS
    have hS : Tr m0 M0 X _ (blkA b10 32 (aC w.1) :: rdA br w.2.1 w.2.2 :: [qdA bq l 0, roA 1 V (u8s l)]) := hS
    refine goS ?_
    refine RL.callM (fi := []) (ca := []) hS (quint_s bq l 0 9007199254740991) rfl rfl rfl rfl (by repeat (first | with_reducible exact Sels.nil | apply Sels.ro (by with_reducible repeat (first | exact zS .. | apply zO)) (by rfl) | apply Sels.own (by with_reducible repeat (first | exact Sel.head | apply Sel.tail)))) ?_
    clear hS
    obtain ⟨r1, hr1⟩ : ∃ r1, r1 = rdN 9007199254740991 (l, 0) := ⟨_, rfl⟩
    rw [← hr1]
    obtain ⟨c, l1, e1⟩ := r1
    rintro _ m _ ⟨rfl, rfl⟩ hS
    simp only [zC, zN] at hS
    refine ⟨_, rfl, ?_⟩
    refine goS ?_
    refine RL.callM (fi := []) (ca := []) hS (quint_s bq l1 e1 9007199254740991) rfl rfl rfl rfl (by repeat (first | with_reducible exact Sels.nil | apply Sels.ro (by with_reducible repeat (first | exact zS .. | apply zO)) (by rfl) | apply Sels.own (by with_reducible repeat (first | exact Sel.head | apply Sel.tail)))) ?_
    clear hS
    obtain ⟨r2, hr2⟩ : ∃ r2, r2 = rdN 9007199254740991 (l1, e1) := ⟨_, rfl⟩
    rw [← hr2]
    obtain ⟨k, l2, e2⟩ := r2
    rintro _ m _ ⟨rfl, rfl⟩ hS
    simp only [zC, zN] at hS
    refine ⟨_, rfl, ?_⟩
    refine goS ?_
    refine RL.allocS T_ok rfl hS rfl rfl ?_; (try clear hS); intro b11 m hS; refine ⟨_, rfl, ?_⟩
    refine goS ?_
    refine RL.ssM T_ok hS rfl rfl rfl rfl rfl (by rfl) (by rfl) (by with_reducible repeat (first | exact Rep.head | apply Rep.tail)) (by rfl) ?_; (try clear hS); intro m hS
    have hS : Tr m0 M0 X _ (blkA b11 30 (iC ⟨c, k⟩) :: qdA bq l2 e2 :: blkA b10 32 (aC w.1) :: rdA br w.2.1 w.2.2 :: [roA 1 V (u8s l)]) := hS
    refine goS ?_
    refine RL.callM (fi := []) (ca := []) hS (qbyte_s bq l2 e2) rfl rfl rfl rfl (by repeat (first | with_reducible exact Sels.nil | apply Sels.ro (by with_reducible repeat (first | exact zS .. | apply zO)) (by rfl) | apply Sels.own (by with_reducible repeat (first | exact Sel.head | apply Sel.tail)))) ?_
    clear hS
    obtain ⟨r3, hr3⟩ : ∃ r3, r3 = rdB (l2, e2) := ⟨_, rfl⟩
    rw [← hr3]
    obtain ⟨n, l3, e3⟩ := r3
    rintro _ m _ ⟨rfl, rfl⟩ hS
    simp only [zC, zN] at hS
    refine ⟨_, rfl, ?_⟩
    refine goS ?_
    have hrd : rdAid (l, 0) = (⟨c, k⟩, n, l3, e3) := by
      unfold rdAid
      simp only [← hr1, ← hr2, ← hr3]
    obtain ⟨pv, hB, _⟩ := hS.mem (A := qdA bq l3 e3) (by simp)
    refine RL.load T_ok rfl rfl rfl (hB.cell 1 rfl) rfl ?_
    refine goS ?_
    by_cases he : e3 = 0
    · subst he
      have hd : ((0 : Int) == 0) = true := rfl
      rw [hd]
      refine goS ?_
      by_cases hn : 1 < n.toNat
      · have hA : rdAnc (l, 0) = (⟨⟨0, 0⟩, false⟩, l3, 11) := by simp [rdAnc, hrd, wrongA, hn]
        have hd : decide (((n.toNat : Nat) : Int) > 1) = true := decide_eq_true (by omega)
        rw [hd]
        refine goS ?_
        rw [hA] at hw
        subst hw
        refine RL.callM (fi := []) (ca := []) hS (rerr_s br l3 11) rfl rfl rfl rfl (by repeat (first | with_reducible exact Sels.nil | apply Sels.ro (by with_reducible repeat (first | exact zS .. | apply zO)) (by rfl) | apply Sels.own (by with_reducible repeat (first | exact Sel.head | apply Sel.tail)))) ?_
        clear hS
        rintro _ m _ ⟨rfl, rfl⟩ hS
        simp only [zC, zN] at hS
        refine ⟨_, rfl, ?_⟩
        refine goS ?_
        refine RL.binOp (eqA_eql ⟨⟨0, 0⟩, false⟩ ⟨⟨0, 0⟩, false⟩) (eqA_guard _ _ _ _ _) rfl rfl rfl rfl ?_
        rw [decide_eq_true rfl]
        refine goS ?_
        exact QN.ret1 rfl rfl ⟨_, rfl, [], ⟨rfl, rfl⟩, Tr.drop (H := []) hS⟩
      · have hd : decide (((n.toNat : Nat) : Int) > 1) = false := decide_eq_false (by omega)
        rw [hd]
        refine goS ?_
        refine RL.binOp (eqI_neq ⟨c, k⟩ ⟨0, 0⟩) (eqI_guard _ _ _ _ _) rfl rfl rfl rfl ?_
        by_cases hz : (⟨c, k⟩ : Idn) = ⟨0, 0⟩
        · have hA : rdAnc (l, 0) = (⟨⟨c, k⟩, decide (n.toNat = 1)⟩, l3, 0) := by simp [rdAnc, hrd, wrongA, hn, hz]
          rw [decide_eq_true hz]
          refine goS ?_
          rw [hA] at hw
          subst hw
          obtain ⟨pv, hB, _⟩ := hS.mem (A := qdA bq l3 0) (by simp)
          refine RL.load T_ok rfl rfl rfl (hB.cell 1 rfl) rfl ?_
          refine goS ?_
          refine RL.callM (fi := []) (ca := []) hS (rerr_s br l3 0) rfl rfl rfl rfl (by repeat (first | with_reducible exact Sels.nil | apply Sels.ro (by with_reducible repeat (first | exact zS .. | apply zO)) (by rfl) | apply Sels.own (by with_reducible repeat (first | exact Sel.head | apply Sel.tail)))) ?_
          clear hS
          rintro _ m _ ⟨rfl, rfl⟩ hS
          simp only [zC, zN] at hS
          refine ⟨_, rfl, ?_⟩
          refine goS ?_
          have hq : (((n.toNat : Nat) : Int) == 1) = decide (n.toNat = 1) := by rw [Bool.eq_iff_iff]; simp; omega
          rw [hq]
          refine RL.binOp (eqA_eql ⟨⟨c, k⟩, decide (n.toNat = 1)⟩ ⟨⟨c, k⟩, decide (n.toNat = 1)⟩) (eqA_guard _ _ _ _ _) rfl rfl rfl rfl ?_
          rw [decide_eq_true rfl]
          refine goS ?_
          exact QN.ret1 rfl rfl ⟨_, rfl, [], ⟨rfl, rfl⟩, Tr.drop (H := []) hS⟩
        · rw [decide_eq_false hz]
          refine goS ?_
          refine RL.call (fi := []) (ca := []) rfl rfl rfl rfl (refrightI_c _ ⟨c, k⟩) ?_
          rintro _ m' ⟨rfl, hE⟩
          have hS := hS.calm hE
          refine ⟨_, rfl, ?_⟩
          cases hr : (⟨c, k⟩ : Idn).right with
          | true =>
            have hA : rdAnc (l, 0) = (⟨⟨c, k⟩, decide (n.toNat = 1)⟩, l3, 0) := by simp [rdAnc, hrd, wrongA, hn, hr]
            refine goS ?_
            rw [hA] at hw
            subst hw
            obtain ⟨pv, hB, _⟩ := hS.mem (A := qdA bq l3 0) (by simp)
            refine RL.load T_ok rfl rfl rfl (hB.cell 1 rfl) rfl ?_
            refine goS ?_
            refine RL.callM (fi := []) (ca := []) hS (rerr_s br l3 0) rfl rfl rfl rfl (by repeat (first | with_reducible exact Sels.nil | apply Sels.ro (by with_reducible repeat (first | exact zS .. | apply zO)) (by rfl) | apply Sels.own (by with_reducible repeat (first | exact Sel.head | apply Sel.tail)))) ?_
            clear hS
            rintro _ m _ ⟨rfl, rfl⟩ hS
            simp only [zC, zN] at hS
            refine ⟨_, rfl, ?_⟩
            refine goS ?_
            have hq : (((n.toNat : Nat) : Int) == 1) = decide (n.toNat = 1) := by rw [Bool.eq_iff_iff]; simp; omega
            rw [hq]
            refine RL.binOp (eqA_eql ⟨⟨c, k⟩, decide (n.toNat = 1)⟩ ⟨⟨c, k⟩, decide (n.toNat = 1)⟩) (eqA_guard _ _ _ _ _) rfl rfl rfl rfl ?_
            rw [decide_eq_true rfl]
            refine goS ?_
            exact QN.ret1 rfl rfl ⟨_, rfl, [], ⟨rfl, rfl⟩, Tr.drop (H := []) hS⟩
          | false =>
            have hA : rdAnc (l, 0) = (⟨⟨0, 0⟩, false⟩, l3, 11) := by simp [rdAnc, hrd, wrongA, hn, hr, hz]
            refine goS ?_
            rw [hA] at hw
            subst hw
            refine RL.callM (fi := []) (ca := []) hS (rerr_s br l3 11) rfl rfl rfl rfl (by repeat (first | with_reducible exact Sels.nil | apply Sels.ro (by with_reducible repeat (first | exact zS .. | apply zO)) (by rfl) | apply Sels.own (by with_reducible repeat (first | exact Sel.head | apply Sel.tail)))) ?_
            clear hS
            rintro _ m _ ⟨rfl, rfl⟩ hS
            simp only [zC, zN] at hS
            refine ⟨_, rfl, ?_⟩
            refine goS ?_
            refine RL.binOp (eqA_eql ⟨⟨0, 0⟩, false⟩ ⟨⟨0, 0⟩, false⟩) (eqA_guard _ _ _ _ _) rfl rfl rfl rfl ?_
            rw [decide_eq_true rfl]
            refine goS ?_
            exact QN.ret1 rfl rfl ⟨_, rfl, [], ⟨rfl, rfl⟩, Tr.drop (H := []) hS⟩
    · have hA : rdAnc (l, 0) = (⟨⟨0, 0⟩, false⟩, l3, e3) := by simp [rdAnc, hrd, he]
      have hd : (e3 == 0) = false := beq_eq_false_iff_ne.2 he
      have hd2 : (e3 != 0) = true := by simp [he]
      rw [hd]
      refine goS ?_
      rw [hA] at hw
      subst hw
      obtain ⟨pv, hB, _⟩ := hS.mem (A := qdA bq l3 e3) (by simp)
      refine RL.load T_ok rfl rfl rfl (hB.cell 1 rfl) rfl ?_
      refine goS ?_
      rw [hd2]
      refine goS ?_
      refine RL.callM (fi := []) (ca := []) hS (rerr_s br l3 e3) rfl rfl rfl rfl (by repeat (first | with_reducible exact Sels.nil | apply Sels.ro (by with_reducible repeat (first | exact zS .. | apply zO)) (by rfl) | apply Sels.own (by with_reducible repeat (first | exact Sel.head | apply Sel.tail)))) ?_
      clear hS
      rintro _ m _ ⟨rfl, rfl⟩ hS
      simp only [zC, zN] at hS
      refine ⟨_, rfl, ?_⟩
      refine goS ?_
      rw [hd2]
      refine goS ?_
      refine RL.binOp (eqA_eql ⟨⟨0, 0⟩, false⟩ ⟨⟨0, 0⟩, false⟩) (eqA_guard _ _ _ _ _) rfl rfl rfl rfl ?_
      rw [decide_eq_true rfl]
      refine goS ?_
      exact QN.ret1 rfl rfl ⟨_, rfl, [], ⟨rfl, rfl⟩, Tr.drop (H := []) hS⟩
end Go.Proofs.YtgpgladbdoimdaaGreatDoor
end
