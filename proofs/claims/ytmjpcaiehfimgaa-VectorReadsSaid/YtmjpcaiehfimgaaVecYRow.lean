/- VectorReads: the row. -/
import Derived.Test.YtmjpcaiehfimgaaMVecY5
import Derived.Test.YtmjpcaiehfimgaaRows
import Derived.Carry
namespace Go.Proofs.Ytmjpcaiehfimgaa
open Go.ChangeShapes Go.WideShapes Go.ChangeAt Go.RowKit Go.Ev Go.Ids

theorem vectorreads_c (m : World) (v : Value) (l : List UInt8) (h : Bs m [] v l) : FnR Try.prog 6 [v] m fun r m' => r = .bool true ∧ Ext m [] m' := by
  obtain ⟨A, c, rfl, _, _⟩ := h.shape
  refine FnE.enter ⟨_, Try.func6, by kernel_rfl, by kernel_rfl⟩ Try.func6 rfl rfl ?_
  repeat (first | with_reducible refine WP.seq ?_ | with_reducible refine WP.block ?_ | with_reducible refine WP.region ?_)
  refine RL.auto T_ok rfl ?_
  refine RL.nil ?_; repeat (first | with_reducible refine QN.block_normal ?_ | with_reducible refine QN.next ?_); repeat (first | with_reducible refine WP.seq ?_ | with_reducible refine WP.block ?_ | with_reducible refine WP.region ?_)
  refine RL.call (fi := []) (ca := []) rfl rfl rfl rfl (vknown_c m) ?_
  rintro _ m2 ⟨rfl, hEm⟩
  refine ⟨_, rfl, ?_⟩
  replace h : Bs m2 [] (.slice A l.length c) l := Sl.ext h hEm (by simp) (by omega)
  refine RL.auto T_ok rfl ?_
  refine RL.nil ?_; repeat (first | with_reducible refine QN.block_normal ?_ | with_reducible refine QN.next ?_); repeat (first | with_reducible refine WP.seq ?_ | with_reducible refine WP.block ?_ | with_reducible refine WP.region ?_)
  refine WP.condF rfl ?_
  refine WP.skip ?_; repeat (first | with_reducible refine QN.block_normal ?_ | with_reducible refine QN.next ?_); repeat (first | with_reducible refine WP.seq ?_ | with_reducible refine WP.block ?_ | with_reducible refine WP.region ?_)
  refine RL.pure T_ok 3 rfl ?_
  by_cases hl : l.length ≤ 3000
  rotate_left
  · refine RL.eqv (v' := .bool true) (congrArg _ (decide_eq_true (by omega))) ?_
    refine RL.nil ?_; repeat (first | with_reducible refine QN.block_normal ?_ | with_reducible refine QN.next ?_); repeat (first | with_reducible refine WP.seq ?_ | with_reducible refine WP.block ?_ | with_reducible refine WP.region ?_)
    refine WP.condT rfl ?_
    repeat (first | with_reducible refine WP.seq ?_ | with_reducible refine WP.block ?_ | with_reducible refine WP.region ?_)
    refine RL.auto T_ok rfl ?_
    refine RL.nil ?_; repeat (first | with_reducible refine QN.block_normal ?_ | with_reducible refine QN.next ?_); repeat (first | with_reducible refine WP.seq ?_ | with_reducible refine WP.block ?_ | with_reducible refine WP.region ?_)
    refine WP.ret ?_; repeat (first | with_reducible refine QN.then_ret ?_ | with_reducible refine QN.block_ret ?_)
    exact QN.ret1 rfl rfl ⟨_, rfl, rfl, hEm⟩
  refine RL.eqv (v' := .bool false) (congrArg _ (decide_eq_false (by omega))) ?_
  refine RL.nil ?_; repeat (first | with_reducible refine QN.block_normal ?_ | with_reducible refine QN.next ?_); repeat (first | with_reducible refine WP.seq ?_ | with_reducible refine WP.block ?_ | with_reducible refine WP.region ?_)
  refine WP.condF rfl ?_
  refine WP.skip ?_; repeat (first | with_reducible refine QN.block_normal ?_ | with_reducible refine QN.next ?_); repeat (first | with_reducible refine WP.seq ?_ | with_reducible refine WP.block ?_ | with_reducible refine WP.region ?_)
  refine RL.auto T_ok rfl ?_
  refine RL.call (fi := []) (ca := []) rfl rfl rfl rfl (newReader_c m2 [] (by simp) _ l h (by omega)) ?_
  rintro _ m3 ⟨r, rfl, hr, hR3, hE3⟩
  refine ⟨_, rfl, ?_⟩
  have h3 : Bs m3 [r] (.slice A l.length c) l := Sl.ext h hE3 (fun k hk => .inr (by have h9 : k = r := (by simpa using hk); omega)) (by omega)
  refine RL.auto T_ok rfl ?_
  refine RL.box rfl rfl (fun s m4 hs hC4 => ⟨_, rfl, ?_⟩)
  have hE4 : Ext m3 [] m4 := hC4.new (by omega)
  have hrs : r ≠ s := by have := hR3.lt; omega
  have hnew4 : ∀ k ∈ [s, r], k ∈ [r] ∨ m3.heap.size ≤ k := fun k hk => by
    rcases List.mem_cons.1 hk with rfl | hk
    · exact .inr (by omega)
    · exact .inl hk
  have h4 : Bs m4 [s, r] (.slice A l.length c) l := Sl.ext h3 (hE4.mono (by simp)) hnew4 (by omega)
  have hR4 : RAt m4 [s, r] r l 0 := hR3.ext hE4 (by simp) (by simp) hnew4
  have hQ4 : QAt m4 [s, r] s l 0 := ⟨_, hC4.here, h4⟩
  have hEm4 : Ext m [] m4 := (hEm.trans hE3 (by simp)).trans hE4 (by simp)
  have hrm : m.heap.size ≤ r := by have := hEm.size; omega
  have hsm : m.heap.size ≤ s := by have := hE3.size; have := hEm.size; omega
  clear hR3 hC4 h3 h
  refine RL.auto T_ok rfl ?_
  refine RL.nil ?_; repeat (first | with_reducible refine QN.block_normal ?_ | with_reducible refine QN.next ?_); repeat (first | with_reducible refine WP.seq ?_ | with_reducible refine WP.block ?_ | with_reducible refine WP.region ?_)
  refine RL.auto T_ok rfl ?_
  refine RL.call (fi := []) (ca := []) rfl rfl rfl rfl (vread_c m4 [s, r] r l 0 hR4 (by simp)) ?_
  rintro x5 m5 ⟨S5, hO5, hR5, hE5, hF5⟩
  refine ⟨_, rfl, ?_⟩
  have hge5 : ∀ k ∈ S5, m4.heap.size ≤ k := fun k hk => (hF5 k hk).elim (fun h => by cases h) id
  have hr4 := hR4.lt
  have hs4 := hQ4.lt
  have hQ5 : QAt m5 (S5 ++ [s, r]) s l 0 := hQ4.ext hE5 (by simp; exact fun hh => hrs hh.symm) (fun k hk _ => by simp at hk; simp [hk]) (fun k hk => by
    rcases List.mem_append.1 hk with h9 | h9
    · exact .inr (hge5 k h9)
    · exact .inl h9)
  have hsS : s ∉ S5 := fun hh => by have := hge5 s hh; omega
  refine RL.auto T_ok rfl ?_
  refine RL.call (fi := []) (ca := []) rfl rfl rfl rfl (refvread_c m5 (S5 ++ [s, r]) s l 0 hQ5 (by simp)) ?_
  rintro x6 m6 ⟨S6, hO6, hQ6, hE6, hF6⟩
  refine ⟨_, rfl, ?_⟩
  have hge6 : ∀ k ∈ S6, m5.heap.size ≤ k := fun k hk => (hF6 k hk).elim (fun h => by cases h) id
  have hR6 : RAt m6 [r] r (vrd (l, 0)).2.1 (vrd (l, 0)).2.2 := hR5.ext hE6 (by simpa using hrs) (fun k hk _ => by simp at hk; simp [hk]) (fun k hk => .inl (by simp at hk; simp [hk]))
  have hO56 := hO5.ext hE6 (fun k hk hh => hsS (by have h9 : k = s := (by simpa using hh); exact h9 ▸ hk))
  have hc5 : Cs m6 [] x5 (vrd (l, 0)).1 := hO56.sl (by simp)
  have hc6 : Cs m6 [] x6 (vrd (l, 0)).1 := hO6.sl (by simp)
  have hE06 : Ext m [] m6 := (hEm4.trans hE5 (fun k hk => .inr (by have h9 : k = r := (by simpa using hk); omega))).trans hE6 (fun k hk => .inr (by have h9 : k = s := (by simpa using hk); omega))
  have hlen : (vrd (l, 0)).1.length < 1000000000 := by
    have h1 := hO6.sl (M := []) (by simp)
    have := vrd_len (l, 0)
    omega
  clear hO5 hR5 hO6 hO56 hQ5 hQ4 hR4
  generalize vrd (l, (0 : Int)) = t at hQ6 hR6 hc5 hc6 hlen
  obtain ⟨out, l', e'⟩ := t
  simp only at hQ6 hR6 hc5 hc6 hlen
  obtain ⟨vq, hBq, hSq⟩ := hQ6
  obtain ⟨Aq, cq, rfl, _, _⟩ := hSq.shape
  refine RL.auto T_ok rfl ?_
  refine RL.nil ?_; repeat (first | with_reducible refine QN.block_normal ?_ | with_reducible refine QN.next ?_)
  refine WP.seq ?_
  refine WP.drawQ (fun m' => m' = m6) [] (by kernel_rfl) rfl (by repeat (first | with_reducible exact PanicOk.body | with_reducible refine PanicOk.then_ ?_ | with_reducible refine PanicOk.block_ ?_)) (fun hQ => ?_)
  refine RH.pure T_ok hQ [0, 1] (by kernel_rfl) rfl ?_
  refine RH.only 2 rfl (by kernel_rfl) (fun _ => ?_)
  refine RL.call (fi := []) (ca := []) rfl rfl rfl rfl (clocks_c m6 _ _ _ _ hc5 hc6 hlen) ?_
  rintro _ m7 ⟨rfl, hm7⟩
  subst hm7
  refine ⟨_, rfl, RL.nil (RH.cont rfl ?_)⟩
  refine RH.eqv (v' := .bool true) (congrArg _ (decide_eq_true rfl)) ?_
  refine RH.pure T_ok hQ [3, 4, 6, 7, 8] (by kernel_rfl) rfl ?_
  refine RH.load T_ok hQ 9 (fun m' hm' => by rw [hm']; exact hBq.cell 1 rfl) rfl (by kernel_rfl) rfl rfl rfl rfl ?_
  refine RH.only 5 rfl (by kernel_rfl) (fun _ => ?_)
  refine RL.call (fi := []) (ca := []) rfl rfl rfl rfl (err_c m7 [r] r l' e' hR6) ?_
  rintro _ m8 ⟨rfl, hm8⟩
  subst hm8
  refine ⟨_, rfl, RL.nil (RH.cont rfl ?_)⟩
  refine RH.pure T_ok hQ [10] (by kernel_rfl) rfl ?_
  refine RH.eqv (v' := .bool true) (congrArg _ (by simp)) ?_
  refine RH.pure T_ok hQ [11, 12, 13, 14, 15] (by kernel_rfl) rfl ?_
  refine RH.load T_ok hQ 16 (fun m' hm' => by rw [hm']; exact hBq.cell 1 rfl) rfl (by kernel_rfl) rfl rfl rfl rfl ?_
  refine RH.pure T_ok hQ [17] (by kernel_rfl) rfl ?_
  by_cases he : e' = 0
  rotate_left
  · refine RH.eqv (v' := .bool true) (congrArg _ (by simp [he])) ?_
    refine RH.pure T_ok hQ [18, 19, 20, 21, 22, 23, 24, 25, 26, 27, 28, 29] (by kernel_rfl) rfl ?_
    refine RH.done (by kernel_rfl) (fun _ => ?_)
    repeat (first | with_reducible refine QN.block_normal ?_ | with_reducible refine QN.next ?_)
    refine WP.ret ?_; repeat (first | with_reducible refine QN.then_ret ?_ | with_reducible refine QN.block_ret ?_)
    exact QN.ret1 rfl rfl ⟨_, rfl, rfl, hE06⟩
  refine RH.eqv (v' := .bool false) (congrArg _ (by simp [he])) ?_
  refine RH.pure T_ok hQ [18, 19, 21, 22, 23] (by kernel_rfl) rfl ?_
  refine RH.load T_ok hQ 24 (fun m' hm' => by rw [hm']; exact hBq.cell 0 rfl) rfl (by kernel_rfl) rfl rfl rfl rfl ?_
  refine RH.pure T_ok hQ [25] (by kernel_rfl) rfl ?_
  refine RH.only 20 rfl (by kernel_rfl) (fun _ => ?_)
  refine RL.call (fi := []) (ca := []) rfl rfl rfl rfl (left_c m8 [r] r l' e' hR6) ?_
  rintro _ m9 ⟨rfl, hm9⟩
  subst hm9
  refine ⟨_, rfl, RL.nil (RH.cont rfl ?_)⟩
  refine RH.pure T_ok hQ [26] (by kernel_rfl) rfl ?_
  refine RH.eqv (v' := .bool true) (congrArg _ (by simp)) ?_
  refine RH.pure T_ok hQ [27, 28, 29] (by kernel_rfl) rfl ?_
  refine RH.done (by kernel_rfl) (fun _ => ?_)
  repeat (first | with_reducible refine QN.block_normal ?_ | with_reducible refine QN.next ?_)
  refine WP.ret ?_; repeat (first | with_reducible refine QN.then_ret ?_ | with_reducible refine QN.block_ret ?_)
  exact QN.ret1 rfl rfl ⟨_, rfl, rfl, hE06⟩
set_option maxRecDepth 100000 in
theorem vectorreads_lifted (os : Os) (started : os.Started) (H : Type) (enc : TypeId × Value → H) :
    ReturnsInHanded {} Try.checked os 6 .any (Rows.vectorReadsSpec.pre6 enc Try.prog Try.f6 Rows.vectorReadsRow.domain false) (Rows.vectorReadsSpec.post enc Try.prog Try.f6 false true false false) := by
  refine law_lift (tb := 4) own started (by kernel_rfl) Try.func6
    (ChangeSpec.witness6 (enc := enc) (C := Try.checked) false ⟨#[], #[.slice none 0 0], []⟩ 8 (by kernel_rfl) (by kernel_rfl) (by kernel_rfl) (by kernel_rfl))
    laidOut (by kernel_rfl) rfl (und 4 rfl rfl) rfl (fun ds h => by
      match ds, h with
      | [_], _ => exact ⟨rfl, rfl, rfl⟩) ?_
  intro W base args ds p hval hA hw
  rw [Try.params6] at hA hval hw
  obtain ⟨v0, d0, rfl, rfl, h0⟩ := trodAll_one hA
  obtain ⟨l, hl⟩ := open_bytes (und 39 rfl rfl) (und 5 rfl rfl) (cellsOf 5 rfl rfl) (hval 0 39 v0 rfl rfl) (Fit.arg hw 0 rfl rfl) h0
  exact vectorreads_c W v0 l hl
theorem vectorReads_holds : Rows.VectorReadsSaid :=
  OpenClaim.holds_of_wide 6 Try.f6 rfl rfl rfl rfl rfl rfl rfl ⟨rfl, rfl, rfl, rfl, rfl⟩ rfl rfl rfl rfl rfl (by kernel_rfl) Try.func6 (by kernel_rfl)
    (of_decide_eq_true (by kernel_rfl)) (by unfold Func.isWrapper; first | (rw [if_pos (by decide +kernel)]; kernel_rfl) | (rw [if_neg (by decide +kernel)]; exact ⟨rfl, rfl⟩))
    (fun os started H enc _ => vectorreads_lifted os started H enc)
end Go.Proofs.Ytmjpcaiehfimgaa
