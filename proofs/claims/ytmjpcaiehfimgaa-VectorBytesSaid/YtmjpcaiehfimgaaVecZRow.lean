/- VectorBytes: the row. -/
import Derived.Test.YtmjpcaiehfimgaaMVecZ5
import Derived.Test.YtmjpcaiehfimgaaRows
import Derived.Carry
namespace Go.Proofs.Ytmjpcaiehfimgaa
open Go.ChangeShapes Go.WideShapes Go.ChangeAt Go.RowKit Go.Ev Go.Ids

theorem vectorbytes_c (m : World) (v u : Value) (l : List Clk) (mo : List UInt8) (h : Cs m [] v l) (hb : Bs m [] u mo) : FnR Try.prog 7 [v, u] m fun r m' => r = .bool true ∧ Ext m [] m' := by
  obtain ⟨A, c, rfl, _, _⟩ := hb.shape
  refine FnE.enter ⟨_, Try.func7, by kernel_rfl, by kernel_rfl⟩ Try.func7 rfl rfl ?_
  repeat (first | with_reducible refine WP.seq ?_ | with_reducible refine WP.block ?_ | with_reducible refine WP.region ?_)
  refine RL.auto T_ok rfl ?_
  refine RL.nil ?_; repeat (first | with_reducible refine QN.block_normal ?_ | with_reducible refine QN.next ?_); repeat (first | with_reducible refine WP.seq ?_ | with_reducible refine WP.block ?_ | with_reducible refine WP.region ?_)
  refine RL.call (fi := []) (ca := []) rfl rfl rfl rfl (vknown_c m) ?_
  rintro _ m2 ⟨rfl, hEm⟩
  refine ⟨_, rfl, ?_⟩
  replace h := h.ext0 hEm
  replace hb : Bs m2 [] (.slice A mo.length c) mo := Sl.ext hb hEm (by simp) (by omega)
  refine RL.auto T_ok rfl ?_
  refine RL.nil ?_; repeat (first | with_reducible refine QN.block_normal ?_ | with_reducible refine QN.next ?_); repeat (first | with_reducible refine WP.seq ?_ | with_reducible refine WP.block ?_ | with_reducible refine WP.region ?_)
  refine WP.condF rfl ?_
  refine WP.skip ?_; repeat (first | with_reducible refine QN.block_normal ?_ | with_reducible refine QN.next ?_); repeat (first | with_reducible refine WP.seq ?_ | with_reducible refine WP.block ?_ | with_reducible refine WP.region ?_)
  refine RL.auto T_ok rfl ?_
  refine RL.call (fi := []) (ca := []) rfl rfl rfl rfl (vlight_c m2 _ l h) ?_
  rintro _ m3 ⟨rfl, hm3⟩
  subst hm3
  refine ⟨_, rfl, ?_⟩
  by_cases hl : l.length ≤ 60
  rotate_left
  · refine RL.eqv (v' := .bool false) (congrArg _ (decide_eq_false hl)) ?_
    refine RL.auto T_ok rfl ?_
    refine RL.nil ?_; repeat (first | with_reducible refine QN.block_normal ?_ | with_reducible refine QN.next ?_); repeat (first | with_reducible refine WP.seq ?_ | with_reducible refine WP.block ?_ | with_reducible refine WP.region ?_)
    refine WP.condT rfl ?_
    repeat (first | with_reducible refine WP.seq ?_ | with_reducible refine WP.block ?_ | with_reducible refine WP.region ?_)
    refine RL.auto T_ok rfl ?_
    refine RL.nil ?_; repeat (first | with_reducible refine QN.block_normal ?_ | with_reducible refine QN.next ?_); repeat (first | with_reducible refine WP.seq ?_ | with_reducible refine WP.block ?_ | with_reducible refine WP.region ?_)
    refine WP.ret ?_; repeat (first | with_reducible refine QN.then_ret ?_ | with_reducible refine QN.block_ret ?_)
    exact QN.ret1 rfl rfl ⟨_, rfl, rfl, hEm⟩
  refine RL.eqv (v' := .bool true) (congrArg _ (decide_eq_true hl)) ?_
  refine RL.pure T_ok 5 rfl ?_
  by_cases hmo : mo.length ≤ 500
  rotate_left
  · refine RL.eqv (v' := .bool true) (congrArg _ (decide_eq_true (by omega))) ?_
    refine RL.auto T_ok rfl ?_
    refine RL.nil ?_; repeat (first | with_reducible refine QN.block_normal ?_ | with_reducible refine QN.next ?_); repeat (first | with_reducible refine WP.seq ?_ | with_reducible refine WP.block ?_ | with_reducible refine WP.region ?_)
    refine WP.condT rfl ?_
    repeat (first | with_reducible refine WP.seq ?_ | with_reducible refine WP.block ?_ | with_reducible refine WP.region ?_)
    refine RL.auto T_ok rfl ?_
    refine RL.nil ?_; repeat (first | with_reducible refine QN.block_normal ?_ | with_reducible refine QN.next ?_); repeat (first | with_reducible refine WP.seq ?_ | with_reducible refine WP.block ?_ | with_reducible refine WP.region ?_)
    refine WP.ret ?_; repeat (first | with_reducible refine QN.then_ret ?_ | with_reducible refine QN.block_ret ?_)
    exact QN.ret1 rfl rfl ⟨_, rfl, rfl, hEm⟩
  refine RL.eqv (v' := .bool false) (congrArg _ (decide_eq_false (by omega))) ?_
  refine RL.auto T_ok rfl ?_
  refine RL.nil ?_; repeat (first | with_reducible refine QN.block_normal ?_ | with_reducible refine QN.next ?_); repeat (first | with_reducible refine WP.seq ?_ | with_reducible refine WP.block ?_ | with_reducible refine WP.region ?_)
  refine WP.condF rfl ?_
  refine WP.skip ?_; repeat (first | with_reducible refine QN.block_normal ?_ | with_reducible refine QN.next ?_); repeat (first | with_reducible refine WP.seq ?_ | with_reducible refine WP.block ?_ | with_reducible refine WP.region ?_)
  refine RL.alloc T_ok rfl rfl (fun b1 m4 hb1 hC4 => ⟨_, rfl, ?_⟩)
  have hE4 : Ext m3 [] m4 := hC4.new (by omega)
  refine RL.alloc T_ok rfl rfl (fun b2 m5 hb2 hC5 => ⟨_, rfl, ?_⟩)
  have hE5 : Ext m4 [] m5 := hC5.new (by omega)
  have s4 := hC4.size
  have s5 := hC5.size
  have hW1 : WAt m5 b1 [b1] [] := ⟨.slice none 0 0, [], Blk.ext hC4.blk hE5 (by simp), Own.empty _ _ _ _, by simp, rfl⟩
  have hW2 : WAt m5 b2 [b2] [] := ⟨.slice none 0 0, [], hC5.blk, Own.empty _ _ _ _, by simp, rfl⟩
  have hE35 := hE4.trans hE5 (by simp)
  have hl5 : Cs m5 [b1, b2] v l := Sl.ext h hE35 (fun k hk => .inr (by have h9 : k = b1 ∨ k = b2 := (by simpa using hk); omega)) (by omega)
  have hb5 : Bs m5 [b1, b2] (.slice A mo.length c) mo := Sl.ext hb hE35 (fun k hk => .inr (by have h9 : k = b1 ∨ k = b2 := (by simpa using hk); omega)) (by omega)
  have hEm5 := hEm.trans hE35 (by simp)
  have hb12 : b1 ≠ b2 := by omega
  have hlm := hEm.size
  clear hC4 hC5 h hb
  refine RL.nil ?_; repeat (first | with_reducible refine QN.block_normal ?_ | with_reducible refine QN.next ?_); repeat (first | with_reducible refine WP.seq ?_ | with_reducible refine WP.block ?_ | with_reducible refine WP.region ?_)
  refine RL.auto T_ok rfl ?_
  refine RL.call (fi := []) (ca := []) rfl rfl rfl rfl (vwrite_c m5 b1 [b1] [] _ l hW1 (Sl.less hl5 (by simp) (by omega)) (by omega) (by simp)) ?_
  rintro _ m6 ⟨rfl, S6, hW6, hE6, hF6⟩
  refine ⟨_, rfl, ?_⟩
  rw [List.nil_append] at hW6
  have hE6' : Ext m [] m6 := hEm5.trans hE6 (fun k hk => .inr (by have h9 : k = b1 := (by simpa using hk); omega))
  have hb2S : b2 ∉ S6 := fun hh => by
    rcases hF6 b2 hh with h9 | h9
    · have h9 : b2 = b1 := (by simpa using h9)
      omega
    · have := hW2.lt b2 (by simp); omega
  have hW2' := hW2.ext hE6 (fun k hk hh => by
    have h8 : k = b2 := (by simpa using hk)
    have h9 : k = b1 := (by simpa using hh)
    omega)
  have hl6 : Cs m6 [b2] v l := Sl.ext hl5 (hE6.mono (fun k hk _ => by have h9 : k = b1 := (by simpa using hk); simp [h9])) (fun k hk => .inl (by have h9 : k = b2 := (by simpa using hk); simp [h9])) (by omega)
  have hb6 : Bs m6 [b2] (.slice A mo.length c) mo := Sl.ext hb5 (hE6.mono (fun k hk _ => by have h9 : k = b1 := (by simpa using hk); simp [h9])) (fun k hk => .inl (by have h9 : k = b2 := (by simpa using hk); simp [h9])) (by omega)
  have hcl := vclean_len l
  have hcan := vclean_canon l
  refine RL.nil ?_; repeat (first | with_reducible refine QN.block_normal ?_ | with_reducible refine QN.next ?_); repeat (first | with_reducible refine WP.seq ?_ | with_reducible refine WP.block ?_ | with_reducible refine WP.region ?_)
  refine RL.auto T_ok rfl ?_
  refine RL.call (fi := []) (ca := []) rfl rfl rfl rfl (vclean_c m6 _ l (Sl.less hl6 (by simp) (by omega)) (by omega)) ?_
  rintro v7 m7 hM7
  refine ⟨_, rfl, ?_⟩
  have hE7 := hM7.ext
  have hE7' := hE6'.trans hE7 (by simp)
  have hl7 : Cs m7 [b2] v l := Sl.ext hl6 (hE7.mono (by simp)) (fun k hk => .inl hk) (by omega)
  have hb7 : Bs m7 [b2] (.slice A mo.length c) mo := Sl.ext hb6 (hE7.mono (by simp)) (fun k hk => .inl hk) (by omega)
  have hW7 := hW6.ext hE7 (by simp)
  have hW72 := hW2'.ext hE7 (by simp)
  refine RL.call (fi := []) (ca := []) rfl rfl rfl rfl (vwrite_c m7 b2 [b2] [] _ (vclean l) hW72 hM7.cs (by omega) (by simp)) ?_
  rintro _ m8 ⟨rfl, S8, hW82, hE8, hF8⟩
  refine ⟨_, rfl, ?_⟩
  rw [List.nil_append, vclean_clean] at hW82
  have hE8' : Ext m [] m8 := hE7'.trans hE8 (fun k hk => .inr (by have h9 : k = b2 := (by simpa using hk); omega))
  have hW8 := hW7.ext hE8 (fun k hk hh => hb2S (by have h9 : k = b2 := (by simpa using hh); exact h9 ▸ hk))
  have hl8 : Cs m8 [] v l := Sl.ext hl7 hE8 (by simp) (by omega)
  have hb8 : Bs m8 [] (.slice A mo.length c) mo := Sl.ext hb7 hE8 (by simp) (by omega)
  clear hl5 hl6 hl7 hb5 hb6 hb7 hW1 hW2 hW2' hW6 hW7 hW72 hE6 hE8 hF6 hF8 hM7
  have hvb : (encV (vclean l)).length ≤ 20 * (vclean l).length + 10 := by
    rw [← encA_all]
    exact encA_len hcan (by omega) _
  refine RL.nil ?_; repeat (first | with_reducible refine QN.block_normal ?_ | with_reducible refine QN.next ?_); repeat (first | with_reducible refine WP.seq ?_ | with_reducible refine WP.block ?_ | with_reducible refine WP.region ?_)
  refine RL.call (fi := []) (ca := []) rfl rfl rfl rfl (wbytes m8 b1 S6 _ hW8 (by omega)) ?_
  rintro x9 m9 ⟨S9, hO9, hN9⟩
  refine ⟨_, rfl, ?_⟩
  have hB9 : Bs m9 [] x9 (encV (vclean l)) := Own.sl hO9 (by simp)
  have hl9 := hl8.ext0 hN9.1
  have hb9 : Bs m9 [] (.slice A mo.length c) mo := Sl.ext hb8 hN9.1 (by simp) (by omega)
  have hW92 := hW82.ext hN9.1 (by simp)
  have hE9 := hE8'.trans hN9.1 (by simp)
  clear hl8 hb8 hW82 hW8 hO9 hN9
  refine RL.auto T_ok rfl ?_
  refine RL.nil ?_; repeat (first | with_reducible refine QN.block_normal ?_ | with_reducible refine QN.next ?_); repeat (first | with_reducible refine WP.seq ?_ | with_reducible refine WP.block ?_ | with_reducible refine WP.region ?_)
  refine RL.auto T_ok rfl ?_
  refine RL.call (fi := []) (ca := []) rfl rfl rfl rfl (refvwrite_c m9 [] _ [] _ l (Own.empty _ _ _ _) hl9 (by omega) (by simp)) ?_
  rintro x10 m10 ⟨S10, hO10, hE10, hF10⟩
  refine ⟨_, rfl, ?_⟩
  rw [List.nil_append] at hO10
  have hB10 : Bs m10 [] x9 (encV (vclean l)) := Sl.ext hB9 hE10 (by simp) (by omega)
  refine RL.call (fi := []) (ca := []) rfl rfl rfl rfl (hbytes_c m10 [] _ _ _ _ hB10 (Own.sl hO10 (by simp))) ?_
  rintro _ m11 ⟨rfl, hm11⟩
  subst hm11
  refine ⟨_, rfl, ?_⟩
  refine RL.eqv (v' := .bool true) (congrArg _ (decide_eq_true rfl)) ?_
  have hl11 := hl9.ext0 hE10
  have hb11 : Bs m11 [] (.slice A mo.length c) mo := Sl.ext hb9 hE10 (by simp) (by omega)
  have hW112 := hW92.ext hE10 (by simp)
  have hE11 := hE9.trans hE10 (by simp)
  clear hl9 hb9 hW92 hO10 hF10 hB9
  refine RL.auto T_ok rfl ?_
  refine RL.call (fi := []) (ca := []) rfl rfl rfl rfl (wbytes m11 b2 S8 _ hW112 (by omega)) ?_
  rintro x12 m12 ⟨S12, hO12, hN12⟩
  refine ⟨_, rfl, ?_⟩
  have hB12 : Bs m12 [] x9 (encV (vclean l)) := Sl.ext hB10 hN12.1 (by simp) (by omega)
  refine RL.call (fi := []) (ca := []) rfl rfl rfl rfl (hbytes_c m12 [] _ _ _ _ hB12 (Own.sl hO12 (by simp))) ?_
  rintro _ m13 ⟨rfl, hm13⟩
  subst hm13
  refine ⟨_, rfl, ?_⟩
  refine RL.eqv (v' := .bool true) (congrArg _ (decide_eq_true rfl)) ?_
  have hl13 := hl11.ext0 hN12.1
  have hb13 : Bs m13 [] (.slice A mo.length c) mo := Sl.ext hb11 hN12.1 (by simp) (by omega)
  have hE13 := hE11.trans hN12.1 (by simp)
  clear hl11 hb11 hW112 hO12
  refine RL.auto T_ok rfl ?_
  refine RL.nil ?_; repeat (first | with_reducible refine QN.block_normal ?_ | with_reducible refine QN.next ?_); repeat (first | with_reducible refine WP.seq ?_ | with_reducible refine WP.block ?_ | with_reducible refine WP.region ?_)
  refine WP.condF rfl ?_
  refine WP.skip ?_; repeat (first | with_reducible refine QN.block_normal ?_ | with_reducible refine QN.next ?_); repeat (first | with_reducible refine WP.seq ?_ | with_reducible refine WP.block ?_ | with_reducible refine WP.region ?_)
  refine RL.auto T_ok rfl ?_
  refine RL.call (fi := []) (ca := []) rfl rfl rfl rfl (copy_c m13 [] _ _ hB12 (by omega)) ?_
  rintro x14 m14 ⟨S14, hO14, hN14⟩
  refine ⟨_, rfl, ?_⟩
  have hb14 : Bs m14 [] (.slice A mo.length c) mo := Sl.ext hb13 hN14.1 (by simp) (by omega)
  refine RL.auto T_ok rfl ?_
  refine RL.append T_ok hO14 (u8s mo) (Src.of_sl (show Sl m14 [] 1 _ (u8s mo) from hb14)) rfl rfl rfl rfl rfl (by simp [u8s_length]) (u8s_one _) (by unfold maxLen; omega) (by show (_ + _) * 1 ≤ _; omega) ?_
  intro x15 m15 S15 hO15 hE15 hF15
  refine ⟨_, rfl, ?_⟩
  have hm14 : ∀ k ∈ S14, k ∈ ([] : List Nat) ∨ m13.heap.size ≤ k := fun k hk => .inr (hN14.ge k hk)
  have hE135 : Ext m13 [] m15 := hN14.1.trans hE15 hm14
  have hB15 : Bs m15 [] x15 (encV (vclean l) ++ mo) := by
    have := Own.sl hO15 (M := []) (by simp)
    rw [← u8s_append] at this
    exact this
  have hl15 := hl13.ext0 hE135
  have hb15 : Bs m15 [] (.slice A mo.length c) mo := Sl.ext hb13 hE135 (by simp) (by omega)
  have hE15' := hE13.trans hE135 (by simp)
  refine RL.call (fi := []) (ca := []) rfl rfl rfl rfl (newReader_c m15 [] (by simp) _ _ hB15 (by rw [List.length_append]; omega)) ?_
  rintro _ m16 ⟨r, rfl, hr, hR16, hE16⟩
  refine ⟨_, rfl, ?_⟩
  have hl16 : Cs m16 [r] v l := Sl.ext hl15 hE16 (fun k hk => .inr (by have h9 : k = r := (by simpa using hk); omega)) (by omega)
  have hE16' := hE15'.trans hE16 (by simp)
  have hrm : m.heap.size ≤ r := by have := hE15'.size; omega
  refine RL.auto T_ok rfl ?_
  refine RL.nil ?_; repeat (first | with_reducible refine QN.block_normal ?_ | with_reducible refine QN.next ?_); repeat (first | with_reducible refine WP.seq ?_ | with_reducible refine WP.block ?_ | with_reducible refine WP.region ?_)
  refine RL.auto T_ok rfl ?_
  refine RL.call (fi := []) (ca := []) rfl rfl rfl rfl (vread_c m16 [r] r _ 0 hR16 (by simp)) ?_
  rw [vrd_back (vclean l) mo hcan (by omega)]
  rintro x17 m17 ⟨S17, hO17, hR17, hE17, hF17⟩
  refine ⟨_, rfl, ?_⟩
  simp only at hO17 hR17
  have hl17 : Cs m17 [] v l := Sl.ext hl16 hE17 (by simp) (by omega)
  have hE17' : Ext m [] m17 := hE16'.trans hE17 (fun k hk => .inr (by have h9 : k = r := (by simpa using hk); omega))
  refine RL.auto T_ok rfl ?_
  refine RL.call (fi := []) (ca := []) rfl rfl rfl rfl (refvclean_c m17 _ l hl17 (by omega)) ?_
  rintro x18 m18 hM18
  refine ⟨_, rfl, ?_⟩
  have hc18 : Cs m18 [] x17 (vclean l) := (show Cs m17 [] x17 (vclean l) from hO17.sl (by simp)).ext0 hM18.ext
  have hR18 : RAt m18 [r] r mo 0 := hR17.ext hM18.ext (by simp) (by simp) (fun k hk => .inl (List.mem_append_right _ hk))
  have hE18 := hE17'.trans hM18.ext (by simp)
  refine RL.call (fi := []) (ca := []) rfl rfl rfl rfl (clocks_c m18 _ _ _ _ hc18 hM18.cs (by omega)) ?_
  rintro _ m19 ⟨rfl, hm19⟩
  subst hm19
  refine ⟨_, rfl, ?_⟩
  refine RL.eqv (v' := .bool true) (congrArg _ (decide_eq_true rfl)) ?_
  refine RL.auto T_ok rfl ?_
  refine RL.call (fi := []) (ca := []) rfl rfl rfl rfl (err_c m19 [r] r mo 0 hR18) ?_
  rintro _ m20 ⟨rfl, hm20⟩
  subst hm20
  refine ⟨_, rfl, ?_⟩
  refine RL.auto T_ok rfl ?_
  refine RL.call (fi := []) (ca := []) rfl rfl rfl rfl (left_c m20 [r] r mo 0 hR18) ?_
  rintro _ m21 ⟨rfl, hm21⟩
  subst hm21
  refine ⟨_, rfl, ?_⟩
  refine RL.pure T_ok 2 rfl ?_
  refine RL.pure T_ok 1 rfl ?_
  refine RL.eqv (v' := .bool true) (congrArg _ (by simp)) ?_
  refine RL.auto T_ok rfl ?_
  refine RL.nil ?_; repeat (first | with_reducible refine QN.block_normal ?_ | with_reducible refine QN.next ?_); repeat (first | with_reducible refine WP.seq ?_ | with_reducible refine WP.block ?_ | with_reducible refine WP.region ?_)
  refine WP.ret ?_; repeat (first | with_reducible refine QN.then_ret ?_ | with_reducible refine QN.block_ret ?_)
  exact QN.ret1 rfl rfl ⟨_, rfl, rfl, hE18⟩
set_option maxRecDepth 100000 in
theorem vectorbytes_lifted (os : Os) (started : os.Started) (H : Type) (enc : TypeId × Value → H) :
    ReturnsInHanded {} Try.checked os 7 .any (Rows.vectorBytesSpec.pre6 enc Try.prog Try.f7 Rows.vectorBytesRow.domain false) (Rows.vectorBytesSpec.post enc Try.prog Try.f7 false true false false) := by
  refine law_lift (tb := 4) own started (by kernel_rfl) Try.func7
    (ChangeSpec.witness6 (enc := enc) (C := Try.checked) false ⟨#[], #[.slice none 0 0, .slice none 0 0], []⟩ 8 (by kernel_rfl) (by kernel_rfl) (by kernel_rfl) (by kernel_rfl))
    laidOut (by kernel_rfl) rfl (und 4 rfl rfl) rfl (fun ds h => by
      match ds, h with
      | [_, _], _ => exact ⟨rfl, rfl, rfl⟩) ?_
  intro W base args ds p hval hA hw
  rw [Try.params7] at hA hval hw
  obtain ⟨v0, v1, d0, d1, p0, p1, rfl, rfl, rfl, h0, h1⟩ := trodAll_two hA
  obtain ⟨l, hl⟩ := open_cs (hval 0 22 v0 rfl rfl) (Fit.arg hw 0 rfl rfl) h0
  obtain ⟨mo, hmo⟩ := open_bytes (und 39 rfl rfl) (und 5 rfl rfl) (cellsOf 5 rfl rfl) (hval 1 39 v1 rfl rfl) (Fit.arg hw 1 rfl rfl) h1
  exact vectorbytes_c W v0 v1 l mo hl hmo
theorem vectorBytes_holds : Rows.VectorBytesSaid :=
  OpenClaim.holds_of_wide 7 Try.f7 rfl rfl rfl rfl rfl rfl rfl ⟨rfl, rfl, rfl, rfl, rfl⟩ rfl rfl rfl rfl rfl (by kernel_rfl) Try.func7 (by kernel_rfl)
    (of_decide_eq_true (by kernel_rfl)) (by unfold Func.isWrapper; first | (rw [if_pos (by decide +kernel)]; kernel_rfl) | (rw [if_neg (by decide +kernel)]; exact ⟨rfl, rfl⟩))
    (fun os started H enc _ => vectorbytes_lifted os started H enc)
end Go.Proofs.Ytmjpcaiehfimgaa
