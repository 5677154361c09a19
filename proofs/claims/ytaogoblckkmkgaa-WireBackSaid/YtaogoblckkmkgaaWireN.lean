/- WireBack: walked, and its row. -/
import Derived.Test.YtaogoblckkmkgaaRows
import Derived.Test.YtaogoblckkmkgaaWireL
import Derived.Test.YtaogoblckkmkgaaWireH
namespace Go.Proofs.Ytaogoblckkmkgaa
open Go.ChangeShapes Go.WideShapes Go.ChangeAt Go.RowKit Go.Ev

theorem be_enc8 (n : Nat) : ∀ (k acc : Nat), be acc (enc8 n k) = acc * 256 ^ k + n % 256 ^ k := by
  intro k
  induction k with
  | zero => intro acc; simp [enc8, be, Nat.mod_one]
  | succ k ih =>
    intro acc
    have e : (UInt8.ofNat (n / 256 ^ k)).toNat = n / 256 ^ k % 256 := by rw [UInt8.toNat_ofNat']
    show be (acc * 256 + (UInt8.ofNat (n / 256 ^ k)).toNat) (enc8 n k) = _
    rw [ih, e, Nat.pow_succ, Nat.add_mul, Nat.mul_assoc, Nat.mul_comm 256 (256 ^ k), Nat.add_assoc]
    congr 1
    rw [Nat.mod_mul, Nat.mul_comm (n / 256 ^ k % 256), Nat.add_comm]
theorem rdFixed_back {n : Nat} (h : n < 18446744073709551616) (l : List UInt8) : rdFixed (enc8 n 8 ++ l) = .ok (n, l) := by
  have h8 := enc8_len n 8
  unfold rdFixed
  rw [if_pos (by simp [h8]), List.take_left' h8, List.drop_left' h8, be_enc8, Nat.mod_eq_of_lt (by omega)]
  simp
theorem rdText_back {s : List UInt8} (h : s.length < 18446744073709551616) (l : List UInt8) : rdText s.length (encU s.length ++ s ++ l) = .ok (s, l) := by
  unfold rdText
  rw [List.append_assoc, rdU_back _ (Nat.le_refl _) h]
  simp
set_option maxRecDepth 4000 in
set_option maxHeartbeats 400000 in
theorem back_c (m : World) (w v : Value) (l : List Stp) (mo : List UInt8) (hl : Sts m [] w l) (hok : ∀ x ∈ l, x.ok) (h : Bs m [] v mo) : FnR Try.prog 8 [w, v] m fun r m' => r = .bool true ∧ Ext m [] m' := by
  obtain ⟨A, c, rfl, hlc, hcm⟩ := hl.shape
  obtain ⟨A', c', rfl, hlc', hcm'⟩ := h.shape
  have hlm : l.length ≤ 9223372036854775807 := by unfold maxLen at hcm; omega
  refine FnE.enter ⟨_, Try.func8, by kernel_rfl, by kernel_rfl⟩ Try.func8 rfl rfl ?_
  repeat (first | with_reducible refine WP.seq ?_ | with_reducible refine WP.block ?_ | with_reducible refine WP.region ?_)
  refine RL.auto T_ok rfl ?_
  refine RL.nil ?_; repeat (first | with_reducible refine QN.block_normal ?_ | with_reducible refine QN.next ?_); repeat (first | with_reducible refine WP.seq ?_ | with_reducible refine WP.block ?_ | with_reducible refine WP.region ?_)
  refine RL.call (fi := []) (ca := []) rfl rfl rfl rfl (known_c m) ?_
  rintro _ m1 ⟨rfl, hE1⟩
  refine ⟨_, rfl, ?_⟩
  have hl1 : Sts m1 [] _ l := Sl.ext hl hE1 (by simp) (by omega)
  have h1 := grow h hE1 (M' := []) (by simp) (by simp)
  refine RL.auto T_ok rfl ?_
  refine RL.nil ?_; repeat (first | with_reducible refine QN.block_normal ?_ | with_reducible refine QN.next ?_); repeat (first | with_reducible refine WP.seq ?_ | with_reducible refine WP.block ?_ | with_reducible refine WP.region ?_)
  refine WP.condF rfl ?_
  refine WP.skip ?_; repeat (first | with_reducible refine QN.block_normal ?_ | with_reducible refine QN.next ?_); repeat (first | with_reducible refine WP.seq ?_ | with_reducible refine WP.block ?_ | with_reducible refine WP.region ?_)
  refine RL.auto T_ok rfl ?_
  refine RL.call (fi := []) (ca := []) rfl rfl rfl rfl (light2_c m1 [] _ l hl1 (fun x hx => (hok x hx).2)) ?_
  rintro _ m2 ⟨⟨q, rfl, hq⟩, rfl⟩
  refine ⟨_, rfl, ?_⟩
  cases q
  · refine RL.auto T_ok rfl ?_
    refine RL.nil ?_; repeat (first | with_reducible refine QN.block_normal ?_ | with_reducible refine QN.next ?_); repeat (first | with_reducible refine WP.seq ?_ | with_reducible refine WP.block ?_ | with_reducible refine WP.region ?_)
    refine WP.condT rfl ?_
    repeat (first | with_reducible refine WP.seq ?_ | with_reducible refine WP.block ?_ | with_reducible refine WP.region ?_)
    refine RL.auto T_ok rfl ?_
    refine RL.nil ?_; repeat (first | with_reducible refine QN.block_normal ?_ | with_reducible refine QN.next ?_); repeat (first | with_reducible refine WP.seq ?_ | with_reducible refine WP.block ?_ | with_reducible refine WP.region ?_)
    refine WP.ret ?_; repeat (first | with_reducible refine QN.then_ret ?_ | with_reducible refine QN.block_ret ?_)
    exact QN.ret1 rfl rfl ⟨_, rfl, rfl, hE1⟩
  have ht := hq rfl
  have hn : ∀ x ∈ l, x.n < 18446744073709551616 := fun x hx => (hok x hx).1
  have hs : ∀ x ∈ l, x.s.length < 1000000000 := fun x hx => by
    obtain ⟨k, hk, rfl⟩ := List.getElem_of_mem hx
    have := tot_mem hk
    omega
  have hlen := encAll_len l hn hs
  by_cases hm : mo.length > 1000
  · refine RL.pure T_ok 5 rfl ?_
    refine RL.eqv (v' := .bool true) (congrArg _ (decide_eq_true (by omega))) ?_
    refine RL.auto T_ok rfl ?_
    refine RL.nil ?_; repeat (first | with_reducible refine QN.block_normal ?_ | with_reducible refine QN.next ?_); repeat (first | with_reducible refine WP.seq ?_ | with_reducible refine WP.block ?_ | with_reducible refine WP.region ?_)
    refine WP.condT rfl ?_
    repeat (first | with_reducible refine WP.seq ?_ | with_reducible refine WP.block ?_ | with_reducible refine WP.region ?_)
    refine RL.auto T_ok rfl ?_
    refine RL.nil ?_; repeat (first | with_reducible refine QN.block_normal ?_ | with_reducible refine QN.next ?_); repeat (first | with_reducible refine WP.seq ?_ | with_reducible refine WP.block ?_ | with_reducible refine WP.region ?_)
    refine WP.ret ?_; repeat (first | with_reducible refine QN.then_ret ?_ | with_reducible refine QN.block_ret ?_)
    exact QN.ret1 rfl rfl ⟨_, rfl, rfl, hE1⟩
  refine RL.pure T_ok 5 rfl ?_
  refine RL.eqv (v' := .bool false) (congrArg _ (decide_eq_false (by omega))) ?_
  refine RL.auto T_ok rfl ?_
  refine RL.nil ?_; repeat (first | with_reducible refine QN.block_normal ?_ | with_reducible refine QN.next ?_); repeat (first | with_reducible refine WP.seq ?_ | with_reducible refine WP.block ?_ | with_reducible refine WP.region ?_)
  refine WP.condF rfl ?_
  refine WP.skip ?_; repeat (first | with_reducible refine QN.block_normal ?_ | with_reducible refine QN.next ?_); repeat (first | with_reducible refine WP.seq ?_ | with_reducible refine WP.block ?_ | with_reducible refine WP.region ?_)
  refine RL.auto T_ok rfl ?_
  refine RL.call (fi := []) (ca := []) rfl rfl rfl rfl (write_c m2 _ l hl1 hn ht) ?_
  rintro _ m3 ⟨u, S3, rfl, hO3, hN3⟩
  refine ⟨_, rfl, ?_⟩
  have hI3 : Bs m3 [] u (l.flatMap encS) := Own.sl hO3 (by simp)
  have hl3 : Sts m3 [] _ l := Sl.ext hl1 hN3.1 (by simp) (by omega)
  have h3 := grow h1 hN3.1 (M' := []) (by simp) (by simp)
  obtain ⟨A3, c3, rfl, _⟩ := hO3.shape
  refine RL.auto T_ok rfl ?_
  refine RL.nil ?_; repeat (first | with_reducible refine QN.block_normal ?_ | with_reducible refine QN.next ?_); repeat (first | with_reducible refine WP.seq ?_ | with_reducible refine WP.block ?_ | with_reducible refine WP.region ?_)
  refine RL.auto T_ok rfl ?_
  refine RL.call (fi := []) (ca := []) rfl rfl rfl rfl (copy_c m3 [] _ _ hI3 (by omega)) ?_
  rintro u4 m4 ⟨S4, hO4, hN4⟩
  refine ⟨_, rfl, ?_⟩
  have hl4 : Sts m4 [] _ l := Sl.ext hl3 hN4.1 (by simp) (by omega)
  have h4 := grow h3 hN4.1 (M' := []) (by simp) (by simp)
  refine RL.auto T_ok rfl ?_
  refine RL.append T_ok hO4 (u8s mo) (Src.of_sl (show Sl m4 [] 1 _ (u8s mo) from h4)) rfl rfl rfl rfl rfl (by simp [u8s_length]) (u8s_one _) (by unfold maxLen; omega) (by show (_ + _) * 1 ≤ _; omega) ?_
  intro u5 m5 S5 hO5 hE5 hF5
  refine ⟨_, rfl, ?_⟩
  have hm4 : ∀ k ∈ S4, k ∈ ([] : List Nat) ∨ m3.heap.size ≤ k := fun k hk => .inr (hN4.ge k hk)
  have hE35 : Ext m3 [] m5 := hN4.1.trans hE5 hm4
  have hl5 : Sts m5 [] _ l := Sl.ext hl3 hE35 (by simp) (by omega)
  have hI5 : Bs m5 [] u5 (l.flatMap encS ++ mo) := by
    have := Own.sl hO5 (M := []) (by simp)
    rw [← u8s_append] at this
    exact this
  refine RL.call (fi := []) (ca := []) rfl rfl rfl rfl (newReader_c m5 [] (by simp) _ _ hI5 (by rw [List.length_append]; omega)) ?_
  rintro _ m6 ⟨r, rfl, hr, hR6, hE6⟩
  refine ⟨_, rfl, ?_⟩
  have hnew6 : ∀ k ∈ [r], k ∈ ([] : List Nat) ∨ m5.heap.size ≤ k := fun k hk => .inr (by have h9 : k = r := (by simpa using hk); omega)
  have hl6 : Sts m6 [r] _ l := Sl.ext hl5 hE6 hnew6 (by omega)
  have hE06 : Ext m [] m6 := ((hE1.trans hN3.1 (by simp)).trans hE35 (by simp)).trans hE6 (by simp)
  have hrm : ∀ k ∈ [r], k ∈ ([] : List Nat) ∨ m.heap.size ≤ k := fun k hk => .inr (by
    have h9 : k = r := (by simpa using hk)
    have := ((hE1.trans hN3.1 (by simp)).trans hE35 (by simp)).size
    omega)
  refine RL.auto T_ok rfl ?_
  refine RL.nil ?_; repeat (first | with_reducible refine QN.block_normal ?_ | with_reducible refine QN.next ?_); repeat (first | with_reducible refine WP.seq ?_ | with_reducible refine WP.block ?_ | with_reducible refine WP.region ?_)
  refine RL.auto T_ok rfl ?_
  refine RL.nil ?_; repeat (first | with_reducible refine QN.block_normal ?_ | with_reducible refine QN.next ?_); repeat (first | with_reducible refine WP.seq ?_ | with_reducible refine WP.block ?_ | with_reducible refine WP.region ?_)
  refine WP.loop (X := Nat) (fun k => [(0, .slice A l.length c), (1, .slice A' mo.length c'), (6, .bool true), (7, .pointer (some ⟨r, 0, none⟩)), (8, .int .i64 k)])
    (fun k m' => k ≤ l.length ∧ Ext m6 [r] m' ∧ RAt m' [r] r ((l.drop k).flatMap encS ++ mo) 0) (fun k => l.length - k) 0
    (Sub.cons rfl (Sub.cons rfl (Sub.cons rfl (Sub.cons rfl (Sub.cons rfl Sub.nil))))) ⟨by simp, Ext.refl _ _, hR6⟩ ?_
  rintro k m7 ⟨hk, hE7, hR7⟩
  have hl7 : Sts m7 [r] (.slice A l.length c) l := Sl.ext hl6 hE7 (fun _ hk => .inl hk) (by omega)
  repeat (first | with_reducible refine WP.seq ?_ | with_reducible refine WP.block ?_ | with_reducible refine WP.region ?_)
  by_cases hc : k < l.length
  · refine RL.pure T_ok 4 rfl ?_
    refine RL.eqv (v' := .bool true) (congrArg _ (decide_eq_true (by omega))) ?_
    refine RL.auto T_ok rfl ?_
    refine RL.nil ?_; repeat (first | with_reducible refine QN.block_normal ?_ | with_reducible refine QN.next ?_); repeat (first | with_reducible refine WP.seq ?_ | with_reducible refine WP.block ?_ | with_reducible refine WP.region ?_)
    refine WP.condT rfl ?_
    have hget : ∀ j, j < 3 → (l.flatMap stC)[k * 3 + j]? = (stC l[k])[j]? := fun j hj => stC_get l k hc j hj
    have hsn := hn l[k] (List.getElem_mem hc)
    have hss := hs l[k] (List.getElem_mem hc)
    have hdk : (l.drop k).flatMap encS ++ mo = encS l[k] ++ ((l.drop (k + 1)).flatMap encS ++ mo) := by
      rw [List.drop_eq_getElem_cons hc, List.flatMap_cons, List.append_assoc]
    have hlr : (encS l[k] ++ ((l.drop (k + 1)).flatMap encS ++ mo)).length < 1000000 := by
      rw [← hdk]
      have h1 := encAll_len (l.drop k) (fun x hx => hn x (List.mem_of_mem_drop hx)) (fun x hx => hs x (List.mem_of_mem_drop hx))
      have h2 : tot (l.drop k) ≤ tot l := by
        unfold tot
        conv => rhs; rw [← List.take_append_drop k l, List.map_append, List.sum_append]
        exact Nat.le_add_left _ _
      simp only [List.length_append]; omega
    rw [hdk] at hR7
    generalize l[k] = st at *
    generalize hrest : (l.drop (k + 1)).flatMap encS ++ mo = rest at *
    refine WP.skip ?_; repeat (first | with_reducible refine QN.block_normal ?_ | with_reducible refine QN.next ?_)
    refine WP.cut (X := Unit) (fun _ => [(0, .slice A l.length c), (1, .slice A' mo.length c'), (6, .bool true), (7, .pointer (some ⟨r, 0, none⟩)), (8, .int .i64 k)])
      (fun _ m' => Ext m6 [r] m' ∧ RAt m' [r] r rest 0) ?_ ?_
    · repeat (first | with_reducible refine WP.seq ?_ | with_reducible refine WP.block ?_ | with_reducible refine WP.region ?_)
      refine RL.auto T_ok rfl ?_
      refine RL.index T_ok (show Sl m7 [r] 3 _ _ from hl7) (k := k) rfl hc rfl rfl rfl rfl (fun ad _ _ hcell => ⟨_, rfl, ?_⟩)
      refine RL.loadAgg T_ok (stC st) rfl rfl rfl (fun j u hu => hcell j u ((hget j (by have := (List.getElem?_eq_some_iff.1 hu).1; exact this)).trans hu)) rfl ?_
      refine RL.alloc T_ok rfl rfl (fun bx m7a hbx hCa => ⟨_, rfl, ?_⟩)
      refine RL.storeAgg (vs := stC st) (i := 0) (k := 3) T_ok hCa.here rfl rfl rfl rfl rfl (by simp) (by simp [stC, Value.oneCell']) rfl ?_
      intro m8 hC8
      have hB8 : Blk m8 bx 57 (stC st) := hC8.here
      have hE8 : Ext m7 [] m8 := (hCa.new (by omega)).trans hC8.ext (fun k hk => .inr (by have h9 : k = bx := (by simpa using hk); omega))
      have hR8 := hR7.new hE8
      have hE47 : Ext m6 [r] m8 := hE7.trans (hE8.mono (M' := [r]) (by simp)) (fun _ hk => .inl hk)
      have hbxr : bx ≠ r := by have := hR7.lt; omega
      clear hCa hC8
      have st9 : ∀ m9, Ext m8 [r] m9 → Blk m9 bx 57 (stC st) := fun m9 e1 => hB8.ext e1 (by simpa using hbxr)
      refine RL.nil ?_; repeat (first | with_reducible refine QN.block_normal ?_ | with_reducible refine QN.next ?_); repeat (first | with_reducible refine WP.seq ?_ | with_reducible refine WP.block ?_ | with_reducible refine WP.region ?_)
      refine RL.auto T_ok rfl ?_
      refine RL.load T_ok rfl rfl rfl (hB8.cell 0 rfl) rfl ?_
      refine RL.nil ?_; repeat (first | with_reducible refine QN.block_normal ?_ | with_reducible refine QN.next ?_); repeat (first | with_reducible refine WP.seq ?_ | with_reducible refine WP.block ?_ | with_reducible refine WP.region ?_)
      refine RL.auto T_ok rfl ?_
      refine RL.nil ?_; repeat (first | with_reducible refine QN.block_normal ?_ | with_reducible refine QN.next ?_); repeat (first | with_reducible refine WP.seq ?_ | with_reducible refine WP.block ?_ | with_reducible refine WP.region ?_)
      refine WP.cond rfl (fun n0 => ?_) (fun n0 => ?_)
      · have he : encS st = encU st.n := by unfold encS; rw [if_pos (by simpa using n0)]
        rw [he] at hR8
        refine WP.drawQ (fun m' => Blk m' bx 57 (stC st)) [] (by kernel_rfl) hB8 (by repeat (first | with_reducible exact PanicOk.body | with_reducible refine PanicOk.then_ ?_ | with_reducible refine PanicOk.block_ ?_)) (fun hQ => ?_)
        refine RH.pure T_ok hQ [0, 1] (by kernel_rfl) rfl ?_
        refine RH.load T_ok hQ 2 (fun m' hm' => hm'.cell 1 rfl) rfl (by kernel_rfl) rfl rfl rfl rfl ?_
        refine RH.pure T_ok hQ [4] (by kernel_rfl) rfl ?_
        refine RH.load T_ok hQ 5 (fun m' hm' => hm'.cell 1 rfl) rfl (by kernel_rfl) rfl rfl rfl rfl ?_
        refine RH.only 3 rfl (by kernel_rfl) (fun _ => ?_)
        refine RL.call (fi := []) (ca := []) rfl rfl rfl rfl (ruint_c m8 [r] r _ 0 hR8 (by simp) st.n) ?_
        rintro _ m9 ⟨rfl, hR9, hE9⟩
        rw [gR_ok (rdU_back rest (Nat.le_refl _) hsn)] at hR9
        refine ⟨_, rfl, ?_⟩
        rw [gR_ok (rdU_back rest (Nat.le_refl _) hsn)]
        refine RL.nil (RH.cont (st9 m9 hE9) ?_)
        refine RH.pure T_ok hQ [6] (by kernel_rfl) rfl ?_
        refine RH.eqv (v' := .bool true) (congrArg _ (by simp)) ?_
        refine RH.pure T_ok hQ [7] (by kernel_rfl) rfl ?_
        refine RH.done (by kernel_rfl) (fun _ => ?_)
        exact QN.block_normal (QN.block_normal (QN.cutEnd () (Sub.cons rfl (Sub.cons rfl (Sub.cons rfl (Sub.cons rfl (Sub.cons rfl Sub.nil))))) ⟨hE47.trans hE9 (fun _ hk => .inl hk), hR9⟩))
      repeat (first | with_reducible refine WP.seq ?_ | with_reducible refine WP.block ?_ | with_reducible refine WP.region ?_)
      refine RL.auto T_ok rfl ?_
      refine RL.nil ?_; repeat (first | with_reducible refine QN.block_normal ?_ | with_reducible refine QN.next ?_); repeat (first | with_reducible refine WP.seq ?_ | with_reducible refine WP.block ?_ | with_reducible refine WP.region ?_)
      refine WP.cond rfl (fun n1 => ?_) (fun n1 => ?_)
      · have he : encS st = encU (zig (IntKind.i64.wrap st.n)) := by unfold encS; rw [if_neg (by simpa using n0), if_pos (by simpa using n1)]
        rw [he] at hR8
        refine WP.drawQ (fun m' => Blk m' bx 57 (stC st)) [] (by kernel_rfl) hB8 (by repeat (first | with_reducible exact PanicOk.body | with_reducible refine PanicOk.then_ ?_ | with_reducible refine PanicOk.block_ ?_)) (fun hQ => ?_)
        have hw := wrapi_bounds st.n
        have hz := zig_lt _ hw.1 hw.2
        refine RH.pure T_ok hQ [0, 2] (by kernel_rfl) rfl ?_
        refine RH.load T_ok hQ 3 (fun m' hm' => hm'.cell 1 rfl) rfl (by kernel_rfl) rfl rfl rfl rfl ?_
        refine RH.pure T_ok hQ [4] (by kernel_rfl) rfl ?_
        refine RH.only 1 rfl (by kernel_rfl) (fun _ => ?_)
        refine RL.call (fi := []) (ca := []) rfl rfl rfl rfl (rint_c m8 [r] r _ 0 hR8 (by simp)) ?_
        rintro _ m9 ⟨rfl, hR9, hE9⟩
        rw [gR_ok (rdU_back rest (by omega) hz)] at hR9
        refine ⟨_, rfl, ?_⟩
        rw [gR_ok (rdU_back rest (by omega) hz)]
        have hR9 : RAt m9 [r] r rest 0 := hR9
        refine RL.eqv (v' := .int .i64 (IntKind.i64.wrap st.n)) (congrArg _ (unzig_zig _)) ?_
        refine RL.nil (RH.cont (st9 m9 hE9) ?_)
        refine RH.pure T_ok hQ [5] (by kernel_rfl) rfl ?_
        refine RH.eqv (v' := .bool true) (congrArg _ (by simp)) ?_
        refine RH.pure T_ok hQ [6] (by kernel_rfl) rfl ?_
        refine RH.done (by kernel_rfl) (fun _ => ?_)
        exact QN.block_normal (QN.block_normal (QN.cutEnd () (Sub.cons rfl (Sub.cons rfl (Sub.cons rfl (Sub.cons rfl (Sub.cons rfl Sub.nil))))) ⟨hE47.trans hE9 (fun _ hk => .inl hk), hR9⟩))
      repeat (first | with_reducible refine WP.seq ?_ | with_reducible refine WP.block ?_ | with_reducible refine WP.region ?_)
      refine RL.auto T_ok rfl ?_
      refine RL.nil ?_; repeat (first | with_reducible refine QN.block_normal ?_ | with_reducible refine QN.next ?_); repeat (first | with_reducible refine WP.seq ?_ | with_reducible refine WP.block ?_ | with_reducible refine WP.region ?_)
      refine WP.cond rfl (fun n2 => ?_) (fun n2 => ?_)
      · have he : encS st = [UInt8.ofNat st.n] := by unfold encS; rw [if_neg (by simpa using n0), if_neg (by simpa using n1), if_pos (by simpa using n2)]
        rw [he] at hR8
        have hrb : rdByte ([UInt8.ofNat st.n] ++ rest) = .ok (UInt8.ofNat st.n, rest) := rfl
        refine WP.drawQ (fun m' => Blk m' bx 57 (stC st)) [] (by kernel_rfl) hB8 (by repeat (first | with_reducible exact PanicOk.body | with_reducible refine PanicOk.then_ ?_ | with_reducible refine PanicOk.block_ ?_)) (fun hQ => ?_)
        refine RH.pure T_ok hQ [0, 2] (by kernel_rfl) rfl ?_
        refine RH.load T_ok hQ 3 (fun m' hm' => hm'.cell 1 rfl) rfl (by kernel_rfl) rfl rfl rfl rfl ?_
        refine RH.pure T_ok hQ [4] (by kernel_rfl) rfl ?_
        refine RH.eqv (v' := .int .u8 ((UInt8.ofNat st.n).toNat : Int)) (congrArg _ (wrap_u8_nat _)) ?_
        refine RH.only 1 rfl (by kernel_rfl) (fun _ => ?_)
        refine RL.call (fi := []) (ca := []) rfl rfl rfl rfl (rbyte_c m8 [r] r _ 0 hR8 (by simp)) ?_
        rintro _ m9 ⟨rfl, hR9, hE9⟩
        rw [gR_ok hrb] at hR9
        refine ⟨_, rfl, ?_⟩
        rw [gR_ok hrb]
        refine RL.nil (RH.cont (st9 m9 hE9) ?_)
        refine RH.pure T_ok hQ [5] (by kernel_rfl) rfl ?_
        refine RH.eqv (v' := .bool true) (congrArg _ (by simp)) ?_
        refine RH.pure T_ok hQ [6] (by kernel_rfl) rfl ?_
        refine RH.done (by kernel_rfl) (fun _ => ?_)
        exact QN.block_normal (QN.block_normal (QN.cutEnd () (Sub.cons rfl (Sub.cons rfl (Sub.cons rfl (Sub.cons rfl (Sub.cons rfl Sub.nil))))) ⟨hE47.trans hE9 (fun _ hk => .inl hk), hR9⟩))
      repeat (first | with_reducible refine WP.seq ?_ | with_reducible refine WP.block ?_ | with_reducible refine WP.region ?_)
      refine RL.auto T_ok rfl ?_
      refine RL.nil ?_; repeat (first | with_reducible refine QN.block_normal ?_ | with_reducible refine QN.next ?_); repeat (first | with_reducible refine WP.seq ?_ | with_reducible refine WP.block ?_ | with_reducible refine WP.region ?_)
      refine WP.cond rfl (fun n3 => ?_) (fun n3 => ?_)
      · have he : encS st = enc8 st.n 8 := by unfold encS; rw [if_neg (by simpa using n0), if_neg (by simpa using n1), if_neg (by simpa using n2), if_pos (by simpa using n3)]
        rw [he] at hR8
        refine WP.drawQ (fun m' => Blk m' bx 57 (stC st)) [] (by kernel_rfl) hB8 (by repeat (first | with_reducible exact PanicOk.body | with_reducible refine PanicOk.then_ ?_ | with_reducible refine PanicOk.block_ ?_)) (fun hQ => ?_)
        refine RH.pure T_ok hQ [0, 2] (by kernel_rfl) rfl ?_
        refine RH.load T_ok hQ 3 (fun m' hm' => hm'.cell 1 rfl) rfl (by kernel_rfl) rfl rfl rfl rfl ?_
        refine RH.only 1 rfl (by kernel_rfl) (fun _ => ?_)
        refine RL.call (fi := []) (ca := []) rfl rfl rfl rfl (rfixed_c m8 [r] r _ 0 hR8 (by simp)) ?_
        rintro _ m9 ⟨rfl, hR9, hE9⟩
        rw [gR_ok (rdFixed_back hsn rest)] at hR9
        refine ⟨_, rfl, ?_⟩
        rw [gR_ok (rdFixed_back hsn rest)]
        refine RL.nil (RH.cont (st9 m9 hE9) ?_)
        refine RH.pure T_ok hQ [4] (by kernel_rfl) rfl ?_
        refine RH.eqv (v' := .bool true) (congrArg _ (by simp)) ?_
        refine RH.pure T_ok hQ [5] (by kernel_rfl) rfl ?_
        refine RH.done (by kernel_rfl) (fun _ => ?_)
        exact QN.block_normal (QN.block_normal (QN.cutEnd () (Sub.cons rfl (Sub.cons rfl (Sub.cons rfl (Sub.cons rfl (Sub.cons rfl Sub.nil))))) ⟨hE47.trans hE9 (fun _ hk => .inl hk), hR9⟩))
      repeat (first | with_reducible refine WP.seq ?_ | with_reducible refine WP.block ?_ | with_reducible refine WP.region ?_)
      refine RL.auto T_ok rfl ?_
      refine RL.nil ?_; repeat (first | with_reducible refine QN.block_normal ?_ | with_reducible refine QN.next ?_); repeat (first | with_reducible refine WP.seq ?_ | with_reducible refine WP.block ?_ | with_reducible refine WP.region ?_)
      refine WP.cond rfl (fun n4 => ?_) (fun n4 => ?_)
      · have he : encS st = encU st.s.length ++ st.s := by unfold encS; rw [if_neg (by simpa using n0), if_neg (by simpa using n1), if_neg (by simpa using n2), if_neg (by simpa using n3), if_pos (by simpa using n4)]
        rw [he] at hR8
        refine WP.drawQ (fun m' => Blk m' bx 57 (stC st)) [] (by kernel_rfl) hB8 (by repeat (first | with_reducible exact PanicOk.body | with_reducible refine PanicOk.then_ ?_ | with_reducible refine PanicOk.block_ ?_)) (fun hQ => ?_)
        have hsz : (str st.s).size = st.s.length := by show st.s.toArray.size = _; simp
        have hrl : (encU st.s.length ++ st.s ++ rest).length < 1000000000 := by rw [he] at hlr; simp at hlr ⊢; omega
        refine RH.pure T_ok hQ [0, 1] (by kernel_rfl) rfl ?_
        refine RH.load T_ok hQ 2 (fun m' hm' => hm'.cell 2 rfl) rfl (by kernel_rfl) rfl rfl rfl rfl ?_
        refine RH.pure T_ok hQ [3] (by kernel_rfl) rfl ?_
        refine RH.eqv (v' := .int .i64 ((st.s.length : Nat) : Int)) (by rw [hsz]) ?_
        refine RH.pure T_ok hQ [5] (by kernel_rfl) rfl ?_
        refine RH.load T_ok hQ 6 (fun m' hm' => hm'.cell 2 rfl) rfl (by kernel_rfl) rfl rfl rfl rfl ?_
        refine RH.only 4 rfl (by kernel_rfl) (fun _ => ?_)
        refine RL.call (fi := []) (ca := []) rfl rfl rfl rfl (rtext_c m8 [r] r _ 0 hR8 (by simp) hrl ((st.s.length : Nat) : Int) (by omega) (by omega)) ?_
        rintro _ m9 ⟨rfl, hR9, hE9⟩
        rw [Int.toNat_natCast, gR_ok (rdText_back (by omega) rest)] at hR9
        refine ⟨_, rfl, ?_⟩
        rw [Int.toNat_natCast, gR_ok (rdText_back (by omega) rest)]
        refine RL.nil (RH.cont (st9 m9 hE9) ?_)
        refine RH.pure T_ok hQ [7] (by kernel_rfl) rfl ?_
        refine RH.eqv (v' := .bool true) (congrArg _ (by simp)) ?_
        refine RH.pure T_ok hQ [8] (by kernel_rfl) rfl ?_
        refine RH.done (by kernel_rfl) (fun _ => ?_)
        exact QN.block_normal (QN.block_normal (QN.cutEnd () (Sub.cons rfl (Sub.cons rfl (Sub.cons rfl (Sub.cons rfl (Sub.cons rfl Sub.nil))))) ⟨hE47.trans hE9 (fun _ hk => .inl hk), hR9⟩))
      have he : encS st = [] := by unfold encS; rw [if_neg (by simpa using n0), if_neg (by simpa using n1), if_neg (by simpa using n2), if_neg (by simpa using n3), if_neg (by simpa using n4)]
      rw [he] at hR8
      refine WP.skip (QN.block_normal (QN.block_normal (QN.cutEnd () (Sub.cons rfl (Sub.cons rfl (Sub.cons rfl (Sub.cons rfl (Sub.cons rfl Sub.nil))))) ⟨hE47, hR8⟩)))
    rintro _ m8 ⟨hE8, hR8⟩
    repeat (first | with_reducible refine WP.seq ?_ | with_reducible refine WP.block ?_ | with_reducible refine WP.region ?_)
    refine RL.auto T_ok rfl ?_
    refine RL.nil (QN.round (k + 1) ?_ ⟨by omega, hE8, by rw [hrest]; exact hR8⟩ (by omega))
    refine Sub.cons rfl (Sub.cons rfl (Sub.cons rfl (Sub.cons rfl (Sub.cons ?_ Sub.nil))))
    show some (Value.int .i64 (IntKind.i64.wrap ((k : Int) + 1))) = some (Value.int .i64 ((k + 1 : Nat) : Int))
    rw [wrap_i64_in _ (by omega) (by omega)]; rfl
  · have hkl : k = l.length := by omega
    subst hkl
    refine RL.pure T_ok 4 rfl ?_
    refine RL.eqv (v' := .bool false) (congrArg _ (decide_eq_false (by omega))) ?_
    refine RL.auto T_ok rfl ?_
    refine RL.nil ?_; repeat (first | with_reducible refine QN.block_normal ?_ | with_reducible refine QN.next ?_); repeat (first | with_reducible refine WP.seq ?_ | with_reducible refine WP.block ?_ | with_reducible refine WP.region ?_)
    refine WP.condF rfl ?_
    rw [List.drop_length] at hR7
    have hR7 : RAt m7 [r] r mo 0 := hR7
    refine WP.exit ?_; repeat (first | with_reducible refine QN.then_exit ?_ | with_reducible refine QN.block_exit ?_ | with_reducible refine QN.block_far rfl ?_ | with_reducible refine QN.block_normal ?_ | with_reducible refine QN.next ?_); repeat (first | with_reducible refine WP.seq ?_ | with_reducible refine WP.block ?_ | with_reducible refine WP.region ?_)
    refine RL.auto T_ok rfl ?_
    refine RL.call (fi := []) (ca := []) rfl rfl rfl rfl (left_c m7 [r] r mo 0 hR7) ?_
    rintro _ m8 ⟨rfl, rfl⟩
    refine ⟨_, rfl, ?_⟩
    refine RL.pure T_ok 3 rfl ?_
    refine RL.eqv (v' := .bool true) (congrArg _ (by simp)) ?_
    refine RL.auto T_ok rfl ?_
    refine RL.call (fi := []) (ca := []) rfl rfl rfl rfl (err_c m8 [r] r mo 0 hR7) ?_
    rintro _ m9 ⟨rfl, rfl⟩
    refine ⟨_, rfl, ?_⟩
    refine RL.auto T_ok rfl ?_
    refine RL.nil ?_; repeat (first | with_reducible refine QN.block_normal ?_ | with_reducible refine QN.next ?_); repeat (first | with_reducible refine WP.seq ?_ | with_reducible refine WP.block ?_ | with_reducible refine WP.region ?_)
    refine WP.ret ?_; repeat (first | with_reducible refine QN.then_ret ?_ | with_reducible refine QN.block_ret ?_)
    exact QN.ret1 rfl rfl ⟨_, rfl, rfl, hE06.trans hE7 hrm⟩
set_option maxRecDepth 100000 in
theorem back_lifted (os : Os) (started : os.Started) (H : Type) (enc : TypeId × Value → H) :
    ReturnsInHanded {} Try.checked os 8 .any (Rows.wireBackSpec.pre6 enc Try.prog Try.f8 Rows.wireBackRow.domain false) (Rows.wireBackSpec.post enc Try.prog Try.f8 false true false false) := by
  refine law_lift (tb := 4) own started (by kernel_rfl) Try.func8
    (ChangeSpec.witness6 (enc := enc) (C := Try.checked) false ⟨#[], #[.slice none 0 0, .slice none 0 0], []⟩ 8 (by kernel_rfl) (by kernel_rfl) (by kernel_rfl) (by kernel_rfl))
    laidOut (by kernel_rfl) rfl (und 4 rfl rfl) rfl (fun ds h => by
      match ds, h with
      | [_, _], _ => exact ⟨rfl, rfl, rfl⟩) ?_
  intro W base args ds p hval hA hw
  rw [Try.params8] at hA hval hw
  obtain ⟨v0, v1, d0, d1, p0, p1, rfl, rfl, rfl, h0, h1⟩ := trodAll_two hA
  obtain ⟨l, hl, hg⟩ := open_steps (hval 0 48 v0 rfl rfl) (Fit.arg hw 0 rfl rfl) h0
  obtain ⟨mo, hm⟩ := open_bytes (und 29 rfl rfl) (und 5 rfl rfl) (cellsOf 5 rfl rfl) (hval 1 29 v1 rfl rfl) (Fit.arg hw 1 rfl rfl) h1
  exact back_c W v0 v1 l mo hl hg hm
theorem wireBack_holds : Rows.WireBackSaid :=
  OpenClaim.holds_of_wide 8 Try.f8 rfl rfl rfl rfl rfl rfl rfl ⟨rfl, rfl, rfl, rfl, rfl⟩ rfl rfl rfl rfl rfl (by kernel_rfl) Try.func8 (by kernel_rfl)
    (of_decide_eq_true (by kernel_rfl)) (by unfold Func.isWrapper; first | (rw [if_pos (by decide +kernel)]; kernel_rfl) | (rw [if_neg (by decide +kernel)]; exact ⟨rfl, rfl⟩))
    (fun os started H enc _ => back_lifted os started H enc)
end Go.Proofs.Ytaogoblckkmkgaa
