/- WireReads, walked: it answers true. -/
import Derived.Test.YtaogoblckkmkgaaWireA
import Derived.Test.YtaogoblckkmkgaaWireG
import Derived.Test.YtaogoblckkmkgaaWireD
namespace Go.Proofs.Ytaogoblckkmkgaa
open Go.RowKit Go.Ev

theorem gR_le {α : Type} (z : α) (e : Int) (l : List UInt8) (r : Except Int (α × List UInt8)) (h : ∀ a l', r = .ok (a, l') → l'.length ≤ l.length) : (gR z e l r).2.1.length ≤ l.length := by
  unfold gR
  split
  · split
    · rename_i a l' ; exact h a l' rfl
    · exact Nat.le_refl _
  · exact Nat.le_refl _
theorem rdU_le {most : Nat} {l l' : List UInt8} {a : Nat} (h : rdU most 0 0 l = .ok (a, l')) : l'.length ≤ l.length := Nat.le_of_lt (rdU_most _ _ _ _ _ _ h).2
theorem rdByte_le {l l' : List UInt8} {a : UInt8} (h : rdByte l = .ok (a, l')) : l'.length ≤ l.length := by
  cases l with
  | nil => cases h
  | cons b l => injection h with h; injection h with h1 h2; subst h2; simp
theorem rdFixed_le {l l' : List UInt8} {a : Nat} (h : rdFixed l = .ok (a, l')) : l'.length ≤ l.length := by
  unfold rdFixed at h
  split at h
  · injection h with h; injection h with h1 h2; subst h2; simp
  · cases h
theorem rdText_le {most : Nat} {l l' a : List UInt8} (h : rdText most l = .ok (a, l')) : l'.length ≤ l.length := by
  unfold rdText at h
  split at h
  · cases h
  · rename_i n l2 hr
    split at h
    · injection h with h; injection h with h1 h2; subst h2
      have := rdU_le hr
      simp; omega
    · cases h
/-- Both readers, at the same place. -/
def Two (m : World) (M : List Nat) (r s : Nat) (x : List UInt8 × Int) : Prop := RAt m M r x.1 x.2 ∧ QAt m M s x.1 x.2 ∧ x.1.length ≤ 4000
theorem Two.step {m m1 m2 : World} {M : List Nat} {r s : Nat} {α : Type} {z : α} {e : Int} {l : List UInt8} {rd : Except Int (α × List UInt8)} (h : Two m M r s (l, e)) (hrs : r ≠ s) (hs : s ∈ M)
    (h1 : RAt m1 M r (gR z e l rd).2.1 (gR z e l rd).2.2) (h2 : QAt m2 M s (gR z e l rd).2.1 (gR z e l rd).2.2) (hE2 : Ext m1 [s] m2) (hle : ∀ a l', rd = .ok (a, l') → l'.length ≤ l.length) :
    Two m2 M r s (gR z e l rd).2 :=
  ⟨h1.ext hE2 (by simpa using hrs) (fun k hk _ => by have h9 : k = s := (by simpa using hk); rw [h9]; exact hs) (fun _ hk => .inl hk), h2, Nat.le_trans (gR_le z e l rd hle) h.2.2⟩
theorem Two.other {m m1 : World} {M : List Nat} {r s : Nat} {l : List UInt8} {e : Int} (h : Two m M r s (l, e)) (hrs : r ≠ s) (hr : r ∈ M) (hE1 : Ext m [r] m1) : QAt m1 M s l e :=
  h.2.1.ext hE1 (by simp; exact fun hh => hrs hh.symm) (fun k hk _ => by have h9 : k = r := (by simpa using hk); rw [h9]; exact hr) (fun _ hk => .inl hk)
theorem wrapi_bounds (x : Int) : -9223372036854775808 ≤ IntKind.i64.wrap x ∧ IntKind.i64.wrap x ≤ 9223372036854775807 := by
  rw [wrap_i64]; split <;> omega
set_option maxRecDepth 4000 in
set_option maxHeartbeats 400000 in
theorem reads_c (m : World) (v w : Value) (bs : List UInt8) (l : List Stp) (h : Bs m [] v bs) (hl : Sts m [] w l) : FnR Try.prog 7 [v, w] m fun r m' => r = .bool true ∧ Ext m [] m' := by
  obtain ⟨A, c, rfl, hlc, _⟩ := h.shape
  obtain ⟨A', c', rfl, hlc', hcm'⟩ := hl.shape
  have hlm : l.length ≤ 9223372036854775807 := by unfold maxLen at hcm'; omega
  refine FnE.enter ⟨_, Try.func7, by kernel_rfl, by kernel_rfl⟩ Try.func7 rfl rfl ?_
  repeat (first | with_reducible refine WP.seq ?_ | with_reducible refine WP.block ?_ | with_reducible refine WP.region ?_)
  refine RL.auto T_ok rfl ?_
  refine RL.nil ?_; repeat (first | with_reducible refine QN.block_normal ?_ | with_reducible refine QN.next ?_); repeat (first | with_reducible refine WP.seq ?_ | with_reducible refine WP.block ?_ | with_reducible refine WP.region ?_)
  refine RL.call (fi := []) (ca := []) rfl rfl rfl rfl (known_c m) ?_
  rintro _ m1 ⟨rfl, hE1⟩
  refine ⟨_, rfl, ?_⟩
  have h1 := grow h hE1 (M' := []) (by simp) (by simp)
  have hl1 : Sts m1 [] _ l := Sl.ext hl hE1 (by simp) (by omega)
  refine RL.auto T_ok rfl ?_
  refine RL.nil ?_; repeat (first | with_reducible refine QN.block_normal ?_ | with_reducible refine QN.next ?_); repeat (first | with_reducible refine WP.seq ?_ | with_reducible refine WP.block ?_ | with_reducible refine WP.region ?_)
  refine WP.condF rfl ?_
  refine WP.skip ?_; repeat (first | with_reducible refine QN.block_normal ?_ | with_reducible refine QN.next ?_); repeat (first | with_reducible refine WP.seq ?_ | with_reducible refine WP.block ?_ | with_reducible refine WP.region ?_)
  by_cases hb : bs.length > 4000
  · refine RL.pure T_ok 3 rfl ?_
    refine RL.eqv (v' := .bool true) (congrArg _ (decide_eq_true (by omega))) ?_
    refine RL.auto T_ok rfl ?_
    refine RL.nil ?_; repeat (first | with_reducible refine QN.block_normal ?_ | with_reducible refine QN.next ?_); repeat (first | with_reducible refine WP.seq ?_ | with_reducible refine WP.block ?_ | with_reducible refine WP.region ?_)
    refine WP.condT rfl ?_
    repeat (first | with_reducible refine WP.seq ?_ | with_reducible refine WP.block ?_ | with_reducible refine WP.region ?_)
    refine RL.auto T_ok rfl ?_
    refine RL.nil ?_; repeat (first | with_reducible refine QN.block_normal ?_ | with_reducible refine QN.next ?_); repeat (first | with_reducible refine WP.seq ?_ | with_reducible refine WP.block ?_ | with_reducible refine WP.region ?_)
    refine WP.ret ?_; repeat (first | with_reducible refine QN.then_ret ?_ | with_reducible refine QN.block_ret ?_)
    exact QN.ret1 rfl rfl ⟨_, rfl, rfl, hE1⟩
  refine RL.pure T_ok 3 rfl ?_
  refine RL.eqv (v' := .bool false) (congrArg _ (decide_eq_false (by omega))) ?_
  refine RL.auto T_ok rfl ?_
  refine RL.call (fi := []) (ca := []) rfl rfl rfl rfl (light_c m1 [] _ l hl1) ?_
  rintro _ m1' ⟨⟨q, rfl⟩, rfl⟩
  refine ⟨_, rfl, ?_⟩
  cases q
  · refine RL.auto T_ok rfl ?_
    refine RL.nil ?_; repeat (first | with_reducible refine QN.block_normal ?_ | with_reducible refine QN.next ?_); repeat (first | with_reducible refine WP.seq ?_ | with_reducible refine WP.block ?_ | with_reducible refine WP.region ?_)
    refine WP.condT rfl ?_
    repeat (first | with_reducible refine WP.seq ?_ | with_reducible refine WP.block ?_ | with_reducible refine WP.region ?_)
    refine RL.auto T_ok rfl ?_
    refine RL.nil ?_; repeat (first | with_reducible refine QN.block_normal ?_ | with_reducible refine QN.next ?_); repeat (first | with_reducible refine WP.seq ?_ | with_reducible refine WP.block ?_ | with_reducible refine WP.region ?_)
    refine WP.ret ?_; repeat (first | with_reducible refine QN.then_ret ?_ | with_reducible refine QN.block_ret ?_)
    exact QN.ret1 rfl rfl ⟨_, rfl, rfl, hE1⟩
  refine RL.auto T_ok rfl ?_
  refine RL.nil ?_; repeat (first | with_reducible refine QN.block_normal ?_ | with_reducible refine QN.next ?_); repeat (first | with_reducible refine WP.seq ?_ | with_reducible refine WP.block ?_ | with_reducible refine WP.region ?_)
  refine WP.condF rfl ?_
  refine WP.skip ?_; repeat (first | with_reducible refine QN.block_normal ?_ | with_reducible refine QN.next ?_); repeat (first | with_reducible refine WP.seq ?_ | with_reducible refine WP.block ?_ | with_reducible refine WP.region ?_)
  refine RL.auto T_ok rfl ?_
  refine RL.call (fi := []) (ca := []) rfl rfl rfl rfl (copy_c m1' [] _ bs h1 (by omega)) ?_
  rintro u m2 ⟨S2, hO2, hN2⟩
  have hI2 : Bs m2 [] u bs := Own.sl hO2 (by simp)
  obtain ⟨A2, c2, rfl, _⟩ := hO2.shape
  refine ⟨_, rfl, ?_⟩
  have h2 := grow h1 hN2.1 (M' := []) (by simp) (by simp)
  have hl2 : Sts m2 [] _ l := Sl.ext hl1 hN2.1 (by simp) (by omega)
  refine RL.auto T_ok rfl ?_
  refine RL.nil ?_; repeat (first | with_reducible refine QN.block_normal ?_ | with_reducible refine QN.next ?_); repeat (first | with_reducible refine WP.seq ?_ | with_reducible refine WP.block ?_ | with_reducible refine WP.region ?_)
  refine RL.auto T_ok rfl ?_
  refine RL.call (fi := []) (ca := []) rfl rfl rfl rfl (newReader_c m2 [] (by simp) _ bs hI2 (by omega)) ?_
  rintro _ m3 ⟨r, rfl, hr, hR3, hE3⟩
  refine ⟨_, rfl, ?_⟩
  have hnew3 : ∀ k ∈ [r], k ∈ ([] : List Nat) ∨ m2.heap.size ≤ k := fun k hk => .inr (by have h9 : k = r := (by simpa using hk); omega)
  have h3 := grow h2 hE3 (M' := [r]) (by simp) hnew3
  have hI3 := grow hI2 hE3 (M' := [r]) (by simp) hnew3
  have hl3 : Sts m3 [r] _ l := Sl.ext hl2 hE3 hnew3 (by omega)
  refine RL.auto T_ok rfl ?_
  refine RL.box rfl rfl (fun s m4 hs hC4 => ⟨_, rfl, ?_⟩)
  have hE4 : Ext m3 [] m4 := hC4.new (by omega)
  have hrs : r ≠ s := by have := hR3.lt; omega
  have hnew4 : ∀ k ∈ [s, r], k ∈ [r] ∨ m3.heap.size ≤ k := fun k hk => by
    rcases List.mem_cons.1 hk with rfl | hk
    · exact .inr (by omega)
    · exact .inl hk
  have hN4 : ∀ k ∈ ([] : List Nat), k < m3.heap.size → k ∈ [r] := by simp
  have h4 := grow h3 hE4 (M' := [s, r]) (by simp) hnew4
  have hI4 := grow hI3 hE4 (M' := [s, r]) (by simp) hnew4
  have hl4 : Sts m4 [s, r] _ l := Sl.ext hl3 (hE4.mono hN4) hnew4 (by omega)
  have hR4 : RAt m4 [s, r] r bs 0 := hR3.ext hE4 (by simp) hN4 hnew4
  have hQ4 : QAt m4 [s, r] s bs 0 := ⟨_, hC4.here, h4⟩
  refine RL.auto T_ok rfl ?_
  refine RL.nil ?_; repeat (first | with_reducible refine QN.block_normal ?_ | with_reducible refine QN.next ?_); repeat (first | with_reducible refine WP.seq ?_ | with_reducible refine WP.block ?_ | with_reducible refine WP.region ?_)
  refine RL.auto T_ok rfl ?_
  refine RL.nil ?_; repeat (first | with_reducible refine QN.block_normal ?_ | with_reducible refine QN.next ?_); repeat (first | with_reducible refine WP.seq ?_ | with_reducible refine WP.block ?_ | with_reducible refine WP.region ?_)
  have hE0 : Ext m [] m4 := (((hE1.trans hN2.1 (by simp)).trans hE3 (by simp)).trans hE4 (by simp))
  have hge : ∀ k ∈ [s, r], k ∈ ([] : List Nat) ∨ m.heap.size ≤ k := fun k hk => .inr (by
    have e1 := (hE1.trans hN2.1 (by simp)).size
    have e3 := hE3.size
    have e4 := (hE1.trans hN2.1 (by simp)).size
    rcases List.mem_cons.1 hk with rfl | hk
    · omega
    · have h9 : k = r := (by simpa using hk); omega)
  have cellk : ∀ (m' : World), Ext m4 [s, r] m' → Bs m' [s, r] (.slice A2 bs.length c2) bs ∧ Bs m' [s, r] (.slice A bs.length c) bs ∧ Sts m' [s, r] (.slice A' l.length c') l := fun m' hE =>
    ⟨grow hI4 hE (fun _ hk => hk) (fun _ hk => .inl hk), grow h4 hE (fun _ hk => hk) (fun _ hk => .inl hk), Sl.ext hl4 hE (fun _ hk => .inl hk) (by omega)⟩
  refine WP.loop (X := Nat) (fun k => [(0, .slice A bs.length c), (1, .slice A' l.length c'), (5, .slice A2 bs.length c2), (6, .pointer (some ⟨r, 0, none⟩)), (7, .pointer (some ⟨s, 0, none⟩)), (8, .int .i64 k)])
    (fun k m' => k ≤ l.length ∧ Ext m4 [s, r] m' ∧ ∃ x, Two m' [s, r] r s x) (fun k => l.length - k) 0
    (Sub.cons rfl (Sub.cons rfl (Sub.cons rfl (Sub.cons rfl (Sub.cons rfl (Sub.cons rfl Sub.nil)))))) ⟨by simp, Ext.refl _ _, (bs, 0), hR4, hQ4, by simp; omega⟩ ?_
  rintro k m5 ⟨hk, hE5, ⟨lr, e⟩, hT5⟩
  obtain ⟨hI5, h5, hl5⟩ := cellk m5 hE5
  repeat (first | with_reducible refine WP.seq ?_ | with_reducible refine WP.block ?_ | with_reducible refine WP.region ?_)
  refine RL.auto T_ok rfl ?_
  refine RL.nil ?_; repeat (first | with_reducible refine QN.block_normal ?_ | with_reducible refine QN.next ?_); repeat (first | with_reducible refine WP.seq ?_ | with_reducible refine WP.block ?_ | with_reducible refine WP.region ?_)
  refine WP.cond rfl (fun hc => ?_) (fun hc => ?_)
  · have hc : k < l.length := by have := of_decide_eq_true hc; omega
    have hget : ∀ j, j < 3 → (l.flatMap stC)[k * 3 + j]? = (stC l[k])[j]? := fun j hj => stC_get l k hc j hj
    generalize l[k] = st at *
    refine WP.skip ?_; repeat (first | with_reducible refine QN.block_normal ?_ | with_reducible refine QN.next ?_); repeat (first | with_reducible refine WP.seq ?_ | with_reducible refine WP.block ?_ | with_reducible refine WP.region ?_)
    refine RL.auto T_ok rfl ?_
    refine RL.index T_ok (show Sl m5 [s, r] 3 _ _ from hl5) (k := k) rfl hc rfl rfl rfl rfl (fun ad _ _ hcell => ⟨_, rfl, ?_⟩)
    refine RL.loadAgg T_ok (stC st) rfl rfl rfl (fun j u hu => hcell j u ((hget j (by have := (List.getElem?_eq_some_iff.1 hu).1; exact this)).trans hu)) rfl ?_
    refine RL.alloc T_ok rfl rfl (fun bx m6 hbx hC6 => ⟨_, rfl, ?_⟩)
    refine RL.storeAgg (vs := stC st) (i := 0) (k := 3) T_ok hC6.here rfl rfl rfl rfl rfl (by simp) (by simp [stC, Value.oneCell']) rfl ?_
    intro m7 hC7
    have hB7 : Blk m7 bx 57 (stC st) := hC7.here
    have hE7 : Ext m5 [] m7 := (hC6.new (by omega)).trans hC7.ext (fun k hk => .inr (by have h9 : k = bx := (by simpa using hk); omega))
    have hT7 : Two m7 [s, r] r s (lr, e) := ⟨hT5.1.new hE7, hT5.2.1.new hE7, hT5.2.2⟩
    have hE47 : Ext m4 [s, r] m7 := hE5.trans (hE7.mono (M' := [s, r]) (by simp)) (fun _ hk => .inl hk)
    have hbxr : bx ≠ r ∧ bx ≠ s := by have := hT5.1.lt; have := hT5.2.1.lt; omega
    clear hC6 hC7
    refine RL.nil ?_; repeat (first | with_reducible refine QN.block_normal ?_ | with_reducible refine QN.next ?_); repeat (first | with_reducible refine WP.seq ?_ | with_reducible refine WP.block ?_ | with_reducible refine WP.region ?_)
    refine RL.auto T_ok rfl ?_
    refine RL.nil (QN.next ?_)
    refine WP.cut (X := List UInt8 × Int) (fun _ => [(0, .slice A bs.length c), (1, .slice A' l.length c'), (5, .slice A2 bs.length c2), (6, .pointer (some ⟨r, 0, none⟩)), (7, .pointer (some ⟨s, 0, none⟩)), (8, .int .i64 k), (10, .bool true)])
      (fun x m' => Ext m4 [s, r] m' ∧ Two m' [s, r] r s x) ?_ ?_
    · repeat (first | with_reducible refine WP.seq ?_ | with_reducible refine WP.block ?_ | with_reducible refine WP.region ?_)
      refine RL.auto T_ok rfl ?_
      refine RL.load T_ok rfl rfl rfl (hB7.cell 0 rfl) rfl ?_
      refine RL.nil ?_; repeat (first | with_reducible refine QN.block_normal ?_ | with_reducible refine QN.next ?_); repeat (first | with_reducible refine WP.seq ?_ | with_reducible refine WP.block ?_ | with_reducible refine WP.region ?_)
      have fin : ∀ m8 m9, Ext m7 [r] m8 → Ext m8 [s] m9 → Ext m4 [s, r] m9 := fun m8 m9 e1 e2 =>
        (hE47.trans e1 (fun k hk => .inl (by have h9 : k = r := (by simpa using hk); simp [h9]))).trans e2 (fun k hk => .inl (by have h9 : k = s := (by simpa using hk); simp [h9]))
      have st8 : ∀ m8, Ext m7 [r] m8 → Blk m8 bx 57 (stC st) := fun m8 e1 => hB7.ext e1 (by simpa using hbxr.1)
      have st9 : ∀ m8 m9, Ext m7 [r] m8 → Ext m8 [s] m9 → Blk m9 bx 57 (stC st) := fun m8 m9 e1 e2 => (st8 m8 e1).ext e2 (by simpa using hbxr.2)
      refine RL.auto T_ok rfl ?_
      refine RL.nil ?_; repeat (first | with_reducible refine QN.block_normal ?_ | with_reducible refine QN.next ?_); repeat (first | with_reducible refine WP.seq ?_ | with_reducible refine WP.block ?_ | with_reducible refine WP.region ?_)
      refine WP.cond rfl (fun _ => ?_) (fun _ => ?_)
      · refine WP.drawQ (fun m' => Blk m' bx 57 (stC st)) [] (by kernel_rfl) hB7 (by repeat (first | with_reducible exact PanicOk.body | with_reducible refine PanicOk.then_ ?_ | with_reducible refine PanicOk.block_ ?_)) (fun hQ => ?_)
        refine RH.pure T_ok hQ [0, 1] (by kernel_rfl) rfl ?_
        refine RH.load T_ok hQ 2 (fun m' hm' => hm'.cell 1 rfl) rfl (by kernel_rfl) rfl rfl rfl rfl ?_
        refine RH.pure T_ok hQ [4, 5] (by kernel_rfl) rfl ?_
        refine RH.load T_ok hQ 6 (fun m' hm' => hm'.cell 1 rfl) rfl (by kernel_rfl) rfl rfl rfl rfl ?_
        refine RH.only 3 rfl (by kernel_rfl) (fun _ => ?_)
        refine RL.call (fi := []) (ca := []) rfl rfl rfl rfl (ruint_c m7 [s, r] r lr e hT7.1 (by simp) st.n) ?_
        rintro _ m8 ⟨rfl, hR8, hE8⟩
        refine ⟨_, rfl, RL.nil (RH.cont (st8 m8 hE8) ?_)⟩
        refine RH.only 7 rfl (by kernel_rfl) (fun _ => ?_)
        refine RL.call (fi := []) (ca := []) rfl rfl rfl rfl (quint_c m8 [s, r] s lr e (hT7.other hrs (by simp) hE8) (by simp) st.n) ?_
        rintro _ m9 ⟨rfl, hQ9, hE9⟩
        refine ⟨_, rfl, RL.nil (RH.cont (st9 m8 m9 hE8 hE9) ?_)⟩
        refine RH.pure T_ok hQ [8] (by kernel_rfl) rfl ?_
        refine RH.eqv (v' := .bool true) (congrArg _ (by simp)) ?_
        refine RH.pure T_ok hQ [9] (by kernel_rfl) rfl ?_
        refine RH.done (by kernel_rfl) (fun _ => ?_)
        exact QN.block_normal (QN.cutEnd _ (Sub.cons rfl (Sub.cons rfl (Sub.cons rfl (Sub.cons rfl (Sub.cons rfl (Sub.cons rfl (Sub.cons rfl Sub.nil))))))) ⟨fin _ _ hE8 hE9, Two.step hT7 hrs (by simp) hR8 hQ9 hE9 (fun _ _ => rdU_le)⟩)
      repeat (first | with_reducible refine WP.seq ?_ | with_reducible refine WP.block ?_ | with_reducible refine WP.region ?_)
      refine RL.auto T_ok rfl ?_
      refine RL.nil ?_; repeat (first | with_reducible refine QN.block_normal ?_ | with_reducible refine QN.next ?_); repeat (first | with_reducible refine WP.seq ?_ | with_reducible refine WP.block ?_ | with_reducible refine WP.region ?_)
      refine WP.cond rfl (fun _ => ?_) (fun _ => ?_)
      · refine WP.region ?_
        refine RL.auto T_ok rfl ?_
        refine RL.call (fi := []) (ca := []) rfl rfl rfl rfl (rint_c m7 [s, r] r lr e hT7.1 (by simp)) ?_
        rintro _ m8 ⟨rfl, hR8, hE8⟩
        refine ⟨_, rfl, ?_⟩
        refine RL.auto T_ok rfl ?_
        refine RL.call (fi := []) (ca := []) rfl rfl rfl rfl (qint_c m8 [s, r] s lr e (hT7.other hrs (by simp) hE8) (by simp)) ?_
        rintro _ m9 ⟨rfl, hQ9, hE9⟩
        refine ⟨_, rfl, ?_⟩
        refine RL.pure T_ok 1 rfl ?_
        refine RL.eqv (v' := .bool true) (congrArg _ (by simp)) ?_
        refine RL.auto T_ok rfl ?_
        refine RL.nil ?_
        have hX := Two.step (z := 0) (rd := rdU 18446744073709551615 0 0 lr) hT7 hrs (by simp) hR8 hQ9 hE9 (fun _ _ => rdU_le)
        exact QN.block_normal (QN.cutEnd _ (Sub.cons rfl (Sub.cons rfl (Sub.cons rfl (Sub.cons rfl (Sub.cons rfl (Sub.cons rfl (Sub.cons rfl Sub.nil))))))) ⟨fin _ _ hE8 hE9, hX⟩)
      repeat (first | with_reducible refine WP.seq ?_ | with_reducible refine WP.block ?_ | with_reducible refine WP.region ?_)
      refine RL.auto T_ok rfl ?_
      refine RL.nil ?_; repeat (first | with_reducible refine QN.block_normal ?_ | with_reducible refine QN.next ?_); repeat (first | with_reducible refine WP.seq ?_ | with_reducible refine WP.block ?_ | with_reducible refine WP.region ?_)
      refine WP.cond rfl (fun _ => ?_) (fun _ => ?_)
      · refine WP.region ?_
        refine RL.auto T_ok rfl ?_
        refine RL.call (fi := []) (ca := []) rfl rfl rfl rfl (rbyte_c m7 [s, r] r lr e hT7.1 (by simp)) ?_
        rintro _ m8 ⟨rfl, hR8, hE8⟩
        refine ⟨_, rfl, ?_⟩
        refine RL.auto T_ok rfl ?_
        refine RL.call (fi := []) (ca := []) rfl rfl rfl rfl (qbyte_c m8 [s, r] s lr e (hT7.other hrs (by simp) hE8) (by simp)) ?_
        rintro _ m9 ⟨rfl, hQ9, hE9⟩
        refine ⟨_, rfl, ?_⟩
        refine RL.pure T_ok 1 rfl ?_
        refine RL.eqv (v' := .bool true) (congrArg _ (by simp)) ?_
        refine RL.auto T_ok rfl ?_
        refine RL.nil ?_
        exact QN.block_normal (QN.cutEnd _ (Sub.cons rfl (Sub.cons rfl (Sub.cons rfl (Sub.cons rfl (Sub.cons rfl (Sub.cons rfl (Sub.cons rfl Sub.nil))))))) ⟨fin _ _ hE8 hE9, Two.step hT7 hrs (by simp) hR8 hQ9 hE9 (fun _ _ => rdByte_le)⟩)
      repeat (first | with_reducible refine WP.seq ?_ | with_reducible refine WP.block ?_ | with_reducible refine WP.region ?_)
      refine RL.auto T_ok rfl ?_
      refine RL.nil ?_; repeat (first | with_reducible refine QN.block_normal ?_ | with_reducible refine QN.next ?_); repeat (first | with_reducible refine WP.seq ?_ | with_reducible refine WP.block ?_ | with_reducible refine WP.region ?_)
      refine WP.cond rfl (fun _ => ?_) (fun _ => ?_)
      · refine WP.region ?_
        refine RL.auto T_ok rfl ?_
        refine RL.call (fi := []) (ca := []) rfl rfl rfl rfl (rfixed_c m7 [s, r] r lr e hT7.1 (by simp)) ?_
        rintro _ m8 ⟨rfl, hR8, hE8⟩
        refine ⟨_, rfl, ?_⟩
        refine RL.auto T_ok rfl ?_
        refine RL.call (fi := []) (ca := []) rfl rfl rfl rfl (qfixed_c m8 [s, r] s lr e (hT7.other hrs (by simp) hE8) (by simp)) ?_
        rintro _ m9 ⟨rfl, hQ9, hE9⟩
        refine ⟨_, rfl, ?_⟩
        refine RL.pure T_ok 1 rfl ?_
        refine RL.eqv (v' := .bool true) (congrArg _ (by simp)) ?_
        refine RL.auto T_ok rfl ?_
        refine RL.nil ?_
        exact QN.block_normal (QN.cutEnd _ (Sub.cons rfl (Sub.cons rfl (Sub.cons rfl (Sub.cons rfl (Sub.cons rfl (Sub.cons rfl (Sub.cons rfl Sub.nil))))))) ⟨fin _ _ hE8 hE9, Two.step hT7 hrs (by simp) hR8 hQ9 hE9 (fun _ _ => rdFixed_le)⟩)
      repeat (first | with_reducible refine WP.seq ?_ | with_reducible refine WP.block ?_ | with_reducible refine WP.region ?_)
      refine RL.auto T_ok rfl ?_
      refine RL.nil ?_; repeat (first | with_reducible refine QN.block_normal ?_ | with_reducible refine QN.next ?_); repeat (first | with_reducible refine WP.seq ?_ | with_reducible refine WP.block ?_ | with_reducible refine WP.region ?_)
      refine WP.cond rfl (fun _ => ?_) (fun _ => ?_)
      · have hw := wrapi_bounds st.n
        refine WP.drawQ (fun m' => Blk m' bx 57 (stC st)) [] (by kernel_rfl) hB7 (by repeat (first | with_reducible exact PanicOk.body | with_reducible refine PanicOk.then_ ?_ | with_reducible refine PanicOk.block_ ?_)) (fun hQ => ?_)
        refine RH.pure T_ok hQ [0, 1] (by kernel_rfl) rfl ?_
        refine RH.load T_ok hQ 2 (fun m' hm' => hm'.cell 1 rfl) rfl (by kernel_rfl) rfl rfl rfl rfl ?_
        refine RH.pure T_ok hQ [3, 5, 6] (by kernel_rfl) rfl ?_
        refine RH.load T_ok hQ 7 (fun m' hm' => hm'.cell 1 rfl) rfl (by kernel_rfl) rfl rfl rfl rfl ?_
        refine RH.pure T_ok hQ [8] (by kernel_rfl) rfl ?_
        refine RH.only 4 rfl (by kernel_rfl) (fun _ => ?_)
        refine RL.call (fi := []) (ca := []) rfl rfl rfl rfl (rtext_c m7 [s, r] r lr e hT7.1 (by simp) (Nat.lt_of_le_of_lt hT7.2.2 (by omega)) (IntKind.i64.wrap st.n) hw.1 hw.2) ?_
        rintro _ m8 ⟨rfl, hR8, hE8⟩
        refine ⟨_, rfl, RL.nil (RH.cont (st8 m8 hE8) ?_)⟩
        refine RH.only 9 rfl (by kernel_rfl) (fun _ => ?_)
        refine RL.call (fi := []) (ca := []) rfl rfl rfl rfl (qtext_c m8 [s, r] s lr e (hT7.other hrs (by simp) hE8) (by simp) (IntKind.i64.wrap st.n) hw.1 hw.2) ?_
        rintro _ m9 ⟨rfl, hQ9, hE9⟩
        refine ⟨_, rfl, RL.nil (RH.cont (st9 m8 m9 hE8 hE9) ?_)⟩
        refine RH.pure T_ok hQ [10] (by kernel_rfl) rfl ?_
        refine RH.eqv (v' := .bool true) (congrArg _ (by simp)) ?_
        refine RH.pure T_ok hQ [11] (by kernel_rfl) rfl ?_
        refine RH.done (by kernel_rfl) (fun _ => ?_)
        exact QN.block_normal (QN.cutEnd _ (Sub.cons rfl (Sub.cons rfl (Sub.cons rfl (Sub.cons rfl (Sub.cons rfl (Sub.cons rfl (Sub.cons rfl Sub.nil))))))) ⟨fin _ _ hE8 hE9, Two.step hT7 hrs (by simp) hR8 hQ9 hE9 (fun _ _ => rdText_le)⟩)
      refine WP.skip ?_
      exact QN.block_normal (QN.cutEnd (lr, e) (Sub.cons rfl (Sub.cons rfl (Sub.cons rfl (Sub.cons rfl (Sub.cons rfl (Sub.cons rfl (Sub.cons rfl Sub.nil))))))) ⟨hE47, hT7⟩)
    rintro ⟨lr', e'⟩ m8 ⟨hE8, hT8⟩
    obtain ⟨hR8, hQ8, hlen8⟩ := hT8
    have hQ8' := hQ8
    obtain ⟨v8, hB8, hS8⟩ := hQ8
    obtain ⟨A8, c8, rfl, _, _⟩ := hS8.shape
    refine WP.seq ?_
    refine WP.drawQ (fun m' => m' = m8) [] (by kernel_rfl) rfl (by repeat (first | with_reducible exact PanicOk.body | with_reducible refine PanicOk.then_ ?_ | with_reducible refine PanicOk.block_ ?_)) (fun hQ => ?_)
    refine RH.pure T_ok hQ [0, 1, 2, 3, 5, 6, 7] (by kernel_rfl) rfl ?_
    refine RH.load T_ok hQ 8 (fun m' hm' => by rw [hm']; exact hB8.cell 1 rfl) rfl (by kernel_rfl) rfl rfl rfl rfl ?_
    refine RH.only 4 rfl (by kernel_rfl) (fun _ => ?_)
    refine RL.call (fi := []) (ca := []) rfl rfl rfl rfl (err_c m8 [s, r] r lr' e' hR8) ?_
    rintro _ m9 ⟨rfl, rfl⟩
    refine ⟨_, rfl, RL.nil (RH.cont rfl ?_)⟩
    refine RH.pure T_ok hQ [9] (by kernel_rfl) rfl ?_
    refine RH.eqv (v' := .bool false) (congrArg _ (by simp)) ?_
    refine RH.pure T_ok hQ [10, 11, 12, 14, 15, 16] (by kernel_rfl) rfl ?_
    refine RH.load T_ok hQ 17 (fun m' hm' => by rw [hm']; exact hB8.cell 0 rfl) rfl (by kernel_rfl) rfl rfl rfl rfl ?_
    refine RH.pure T_ok hQ [18] (by kernel_rfl) rfl ?_
    refine RH.only 13 rfl (by kernel_rfl) (fun _ => ?_)
    refine RL.call (fi := []) (ca := []) rfl rfl rfl rfl (left_c m9 [s, r] r lr' e' hR8) ?_
    rintro _ m10 ⟨rfl, rfl⟩
    refine ⟨_, rfl, RL.nil (RH.cont rfl ?_)⟩
    refine RH.pure T_ok hQ [19] (by kernel_rfl) rfl ?_
    refine RH.eqv (v' := .bool false) (congrArg _ (by simp)) ?_
    refine RH.pure T_ok hQ [20] (by kernel_rfl) rfl ?_
    refine RH.done (by kernel_rfl) (fun _ => ?_)
    refine QN.next ?_
    refine WP.condF rfl ?_
    refine WP.skip ?_; repeat (first | with_reducible refine QN.block_normal ?_ | with_reducible refine QN.next ?_); repeat (first | with_reducible refine WP.seq ?_ | with_reducible refine WP.block ?_ | with_reducible refine WP.region ?_)
    refine RL.auto T_ok rfl ?_
    refine RL.nil (QN.round (k + 1) ?_ ⟨by omega, hE8, _, hR8, hQ8', hlen8⟩ (by omega))
    refine Sub.cons rfl (Sub.cons rfl (Sub.cons rfl (Sub.cons rfl (Sub.cons rfl (Sub.cons ?_ Sub.nil)))))
    show some (Value.int .i64 (IntKind.i64.wrap ((k : Int) + 1))) = some (Value.int .i64 ((k + 1 : Nat) : Int))
    rw [wrap_i64_in _ (by omega) (by omega)]; rfl
  · have hc : k = l.length := by have := of_decide_eq_false hc; omega
    subst hc
    refine WP.exit ?_; repeat (first | with_reducible refine QN.then_exit ?_ | with_reducible refine QN.block_exit ?_ | with_reducible refine QN.block_far rfl ?_ | with_reducible refine QN.block_normal ?_ | with_reducible refine QN.next ?_); repeat (first | with_reducible refine WP.seq ?_ | with_reducible refine WP.block ?_ | with_reducible refine WP.region ?_)
    refine RL.auto T_ok rfl ?_
    refine RL.call (fi := []) (ca := []) rfl rfl rfl rfl (hbytes_c m5 [s, r] _ _ _ _ hI5 h5) ?_
    rintro _ m6 ⟨rfl, rfl⟩
    refine ⟨_, rfl, ?_⟩
    refine RL.eqv (v' := .bool true) (congrArg _ (by simp)) ?_
    refine RL.auto T_ok rfl ?_
    refine RL.nil ?_; repeat (first | with_reducible refine QN.block_normal ?_ | with_reducible refine QN.next ?_); repeat (first | with_reducible refine WP.seq ?_ | with_reducible refine WP.block ?_ | with_reducible refine WP.region ?_)
    refine WP.ret ?_; repeat (first | with_reducible refine QN.then_ret ?_ | with_reducible refine QN.block_ret ?_)
    exact QN.ret1 rfl rfl ⟨_, rfl, rfl, hE0.trans hE5 hge⟩
end Go.Proofs.Ytaogoblckkmkgaa
