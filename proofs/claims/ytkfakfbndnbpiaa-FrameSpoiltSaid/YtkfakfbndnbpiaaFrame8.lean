/- FrameSpoilt, walked: it answers true. -/
import Derived.Test.YtkfakfbndnbpiaaFrame4
import Derived.Test.YtkfakfbndnbpiaaFlip
namespace Go.Proofs.Ytkfakfbndnbpiaa
open Go.RowKit Go.Ev

theorem set_append_right' {α : Type} (a b : List α) (k : Nat) (y : α) (h : a.length ≤ k) : (a ++ b).set k y = a ++ b.set (k - a.length) y := by
  rw [List.set_append, if_neg (by omega)]
/-- A frame with one other byte behind its length. -/
theorem nextF_spoilt (l : List UInt8) (hl : l.length ≤ 127) (k : Nat) (h1 : 1 ≤ k) (hk : k < (frm l).length) (y : UInt8) (hy : (frm l)[k] ≠ y) :
    (∀ r, nextF ((frm l).set k y ++ r) = .error 11) ∧ ∀ p q, (frm l).set k y = p ++ q → q ≠ [] → nextF p = .error 0 := by
  have he : encU l.length = [UInt8.ofNat l.length] := encU_small (by omega)
  have hf : frm l = encU l.length ++ (l ++ s4 (crc l)) := by simp [frm, List.append_assoc]
  have hel : (encU l.length).length = 1 := by rw [he]; rfl
  have h4 : ∀ x, (s4 x).length = 4 := fun _ => rfl
  have hset : (frm l).set k y = encU l.length ++ (l ++ s4 (crc l)).set (k - 1) y := by rw [hf, set_append_right' _ _ _ _ (by omega), hel]
  have htl : ((l ++ s4 (crc l)).set (k - 1) y).length = l.length + 4 := by simp [h4]
  have hkl : k < l.length + 5 := by rw [frm_len, hel] at hk; omega
  have hget : ∀ (h : k - 1 < (l ++ s4 (crc l)).length), (l ++ s4 (crc l))[k - 1] ≠ y := by
    intro h hh
    apply hy
    have : (frm l)[k]? = (l ++ s4 (crc l))[k - 1]? := by rw [hf, List.getElem?_append_right (by omega), hel]
    rw [List.getElem?_eq_getElem hk, List.getElem?_eq_getElem h] at this
    rw [Option.some.inj this]; exact hh
  refine ⟨fun r => ?_, fun p q h hq => nextF_part (by omega) htl (hset ▸ h) hq⟩
  rw [hset, List.append_assoc, nextF_head (by omega), if_neg (by rw [List.length_append, htl]; omega), if_neg]
  rw [List.take_append_of_le_length (by omega), List.take_append_of_le_length (by omega), List.take_of_length_le (l := (l ++ s4 (crc l)).set (k - 1) y) (i := l.length + 4) (by omega)]
  generalize ht : (l ++ s4 (crc l)).set (k - 1) y = t at *
  intro hfr
  have htk : (t.take l.length).length = l.length := by rw [List.length_take]; omega
  unfold frm at hfr
  rw [htk, List.append_assoc] at hfr
  have hfr := List.append_cancel_left hfr
  have hd : s4 (crc (t.take l.length)) = t.drop l.length := by
    have h9 := List.take_append_drop l.length t
    rw [← h9] at hfr
    rw [List.take_left' htk] at hfr
    exact List.append_cancel_left hfr
  by_cases hkk : k - 1 < l.length
  · have e1 : t = l.set (k - 1) y ++ s4 (crc l) := by rw [← ht, List.set_append, if_pos hkk]
    rw [e1, List.take_left' (by simp), List.drop_left' (by simp)] at hd
    have h9 := s4_inj hd
    refine crc_set l (k - 1) hkk y ?_ h9
    intro hh
    have := hget (by simp [h4]; omega)
    rw [List.getElem_append_left hkk] at this
    exact this hh
  · have e1 : t = l ++ (s4 (crc l)).set (k - 1 - l.length) y := by rw [← ht, set_append_right' _ _ _ _ (by omega)]
    rw [e1, List.take_left, List.drop_left] at hd
    have hj : k - 1 - l.length < (s4 (crc l)).length := by rw [h4]; omega
    have h9 := hget (by simp [h4]; omega)
    rw [List.getElem_append_right (by omega)] at h9
    apply h9
    have h8 := congrArg (fun z => z[k - 1 - l.length]?) hd
    simp only [List.getElem?_set_self hj, List.getElem?_eq_getElem hj] at h8
    exact Option.some.inj h8
theorem Bss.take {m : World} {A : Option Addr} {n c : Nat} {ls : List (List UInt8)} (h : Bss m (.slice A n c) ls) (k : Nat) (hk : k ≤ ls.length) : Bss m (.slice A k c) (ls.take k) := by
  obtain ⟨us, h1, h2, h3⟩ := h
  obtain ⟨hl, hnc, _⟩ := h1.len
  refine ⟨us.take k, ?_, by simp [h2], fun i u l hu hx => ?_⟩
  · have := Sl.upto h1 (l := k) (k := c) (by omega) (by omega) (Nat.le_refl _)
    rwa [Nat.mul_one] at this
  · rw [List.getElem?_take] at hu hx
    split at hu
    · rename_i hi
      rw [if_pos hi] at hx
      exact h3 i u l hu hx
    · cases hu
theorem getD_at (x : List UInt8) (k : Nat) (h : k < x.length) : x.getD k 0 = x[k] := by simp [List.getD_eq_getElem?_getD, h]
/-- What the spoilt frame is: one bit, at a place behind the length. -/
def spAt (a : Int) (x : List UInt8) : Nat := 1 + (a % ((x.length - 1 : Nat) : Int)).toNat
def sp (a : Int) (q : Nat) (x : List UInt8) : List UInt8 := x.set (spAt a x) (flip8 (x.getD (spAt a x) 0) q)
theorem spAt_lt (a : Int) (x : List UInt8) (h : 1 < x.length) : 1 ≤ spAt a x ∧ spAt a x < x.length := by
  unfold spAt
  have h1 := Int.emod_nonneg a (b := ((x.length - 1 : Nat) : Int)) (by omega)
  have h2 := Int.emod_lt_of_pos a (b := ((x.length - 1 : Nat) : Int)) (by omega)
  omega
set_option maxRecDepth 4000 in
set_option maxHeartbeats 1000000 in
theorem spoilt_c (m : World) (v : Value) (ls : List (List UInt8)) (h : Bss m v ls) (which a : Int) (bit : UInt8) :
    FnR Try.prog 4 [v, .int .i64 which, .int .i64 a, .int .u8 bit.toNat] m fun r m' => r = .bool true ∧ Ext m [] m' := by
  obtain ⟨A, c, rfl, _, _⟩ := h.shape
  refine FnE.enter ⟨_, Try.func4, by kernel_rfl, by kernel_rfl⟩ Try.func4 rfl rfl ?_
  repeat (first | with_reducible refine WP.seq ?_ | with_reducible refine WP.block ?_ | with_reducible refine WP.region ?_)
  refine RL.auto T_ok rfl ?_
  refine RL.nil ?_; repeat (first | with_reducible refine QN.block_normal ?_ | with_reducible refine QN.next ?_); repeat (first | with_reducible refine WP.seq ?_ | with_reducible refine WP.block ?_ | with_reducible refine WP.region ?_)
  refine RL.call (fi := []) (ca := []) rfl rfl rfl rfl (fknown_c m) ?_
  rintro _ m1 ⟨rfl, hE1⟩
  refine ⟨_, rfl, ?_⟩
  refine RL.auto T_ok rfl ?_
  refine RL.nil ?_; repeat (first | with_reducible refine QN.block_normal ?_ | with_reducible refine QN.next ?_); repeat (first | with_reducible refine WP.seq ?_ | with_reducible refine WP.block ?_ | with_reducible refine WP.region ?_)
  refine WP.condF rfl ?_
  refine WP.skip ?_; repeat (first | with_reducible refine QN.block_normal ?_ | with_reducible refine QN.next ?_); repeat (first | with_reducible refine WP.seq ?_ | with_reducible refine WP.block ?_ | with_reducible refine WP.region ?_)
  by_cases hl : ls.length ≤ 20 ∧ ls.length ≠ 0
  rotate_left
  · by_cases hl2 : 20 < ls.length
    · refine RL.pure T_ok 3 rfl ?_
      refine RL.eqv (v' := .bool true) (congrArg _ (decide_eq_true (by omega))) ?_
      refine RL.auto T_ok rfl ?_
      refine RL.nil ?_; repeat (first | with_reducible refine QN.block_normal ?_ | with_reducible refine QN.next ?_); repeat (first | with_reducible refine WP.seq ?_ | with_reducible refine WP.block ?_ | with_reducible refine WP.region ?_)
      refine WP.condT rfl ?_
      repeat (first | with_reducible refine WP.seq ?_ | with_reducible refine WP.block ?_ | with_reducible refine WP.region ?_)
      refine RL.auto T_ok rfl ?_
      refine RL.nil ?_; repeat (first | with_reducible refine QN.block_normal ?_ | with_reducible refine QN.next ?_); repeat (first | with_reducible refine WP.seq ?_ | with_reducible refine WP.block ?_ | with_reducible refine WP.region ?_)
      refine WP.ret ?_; repeat (first | with_reducible refine QN.then_ret ?_ | with_reducible refine QN.block_ret ?_)
      exact QN.ret1 rfl rfl ⟨_, rfl, rfl, hE1⟩
    · have h0 : ls.length = 0 := by omega
      refine RL.pure T_ok 3 rfl ?_
      refine RL.eqv (v' := .bool false) (congrArg _ (decide_eq_false (by omega))) ?_
      refine RL.pure T_ok 4 rfl ?_
      refine RL.eqv (v' := .bool true) (congrArg _ (by rw [h0]; rfl)) ?_
      refine RL.auto T_ok rfl ?_
      refine RL.nil ?_; repeat (first | with_reducible refine QN.block_normal ?_ | with_reducible refine QN.next ?_); repeat (first | with_reducible refine WP.seq ?_ | with_reducible refine WP.block ?_ | with_reducible refine WP.region ?_)
      refine WP.condT rfl ?_
      repeat (first | with_reducible refine WP.seq ?_ | with_reducible refine WP.block ?_ | with_reducible refine WP.region ?_)
      refine RL.auto T_ok rfl ?_
      refine RL.nil ?_; repeat (first | with_reducible refine QN.block_normal ?_ | with_reducible refine QN.next ?_); repeat (first | with_reducible refine WP.seq ?_ | with_reducible refine WP.block ?_ | with_reducible refine WP.region ?_)
      refine WP.ret ?_; repeat (first | with_reducible refine QN.then_ret ?_ | with_reducible refine QN.block_ret ?_)
      exact QN.ret1 rfl rfl ⟨_, rfl, rfl, hE1⟩
  obtain ⟨hl, hl0⟩ := hl
  refine RL.pure T_ok 3 rfl ?_
  refine RL.eqv (v' := .bool false) (congrArg _ (decide_eq_false (by omega))) ?_
  refine RL.pure T_ok 4 rfl ?_
  refine RL.eqv (v' := .bool false) (congrArg _ (by simp; intro h9; exact hl0 (by simp [h9]))) ?_
  refine RL.auto T_ok rfl ?_
  refine RL.nil ?_; repeat (first | with_reducible refine QN.block_normal ?_ | with_reducible refine QN.next ?_); repeat (first | with_reducible refine WP.seq ?_ | with_reducible refine WP.block ?_ | with_reducible refine WP.region ?_)
  refine WP.condF rfl ?_
  refine WP.skip ?_; repeat (first | with_reducible refine QN.block_normal ?_ | with_reducible refine QN.next ?_); repeat (first | with_reducible refine WP.seq ?_ | with_reducible refine WP.block ?_ | with_reducible refine WP.region ?_)
  refine RL.auto T_ok rfl ?_
  obtain ⟨nn, hnn⟩ : ∃ nn, ls.length = nn + 1 := ⟨ls.length - 1, by omega⟩
  refine RL.call (fi := []) (ca := []) rfl rfl rfl rfl (by rw [hnn]; exact place_c m1 which nn (by omega)) ?_
  rintro _ m2 ⟨rfl, rfl⟩
  refine ⟨_, rfl, ?_⟩
  have hk1 := Int.emod_nonneg which (b := ((nn + 1 : Nat) : Int)) (by omega)
  have hk2 := Int.emod_lt_of_pos which (b := ((nn + 1 : Nat) : Int)) (by omega)
  obtain ⟨w, hw⟩ : ∃ w : Nat, which % ((nn + 1 : Nat) : Int) = (w : Int) := ⟨(which % ((nn + 1 : Nat) : Int)).toNat, by omega⟩
  have hwl : w < ls.length := by omega
  rw [hw]
  clear hk1 hk2 hw hnn
  refine RL.auto T_ok rfl ?_
  refine RL.nil ?_; repeat (first | with_reducible refine QN.block_normal ?_ | with_reducible refine QN.next ?_); repeat (first | with_reducible refine WP.seq ?_ | with_reducible refine WP.block ?_ | with_reducible refine WP.region ?_)
  refine RL.auto T_ok rfl ?_
  refine RL.nil ?_; repeat (first | with_reducible refine QN.block_normal ?_ | with_reducible refine QN.next ?_); repeat (first | with_reducible refine WP.seq ?_ | with_reducible refine WP.block ?_ | with_reducible refine WP.region ?_)
  refine RL.auto T_ok rfl ?_
  refine RL.nil ?_; repeat (first | with_reducible refine QN.block_normal ?_ | with_reducible refine QN.next ?_); repeat (first | with_reducible refine WP.seq ?_ | with_reducible refine WP.block ?_ | with_reducible refine WP.region ?_)
  refine WP.loop (X := Nat × List Nat × Value × List UInt8) (fun (i, So, bv, b) => [(0, .slice A ls.length c), (1, .int .i64 w), (2, .int .i64 a), (3, .int .u8 bit.toNat), (9, bv), (10, .int .i64 i)])
    (fun (i, So, bv, b) m' => i ≤ ls.length ∧ Ext m [] m' ∧ (∀ k ∈ So, m.heap.size ≤ k) ∧ (∀ x ∈ ls.take i, x.length ≤ 100) ∧ b.length ≤ i * 200 ∧ Own m' So 5 1 bv b.length (u8s b) ∧
      (i ≤ w → b = (ls.take i).flatMap frm) ∧ (w < i → ∃ s', b = (ls.take w).flatMap frm ++ (sp a (bit.toNat % 8) (frm ls[w]) ++ s'))) (fun (i, So, bv, b) => ls.length - i) (0, [], .slice none 0 0, [])
    (Sub.cons rfl (Sub.cons rfl (Sub.cons rfl (Sub.cons rfl (Sub.cons rfl (Sub.cons rfl Sub.nil)))))) ⟨by simp, hE1, by simp, by simp, by simp, Own.empty _ _ _ _, fun _ => rfl, fun h => absurd h (by omega)⟩ ?_
  rintro ⟨i, So, bv, b⟩ m3 ⟨hi, hE3, hSo, hle, hbl, hO, hC1, hC2⟩
  have h3 := h.ext hE3
  repeat (first | with_reducible refine WP.seq ?_ | with_reducible refine WP.block ?_ | with_reducible refine WP.region ?_)
  refine RL.auto T_ok rfl ?_
  refine RL.nil ?_; repeat (first | with_reducible refine QN.block_normal ?_ | with_reducible refine QN.next ?_); repeat (first | with_reducible refine WP.seq ?_ | with_reducible refine WP.block ?_ | with_reducible refine WP.region ?_)
  refine WP.cond rfl (fun hc => ?_) (fun hc => ?_)
  rotate_left
  · have hc : i = ls.length := by have := of_decide_eq_false hc; omega
    subst hc
    rw [List.take_length] at hle
    obtain ⟨s', hs'⟩ := hC2 hwl
    subst hs'
    refine WP.exit ?_; repeat (first | with_reducible refine QN.then_exit ?_ | with_reducible refine QN.block_exit ?_ | with_reducible refine QN.block_far rfl ?_ | with_reducible refine QN.block_normal ?_ | with_reducible refine QN.next ?_); repeat (first | with_reducible refine WP.seq ?_ | with_reducible refine WP.block ?_ | with_reducible refine WP.region ?_)
    refine RL.auto T_ok rfl ?_
    have hwlen : (ls[w]).length ≤ 100 := hle _ (List.getElem_mem _)
    have hfl : 1 < (frm ls[w]).length := by have := frm_len ls[w]; omega
    obtain ⟨hs1, hs2⟩ := spAt_lt a _ hfl
    have hsp := nextF_spoilt ls[w] (by omega) (spAt a (frm ls[w])) hs1 hs2 (flip8 ((frm ls[w]).getD (spAt a (frm ls[w])) 0) (bit.toNat % 8)) (by
      rw [getD_at _ _ hs2]; exact flip8_ne _ _ (by omega))
    have ht : Tells (ls.take w) 11 ((ls.take w).flatMap frm ++ (sp a (bit.toNat % 8) (frm ls[w]) ++ s')) :=
      Tells.frames (ls.take w) 11 _ (fun x hx => by have := hle x (List.mem_of_mem_take hx); omega) (.inr ⟨by decide, _, s', rfl, hsp.2, hsp.1⟩)
    refine RL.call (fi := []) (ca := []) rfl rfl rfl rfl (all_c m3 _ _ _ [] (Own.sl hO (by simp)) (Sl.nil _ _ _) (by omega) (by simp) _ 11 ht) ?_
    rintro _ m4 ⟨hE4, ov, rfl, hov⟩
    refine ⟨_, rfl, ?_⟩
    refine RL.auto T_ok rfl ?_
    refine RL.nil ?_; repeat (first | with_reducible refine QN.block_normal ?_ | with_reducible refine QN.next ?_); repeat (first | with_reducible refine WP.seq ?_ | with_reducible refine WP.block ?_ | with_reducible refine WP.region ?_)
    refine RL.auto T_ok rfl ?_
    refine RL.sliceTo (l := w) T_ok rfl rfl rfl rfl rfl (by omega) rfl ?_
    refine RL.call (fi := []) (ca := []) rfl rfl rfl rfl (same_c m4 _ _ _ _ hov ((h3.ext hE4).take w (by omega)) (by simp; omega)) ?_
    rintro _ m5 ⟨rfl, rfl⟩
    refine ⟨_, rfl, ?_⟩
    rw [decide_eq_true rfl]
    refine RL.auto T_ok rfl ?_
    refine RL.nil ?_; repeat (first | with_reducible refine QN.block_normal ?_ | with_reducible refine QN.next ?_); repeat (first | with_reducible refine WP.seq ?_ | with_reducible refine WP.block ?_ | with_reducible refine WP.region ?_)
    refine WP.ret ?_; repeat (first | with_reducible refine QN.then_ret ?_ | with_reducible refine QN.block_ret ?_)
    exact QN.ret1 rfl rfl ⟨_, rfl, rfl, hE3.trans hE4 (by simp)⟩
  have hc : i < ls.length := by have := of_decide_eq_true hc; omega
  obtain ⟨ad, x, rfl, hx, hcell⟩ := h3.at_ i hc
  obtain ⟨Ax, cx, rfl, _, _⟩ := hx.shape
  refine WP.skip ?_; repeat (first | with_reducible refine QN.block_normal ?_ | with_reducible refine QN.next ?_); repeat (first | with_reducible refine WP.seq ?_ | with_reducible refine WP.block ?_ | with_reducible refine WP.region ?_)
  refine RL.auto T_ok rfl ?_
  refine RL.indexAddr (k := i) T_ok rfl rfl rfl rfl rfl rfl rfl hc rfl ?_
  refine RL.load T_ok rfl rfl rfl (hcell) rfl ?_
  refine RL.auto T_ok rfl ?_
  refine RL.nil ?_; repeat (first | with_reducible refine QN.block_normal ?_ | with_reducible refine QN.next ?_); repeat (first | with_reducible refine WP.seq ?_ | with_reducible refine WP.block ?_ | with_reducible refine WP.region ?_)
  refine WP.cond rfl (fun hc2 => ?_) (fun hc2 => ?_)
  · repeat (first | with_reducible refine WP.seq ?_ | with_reducible refine WP.block ?_ | with_reducible refine WP.region ?_)
    refine RL.auto T_ok rfl ?_
    refine RL.nil ?_; repeat (first | with_reducible refine QN.block_normal ?_ | with_reducible refine QN.next ?_); repeat (first | with_reducible refine WP.seq ?_ | with_reducible refine WP.block ?_ | with_reducible refine WP.region ?_)
    refine WP.ret ?_; repeat (first | with_reducible refine QN.then_ret ?_ | with_reducible refine QN.block_ret ?_)
    exact QN.ret1 rfl rfl ⟨_, rfl, rfl, hE3⟩
  have hxl : (ls[i]).length ≤ 100 := by have := of_decide_eq_false hc2; omega
  refine WP.skip ?_; repeat (first | with_reducible refine QN.block_normal ?_ | with_reducible refine QN.next ?_); repeat (first | with_reducible refine WP.seq ?_ | with_reducible refine WP.block ?_ | with_reducible refine WP.region ?_)
  refine RL.auto T_ok rfl ?_
  refine RL.indexAddr (k := i) T_ok rfl rfl rfl rfl rfl rfl rfl hc rfl ?_
  refine RL.load T_ok rfl rfl rfl (hcell) rfl ?_
  refine RL.call (fi := []) (ca := []) rfl rfl rfl rfl (fwrite_c m3 [] _ _ hx (by omega)) ?_
  rintro _ m4 (⟨h4, _⟩ | ⟨_, x4, S4, rfl, hO4, hN4⟩)
  · omega
  refine ⟨_, rfl, ?_⟩
  obtain ⟨A4, c4, rfl, _⟩ := hO4.shape
  have hfl : (frm ls[i]).length = (ls[i]).length + 5 := by
    have h1 := frm_len ls[i]
    have h2 : (encU (ls[i]).length).length = 1 := by rw [encU_small (by omega)]; rfl
    omega
  have hcell4 := hN4.1.cell (by simp) hcell
  refine RL.auto T_ok rfl ?_
  refine RL.nil ?_; repeat (first | with_reducible refine QN.block_normal ?_ | with_reducible refine QN.next ?_); repeat (first | with_reducible refine WP.seq ?_ | with_reducible refine WP.block ?_ | with_reducible refine WP.region ?_)
  refine RL.auto T_ok rfl ?_
  refine RL.indexAddr (k := i) T_ok rfl rfl rfl rfl rfl rfl rfl hc rfl ?_
  refine RL.load T_ok rfl rfl rfl (hcell4) rfl ?_
  refine RL.pure T_ok 2 rfl ?_
  refine RL.eqv (v' := .int .i64 ((frm ls[i]).length : Nat)) (congrArg _ (by rw [wrap_i64_in _ (by omega) (by omega), hfl]; omega)) ?_
  refine RL.pure T_ok 1 rfl ?_
  refine RL.eqv (v' := .bool false) (congrArg _ (by simp)) ?_
  refine RL.auto T_ok rfl ?_
  refine RL.nil ?_; repeat (first | with_reducible refine QN.block_normal ?_ | with_reducible refine QN.next ?_); repeat (first | with_reducible refine WP.seq ?_ | with_reducible refine WP.block ?_ | with_reducible refine WP.region ?_)
  refine WP.condF rfl ?_
  refine WP.skip (QN.next ?_)
  have hS4 : ∀ k ∈ S4, m3.heap.size ≤ k := hN4.ge
  refine WP.cut (X := List UInt8) (fun xs => [(0, .slice (some ad) ls.length c), (1, .int .i64 w), (2, .int .i64 a), (3, .int .u8 bit.toNat), (9, bv), (10, .int .i64 i), (11, .slice A4 (frm ls[i]).length c4)])
    (fun xs m' => Ext m4 S4 m' ∧ xs.length = (frm ls[i]).length ∧ Own m' S4 5 1 (.slice A4 (frm ls[i]).length c4) xs.length (u8s xs) ∧ (i = w → xs = sp a (bit.toNat % 8) (frm ls[i])) ∧ (i ≠ w → xs = frm ls[i])) ?_ ?_
  · repeat (first | with_reducible refine WP.seq ?_ | with_reducible refine WP.block ?_ | with_reducible refine WP.region ?_)
    refine RL.pure T_ok 2 rfl ?_
    by_cases hiw : i = w
    · refine RL.pure T_ok 1 rfl ?_
      refine RL.eqv (v' := .bool true) (congrArg _ (by rw [hiw]; simp)) ?_
      refine RL.nil ?_; repeat (first | with_reducible refine QN.block_normal ?_ | with_reducible refine QN.next ?_); repeat (first | with_reducible refine WP.seq ?_ | with_reducible refine WP.block ?_ | with_reducible refine WP.region ?_)
      refine WP.condT rfl ?_
      repeat (first | with_reducible refine WP.seq ?_ | with_reducible refine WP.block ?_ | with_reducible refine WP.region ?_)
      refine RL.pure T_ok 3 rfl ?_
      refine RL.eqv (v' := .int .i64 ((frm ls[i]).length : Nat)) rfl ?_
      refine RL.pure T_ok 1 rfl ?_
      refine RL.eqv (v' := .int .i64 (((frm ls[i]).length - 1 : Nat) : Int)) (congrArg _ (by rw [wrap_i64_in _ (by omega) (by omega)]; omega)) ?_
      obtain ⟨n1, hn1⟩ : ∃ n1, (frm ls[i]).length - 1 = n1 + 1 := ⟨(frm ls[i]).length - 2, by omega⟩
      refine RL.call (fi := []) (ca := []) rfl rfl rfl rfl (by rw [hn1]; exact place_c m4 a n1 (by omega)) ?_
      rintro _ m5 ⟨rfl, rfl⟩
      refine ⟨_, rfl, ?_⟩
      obtain ⟨hs1, hs2⟩ := spAt_lt a (frm ls[i]) (by omega)
      have hat : spAt a (frm ls[i]) = 1 + (a % ((n1 + 1 : Nat) : Int)).toNat := by unfold spAt; rw [hn1]
      have hkk1 := Int.emod_nonneg a (b := ((n1 + 1 : Nat) : Int)) (by omega)
      have hkk2 := Int.emod_lt_of_pos a (b := ((n1 + 1 : Nat) : Int)) (by omega)
      refine RL.pure T_ok 1 rfl ?_
      refine RL.eqv (v' := .int .i64 (spAt a (frm ls[i]) : Nat)) (congrArg _ (by rw [wrap_i64_in _ (by omega) (by omega), hat]; omega)) ?_
      refine RL.auto T_ok rfl ?_
      refine RL.nil ?_; repeat (first | with_reducible refine QN.block_normal ?_ | with_reducible refine QN.next ?_); repeat (first | with_reducible refine WP.seq ?_ | with_reducible refine WP.block ?_ | with_reducible refine WP.region ?_)
      have hS5 : Bs m5 [] _ (frm ls[i]) := Own.sl hO4 (by simp)
      generalize hj : spAt a (frm ls[i]) = j at *
      obtain ⟨g, _, cur, hv, hB5, rfl, hcj, hput⟩ := hO4.put hs2
      injection hv with hv1 hv2 hv3
      subst hv1; subst hv3
      refine RL.auto T_ok rfl ?_
      refine RL.byteAt T_ok hS5 (k := j) rfl hs2 rfl rfl rfl rfl rfl rfl (fun p => ?_)
      refine RL.pure T_ok 2 rfl ?_
      refine RL.eqv (v' := .int .u8 ((bit.toNat % 8 : Nat) : Int)) (congrArg _ (and7 bit)) ?_
      have hb8 : bit.toNat % 8 < 8 := by omega
      generalize hq : bit.toNat % 8 = q at *
      refine RL.pure T_ok 1 rfl ?_
      refine RL.eqv (v' := .int .u8 ((2 ^ q : Nat) : Int)) (congrArg _ (shl_one ⟨q, hb8⟩)) ?_
      refine RL.pure T_ok 1 rfl ?_
      refine RL.eqv (v' := .int .u8 ((flip8 (frm ls[i])[j] q).toNat : Int)) (congrArg _ (flip8_bits _ _)) ?_
      refine RL.indexAddr (k := j) T_ok rfl rfl rfl rfl rfl rfl rfl hs2 rfl ?_
      refine RL.eqv (v' := .pointer (some ⟨g, j, none⟩)) (congrArg _ (by rw [add_block]; simp)) ?_
      refine RL.store T_ok hB5 (i := j) (v := .int .u8 ((flip8 (frm ls[i])[j] q).toNat : Int)) hcj rfl rfl rfl rfl rfl rfl ?_
      intro m6 hC6
      have hO6 := hput m6 _ hC6
      rw [u8s_set] at hO6
      refine RL.nil (QN.cutEnd ((frm ls[i]).set j (flip8 (frm ls[i])[j] q)) (Sub.cons rfl (Sub.cons rfl (Sub.cons rfl (Sub.cons (by rw [← hq]; rfl) (Sub.cons rfl (Sub.cons rfl (Sub.cons rfl Sub.nil))))))) ⟨hC6.ext, by simp, by rw [List.length_set]; exact hO6, fun _ => ?_, fun h9 => absurd hiw h9⟩)
      unfold sp
      rw [hj, getD_at _ _ hs2]
    · refine RL.pure T_ok 1 rfl ?_
      refine RL.eqv (v' := .bool false) (congrArg _ (by simp; omega)) ?_
      refine RL.nil ?_; repeat (first | with_reducible refine QN.block_normal ?_ | with_reducible refine QN.next ?_); repeat (first | with_reducible refine WP.seq ?_ | with_reducible refine WP.block ?_ | with_reducible refine WP.region ?_)
      refine WP.condF rfl ?_
      refine WP.skip (QN.cutEnd (frm ls[i]) (Sub.cons rfl (Sub.cons rfl (Sub.cons rfl (Sub.cons rfl (Sub.cons rfl (Sub.cons rfl (Sub.cons rfl Sub.nil))))))) ⟨Ext.refl _ _, rfl, hO4, fun h9 => absurd h9 hiw, fun _ => rfl⟩)
  rintro xs m5 ⟨hE5, hxs, hO5, hx1, hx2⟩
  have hNE : Ext m3 [] m5 := hN4.1.trans hE5 (fun k hk => .inr (hS4 k hk))
  have hOb := hO.ext hNE (by simp)
  have hxs5 : Sl m5 [] 1 (.slice A4 xs.length c4) (u8s xs) := by
    have := Own.sl hO5 (M := []) (by simp)
    rw [← hxs] at this; exact this
  repeat (first | with_reducible refine WP.seq ?_ | with_reducible refine WP.block ?_ | with_reducible refine WP.region ?_)
  refine RL.auto T_ok rfl ?_
  rw [← hxs]
  refine RL.append T_ok hOb _ (Src.of_sl hxs5) rfl rfl rfl rfl rfl (by simp [u8s_length]) (u8s_one _) (by unfold maxLen; omega) (by show (_ + _) * 1 ≤ _; omega) ?_
  intro v6 m6 S6 hO6 hE6 hF6
  refine ⟨_, rfl, ?_⟩
  refine RL.auto T_ok rfl ?_
  refine RL.nil ?_; repeat (first | with_reducible refine QN.block_normal ?_ | with_reducible refine QN.next ?_); repeat (first | with_reducible refine WP.seq ?_ | with_reducible refine WP.block ?_ | with_reducible refine WP.region ?_)
  refine RL.pure T_ok 2 rfl ?_
  refine RL.eqv (v' := .int .i64 ((i + 1 : Nat) : Int)) (congrArg _ (by rw [wrap_i64_in _ (by omega) (by omega)]; rfl)) ?_
  refine RL.auto T_ok rfl ?_
  have hEm5 : Ext m [] m5 := hE3.trans hNE (by simp)
  refine RL.nil (QN.round (i + 1, S6, v6, b ++ xs) (Sub.cons rfl (Sub.cons rfl (Sub.cons rfl (Sub.cons rfl (Sub.cons rfl (Sub.cons rfl Sub.nil)))))) ⟨by omega, hEm5.trans hE6 (fun k hk => .inr (hSo k hk)), fun k hk => ?_, fun y hy => ?_, by rw [List.length_append]; omega, ?_, fun h9 => ?_, fun h9 => ?_⟩ (by show _ - (i + 1) < _ - i; omega))
  · rcases hF6 k hk with h9 | h9
    · exact hSo k h9
    · have := hEm5.size; omega
  · rw [List.take_succ_eq_append_getElem hc] at hy
    rcases List.mem_append.1 hy with h9 | h9
    · exact hle y h9
    · have h9 : y = ls[i] := (by simpa using h9)
      subst h9; exact hxl
  · rw [u8s_append, List.length_append]
    exact hO6
  · rw [hC1 (by omega), hx2 (by omega), List.take_succ_eq_append_getElem hc, List.flatMap_append]; simp
  · by_cases hiw : i = w
    · subst hiw
      refine ⟨[], ?_⟩
      rw [hC1 (Nat.le_refl _), hx1 rfl]; simp
    · obtain ⟨s', hs'⟩ := hC2 (by omega)
      exact ⟨s' ++ xs, by rw [hs']; simp⟩
end Go.Proofs.Ytkfakfbndnbpiaa
