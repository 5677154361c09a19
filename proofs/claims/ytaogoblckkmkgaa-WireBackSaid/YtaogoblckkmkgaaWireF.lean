/- The reference's Reader: its numbers, as the plain readings say. -/
import Derived.Test.YtaogoblckkmkgaaWire6
import Derived.Test.YtaogoblckkmkgaaNumP
namespace Go.Proofs.Ytaogoblckkmkgaa
open Go.RowKit Go.Ev

/-- A reference Reader: what is left, its error. -/
def QAt (m : World) (M : List Nat) (b : Nat) (l : List UInt8) (e : Int) : Prop := ∃ v, Blk m b 55 [v, .int .i64 e] ∧ Bs m M v l
theorem QAt.lt {m : World} {M : List Nat} {b : Nat} {l : List UInt8} {e : Int} (h : QAt m M b l e) : b < m.heap.size := by obtain ⟨v, h, _⟩ := h; exact h.lt
theorem QAt.ext {m m' : World} {M M' N : List Nat} {b : Nat} {l : List UInt8} {e : Int} (h : QAt m M b l e) (hE : Ext m N m') (hb : b ∉ N) (hN : ∀ k ∈ N, k < m.heap.size → k ∈ M) (hM : ∀ k ∈ M', k ∈ M ∨ m.heap.size ≤ k) : QAt m' M' b l e := by
  obtain ⟨v, hB, hS⟩ := h
  exact ⟨v, hB.ext hE hb, Sl.ext hS (hE.mono hN) hM (by omega)⟩
theorem QAt.new {m m' : World} {M : List Nat} {b : Nat} {l : List UInt8} {e : Int} (h : QAt m M b l e) (hE : Ext m [] m') : QAt m' M b l e := h.ext hE (by simp) (by simp) (fun _ hk => .inl hk)
def QPost (m : World) (M : List Nat) (b : Nat) {α : Type} (enc : α → Value) (r : α × List UInt8 × Int) (v : Value) (m' : World) : Prop :=
  v = enc r.1 ∧ QAt m' M b r.2.1 r.2.2 ∧ Ext m [b] m'

set_option maxRecDepth 4000 in
set_option maxHeartbeats 400000 in
theorem quint_c (m : World) (M : List Nat) (b : Nat) (l : List UInt8) (e : Int) (h : QAt m M b l e) (hbM : b ∈ M) (most : Nat) :
    FnR Try.prog 30 [.pointer (some ⟨b, 0, none⟩), .int .u64 most] m (QPost m M b (fun n : Nat => .int .u64 n) (gR 0 e l (rdU most 0 0 l))) := by
  obtain ⟨v, hB, hS⟩ := h
  obtain ⟨A, c, rfl, hlc, hcm⟩ := hS.shape
  have hlm : l.length ≤ 9223372036854775807 := by unfold maxLen at hcm; omega
  refine FnE.enter ⟨_, Try.func30, by kernel_rfl, by kernel_rfl⟩ Try.func30 rfl rfl ?_
  repeat (first | with_reducible refine WP.seq ?_ | with_reducible refine WP.block ?_ | with_reducible refine WP.region ?_)
  refine RL.auto T_ok rfl ?_
  refine RL.nil ?_; repeat (first | with_reducible refine QN.block_normal ?_ | with_reducible refine QN.next ?_); repeat (first | with_reducible refine WP.seq ?_ | with_reducible refine WP.block ?_ | with_reducible refine WP.region ?_)
  refine RL.auto T_ok rfl ?_
  refine RL.load T_ok rfl rfl rfl (hB.cell 1 rfl) rfl ?_
  refine RL.pure T_ok 1 rfl ?_
  by_cases he : e = 0
  rotate_left
  · refine RL.eqv (v' := .bool true) (congrArg _ (by simp [he])) ?_
    refine RL.auto T_ok rfl ?_
    refine RL.nil ?_; repeat (first | with_reducible refine QN.block_normal ?_ | with_reducible refine QN.next ?_); repeat (first | with_reducible refine WP.seq ?_ | with_reducible refine WP.block ?_ | with_reducible refine WP.region ?_)
    refine WP.condT rfl ?_
    repeat (first | with_reducible refine WP.seq ?_ | with_reducible refine WP.block ?_ | with_reducible refine WP.region ?_)
    refine RL.auto T_ok rfl ?_
    refine RL.nil ?_; repeat (first | with_reducible refine QN.block_normal ?_ | with_reducible refine QN.next ?_); repeat (first | with_reducible refine WP.seq ?_ | with_reducible refine WP.block ?_ | with_reducible refine WP.region ?_)
    refine WP.ret ?_; repeat (first | with_reducible refine QN.then_ret ?_ | with_reducible refine QN.block_ret ?_)
    refine QN.ret1 rfl rfl ⟨_, rfl, ?_⟩
    rw [gR_off he]
    exact ⟨rfl, ⟨_, hB, hS⟩, Ext.refl _ _⟩
  subst he
  have good : ∀ (n : Nat) (l' : List UInt8) (m' : World) (u : Value), rdU most 0 0 l = .ok (n, l') → Chg m b (.cells [u, .int .i64 0].toArray 55 (0, 0)) m' → Bs m' M u l' → QPost m M b (fun n : Nat => .int .u64 n) (gR 0 0 l (rdU most 0 0 l)) (.int .u64 n) m' :=
    fun n l' m' u h1 h2 h3 => by rw [gR_ok h1]; exact ⟨rfl, ⟨u, h2.blk, h3⟩, h2.ext⟩
  have bad : ∀ (k : Int) (m' : World), rdU most 0 0 l = .error k → Chg m b (.cells [.slice A l.length c, .int .i64 k].toArray 55 (0, 0)) m' → QPost m M b (fun n : Nat => .int .u64 n) (gR 0 0 l (rdU most 0 0 l)) (.int .u64 0) m' :=
    fun k m' h1 h2 => by rw [gR_err h1]; exact ⟨rfl, ⟨_, h2.blk, Sl.ext hS (h2.ext.mono (by simp [hbM])) (fun _ hk => .inl hk) (by omega)⟩, h2.ext⟩
  refine RL.eqv (v' := .bool false) (congrArg _ (by simp)) ?_
  refine RL.auto T_ok rfl ?_
  refine RL.nil ?_; repeat (first | with_reducible refine QN.block_normal ?_ | with_reducible refine QN.next ?_); repeat (first | with_reducible refine WP.seq ?_ | with_reducible refine WP.block ?_ | with_reducible refine WP.region ?_)
  refine WP.condF rfl ?_
  refine WP.skip ?_; repeat (first | with_reducible refine QN.block_normal ?_ | with_reducible refine QN.next ?_); repeat (first | with_reducible refine WP.seq ?_ | with_reducible refine WP.block ?_ | with_reducible refine WP.region ?_)
  refine RL.auto T_ok rfl ?_
  refine RL.nil ?_; repeat (first | with_reducible refine QN.block_normal ?_ | with_reducible refine QN.next ?_); repeat (first | with_reducible refine WP.seq ?_ | with_reducible refine WP.block ?_ | with_reducible refine WP.region ?_)
  refine RL.auto T_ok rfl ?_
  refine RL.nil ?_; repeat (first | with_reducible refine QN.block_normal ?_ | with_reducible refine QN.next ?_); repeat (first | with_reducible refine WP.seq ?_ | with_reducible refine WP.block ?_ | with_reducible refine WP.region ?_)
  refine WP.loop (X := Nat × Nat) (fun x => [(0, .pointer (some ⟨b, 0, none⟩)), (1, .int .u64 most), (5, .int .u64 x.2), (6, .int .i64 x.1)])
    (fun x m' => x.1 ≤ 9 ∧ x.1 ≤ l.length ∧ x.2 < 128 ^ x.1 ∧ rdU most x.1 x.2 (l.drop x.1) = rdU most 0 0 l ∧ m' = m) (fun x => 10 - x.1) (0, 0)
    (Sub.cons rfl (Sub.cons rfl (Sub.cons rfl (Sub.cons rfl Sub.nil)))) ⟨by simp, by simp, by simp, by simp, rfl⟩ ?_
  rintro ⟨i, n⟩ m1 ⟨hi, hil, hn, hrd, rfl⟩
  simp only at hi hil hn hrd
  repeat (first | with_reducible refine WP.seq ?_ | with_reducible refine WP.block ?_ | with_reducible refine WP.region ?_)
  refine RL.pure T_ok 2 rfl ?_
  refine RL.eqv (v' := .bool false) (congrArg _ (decide_eq_false (by omega))) ?_
  refine RL.auto T_ok rfl ?_
  refine RL.nil ?_; repeat (first | with_reducible refine QN.block_normal ?_ | with_reducible refine QN.next ?_); repeat (first | with_reducible refine WP.seq ?_ | with_reducible refine WP.block ?_ | with_reducible refine WP.region ?_)
  refine WP.condF rfl ?_
  refine WP.skip ?_; repeat (first | with_reducible refine QN.block_normal ?_ | with_reducible refine QN.next ?_); repeat (first | with_reducible refine WP.seq ?_ | with_reducible refine WP.block ?_ | with_reducible refine WP.region ?_)
  refine RL.auto T_ok rfl ?_
  refine RL.load T_ok rfl rfl rfl (hB.cell 0 rfl) rfl ?_
  refine RL.auto T_ok rfl ?_
  refine RL.nil ?_; repeat (first | with_reducible refine QN.block_normal ?_ | with_reducible refine QN.next ?_); repeat (first | with_reducible refine WP.seq ?_ | with_reducible refine WP.block ?_ | with_reducible refine WP.region ?_)
  refine WP.cond rfl (fun hc => ?_) (fun hc => ?_)
  · have hc : l.length ≤ i := by have := of_decide_eq_true hc; omega
    have h0 : l.drop i = [] := List.drop_eq_nil_of_le hc
    rw [h0] at hrd
    repeat (first | with_reducible refine WP.seq ?_ | with_reducible refine WP.block ?_ | with_reducible refine WP.region ?_)
    refine RL.auto T_ok rfl ?_
    refine RL.store T_ok hB (i := 1) (v := .int .i64 10) (by simp) rfl rfl rfl rfl rfl rfl ?_
    intro m2 hC
    refine RL.nil ?_; repeat (first | with_reducible refine QN.block_normal ?_ | with_reducible refine QN.next ?_); repeat (first | with_reducible refine WP.seq ?_ | with_reducible refine WP.block ?_ | with_reducible refine WP.region ?_)
    refine RL.auto T_ok rfl ?_
    refine RL.nil ?_; repeat (first | with_reducible refine QN.block_normal ?_ | with_reducible refine QN.next ?_); repeat (first | with_reducible refine WP.seq ?_ | with_reducible refine WP.block ?_ | with_reducible refine WP.region ?_)
    refine WP.ret ?_; repeat (first | with_reducible refine QN.then_ret ?_ | with_reducible refine QN.block_ret ?_)
    exact QN.ret1 rfl rfl ⟨_, rfl, bad 10 m2 (by rw [← hrd]; rfl) hC⟩
  have hc : i < l.length := by have := of_decide_eq_false hc; omega
  have hx := l[i].toNat_lt
  rw [List.drop_eq_getElem_cons hc] at hrd
  refine WP.skip ?_; repeat (first | with_reducible refine QN.block_normal ?_ | with_reducible refine QN.next ?_); repeat (first | with_reducible refine WP.seq ?_ | with_reducible refine WP.block ?_ | with_reducible refine WP.region ?_)
  refine RL.auto T_ok rfl ?_
  refine RL.load T_ok rfl rfl rfl (hB.cell 0 rfl) rfl ?_
  refine RL.auto T_ok rfl ?_
  refine RL.byteAt T_ok hS (k := i) rfl hc rfl rfl rfl rfl rfl rfl (fun p => ?_)
  generalize l[i] = x at *
  refine RL.auto T_ok rfl ?_
  refine RL.nil ?_; repeat (first | with_reducible refine QN.block_normal ?_ | with_reducible refine QN.next ?_)
  have hp : 128 ^ i = 2 ^ (7 * i) := by rw [Nat.pow_mul]
  have hi9 : 128 ^ i ≤ 128 ^ 9 := Nat.pow_le_pow_right (by omega) hi
  refine WP.cut (X := Unit) (fun _ => [(0, .pointer (some ⟨b, 0, none⟩)), (1, .int .u64 most), (5, .int .u64 n), (6, .int .i64 i), (7, .int .u8 x.toNat)]) (fun _ m' => m' = m1 ∧ ¬ (i = 9 ∧ 1 < x.toNat)) ?_ ?_
  · repeat (first | with_reducible refine WP.seq ?_ | with_reducible refine WP.block ?_ | with_reducible refine WP.region ?_)
    refine RL.pure T_ok 2 rfl ?_
    by_cases h9 : i = 9
    · refine RL.eqv (v' := .bool true) (by simp [h9]) ?_
      refine RL.auto T_ok rfl ?_
      refine RL.nil ?_; repeat (first | with_reducible refine QN.block_normal ?_ | with_reducible refine QN.next ?_); repeat (first | with_reducible refine WP.seq ?_ | with_reducible refine WP.block ?_ | with_reducible refine WP.region ?_)
      refine WP.cond rfl (fun hc => ?_) (fun hc => ?_)
      · have hc : 1 < x.toNat := by have := of_decide_eq_true hc; omega
        repeat (first | with_reducible refine WP.seq ?_ | with_reducible refine WP.block ?_ | with_reducible refine WP.region ?_)
        refine RL.auto T_ok rfl ?_
        refine RL.store T_ok hB (i := 1) (v := .int .i64 11) (by simp) rfl rfl rfl rfl rfl rfl ?_
        intro m2 hC
        refine RL.nil ?_; repeat (first | with_reducible refine QN.block_normal ?_ | with_reducible refine QN.next ?_); repeat (first | with_reducible refine WP.seq ?_ | with_reducible refine WP.block ?_ | with_reducible refine WP.region ?_)
        refine RL.auto T_ok rfl ?_
        refine RL.nil ?_; repeat (first | with_reducible refine QN.block_normal ?_ | with_reducible refine QN.next ?_); repeat (first | with_reducible refine WP.seq ?_ | with_reducible refine WP.block ?_ | with_reducible refine WP.region ?_)
        refine WP.ret ?_; repeat (first | with_reducible refine QN.then_ret ?_ | with_reducible refine QN.block_ret ?_)
        exact QN.ret1 rfl rfl ⟨_, rfl, bad 11 m2 (by rw [← hrd]; simp [rdU, h9, hc]) hC⟩
      · have hc : ¬ 1 < x.toNat := by have := of_decide_eq_false hc; omega
        refine WP.skip (QN.cutEnd () (Sub.cons rfl (Sub.cons rfl (Sub.cons rfl (Sub.cons rfl (Sub.cons rfl Sub.nil))))) ⟨rfl, fun hh => hc hh.2⟩)
    · refine RL.eqv (v' := .bool false) (by simp; omega) ?_
      refine RL.auto T_ok rfl ?_
      refine RL.nil ?_; repeat (first | with_reducible refine QN.block_normal ?_ | with_reducible refine QN.next ?_); repeat (first | with_reducible refine WP.seq ?_ | with_reducible refine WP.block ?_ | with_reducible refine WP.region ?_)
      refine WP.condF rfl ?_
      refine WP.skip (QN.cutEnd () (Sub.cons rfl (Sub.cons rfl (Sub.cons rfl (Sub.cons rfl (Sub.cons rfl Sub.nil))))) ⟨rfl, fun hh => h9 hh.1⟩)
  rintro _ m2' ⟨rfl, h9⟩
  have hy : i = 9 → x.toNat ≤ 1 := fun h => by
    rcases Nat.lt_or_ge 1 x.toNat with h1 | h1
    · exact absurd ⟨h, h1⟩ h9
    · exact h1
  have hfit : n + x.toNat % 128 * 128 ^ i < 18446744073709551616 ∧ (i < 9 → n + x.toNat % 128 * 128 ^ i < 128 ^ (i + 1)) := by
    have h1 : x.toNat % 128 * 128 ^ i ≤ 127 * 128 ^ i := Nat.mul_le_mul_right _ (by omega)
    refine ⟨?_, fun _ => by rw [Nat.pow_succ]; omega⟩
    rcases Nat.lt_or_ge i 9 with h | h
    · have : 128 ^ i ≤ 128 ^ 8 := Nat.pow_le_pow_right (by omega) (by omega)
      omega
    · have : i = 9 := by omega
      subst this
      have := hy rfl
      have : x.toNat % 128 * 128 ^ 9 ≤ 1 * 128 ^ 9 := Nat.mul_le_mul_right _ (by omega)
      omega
  have hyp : x.toNat % 128 * 128 ^ i = x.toNat % 128 * 2 ^ (7 * i) := by rw [hp]
  repeat (first | with_reducible refine WP.seq ?_ | with_reducible refine WP.block ?_ | with_reducible refine WP.region ?_)
  refine RL.pure T_ok 4 rfl ?_
  refine RL.eqv (v' := .int .u64 ((x.toNat % 128 : Nat) : Int)) (congrArg _ ?_) ?_
  · show IntKind.u64.wrap (bits .and .u8 (x.toNat : Int) 127) = _
    rw [and127, wrap_u64_in _ (by omega) (by omega)]
  refine RL.pure T_ok 2 rfl ?_
  refine RL.eqv (v' := .int .i64 ((7 * i : Nat) : Int)) (congrArg _ ?_) ?_
  · show IntKind.i64.wrap (7 * (i : Int)) = _
    rw [wrap_i64_in _ (by omega) (by omega)]; omega
  refine RL.pure T_ok 1 rfl ?_
  refine RL.eqv (v' := .int .u64 ((x.toNat % 128 * 2 ^ (7 * i) : Nat) : Int)) (congrArg _ ?_) ?_
  · show IntKind.u64.wrap (((x.toNat % 128 : Nat) : Int) * 2 ^ shAmt .u64 (7 * i)) = _
    have h1 : shAmt .u64 (7 * i) = 7 * i := by unfold shAmt; exact Nat.min_eq_left (by show 7 * i ≤ 64; omega)
    have h2 : ((x.toNat % 128 : Nat) : Int) * 2 ^ (7 * i) = ((x.toNat % 128 * 2 ^ (7 * i) : Nat) : Int) := by
      rw [Int.natCast_mul, Int.natCast_pow]; rfl
    rw [h1, h2, wrap_u64_in _ (by omega) (by rw [← hyp]; omega)]
  refine RL.pure T_ok 1 rfl ?_
  refine RL.eqv (v' := .int .u64 ((n + x.toNat % 128 * 128 ^ i : Nat) : Int)) (congrArg _ ?_) ?_
  · show bits .or .u64 (n : Int) ((x.toNat % 128 * 2 ^ (7 * i) : Nat) : Int) = _
    rw [or_add64 _ _ _ (by rw [← hp]; exact hn) (by rw [← hyp]; exact hfit.1), ← hyp]
  refine RL.auto T_ok rfl ?_
  refine RL.nil ?_; repeat (first | with_reducible refine QN.block_normal ?_ | with_reducible refine QN.next ?_); repeat (first | with_reducible refine WP.seq ?_ | with_reducible refine WP.block ?_ | with_reducible refine WP.region ?_)
  refine RL.auto T_ok rfl ?_
  refine RL.nil ?_; repeat (first | with_reducible refine QN.block_normal ?_ | with_reducible refine QN.next ?_); repeat (first | with_reducible refine WP.seq ?_ | with_reducible refine WP.block ?_ | with_reducible refine WP.region ?_)
  clear hyp
  refine WP.cond rfl (fun hc => ?_) (fun hc => ?_)
  · have hc : 128 ≤ x.toNat := by have := of_decide_eq_true hc; omega
    have hi' : i < 9 := by
      rcases Nat.lt_or_ge i 9 with h | h
      · exact h
      · have := hy (by omega); omega
    refine WP.exit ?_; repeat (first | with_reducible refine QN.then_exit ?_ | with_reducible refine QN.block_exit ?_ | with_reducible refine QN.block_far rfl ?_ | with_reducible refine QN.block_normal ?_ | with_reducible refine QN.next ?_); repeat (first | with_reducible refine WP.seq ?_ | with_reducible refine WP.block ?_ | with_reducible refine WP.region ?_)
    refine RL.auto T_ok rfl ?_
    refine RL.nil (QN.round (i + 1, n + x.toNat % 128 * 128 ^ i) ?_ ⟨?_, ?_, hfit.2 hi', ?_, rfl⟩ ?_)
    · refine Sub.cons rfl (Sub.cons rfl (Sub.cons rfl (Sub.cons ?_ Sub.nil)))
      show some (Value.int .i64 (IntKind.i64.wrap ((i : Int) + 1))) = some (Value.int .i64 ((i + 1 : Nat) : Int))
      rw [wrap_i64_in _ (by omega) (by omega)]; rfl
    · show i + 1 ≤ 9
      omega
    · show i + 1 ≤ l.length
      omega
    · rw [← hrd]
      simp only [rdU]
      rw [if_neg h9, if_pos hc]
    · show 10 - (i + 1) < 10 - i
      omega
  have hc128 : x.toNat < 128 := by have := of_decide_eq_false hc; omega
  have hrd1 : rdU most 0 0 l = if x.toNat = 0 ∧ 0 < i then .error 11 else if most < n + x.toNat % 128 * 128 ^ i then .error 12 else .ok (n + x.toNat % 128 * 128 ^ i, l.drop (i + 1)) := by
    rw [← hrd]
    simp only [rdU]
    rw [if_neg h9, if_neg (by omega)]
  generalize hN : n + x.toNat % 128 * 128 ^ i = N at *
  refine WP.skip ?_; repeat (first | with_reducible refine QN.block_normal ?_ | with_reducible refine QN.next ?_)
  refine WP.cut (X := Unit) (fun _ => [(0, .pointer (some ⟨b, 0, none⟩)), (1, .int .u64 most), (5, .int .u64 N), (6, .int .i64 i)]) (fun _ m' => m' = m2' ∧ ¬ (x.toNat = 0 ∧ 0 < i)) ?_ ?_
  · repeat (first | with_reducible refine WP.seq ?_ | with_reducible refine WP.block ?_ | with_reducible refine WP.region ?_)
    refine RL.pure T_ok 2 rfl ?_
    by_cases hx0 : x.toNat = 0
    · refine RL.eqv (v' := .bool true) (by simp [hx0]) ?_
      refine RL.auto T_ok rfl ?_
      refine RL.nil ?_; repeat (first | with_reducible refine QN.block_normal ?_ | with_reducible refine QN.next ?_); repeat (first | with_reducible refine WP.seq ?_ | with_reducible refine WP.block ?_ | with_reducible refine WP.region ?_)
      refine WP.cond rfl (fun hc => ?_) (fun hc => ?_)
      · have hc : 0 < i := by have := of_decide_eq_true hc; omega
        repeat (first | with_reducible refine WP.seq ?_ | with_reducible refine WP.block ?_ | with_reducible refine WP.region ?_)
        refine RL.auto T_ok rfl ?_
        refine RL.store T_ok hB (i := 1) (v := .int .i64 11) (by simp) rfl rfl rfl rfl rfl rfl ?_
        intro m2 hC
        refine RL.nil ?_; repeat (first | with_reducible refine QN.block_normal ?_ | with_reducible refine QN.next ?_); repeat (first | with_reducible refine WP.seq ?_ | with_reducible refine WP.block ?_ | with_reducible refine WP.region ?_)
        refine RL.auto T_ok rfl ?_
        refine RL.nil ?_; repeat (first | with_reducible refine QN.block_normal ?_ | with_reducible refine QN.next ?_); repeat (first | with_reducible refine WP.seq ?_ | with_reducible refine WP.block ?_ | with_reducible refine WP.region ?_)
        refine WP.ret ?_; repeat (first | with_reducible refine QN.then_ret ?_ | with_reducible refine QN.block_ret ?_)
        exact QN.ret1 rfl rfl ⟨_, rfl, bad 11 m2 (by rw [hrd1, if_pos ⟨hx0, hc⟩]) hC⟩
      · have hc : ¬ 0 < i := by have := of_decide_eq_false hc; omega
        refine WP.skip (QN.cutEnd () (Sub.cons rfl (Sub.cons rfl (Sub.cons rfl (Sub.cons rfl Sub.nil)))) ⟨rfl, fun hh => hc hh.2⟩)
    · refine RL.eqv (v' := .bool false) (by simp [hx0]) ?_
      refine RL.auto T_ok rfl ?_
      refine RL.nil ?_; repeat (first | with_reducible refine QN.block_normal ?_ | with_reducible refine QN.next ?_); repeat (first | with_reducible refine WP.seq ?_ | with_reducible refine WP.block ?_ | with_reducible refine WP.region ?_)
      refine WP.condF rfl ?_
      refine WP.skip (QN.cutEnd () (Sub.cons rfl (Sub.cons rfl (Sub.cons rfl (Sub.cons rfl Sub.nil)))) ⟨rfl, fun hh => hx0 hh.1⟩)
  rintro _ m3 ⟨rfl, hz⟩
  rw [if_neg hz] at hrd1
  repeat (first | with_reducible refine WP.seq ?_ | with_reducible refine WP.block ?_ | with_reducible refine WP.region ?_)
  refine RL.auto T_ok rfl ?_
  refine RL.nil ?_; repeat (first | with_reducible refine QN.block_normal ?_ | with_reducible refine QN.next ?_); repeat (first | with_reducible refine WP.seq ?_ | with_reducible refine WP.block ?_ | with_reducible refine WP.region ?_)
  refine WP.cond rfl (fun hc2 => ?_) (fun hc2 => ?_)
  · have hc2 : most < N := by have := of_decide_eq_true hc2; omega
    repeat (first | with_reducible refine WP.seq ?_ | with_reducible refine WP.block ?_ | with_reducible refine WP.region ?_)
    refine RL.auto T_ok rfl ?_
    refine RL.store T_ok hB (i := 1) (v := .int .i64 12) (by simp) rfl rfl rfl rfl rfl rfl ?_
    intro m4 hC
    refine RL.nil ?_; repeat (first | with_reducible refine QN.block_normal ?_ | with_reducible refine QN.next ?_); repeat (first | with_reducible refine WP.seq ?_ | with_reducible refine WP.block ?_ | with_reducible refine WP.region ?_)
    refine RL.auto T_ok rfl ?_
    refine RL.nil ?_; repeat (first | with_reducible refine QN.block_normal ?_ | with_reducible refine QN.next ?_); repeat (first | with_reducible refine WP.seq ?_ | with_reducible refine WP.block ?_ | with_reducible refine WP.region ?_)
    refine WP.ret ?_; repeat (first | with_reducible refine QN.then_ret ?_ | with_reducible refine QN.block_ret ?_)
    exact QN.ret1 rfl rfl ⟨_, rfl, bad 12 m4 (by rw [hrd1, if_pos hc2]) hC⟩
  · have hc2 : ¬ most < N := by have := of_decide_eq_false hc2; omega
    rw [if_neg hc2] at hrd1
    refine WP.skip ?_; repeat (first | with_reducible refine QN.block_normal ?_ | with_reducible refine QN.next ?_); repeat (first | with_reducible refine WP.seq ?_ | with_reducible refine WP.block ?_ | with_reducible refine WP.region ?_)
    refine RL.auto T_ok rfl ?_
    refine RL.load T_ok rfl rfl rfl (hB.cell 0 rfl) rfl ?_
    refine RL.pure T_ok 2 rfl ?_
    refine RL.eqv (v' := .int .i64 ((i + 1 : Nat) : Int)) (congrArg _ (by rw [wrap_i64_in _ (by omega) (by omega)]; rfl)) ?_
    refine RL.sliceFrom (l := i + 1) T_ok rfl rfl rfl rfl rfl (by omega) rfl ?_
    refine RL.auto T_ok rfl ?_
    refine RL.store T_ok hB (i := 0) (by simp) rfl rfl rfl rfl rfl rfl ?_
    intro m4 hC
    have h2 := Sl.from_ hS (l := i + 1) (by omega)
    rw [show (u8s l).drop ((i + 1) * 1) = u8s (l.drop (i + 1)) by rw [Nat.mul_one, u8s_drop]] at h2
    refine RL.nil ?_; repeat (first | with_reducible refine QN.block_normal ?_ | with_reducible refine QN.next ?_); repeat (first | with_reducible refine WP.seq ?_ | with_reducible refine WP.block ?_ | with_reducible refine WP.region ?_)
    refine RL.auto T_ok rfl ?_
    refine RL.nil ?_; repeat (first | with_reducible refine QN.block_normal ?_ | with_reducible refine QN.next ?_); repeat (first | with_reducible refine WP.seq ?_ | with_reducible refine WP.block ?_ | with_reducible refine WP.region ?_)
    refine WP.ret ?_; repeat (first | with_reducible refine QN.then_ret ?_ | with_reducible refine QN.block_ret ?_)
    exact QN.ret1 rfl rfl ⟨_, rfl, good N _ m4 _ hrd1 hC (Sl.ext h2 (hC.ext.mono (by simp [hbM])) (fun _ hk => .inl hk) (by omega))⟩
end Go.Proofs.Ytaogoblckkmkgaa
