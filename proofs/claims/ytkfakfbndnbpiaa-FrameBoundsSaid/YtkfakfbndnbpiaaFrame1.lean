/- Frames written, both ways; what is fed; two rows of bytes alike. The lengths stay below 2^29. -/
import Derived.Test.YtkfakfbndnbpiaaSlByte
import Derived.Test.YtkfakfbndnbpiaaWireJ
import Derived.Test.YtkfakfbndnbpiaaWire5
import Derived.Test.YtkfakfbndnbpiaaWire8
import Derived.Test.YtkfakfbndnbpiaaFrameP
namespace Go.Proofs.Ytkfakfbndnbpiaa
open Go.RowKit Go.Ev

theorem bne_nat (a b : Nat) : ((a : Int) != (b : Int)) = decide (a ≠ b) := by
  by_cases h : a = b
  · simp [h]
  · have : ¬ (a : Int) = (b : Int) := by omega
    simp [h, bne, beq_eq_false_iff_ne.2 this]
theorem v32_byte (x : BitVec 32) : IntKind.u8.wrap (x.toNat : Int) = ((UInt8.ofNat x.toNat).toNat : Int) := wrap_u8_nat _
/-- slices.Equal of bytes. -/
theorem equal_c (m : World) (M M' : List Nat) (v u : Value) (a b : List UInt8) (h : Bs m M v a) (h' : Bs m M' u b) (hla : a.length < 1000000000) :
    FnR Try.prog 97 [v, u] m fun r m' => r = .bool (decide (a = b)) ∧ m' = m := by
  obtain ⟨A, c, rfl, _, _⟩ := h.shape
  obtain ⟨B, c', rfl, _, _⟩ := h'.shape
  refine FnE.enter ⟨_, Try.func97, by kernel_rfl, by kernel_rfl⟩ Try.func97 rfl rfl ?_
  repeat (first | with_reducible refine WP.seq ?_ | with_reducible refine WP.block ?_ | with_reducible refine WP.region ?_)
  refine RL.auto T_ok rfl ?_
  refine RL.nil ?_; repeat (first | with_reducible refine QN.block_normal ?_ | with_reducible refine QN.next ?_); repeat (first | with_reducible refine WP.seq ?_ | with_reducible refine WP.block ?_ | with_reducible refine WP.region ?_)
  refine RL.pure T_ok 4 rfl ?_
  refine RL.pure T_ok 1 rfl ?_
  refine RL.eqv (v' := .bool (decide (a.length ≠ b.length))) (congrArg _ (bne_nat _ _)) ?_
  refine RL.nil ?_; repeat (first | with_reducible refine QN.block_normal ?_ | with_reducible refine QN.next ?_); repeat (first | with_reducible refine WP.seq ?_ | with_reducible refine WP.block ?_ | with_reducible refine WP.region ?_)
  refine WP.cond rfl (fun hc => ?_) (fun hc => ?_)
  · have hc : a.length ≠ b.length := of_decide_eq_true hc
    repeat (first | with_reducible refine WP.seq ?_ | with_reducible refine WP.block ?_ | with_reducible refine WP.region ?_)
    refine RL.auto T_ok rfl ?_
    refine RL.nil ?_; repeat (first | with_reducible refine QN.block_normal ?_ | with_reducible refine QN.next ?_); repeat (first | with_reducible refine WP.seq ?_ | with_reducible refine WP.block ?_ | with_reducible refine WP.region ?_)
    refine WP.ret ?_; repeat (first | with_reducible refine QN.then_ret ?_ | with_reducible refine QN.block_ret ?_)
    exact QN.ret1 rfl rfl ⟨_, rfl, by rw [decide_eq_false (fun h => hc (by rw [h]))], rfl⟩
  · have hlen : a.length = b.length := Classical.not_not.1 (of_decide_eq_false hc)
    refine WP.skip ?_; repeat (first | with_reducible refine QN.block_normal ?_ | with_reducible refine QN.next ?_); repeat (first | with_reducible refine WP.seq ?_ | with_reducible refine WP.block ?_ | with_reducible refine WP.region ?_)
    refine RL.auto T_ok rfl ?_
    refine RL.nil ?_; repeat (first | with_reducible refine QN.block_normal ?_ | with_reducible refine QN.next ?_); repeat (first | with_reducible refine WP.seq ?_ | with_reducible refine WP.block ?_ | with_reducible refine WP.region ?_)
    refine WP.loop (X := Nat) (fun i => [(0, .slice A a.length c), (1, .slice B b.length c'), (12, .int .i64 a.length), (13, .int .i64 i)]) (fun i m' => i ≤ a.length ∧ a.take i = b.take i ∧ m' = m) (fun i => a.length - i) 0
      (Sub.cons rfl (Sub.cons rfl (Sub.cons rfl (Sub.cons rfl Sub.nil)))) ⟨by simp, by simp, rfl⟩ ?_
    rintro i m1 ⟨hi, ht, rfl⟩
    repeat (first | with_reducible refine WP.seq ?_ | with_reducible refine WP.block ?_ | with_reducible refine WP.region ?_)
    refine RL.auto T_ok rfl ?_
    refine RL.nil ?_; repeat (first | with_reducible refine QN.block_normal ?_ | with_reducible refine QN.next ?_); repeat (first | with_reducible refine WP.seq ?_ | with_reducible refine WP.block ?_ | with_reducible refine WP.region ?_)
    refine WP.cond rfl (fun hc => ?_) (fun hc => ?_)
    · have hc : i < a.length := by have := of_decide_eq_true hc; omega
      have hcb : i < b.length := by omega
      refine WP.skip ?_; repeat (first | with_reducible refine QN.block_normal ?_ | with_reducible refine QN.next ?_); repeat (first | with_reducible refine WP.seq ?_ | with_reducible refine WP.block ?_ | with_reducible refine WP.region ?_)
      refine RL.auto T_ok rfl ?_
      refine RL.nil ?_; repeat (first | with_reducible refine QN.block_normal ?_ | with_reducible refine QN.next ?_); repeat (first | with_reducible refine WP.seq ?_ | with_reducible refine WP.block ?_ | with_reducible refine WP.region ?_)
      refine WP.drawQ (fun m' => m' = m1) [] (by kernel_rfl) rfl (by repeat (first | with_reducible exact PanicOk.body | with_reducible refine PanicOk.then_ ?_ | with_reducible refine PanicOk.block_ ?_)) (fun hQ => ?_)
      refine RH.pure T_ok hQ [0, 1] (by kernel_rfl) rfl ?_
      obtain ⟨ad, rfl, _, hcell⟩ := Sl.addr h (by omega)
      obtain ⟨bd, rfl, _, hcell'⟩ := Sl.addr h' (by omega)
      refine RH.indexAddr T_ok hQ 2 (k := i) rfl (by kernel_rfl) rfl rfl rfl rfl rfl rfl rfl hc rfl ?_
      refine RH.load T_ok hQ 3 (v := .int .u8 (a[i]).toNat) (fun m' hm' => by rw [hm']; exact hcell (i * 1) _ (by rw [Nat.mul_one]; exact u8s_get a i hc)) rfl (by kernel_rfl) rfl rfl rfl rfl ?_
      refine RH.pure T_ok hQ [4, 5] (by kernel_rfl) rfl ?_
      refine RH.indexAddr T_ok hQ 6 (k := i) rfl (by kernel_rfl) rfl rfl rfl rfl rfl rfl rfl hcb rfl ?_
      refine RH.load T_ok hQ 7 (v := .int .u8 (b[i]).toNat) (fun m' hm' => by rw [hm']; exact hcell' (i * 1) _ (by rw [Nat.mul_one]; exact u8s_get b i hcb)) rfl (by kernel_rfl) rfl rfl rfl rfl ?_
      refine RH.pure T_ok hQ [8] (by kernel_rfl) rfl ?_
      refine RH.done (by kernel_rfl) (fun _ => ?_)
      repeat (first | with_reducible refine QN.block_normal ?_ | with_reducible refine QN.next ?_)
      by_cases hab : a[i] = b[i]
      · refine WP.condF (by show some (Value.bool ((((a[i]).toNat : Nat) : Int) != (((b[i]).toNat : Nat) : Int))) = _; rw [hab]; simp) ?_
        refine WP.skip ?_; repeat (first | with_reducible refine QN.block_normal ?_ | with_reducible refine QN.next ?_); repeat (first | with_reducible refine WP.seq ?_ | with_reducible refine WP.block ?_ | with_reducible refine WP.region ?_)
        refine RL.auto T_ok rfl ?_
        refine RL.nil (QN.round (i + 1) (Sub.cons rfl (Sub.cons rfl (Sub.cons rfl (Sub.cons ?_ Sub.nil)))) ⟨by omega, ?_, rfl⟩ (by omega))
        · show some (Value.int .i64 (IntKind.i64.wrap ((i : Int) + 1))) = some (Value.int .i64 ((i + 1 : Nat) : Int))
          rw [wrap_i64_in _ (by omega) (by omega)]; rfl
        · rw [List.take_succ_eq_append_getElem hc, List.take_succ_eq_append_getElem hcb, ht, hab]
      · refine WP.condT (by
          show some (Value.bool ((((a[i]).toNat : Nat) : Int) != (((b[i]).toNat : Nat) : Int))) = _
          have : (a[i]).toNat ≠ (b[i]).toNat := fun h => hab (UInt8.toNat_inj.1 h)
          congr 2; simp only [bne_iff_ne, ne_eq]; omega) ?_
        repeat (first | with_reducible refine WP.seq ?_ | with_reducible refine WP.block ?_ | with_reducible refine WP.region ?_)
        refine RL.auto T_ok rfl ?_
        refine RL.nil ?_; repeat (first | with_reducible refine QN.block_normal ?_ | with_reducible refine QN.next ?_); repeat (first | with_reducible refine WP.seq ?_ | with_reducible refine WP.block ?_ | with_reducible refine WP.region ?_)
        refine WP.ret ?_; repeat (first | with_reducible refine QN.then_ret ?_ | with_reducible refine QN.block_ret ?_)
        refine QN.ret1 rfl rfl ⟨_, rfl, ?_, rfl⟩
        rw [decide_eq_false]
        intro h; subst h; exact hab rfl
    · have hc : i = a.length := by have := of_decide_eq_false hc; omega
      subst hc
      rw [List.take_length, hlen, List.take_length] at ht
      refine WP.exit ?_; repeat (first | with_reducible refine QN.then_exit ?_ | with_reducible refine QN.block_exit ?_ | with_reducible refine QN.block_far rfl ?_ | with_reducible refine QN.block_normal ?_ | with_reducible refine QN.next ?_); repeat (first | with_reducible refine WP.seq ?_ | with_reducible refine WP.block ?_ | with_reducible refine WP.region ?_)
      refine RL.auto T_ok rfl ?_
      refine RL.nil ?_; repeat (first | with_reducible refine QN.block_normal ?_ | with_reducible refine QN.next ?_); repeat (first | with_reducible refine WP.seq ?_ | with_reducible refine WP.block ?_ | with_reducible refine WP.region ?_)
      refine WP.ret ?_; repeat (first | with_reducible refine QN.then_ret ?_ | with_reducible refine QN.block_ret ?_)
      exact QN.ret1 rfl rfl ⟨_, rfl, by rw [decide_eq_true ht], rfl⟩
/-- What frame.Write hands back. -/
def FWPost (m : World) (l : List UInt8) (r : Value) (m' : World) : Prop :=
  (1048576 < l.length ∧ r = .tuple #[.slice none 0 0, .int .i64 210] ∧ m' = m) ∨
    (l.length ≤ 1048576 ∧ ∃ u S', r = .tuple #[u, .int .i64 0] ∧ Own m' S' 5 1 u (frm l).length (u8s (frm l)) ∧ New m S' m')
theorem fwrite_c (m : World) (M : List Nat) (v : Value) (l : List UInt8) (h : Bs m M v l) (hl : l.length < 900000000) :
    FnR Try.prog 14 [v] m (FWPost m l) := by
  obtain ⟨A, c, rfl, _, _⟩ := h.shape
  have h10 := encU_len10 (n := l.length) (by omega)
  refine FnE.enter ⟨_, Try.func14, by kernel_rfl, by kernel_rfl⟩ Try.func14 rfl rfl ?_
  repeat (first | with_reducible refine WP.seq ?_ | with_reducible refine WP.block ?_ | with_reducible refine WP.region ?_)
  refine RL.auto T_ok rfl ?_
  refine RL.nil ?_; repeat (first | with_reducible refine QN.block_normal ?_ | with_reducible refine QN.next ?_); repeat (first | with_reducible refine WP.seq ?_ | with_reducible refine WP.block ?_ | with_reducible refine WP.region ?_)
  refine RL.auto T_ok rfl ?_
  refine RL.nil ?_; repeat (first | with_reducible refine QN.block_normal ?_ | with_reducible refine QN.next ?_); repeat (first | with_reducible refine WP.seq ?_ | with_reducible refine WP.block ?_ | with_reducible refine WP.region ?_)
  refine WP.cond rfl (fun hc => ?_) (fun hc => ?_)
  · have hc : 1048576 < l.length := by have := of_decide_eq_true hc; omega
    repeat (first | with_reducible refine WP.seq ?_ | with_reducible refine WP.block ?_ | with_reducible refine WP.region ?_)
    refine RL.auto T_ok rfl ?_
    refine RL.nil ?_; repeat (first | with_reducible refine QN.block_normal ?_ | with_reducible refine QN.next ?_); repeat (first | with_reducible refine WP.seq ?_ | with_reducible refine WP.block ?_ | with_reducible refine WP.region ?_)
    refine WP.ret ?_; repeat (first | with_reducible refine QN.then_ret ?_ | with_reducible refine QN.block_ret ?_)
    exact QN.ret2 rfl rfl rfl ⟨_, rfl, .inl ⟨hc, rfl, rfl⟩⟩
  have hc : l.length ≤ 1048576 := by have := of_decide_eq_false hc; omega
  refine WP.skip ?_; repeat (first | with_reducible refine QN.block_normal ?_ | with_reducible refine QN.next ?_); repeat (first | with_reducible refine WP.seq ?_ | with_reducible refine WP.block ?_ | with_reducible refine WP.region ?_)
  refine RL.auto T_ok rfl ?_
  refine RL.box rfl rfl (fun b m1 hb hC => ⟨_, rfl, ?_⟩)
  have hE1 : Ext m [] m1 := hC.new (by omega)
  have hW : WAt m1 b [b] [] := ⟨.slice none 0 0, [], hC.blk, Own.empty _ _ _ _, by simp, rfl⟩
  refine RL.auto T_ok rfl ?_
  refine RL.nil ?_; repeat (first | with_reducible refine QN.block_normal ?_ | with_reducible refine QN.next ?_); repeat (first | with_reducible refine WP.seq ?_ | with_reducible refine WP.block ?_ | with_reducible refine WP.region ?_)
  refine RL.pure T_ok 4 rfl ?_
  refine RL.eqv (v' := .int .u64 ((l.length : Nat) : Int)) (congrArg _ (wrap_u64_in _ (by omega) (by omega))) ?_
  refine RL.call (fi := []) (ca := []) rfl rfl rfl rfl (wuint m1 l.length (by omega) b [b] [] hW (by simp)) ?_
  rintro _ m2 ⟨rfl, S2, hW2, hE2, hF2⟩
  rw [List.nil_append] at hW2
  refine ⟨_, rfl, ?_⟩
  have hnew2 : Ext m [] m2 := hE1.trans hE2 (fun k hk => .inr (by have h9 : k = b := (by simpa using hk); omega))
  have h2 : Bs m2 M _ l := Sl.ext h (hnew2.mono (by simp)) (fun _ hk => .inl hk) (by omega)
  refine RL.nil ?_; repeat (first | with_reducible refine QN.block_normal ?_ | with_reducible refine QN.next ?_); repeat (first | with_reducible refine WP.seq ?_ | with_reducible refine WP.block ?_ | with_reducible refine WP.region ?_)
  refine RL.auto T_ok rfl ?_
  refine RL.call (fi := []) (ca := []) rfl rfl rfl rfl (sum_c m2 M _ l h2 (by omega)) ?_
  rintro _ m3 ⟨rfl, hE3⟩
  refine ⟨_, rfl, ?_⟩
  refine RL.auto T_ok rfl ?_
  refine RL.nil ?_; repeat (first | with_reducible refine QN.block_normal ?_ | with_reducible refine QN.next ?_); repeat (first | with_reducible refine WP.seq ?_ | with_reducible refine WP.block ?_ | with_reducible refine WP.region ?_)
  refine RL.auto T_ok rfl ?_
  refine RL.call (fi := []) (ca := []) rfl rfl rfl rfl (wbytes m3 b S2 _ (hW2.ext hE3 (by simp)) (by omega)) ?_
  rintro u m4 ⟨S4, hO4, hN4⟩
  refine ⟨_, rfl, ?_⟩
  have hE4 : Ext m [] m4 := (hnew2.trans hE3 (by simp)).trans hN4.1 (by simp)
  generalize hx : crc l = x
  refine RL.pure T_ok 3 rfl ?_
  refine RL.eqv (v' := v32 (x >>> 24)) (congrArg _ (shr_v32 x 24)) ?_
  refine RL.pure T_ok 1 rfl ?_
  refine RL.eqv (v' := .int .u8 ((UInt8.ofNat (x >>> 24).toNat).toNat : Nat)) (congrArg _ (v32_byte _)) ?_
  refine RL.pure T_ok 2 rfl ?_
  refine RL.eqv (v' := v32 (x >>> 16)) (congrArg _ (shr_v32 x 16)) ?_
  refine RL.pure T_ok 1 rfl ?_
  refine RL.eqv (v' := .int .u8 ((UInt8.ofNat (x >>> 16).toNat).toNat : Nat)) (congrArg _ (v32_byte _)) ?_
  refine RL.pure T_ok 2 rfl ?_
  refine RL.eqv (v' := v32 (x >>> 8)) (congrArg _ (shr_v32 x 8)) ?_
  refine RL.pure T_ok 1 rfl ?_
  refine RL.eqv (v' := .int .u8 ((UInt8.ofNat (x >>> 8).toNat).toNat : Nat)) (congrArg _ (v32_byte _)) ?_
  refine RL.pure T_ok 2 rfl ?_
  refine RL.eqv (v' := .int .u8 ((UInt8.ofNat x.toNat).toNat : Nat)) (congrArg _ (v32_byte _)) ?_
  refine RL.buildSlice T_ok [.tmp 23, .tmp 26, .tmp 29, .tmp 31] (u8s (s4 x)) rfl rfl rfl rfl rfl rfl (by simp [Value.cells]) rfl rfl (fun b5 m5 hb5 hC5 => ⟨_, rfl, ?_⟩)
  have hE5 : Ext m4 [] m5 := hC5.new (by omega)
  refine RL.buildSlice T_ok [.tmp 19, .tmp 20, .tmp 32] [u, .slice A l.length c, .slice (some ⟨b5, 0, none⟩) 4 4] rfl rfl rfl rfl rfl rfl ?_ ?_ rfl (fun b6 m6 hb6 hC6 => ⟨_, rfl, ?_⟩)
  · intro z hz
    obtain ⟨A4, c4, rfl, _⟩ := hO4.shape
    simp only [List.mem_cons, List.not_mem_nil, or_false] at hz
    rcases hz with rfl | rfl | rfl <;> rfl
  · obtain ⟨A4, c4, rfl, _⟩ := hO4.shape
    rfl
  have hE6 : Ext m5 [] m6 := hC6.new (by omega)
  have hE46 : Ext m4 [] m6 := hE5.trans hE6 (by simp)
  have hS1 : Sl m6 [] 1 u (u8s (encU l.length)) := (hO4.sl (M := []) (by simp)).ext hE46 (by simp) (by omega)
  have hS2 : Sl m6 [] 1 (.slice A l.length c) (u8s l) := (Sl.less h (M' := []) (by simp) (by omega)).ext (hE4.trans hE46 (by simp)) (by simp) (by omega)
  have hS3 : Sl m6 [] 1 (.slice (some ⟨b5, 0, none⟩) 4 4) (u8s (s4 x)) := (Sl.of_blk (M := []) (n := 4) (c := 4) (sz := 1) hC5.blk (by simp) (by simp [u8s, s4]) (by omega) (by unfold maxLen; omega)).ext hE6 (by simp) (by omega)
  have hv6 : Sl m6 [] 1 (.slice (some ⟨b6, 0, none⟩) 3 3) [u, .slice A l.length c, .slice (some ⟨b5, 0, none⟩) 4 4] := Sl.of_blk (n := 3) (c := 3) hC6.blk (by simp) (by simp) (by omega) (by unfold maxLen; omega)
  refine RL.call (fi := []) (ca := []) rfl rfl rfl rfl (concat_byte m6 _ _ [u8s (encU l.length), u8s l, u8s (s4 x)] [(encU l.length).length, l.length, 4] hv6 rfl rfl ?_ ?_ (by simp; omega) (by simp)) ?_
  · intro i z xs k h1 h2 h3
    match i with
    | 0 => simp at h1 h2 h3; subst h1; subst h2; subst h3; exact ⟨hS1, by simp [u8s]⟩
    | 1 => simp at h1 h2 h3; subst h1; subst h2; subst h3; exact ⟨hS2, by simp [u8s]⟩
    | 2 => simp at h1 h2 h3; subst h1; subst h2; subst h3; exact ⟨hS3, by simp [u8s, s4]⟩
    | i + 3 => simp at h1
  · intro xs hxs
    simp only [List.mem_cons, List.not_mem_nil, or_false] at hxs
    rcases hxs with rfl | rfl | rfl <;> exact u8s_one _
  rintro r m7 ⟨S7, hO7, hN7⟩
  refine ⟨_, rfl, ?_⟩
  have hE7 : Ext m [] m6 := hE4.trans hE46 (by simp)
  refine RL.auto T_ok rfl ?_
  refine RL.nil ?_; repeat (first | with_reducible refine QN.block_normal ?_ | with_reducible refine QN.next ?_); repeat (first | with_reducible refine WP.seq ?_ | with_reducible refine WP.block ?_ | with_reducible refine WP.region ?_)
  refine WP.ret ?_; repeat (first | with_reducible refine QN.then_ret ?_ | with_reducible refine QN.block_ret ?_)
  refine QN.ret2 rfl rfl rfl ⟨_, rfl, .inr ⟨hc, r, S7, rfl, ?_, hE7.trans hN7.1 (by simp), hN7.2.trans' hE7⟩⟩
  have e1 : [u8s (encU l.length), u8s l, u8s (s4 x)].flatten = u8s (frm l) := by simp [frm, u8s_append, hx]
  have e2 : [(encU l.length).length, l.length, 4].sum = (frm l).length := by rw [frm_len]; simp; omega
  rw [e1, e2] at hO7
  exact hO7
theorem ffeed_c (m : World) (b : Nat) (M : List Nat) (p q : List UInt8) (e : Int) (v u : Value) (hB : Blk m b 40 [v, .int .i64 e]) (hv : Bs m M v p) (hu : Bs m M u q) (hl : p.length + q.length < 900000000) :
    FnR Try.prog 20 [.pointer (some ⟨b, 0, none⟩), u] m fun r m' => r = .tuple #[] ∧ Ext m [b] m' ∧ ∃ w S', Blk m' b 40 [w, .int .i64 e] ∧ Own m' S' 5 1 w (p ++ q).length (u8s (p ++ q)) ∧ FpNew m [] S' := by
  obtain ⟨A, c, rfl, _, _⟩ := hv.shape
  obtain ⟨A', c', rfl, _, _⟩ := hu.shape
  refine FnE.enter ⟨_, Try.func20, by kernel_rfl, by kernel_rfl⟩ Try.func20 rfl rfl ?_
  repeat (first | with_reducible refine WP.seq ?_ | with_reducible refine WP.block ?_ | with_reducible refine WP.region ?_)
  refine RL.auto T_ok rfl ?_
  refine RL.load T_ok rfl rfl rfl (hB.cell 0 rfl) rfl ?_
  refine RL.auto T_ok rfl ?_
  refine RL.buildSlice T_ok [.tmp 8, .tmp 9] [.slice A p.length c, .slice A' q.length c'] rfl rfl rfl rfl rfl rfl (by simp [Value.cells]) rfl rfl (fun b1 m1 hb1 hC1 => ⟨_, rfl, ?_⟩)
  have hE1 : Ext m [] m1 := hC1.new (by omega)
  have hS1 : Sl m1 [] 1 (.slice A p.length c) (u8s p) := (Sl.less hv (M' := []) (by simp) (by omega)).ext hE1 (by simp) (by omega)
  have hS2 : Sl m1 [] 1 (.slice A' q.length c') (u8s q) := (Sl.less hu (M' := []) (by simp) (by omega)).ext hE1 (by simp) (by omega)
  have hv1 : Sl m1 [] 1 (.slice (some ⟨b1, 0, none⟩) 2 2) [.slice A p.length c, .slice A' q.length c'] := Sl.of_blk (n := 2) (c := 2) hC1.blk (by simp) (by simp) (by omega) (by unfold maxLen; omega)
  refine RL.call (fi := []) (ca := []) rfl rfl rfl rfl (concat_byte m1 _ _ [u8s p, u8s q] [p.length, q.length] hv1 rfl rfl ?_ ?_ (by simp; omega) (by simp)) ?_
  · intro i z xs k h1 h2 h3
    match i with
    | 0 => simp at h1 h2 h3; subst h1; subst h2; subst h3; exact ⟨hS1, by simp [u8s]⟩
    | 1 => simp at h1 h2 h3; subst h1; subst h2; subst h3; exact ⟨hS2, by simp [u8s]⟩
    | i + 2 => simp at h1
  · intro xs hxs
    simp only [List.mem_cons, List.not_mem_nil, or_false] at hxs
    rcases hxs with rfl | rfl <;> exact u8s_one _
  rintro r m2 ⟨S2, hO2, hN2⟩
  refine ⟨_, rfl, ?_⟩
  have hB2 := (hB.ext hE1 (by simp)).ext hN2.1 (by simp)
  have e1 : [u8s p, u8s q].flatten = u8s (p ++ q) := by simp [u8s_append]
  have e2 : [p.length, q.length].sum = (p ++ q).length := by simp
  rw [e1, e2] at hO2
  have hbS : b ∉ S2 := fun hh => by have := hN2.ge b hh; have := hB.lt; have := hE1.size; omega
  refine RL.auto T_ok rfl ?_
  refine RL.store T_ok hB2 (i := 0) (v := r) (by simp) rfl rfl rfl rfl hO2.one rfl ?_
  intro m3 hC3
  refine RL.nil (QN.end0 rfl ⟨_, rfl, rfl, ?_, r, S2, hC3.blk, hO2.ext hC3.ext (fun k hk hk' => ?_), hN2.2.trans' hE1⟩)
  · exact ((hE1.trans hN2.1 (by simp)).mono (M' := [b]) (by simp)).trans hC3.ext (fun k hk => .inl hk)
  · have : k = b := by simpa using hk'
    subst this; exact hbS hk
theorem fleft_c (m : World) (b : Nat) (M : List Nat) (p : List UInt8) (e : Int) (v : Value) (hB : Blk m b 40 [v, .int .i64 e]) (hv : Bs m M v p) : FnR Try.prog 22 [.pointer (some ⟨b, 0, none⟩)] m fun r m' => r = .int .i64 p.length ∧ m' = m := by
  obtain ⟨A, c, rfl, _, _⟩ := hv.shape
  refine FnE.enter ⟨_, Try.func22, by kernel_rfl, by kernel_rfl⟩ Try.func22 rfl rfl ?_
  repeat (first | with_reducible refine WP.seq ?_ | with_reducible refine WP.block ?_ | with_reducible refine WP.region ?_)
  refine RL.auto T_ok rfl ?_
  refine RL.nil ?_; repeat (first | with_reducible refine QN.block_normal ?_ | with_reducible refine QN.next ?_); repeat (first | with_reducible refine WP.seq ?_ | with_reducible refine WP.block ?_ | with_reducible refine WP.region ?_)
  refine RL.auto T_ok rfl ?_
  refine RL.load T_ok rfl rfl rfl (hB.cell 0 rfl) rfl ?_
  refine RL.auto T_ok rfl ?_
  refine RL.nil ?_; repeat (first | with_reducible refine QN.block_normal ?_ | with_reducible refine QN.next ?_); repeat (first | with_reducible refine WP.seq ?_ | with_reducible refine WP.block ?_ | with_reducible refine WP.region ?_)
  refine WP.ret ?_; repeat (first | with_reducible refine QN.then_ret ?_ | with_reducible refine QN.block_ret ?_)
  exact QN.ret1 rfl rfl ⟨_, rfl, rfl, rfl⟩
end Go.Proofs.Ytkfakfbndnbpiaa
