/- The reference's frames; what a stream in pieces tells; two lists of frames held against one another. -/
import Derived.Test.YtkfakfbndnbpiaaFrame2
import Derived.Test.YtkfakfbndnbpiaaHelp
namespace Go.Proofs.Ytkfakfbndnbpiaa
open Go.RowKit Go.Ev

theorem refwrite_c (m : World) (M : List Nat) (v : Value) (l : List UInt8) (h : Bs m M v l) (hl : l.length < 900000000) :
    FnR Try.prog 15 [v] m (FWPost m l) := by
  obtain ⟨A, c, rfl, _, _⟩ := h.shape
  have h10 := encU_len10 (n := l.length) (by omega)
  refine FnE.enter ⟨_, Try.func15, by kernel_rfl, by kernel_rfl⟩ Try.func15 rfl rfl ?_
  repeat (first | with_reducible refine WP.seq ?_ | with_reducible refine WP.block ?_ | with_reducible refine WP.region ?_)
  refine RL.auto T_ok rfl ?_
  refine RL.nil ?_; repeat (first | with_reducible refine QN.block_normal ?_ | with_reducible refine QN.next ?_); repeat (first | with_reducible refine WP.seq ?_ | with_reducible refine WP.block ?_ | with_reducible refine WP.region ?_)
  refine RL.auto T_ok rfl ?_
  refine RL.nil ?_; repeat (first | with_reducible refine QN.block_normal ?_ | with_reducible refine QN.next ?_); repeat (first | with_reducible refine WP.seq ?_ | with_reducible refine WP.block ?_ | with_reducible refine WP.region ?_)
  refine WP.cond rfl (fun hc => ?_) (fun hc => ?_)
  · have hc : 1048576 < l.length := by have := of_decide_eq_true hc; omega
    repeat (first | with_reducible refine WP.seq ?_ | with_reducible refine WP.block ?_ | with_reducible refine WP.region ?_)
    refine RL.auto T_ok rfl ?_
    refine RL.nil ?_; repeat (first | with_reducible refine QN.block_normal ?_ | with_reducible refine QN.next ?_); repeat (first | with_reducible refine WP.seq ?_ | with_reducible refine WP.block ?_ | with_reducible refine WP.region ?_)
    refine WP.ret ?_; repeat (first | with_reducible refine QN.then_ret ?_ | with_reducible refine QN.block_ret ?_)
    exact QN.ret2 rfl rfl rfl ⟨_, rfl, .inl ⟨hc, rfl, rfl⟩⟩
  have hc : l.length ≤ 1048576 := by have := of_decide_eq_false hc; omega
  refine WP.skip ?_; repeat (first | with_reducible refine QN.block_normal ?_ | with_reducible refine QN.next ?_); repeat (first | with_reducible refine WP.seq ?_ | with_reducible refine WP.block ?_ | with_reducible refine WP.region ?_)
  refine RL.pure T_ok 3 rfl ?_
  refine RL.eqv (v' := .int .u64 ((l.length : Nat) : Int)) (congrArg _ (wrap_u64_in _ (by omega) (by omega))) ?_
  refine RL.call (fi := []) (ca := []) rfl rfl rfl rfl (refuint_c m l.length (by omega) [] _ [] (Own.empty _ _ _ _) (by simp)) ?_
  rintro u m1 ⟨S1, hO1, hE1, hF1⟩
  rw [List.nil_append] at hO1
  refine ⟨_, rfl, ?_⟩
  have h1 : Sl m1 [] 1 (.slice A l.length c) (u8s l) := (Sl.less h (M' := []) (by simp) (by omega)).ext hE1 (by simp) (by omega)
  refine RL.auto T_ok rfl ?_
  refine RL.append T_ok hO1 _ (Src.of_sl h1) rfl rfl rfl rfl rfl (by simp [u8s_length]) (u8s_one _) (by unfold maxLen; omega) (by show (_ + _) * 1 ≤ _; omega) ?_
  intro u2 m2 S2 hO2 hE2 hF2
  refine ⟨_, rfl, ?_⟩
  have hN2 : New m S2 m2 := ⟨hE1.trans hE2 hF1, hF1.trans hF2 hE1.size⟩
  have hb2 : Bs m2 M (.slice A l.length c) l := Sl.ext h (hN2.1.mono (by simp)) (fun _ hk => .inl hk) (by omega)
  rw [← u8s_append] at hO2
  refine RL.auto T_ok rfl ?_
  refine RL.nil ?_; repeat (first | with_reducible refine QN.block_normal ?_ | with_reducible refine QN.next ?_); repeat (first | with_reducible refine WP.seq ?_ | with_reducible refine WP.block ?_ | with_reducible refine WP.region ?_)
  refine RL.auto T_ok rfl ?_
  refine RL.call (fi := []) (ca := []) rfl rfl rfl rfl (refsum_c m2 M _ l hb2 (by omega)) ?_
  rintro _ m3 ⟨rfl, hE3⟩
  refine ⟨_, rfl, ?_⟩
  refine RL.auto T_ok rfl ?_
  refine RL.nil ?_; repeat (first | with_reducible refine QN.block_normal ?_ | with_reducible refine QN.next ?_); repeat (first | with_reducible refine WP.seq ?_ | with_reducible refine WP.block ?_ | with_reducible refine WP.region ?_)
  have hO3 := hO2.ext hE3 (by simp)
  generalize hx : crc l = x
  refine RL.pure T_ok 2 rfl ?_
  refine RL.pure T_ok 1 rfl ?_
  refine RL.eqv (v' := v32 (x >>> 24)) (congrArg _ (shr_v32 x 24)) ?_
  refine RL.pure T_ok 1 rfl ?_
  refine RL.eqv (v' := .int .u8 ((UInt8.ofNat (x >>> 24).toNat).toNat : Nat)) (congrArg _ (v32_byte _)) ?_
  refine RL.pure T_ok 2 rfl ?_
  refine RL.eqv (v' := v32 (x >>> 16)) (congrArg _ (shr_v32 x 16)) ?_
  refine RL.pure T_ok 1 rfl ?_
  refine RL.eqv (v' := .int .u8 ((UInt8.ofNat (x >>> 16).toNat).toNat : Nat)) (congrArg _ (v32_byte _)) ?_
  refine RL.pure T_ok 2 rfl ?_
  refine RL.eqv (v' := v32 (x >>> 8)) (congrArg _ (shr_v32 x 8)) ?_
  refine RL.pure T_ok 1 rfl ?_
  refine RL.eqv (v' := .int .u8 ((UInt8.ofNat (x >>> 8).toNat).toNat : Nat)) (congrArg _ (v32_byte _)) ?_
  refine RL.pure T_ok 2 rfl ?_
  refine RL.eqv (v' := .int .u8 ((UInt8.ofNat x.toNat).toNat : Nat)) (congrArg _ (v32_byte _)) ?_
  refine RL.append1 T_ok [.tmp 20, .tmp 23, .tmp 26, .tmp 28] hO3 (u8s (s4 x)) rfl rfl rfl rfl rfl rfl rfl rfl rfl (by simp [Value.cells]) rfl (u8s_one _) (by unfold maxLen; omega) (by show (_ + 4) * 1 ≤ _; omega) ?_
  intro u4 m4 S4 hO4 hE4 hF4
  refine ⟨_, rfl, ?_⟩
  refine RL.auto T_ok rfl ?_
  refine RL.nil ?_; repeat (first | with_reducible refine QN.block_normal ?_ | with_reducible refine QN.next ?_); repeat (first | with_reducible refine WP.seq ?_ | with_reducible refine WP.block ?_ | with_reducible refine WP.region ?_)
  refine WP.ret ?_; repeat (first | with_reducible refine QN.then_ret ?_ | with_reducible refine QN.block_ret ?_)
  refine QN.ret2 rfl rfl rfl ⟨_, rfl, .inr ⟨hc, u4, S4, rfl, ?_, ?_, ?_⟩⟩
  · have e1 : u8s (encU l.length ++ l) ++ u8s (s4 x) = u8s (frm l) := by rw [← u8s_append, frm, hx]
    have e2 : (encU l.length).length + l.length + 4 = (frm l).length := (frm_len l).symm
    rw [e1, e2] at hO4
    exact hO4
  · exact (hN2.1.trans hE3 (by simp)).trans hE4 (fun k hk => .inr (hN2.ge k hk))
  · exact (hN2.2.trans' (Ext.refl m [])).trans (hF4.trans' hE3) hN2.1.size
/-- A slice of slices of bytes. -/
def Bss (m : World) (v : Value) (ls : List (List UInt8)) : Prop := ∃ us, Sl m [] 1 v us ∧ us.length = ls.length ∧ ∀ (i : Nat) (u : Value) (l : List UInt8), us[i]? = some u → ls[i]? = some l → Bs m [] u l
theorem Bss.ext {m m' : World} {v : Value} {ls : List (List UInt8)} (h : Bss m v ls) (hE : Ext m [] m') : Bss m' v ls := by
  obtain ⟨us, h1, h2, h3⟩ := h
  exact ⟨us, h1.ext hE (by simp) (by omega), h2, fun i u l hu hl => Sl.ext (h3 i u l hu hl) hE (by simp) (by omega)⟩
theorem Bss.shape {m : World} {v : Value} {ls : List (List UInt8)} (h : Bss m v ls) : ∃ A c, v = .slice A ls.length c ∧ ls.length ≤ c ∧ c ≤ maxLen := by
  obtain ⟨us, h1, h2, h3⟩ := h
  exact h1.shape (by omega) (by omega)
theorem Bss.at_ {m : World} {A : Option Addr} {n c : Nat} {ls : List (List UInt8)} (h : Bss m (.slice A n c) ls) (i : Nat) (hi : i < ls.length) : ∃ ad u, A = some ad ∧ Bs m [] u ls[i] ∧ m.cell? (ad.add (i * 1)) = some u := by
  obtain ⟨us, h1, h2, h3⟩ := h
  obtain ⟨hl, _⟩ := h1.len
  obtain ⟨ad, rfl, _, hc⟩ := h1.addr (by omega)
  refine ⟨ad, us[i], rfl, h3 i _ _ (List.getElem?_eq_getElem (by omega)) (List.getElem?_eq_getElem hi), ?_⟩
  rw [Nat.mul_one]
  exact hc i _ (List.getElem?_eq_getElem (by omega))
theorem same_c (m : World) (v u : Value) (xs ys : List (List UInt8)) (h : Bss m v xs) (h' : Bss m u ys) (hl : xs.length < 1000000000) :
    FnR Try.prog 18 [v, u] m fun r m' => r = .bool (decide (xs = ys)) ∧ m' = m := by
  obtain ⟨A, c, rfl, _, _⟩ := h.shape
  obtain ⟨B, c', rfl, _, _⟩ := h'.shape
  refine FnE.enter ⟨_, Try.func18, by kernel_rfl, by kernel_rfl⟩ Try.func18 rfl rfl ?_
  repeat (first | with_reducible refine WP.seq ?_ | with_reducible refine WP.block ?_ | with_reducible refine WP.region ?_)
  refine RL.auto T_ok rfl ?_
  refine RL.nil ?_; repeat (first | with_reducible refine QN.block_normal ?_ | with_reducible refine QN.next ?_); repeat (first | with_reducible refine WP.seq ?_ | with_reducible refine WP.block ?_ | with_reducible refine WP.region ?_)
  refine RL.pure T_ok 4 rfl ?_
  refine RL.pure T_ok 1 rfl ?_
  refine RL.eqv (v' := .bool (decide (xs.length ≠ ys.length))) (congrArg _ (bne_nat _ _)) ?_
  refine RL.nil ?_; repeat (first | with_reducible refine QN.block_normal ?_ | with_reducible refine QN.next ?_); repeat (first | with_reducible refine WP.seq ?_ | with_reducible refine WP.block ?_ | with_reducible refine WP.region ?_)
  refine WP.cond rfl (fun hc => ?_) (fun hc => ?_)
  · have hc : xs.length ≠ ys.length := of_decide_eq_true hc
    repeat (first | with_reducible refine WP.seq ?_ | with_reducible refine WP.block ?_ | with_reducible refine WP.region ?_)
    refine RL.auto T_ok rfl ?_
    refine RL.nil ?_; repeat (first | with_reducible refine QN.block_normal ?_ | with_reducible refine QN.next ?_); repeat (first | with_reducible refine WP.seq ?_ | with_reducible refine WP.block ?_ | with_reducible refine WP.region ?_)
    refine WP.ret ?_; repeat (first | with_reducible refine QN.then_ret ?_ | with_reducible refine QN.block_ret ?_)
    exact QN.ret1 rfl rfl ⟨_, rfl, by rw [decide_eq_false (fun h => hc (by rw [h]))], rfl⟩
  have hlen : xs.length = ys.length := Classical.not_not.1 (of_decide_eq_false hc)
  refine WP.skip ?_; repeat (first | with_reducible refine QN.block_normal ?_ | with_reducible refine QN.next ?_); repeat (first | with_reducible refine WP.seq ?_ | with_reducible refine WP.block ?_ | with_reducible refine WP.region ?_)
  refine RL.auto T_ok rfl ?_
  refine RL.nil ?_; repeat (first | with_reducible refine QN.block_normal ?_ | with_reducible refine QN.next ?_); repeat (first | with_reducible refine WP.seq ?_ | with_reducible refine WP.block ?_ | with_reducible refine WP.region ?_)
  refine WP.loop (X := Nat) (fun i => [(0, .slice A xs.length c), (1, .slice B ys.length c'), (5, .int .i64 i)]) (fun i m' => i ≤ xs.length ∧ xs.take i = ys.take i ∧ m' = m) (fun i => xs.length - i) 0
    (Sub.cons rfl (Sub.cons rfl (Sub.cons rfl Sub.nil))) ⟨by simp, by simp, rfl⟩ ?_
  rintro i m1 ⟨hi, ht, rfl⟩
  repeat (first | with_reducible refine WP.seq ?_ | with_reducible refine WP.block ?_ | with_reducible refine WP.region ?_)
  refine RL.auto T_ok rfl ?_
  refine RL.nil ?_; repeat (first | with_reducible refine QN.block_normal ?_ | with_reducible refine QN.next ?_); repeat (first | with_reducible refine WP.seq ?_ | with_reducible refine WP.block ?_ | with_reducible refine WP.region ?_)
  refine WP.cond rfl (fun hc => ?_) (fun hc => ?_)
  · have hc : i < xs.length := by have := of_decide_eq_true hc; omega
    have hcb : i < ys.length := by omega
    refine WP.skip ?_; repeat (first | with_reducible refine QN.block_normal ?_ | with_reducible refine QN.next ?_); repeat (first | with_reducible refine WP.seq ?_ | with_reducible refine WP.block ?_ | with_reducible refine WP.region ?_)
    refine WP.drawQ (fun m' => m' = m1) [] (by kernel_rfl) rfl (by repeat (first | with_reducible exact PanicOk.body | with_reducible refine PanicOk.then_ ?_ | with_reducible refine PanicOk.block_ ?_)) (fun hQ => ?_)
    refine RH.pure T_ok hQ [0, 1] (by kernel_rfl) rfl ?_
    obtain ⟨ad, x, rfl, hx, hcell⟩ := h.at_ i hc
    obtain ⟨bd, y, rfl, hy, hcell'⟩ := h'.at_ i hcb
    refine RH.indexAddr T_ok hQ 2 (k := i) rfl (by kernel_rfl) rfl rfl rfl rfl rfl rfl rfl hc rfl ?_
    refine RH.load T_ok hQ 3 (v := x) (fun m' hm' => by rw [hm']; exact hcell) rfl (by kernel_rfl) rfl rfl rfl rfl ?_
    refine RH.pure T_ok hQ [4, 5] (by kernel_rfl) rfl ?_
    refine RH.indexAddr T_ok hQ 6 (k := i) rfl (by kernel_rfl) rfl rfl rfl rfl rfl rfl rfl hcb rfl ?_
    refine RH.load T_ok hQ 7 (v := y) (fun m' hm' => by rw [hm']; exact hcell') rfl (by kernel_rfl) rfl rfl rfl rfl ?_
    refine RH.only 8 rfl (by kernel_rfl) (fun _ => ?_)
    refine RL.call (fi := []) (ca := []) rfl rfl rfl rfl (hbytes_c m1 [] _ _ _ _ hx hy) ?_
    rintro _ m2 ⟨rfl, rfl⟩
    refine ⟨_, rfl, RL.nil (RH.cont rfl ?_)⟩
    refine RH.pure T_ok hQ [9] (by kernel_rfl) rfl ?_
    refine RH.done (by kernel_rfl) (fun _ => ?_)
    repeat (first | with_reducible refine QN.block_normal ?_ | with_reducible refine QN.next ?_)
    by_cases hab : xs[i] = ys[i]
    · refine WP.condF (by show some (Value.bool (!decide _)) = _; rw [decide_eq_true hab]; rfl) ?_
      refine WP.skip ?_; repeat (first | with_reducible refine QN.block_normal ?_ | with_reducible refine QN.next ?_); repeat (first | with_reducible refine WP.seq ?_ | with_reducible refine WP.block ?_ | with_reducible refine WP.region ?_)
      refine RL.auto T_ok rfl ?_
      refine RL.nil (QN.round (i + 1) (Sub.cons rfl (Sub.cons rfl (Sub.cons ?_ Sub.nil))) ⟨by omega, ?_, rfl⟩ (by omega))
      · show some (Value.int .i64 (IntKind.i64.wrap ((i : Int) + 1))) = some (Value.int .i64 ((i + 1 : Nat) : Int))
        rw [wrap_i64_in _ (by omega) (by omega)]; rfl
      · rw [List.take_succ_eq_append_getElem hc, List.take_succ_eq_append_getElem hcb, ht, hab]
    · refine WP.condT (by show some (Value.bool (!decide _)) = _; rw [decide_eq_false hab]; rfl) ?_
      repeat (first | with_reducible refine WP.seq ?_ | with_reducible refine WP.block ?_ | with_reducible refine WP.region ?_)
      refine RL.auto T_ok rfl ?_
      refine RL.nil ?_; repeat (first | with_reducible refine QN.block_normal ?_ | with_reducible refine QN.next ?_); repeat (first | with_reducible refine WP.seq ?_ | with_reducible refine WP.block ?_ | with_reducible refine WP.region ?_)
      refine WP.ret ?_; repeat (first | with_reducible refine QN.then_ret ?_ | with_reducible refine QN.block_ret ?_)
      refine QN.ret1 rfl rfl ⟨_, rfl, ?_, rfl⟩
      rw [decide_eq_false]
      intro h; subst h; exact hab rfl
  · have hc : i = xs.length := by have := of_decide_eq_false hc; omega
    subst hc
    rw [List.take_length, hlen, List.take_length] at ht
    refine WP.exit ?_; repeat (first | with_reducible refine QN.then_exit ?_ | with_reducible refine QN.block_exit ?_ | with_reducible refine QN.block_far rfl ?_ | with_reducible refine QN.block_normal ?_ | with_reducible refine QN.next ?_); repeat (first | with_reducible refine WP.seq ?_ | with_reducible refine WP.block ?_ | with_reducible refine WP.region ?_)
    refine RL.auto T_ok rfl ?_
    refine RL.nil ?_; repeat (first | with_reducible refine QN.block_normal ?_ | with_reducible refine QN.next ?_); repeat (first | with_reducible refine WP.seq ?_ | with_reducible refine WP.block ?_ | with_reducible refine WP.region ?_)
    refine WP.ret ?_; repeat (first | with_reducible refine QN.then_ret ?_ | with_reducible refine QN.block_ret ?_)
    exact QN.ret1 rfl rfl ⟨_, rfl, by rw [decide_eq_true ht], rfl⟩

/-- What stands in memory while a stream is told: the frames so far, the Reader. -/
structure AInv (m0 m : World) (b : Nat) (So : List Nat) (ov : Value) (us : List Value) (pre : List (List UInt8)) (p : List UInt8) (e : Int) : Prop where
  ext : Ext m0 [] m
  hb : m0.heap.size ≤ b
  hS : ∀ k ∈ So, m0.heap.size ≤ k
  hbS : b ∉ So
  own : Own m So 23 1 ov us.length us
  len : us.length = pre.length
  each : ∀ (i : Nat) (u : Value) (x : List UInt8), us[i]? = some u → pre[i]? = some x → Bs m (b :: So) u x
  rd : FAt m (b :: So) b p e
theorem AInv.lt {m0 m : World} {b : Nat} {So : List Nat} {ov : Value} {us : List Value} {pre : List (List UInt8)} {p : List UInt8} {e : Int} (h : AInv m0 m b So ov us pre p e) : ∀ k ∈ b :: So, k < m.heap.size := by
  intro k hk
  rcases List.mem_cons.1 hk with rfl | hk
  · exact h.rd.lt
  · exact h.own.lt k hk
theorem AInv.new {m0 m m' : World} {b : Nat} {So : List Nat} {ov : Value} {us : List Value} {pre : List (List UInt8)} {p : List UInt8} {e : Int} (h : AInv m0 m b So ov us pre p e) (hE : Ext m [] m') : AInv m0 m' b So ov us pre p e :=
  ⟨h.ext.trans hE (by simp), h.hb, h.hS, h.hbS, h.own.ext hE (by simp), h.len, fun i u x hu hx => Sl.ext (h.each i u x hu hx) (hE.mono (by simp)) (fun _ hk => .inl hk) (by omega), h.rd.ext hE (by simp) (by simp) (fun _ hk => .inl hk)⟩
/-- The Reader has turned. -/
theorem AInv.read {m0 m m' : World} {b : Nat} {So : List Nat} {ov : Value} {us : List Value} {pre : List (List UInt8)} {p p' : List UInt8} {e e' : Int} (h : AInv m0 m b So ov us pre p e) (hE : Ext m [b] m') (hr : FAt m' (b :: So) b p' e') : AInv m0 m' b So ov us pre p' e' :=
  ⟨h.ext.trans hE (fun k hk => .inr (by have h9 : k = b := (by simpa using hk); have := h.hb; omega)), h.hb, h.hS, h.hbS, h.own.ext hE (fun k hk hk' => by have h9 : k = b := (by simpa using hk'); subst h9; exact h.hbS hk), h.len,
    fun i u x hu hx => Sl.ext (h.each i u x hu hx) (hE.mono (by simp)) (fun _ hk => .inl hk) (by omega), hr⟩
/-- One more frame. -/
theorem AInv.more {m0 m m' : World} {b : Nat} {So S' : List Nat} {ov ov' : Value} {us : List Value} {pre : List (List UInt8)} {p : List UInt8} {e : Int} (h : AInv m0 m b So ov us pre p e) {u : Value} {x : List UInt8} (hu : Bs m (b :: So) u x)
    (hE : Ext m So m') (hF : FpNew m So S') (hO : Own m' S' 23 1 ov' (us.length + 1) (us ++ [u])) : AInv m0 m' b S' ov' (us ++ [u]) (pre ++ [x]) p e := by
  have hM : ∀ k ∈ b :: S', k ∈ b :: So ∨ m.heap.size ≤ k := fun k hk => by
    rcases List.mem_cons.1 hk with rfl | hk
    · exact .inl (by simp)
    · rcases hF k hk with h9 | h9
      · exact .inl (by simp [h9])
      · exact .inr h9
  have hz := h.ext.size
  refine ⟨h.ext.trans hE (fun k hk => .inr (h.hS k hk)), h.hb, fun k hk => ?_, fun hb => ?_, ?_, ?_, ?_, ?_⟩
  · rcases hF k hk with h9 | h9
    · exact h.hS k h9
    · omega
  · rcases hF b hb with h9 | h9
    · exact h.hbS h9
    · have := h.rd.lt; omega
  · simpa using hO
  · simp [h.len]
  · intro i w y hw hy
    have hEM : Ext m (b :: So) m' := hE.mono (fun k hk _ => by simp [hk])
    by_cases hi : i < us.length
    · rw [List.getElem?_append_left hi] at hw
      rw [List.getElem?_append_left (by rw [← h.len]; exact hi)] at hy
      exact Sl.ext (h.each i w y hw hy) hEM hM (by omega)
    · have hiu : i = us.length := by
        have := (List.getElem?_eq_some_iff.1 hw).1
        simp at this; omega
      subst hiu
      simp at hw
      rw [h.len] at hy
      simp at hy
      subst hw; subst hy
      exact Sl.ext hu hEM hM (by omega)
  · exact h.rd.ext hE h.hbS (fun k hk _ => by simp [hk]) hM
/-- Where the telling stands: what has been told, what the Reader holds, what hasn't been fed. -/
def TInv (outs : List (List UInt8)) (bad0 : Int) (pre : List (List UInt8)) (p q : List UInt8) (e : Int) : Prop :=
  (e = 0 ∧ ∃ rest, outs = pre ++ rest ∧ Tells rest bad0 (p ++ q)) ∨ (e ≠ 0 ∧ bad0 = e ∧ pre = outs)
def All1Post (m : World) (outs : List (List UInt8)) (bad0 : Int) (r : Value) (m' : World) : Prop := Ext m [] m' ∧ ∃ ov, r = .tuple #[ov, .int .i64 bad0, .bool true] ∧ Bss m' ov outs
theorem QN.ret3 {P : Program} {fn : Func} {post : Ending → World → Prop} {n : Nat} {e : Env} {m : World} {t u w : Tmp} {v v' v'' : Value} (hr : fn.results = #[.tmp t, .tmp u, .tmp w]) (ht : e.get t = some v) (hu : e.get u = some v') (hw : e.get w = some v'') (h : post (.returned (.tuple #[v, v', v''])) m) : QN (bodyQ P fn post) .ret n e ⟨[], none⟩ m :=
  fun _ _ hf hs => ⟨hf.defers, _, by simp [results, hr, hf.get t v ht, hf.get u v' hu, hf.get w v'' hw], m, hs, h⟩
set_option maxRecDepth 4000 in
set_option maxHeartbeats 1000000 in
theorem all_c (m : World) (v u : Value) (l cuts : List UInt8) (h : Bs m [] v l) (hu : Bs m [] u cuts) (hl : l.length < 400000000) (hcl : cuts.length < 400000000) (outs : List (List UInt8)) (bad0 : Int) (ht : Tells outs bad0 l) :
    FnR Try.prog 17 [v, u] m (All1Post m outs bad0) := by
  obtain ⟨A, c, rfl, hlc, hcm⟩ := h.shape
  obtain ⟨B, c', rfl, _, _⟩ := hu.shape
  have hcM : c < 9223372036854775808 := by unfold maxLen at hcm; omega
  refine FnE.enter ⟨_, Try.func17, by kernel_rfl, by kernel_rfl⟩ Try.func17 rfl rfl ?_
  repeat (first | with_reducible refine WP.seq ?_ | with_reducible refine WP.block ?_ | with_reducible refine WP.region ?_)
  refine RL.auto T_ok rfl ?_
  refine RL.nil ?_; repeat (first | with_reducible refine QN.block_normal ?_ | with_reducible refine QN.next ?_); repeat (first | with_reducible refine WP.seq ?_ | with_reducible refine WP.block ?_ | with_reducible refine WP.region ?_)
  refine RL.alloc T_ok rfl rfl (fun b m1 hb hC => ⟨_, rfl, ?_⟩)
  have hE1 : Ext m [] m1 := hC.new (by omega)
  have hB1 : Blk m1 b 40 [.slice none 0 0, .int .i64 0] := hC.here
  have hA1 : AInv m m1 b [] (.slice none 0 0) [] [] [] 0 := ⟨hE1, by omega, by simp, by simp, Own.empty _ _ _ _, rfl, by simp, _, hB1, Sl.nil _ _ _⟩
  refine RL.nil ?_; repeat (first | with_reducible refine QN.block_normal ?_ | with_reducible refine QN.next ?_); repeat (first | with_reducible refine WP.seq ?_ | with_reducible refine WP.block ?_ | with_reducible refine WP.region ?_)
  refine RL.auto T_ok rfl ?_
  refine RL.nil ?_; repeat (first | with_reducible refine QN.block_normal ?_ | with_reducible refine QN.next ?_); repeat (first | with_reducible refine WP.seq ?_ | with_reducible refine WP.block ?_ | with_reducible refine WP.region ?_)
  refine RL.auto T_ok rfl ?_
  refine RL.nil ?_; repeat (first | with_reducible refine QN.block_normal ?_ | with_reducible refine QN.next ?_); repeat (first | with_reducible refine WP.seq ?_ | with_reducible refine WP.block ?_ | with_reducible refine WP.region ?_)
  refine RL.auto T_ok rfl ?_
  refine RL.nil ?_; repeat (first | with_reducible refine QN.block_normal ?_ | with_reducible refine QN.next ?_); repeat (first | with_reducible refine WP.seq ?_ | with_reducible refine WP.block ?_ | with_reducible refine WP.region ?_)
  refine WP.loop (X := Nat × Nat × List Nat × Value × List Value × List (List UInt8) × List UInt8 × Int)
    (fun (i, at_, So, ov, us, pre, p, e) => [(0, .slice A l.length c), (1, .slice B cuts.length c'), (7, .pointer (some ⟨b, 0, none⟩)), (8, ov), (9, .int .i64 at_), (10, .int .i64 e), (11, .int .i64 i)])
    (fun (i, at_, So, ov, us, pre, p, e) m' => AInv m m' b So ov us pre p e ∧ TInv outs bad0 pre p (l.drop at_) e ∧ (e = 0 → nextF p = .error 0) ∧ at_ ≤ l.length ∧ p.length + pre.length ≤ at_ ∧ (i ≤ cuts.length ∨ (i = cuts.length + 1 ∧ at_ = l.length)))
    (fun (i, at_, So, ov, us, pre, p, e) => (l.length - at_) + (cuts.length + 1 - i)) (0, 0, [], .slice none 0 0, [], [], [], 0)
    (Sub.cons rfl (Sub.cons rfl (Sub.cons rfl (Sub.cons rfl (Sub.cons rfl (Sub.cons rfl (Sub.cons rfl Sub.nil)))))))
    ⟨hA1, .inl ⟨rfl, outs, rfl, by simpa using ht⟩, fun _ => nextF_nil, by simp, by simp, .inl (by simp)⟩ ?_
  rintro ⟨i, at_, So, ov, us, pre, p, e⟩ m2 ⟨hA, hT, hn, hat, hpl, hi⟩
  repeat (first | with_reducible refine WP.seq ?_ | with_reducible refine WP.block ?_ | with_reducible refine WP.region ?_)
  refine RL.auto T_ok rfl ?_
  refine RL.nil ?_; repeat (first | with_reducible refine QN.block_normal ?_ | with_reducible refine QN.next ?_); repeat (first | with_reducible refine WP.seq ?_ | with_reducible refine WP.block ?_ | with_reducible refine WP.region ?_)
  refine WP.cond rfl (fun hc => ?_) (fun hc => ?_)
  rotate_left
  · have hc : at_ = l.length := by have := of_decide_eq_false hc; omega
    subst hc
    rw [List.drop_length] at hT
    have hfin : pre = outs ∧ e = bad0 := by
      rcases hT with ⟨rfl, rest, h1, h2⟩ | ⟨_, h1, h2⟩
      · rw [List.append_nil] at h2
        obtain ⟨h3, h4⟩ := h2.end_ (hn rfl)
        subst h3
        exact ⟨by simpa using h1.symm, h4.symm⟩
      · exact ⟨h2, h1.symm⟩
    obtain ⟨rfl, rfl⟩ := hfin
    refine WP.exit ?_; repeat (first | with_reducible refine QN.then_exit ?_ | with_reducible refine QN.block_exit ?_ | with_reducible refine QN.block_far rfl ?_ | with_reducible refine QN.block_normal ?_ | with_reducible refine QN.next ?_); repeat (first | with_reducible refine WP.seq ?_ | with_reducible refine WP.block ?_ | with_reducible refine WP.region ?_)
    refine RL.auto T_ok rfl ?_
    refine RL.nil ?_; repeat (first | with_reducible refine QN.block_normal ?_ | with_reducible refine QN.next ?_); repeat (first | with_reducible refine WP.seq ?_ | with_reducible refine WP.block ?_ | with_reducible refine WP.region ?_)
    refine WP.ret ?_; repeat (first | with_reducible refine QN.then_ret ?_ | with_reducible refine QN.block_ret ?_)
    exact QN.ret3 rfl rfl rfl rfl ⟨_, rfl, hA.ext, ov, rfl, us, hA.own.sl (by simp), hA.len, fun i u x h1 h2 => Sl.less (hA.each i u x h1 h2) (by simp) (by omega)⟩
  have hc : at_ < l.length := by have := of_decide_eq_true hc; omega
  have hic : i ≤ cuts.length := by
    rcases hi with h | ⟨_, h⟩
    · exact h
    · omega
  refine WP.skip ?_; repeat (first | with_reducible refine QN.block_normal ?_ | with_reducible refine QN.next ?_); repeat (first | with_reducible refine WP.seq ?_ | with_reducible refine WP.block ?_ | with_reducible refine WP.region ?_)
  refine RL.pure T_ok 4 rfl ?_
  refine RL.eqv (v' := .int .i64 ((l.length - at_ : Nat) : Int)) (congrArg _ (by rw [wrap_i64_in _ (by omega) (by omega)]; omega)) ?_
  refine RL.auto T_ok rfl ?_
  refine RL.nil (QN.next ?_)
  refine WP.cut (X := Nat) (fun n => [(0, .slice A l.length c), (1, .slice B cuts.length c'), (7, .pointer (some ⟨b, 0, none⟩)), (8, ov), (9, .int .i64 at_), (10, .int .i64 e), (11, .int .i64 i), (12, .int .i64 n)])
    (fun n m' => m' = m2 ∧ n ≤ l.length - at_ ∧ (cuts.length ≤ i → n = l.length - at_)) ?_ ?_
  · repeat (first | with_reducible refine WP.seq ?_ | with_reducible refine WP.block ?_ | with_reducible refine WP.region ?_)
    refine RL.auto T_ok rfl ?_
    refine RL.nil ?_; repeat (first | with_reducible refine QN.block_normal ?_ | with_reducible refine QN.next ?_); repeat (first | with_reducible refine WP.seq ?_ | with_reducible refine WP.block ?_ | with_reducible refine WP.region ?_)
    refine WP.cond rfl (fun hc2 => ?_) (fun hc2 => ?_)
    · have hc2 : i < cuts.length := by have := of_decide_eq_true hc2; omega
      have hu2 : Bs m2 [] (.slice B cuts.length c') cuts := Sl.ext hu hA.ext (by simp) (by omega)
      have hx := (cuts[i]).toNat_lt
      repeat (first | with_reducible refine WP.seq ?_ | with_reducible refine WP.block ?_ | with_reducible refine WP.region ?_)
      refine RL.auto T_ok rfl ?_
      refine RL.byteAt T_ok hu2 (k := i) rfl hc2 rfl rfl rfl rfl rfl rfl (fun p => ?_)
      refine RL.pure T_ok 1 rfl ?_
      refine RL.eqv (v' := .int .i64 ((cuts[i]).toNat : Nat)) (congrArg _ (wrap_i64_in _ (by omega) (by omega))) ?_
      refine RL.pure T_ok 1 rfl ?_
      refine RL.eqv (v' := .int .i64 ((min (l.length - at_) (cuts[i]).toNat : Nat) : Int)) (congrArg _ (by split <;> omega)) ?_
      refine RL.auto T_ok rfl ?_
      refine RL.nil (QN.cutEnd (min (l.length - at_) (cuts[i]).toNat) (Sub.cons rfl (Sub.cons rfl (Sub.cons rfl (Sub.cons rfl (Sub.cons rfl (Sub.cons rfl (Sub.cons rfl (Sub.cons rfl Sub.nil)))))))) ⟨rfl, by omega, by omega⟩)
    · have hc2 : cuts.length ≤ i := by have := of_decide_eq_false hc2; omega
      refine WP.skip (QN.cutEnd (l.length - at_) (Sub.cons rfl (Sub.cons rfl (Sub.cons rfl (Sub.cons rfl (Sub.cons rfl (Sub.cons rfl (Sub.cons rfl (Sub.cons rfl Sub.nil)))))))) ⟨rfl, by omega, by omega⟩)
  rintro n m2' ⟨rfl, hnl, hnc⟩
  have h2 : Bs m2' [] (.slice A l.length c) l := Sl.ext h hA.ext (by simp) (by omega)
  have hpart : Bs m2' [] (.slice (if c = at_ then A else A.map (·.add (at_ * 1))) (at_ + n - at_) (c - at_)) ((l.drop at_).take n) := by
    have h1 := Sl.upto (Sl.from_ h2 (l := at_) (by omega)) (l := at_ + n - at_) (k := c - at_) (by omega) (by omega) (Nat.le_refl _)
    have e1 : ((u8s l).drop (at_ * 1)).take ((at_ + n - at_) * 1) = u8s ((l.drop at_).take n) := by
      rw [u8s_take, u8s_drop, Nat.mul_one, Nat.mul_one]; congr 1; omega
    rw [e1] at h1; exact h1
  have hpn : ((l.drop at_).take n).length = n := by simp; omega
  repeat (first | with_reducible refine WP.seq ?_ | with_reducible refine WP.block ?_ | with_reducible refine WP.region ?_)
  refine RL.pure T_ok 4 rfl ?_
  refine RL.pure T_ok 1 rfl ?_
  refine RL.eqv (v' := .int .i64 ((at_ + n : Nat) : Int)) (congrArg _ (by rw [wrap_i64_in _ (by omega) (by omega)]; omega)) ?_
  refine RL.sliceIn (l := at_) (q := at_ + n) T_ok rfl rfl rfl rfl rfl rfl rfl (by omega) (by omega) rfl ?_
  refine RL.call (fi := []) (ca := []) rfl rfl rfl rfl (copy_c m2' [] _ _ hpart (by omega)) ?_
  rintro iv m3 ⟨S3, hO3, hN3⟩
  refine ⟨_, rfl, ?_⟩
  have hA3 := hA.new hN3.1
  refine RL.auto T_ok rfl ?_
  refine RL.nil ?_; repeat (first | with_reducible refine QN.block_normal ?_ | with_reducible refine QN.next ?_); repeat (first | with_reducible refine WP.seq ?_ | with_reducible refine WP.block ?_ | with_reducible refine WP.region ?_)
  refine RL.auto T_ok rfl ?_
  obtain ⟨rv, hB3, hr3⟩ := hA3.rd
  refine RL.call (fi := []) (ca := []) rfl rfl rfl rfl (ffeed_c m3 b [] p _ e rv iv hB3 (Sl.less hr3 (by simp) (by omega)) (Own.sl hO3 (by simp)) (by omega)) ?_
  rintro _ m4 ⟨rfl, hE4, w, S4, hB4, hO4, hF4⟩
  refine ⟨_, rfl, ?_⟩
  have hlt3 := hA3.lt
  have hA4 : AInv m m4 b So ov us pre (p ++ (l.drop at_).take n) e := hA3.read hE4 ⟨w, hB4, hO4.sl (fun k hk hk' => by
    have := hlt3 k hk'
    rcases hF4 k hk with h9 | h9
    · cases h9
    · omega)⟩
  refine RL.nil ?_; repeat (first | with_reducible refine QN.block_normal ?_ | with_reducible refine QN.next ?_); repeat (first | with_reducible refine WP.seq ?_ | with_reducible refine WP.block ?_ | with_reducible refine WP.region ?_)
  refine RL.auto T_ok rfl ?_
  have hS3b : b ∉ S3 := fun hh => by have := hN3.ge b hh; have := hA.rd.lt; omega
  have hO34 := hO3.ext hE4 (fun k hk hk' => by have h9 : k = b := (by simpa using hk'); subst h9; exact hS3b hk)
  have hS3lt : ∀ k ∈ S3, k < m3.heap.size := hO3.lt
  refine RL.call (fi := []) (ca := []) rfl rfl rfl rfl (spoil_c m4 S3 iv _ hO34 (by omega)) ?_
  rintro _ m5 ⟨rfl, hE5⟩
  refine ⟨_, rfl, ?_⟩
  have hA5 : AInv m m5 b So ov us pre (p ++ (l.drop at_).take n) e := by
    have hS3n : ∀ k ∈ S3, m2'.heap.size ≤ k := hN3.ge
    have hz := hA.ext.size
    have hlt2 := hA.lt
    refine ⟨hA4.ext.trans hE5 (fun k hk => .inr (by have := hS3n k hk; omega)), hA4.hb, hA4.hS, hA4.hbS, hA4.own.ext hE5 (fun k hk hk' => by have := hS3n k hk'; have := hlt2 k (by simp [hk]); omega), hA4.len, fun i u x h1 h2 => ?_, w, hB4.ext hE5 hS3b, ?_⟩
    · have hBs := hA.each i u x h1 h2
      obtain ⟨A1, n1, c1, hv1, hnc1, hc1, hl1, hAn1, hr1⟩ := hBs
      refine ⟨A1, n1, c1, hv1, hnc1, hc1, hl1, hAn1, fun hn1 => ?_⟩
      obtain ⟨ad, had, hb0, hcell⟩ := hr1 hn1
      refine ⟨ad, had, hb0, fun j y hy => ?_⟩
      have h0 := hcell j y hy
      have hlt := World.block_lt_of_cell? _ _ h0
      rw [block_add] at hlt
      exact hE5.cell (by rw [block_add]; intro hh; have := hS3n _ hh; omega) (hE4.cell (by rw [block_add]; simp; intro hh; subst hh; exact hb0 (by simp)) (hN3.1.cell (by simp) h0))
    · refine Own.sl (hO4.ext hE5 (fun k hk hk' => ?_)) (fun k hk hk' => ?_)
      · rcases hF4 k hk with h9 | h9
        · cases h9
        · have := hS3lt k hk'; omega
      · have := hlt3 k hk'
        rcases hF4 k hk with h9 | h9
        · cases h9
        · omega
  refine RL.nil ?_; repeat (first | with_reducible refine QN.block_normal ?_ | with_reducible refine QN.next ?_); repeat (first | with_reducible refine WP.seq ?_ | with_reducible refine WP.block ?_ | with_reducible refine WP.region ?_)
  refine RL.pure T_ok 2 rfl ?_
  refine RL.pure T_ok 1 rfl ?_
  refine RL.eqv (v' := .int .i64 ((at_ + n : Nat) : Int)) (congrArg _ (by rw [wrap_i64_in _ (by omega) (by omega)]; omega)) ?_
  refine RL.auto T_ok rfl ?_
  have hT5 : TInv outs bad0 pre (p ++ (l.drop at_).take n) (l.drop (at_ + n)) e := by
    rcases hT with ⟨he, rest, h1, h2⟩ | h1
    · refine .inl ⟨he, rest, h1, ?_⟩
      rw [List.append_assoc, ← List.drop_drop, List.take_append_drop]
      exact h2
    · exact .inr h1
  have hlen5 : (p ++ (l.drop at_).take n).length + pre.length ≤ at_ + n := by rw [List.length_append, hpn]; omega
  clear hT hpl hA3 hA4 hr3 hn
  generalize p ++ (l.drop at_).take n = p5 at *
  generalize hat5 : at_ + n = a5 at *
  have ha5 : a5 ≤ l.length := by omega
  have hi5 : (i + 1 ≤ cuts.length ∨ (i + 1 = cuts.length + 1 ∧ a5 = l.length)) := by omega
  have hmu : (l.length - a5) + (cuts.length + 1 - (i + 1)) < (l.length - at_) + (cuts.length + 1 - i) := by omega
  have hwi : IntKind.i64.wrap ((i : Int) + 1) = ((i + 1 : Nat) : Int) := by rw [wrap_i64_in _ (by omega) (by omega)]; rfl
  refine RL.nil ?_; repeat (first | with_reducible refine QN.block_normal ?_ | with_reducible refine QN.next ?_); repeat (first | with_reducible refine WP.seq ?_ | with_reducible refine WP.block ?_ | with_reducible refine WP.region ?_)
  refine WP.loop (X := List Nat × Value × List Value × List (List UInt8) × List UInt8 × Int)
    (fun (So, ov, us, pre, p, e) => [(0, .slice A l.length c), (1, .slice B cuts.length c'), (7, .pointer (some ⟨b, 0, none⟩)), (8, ov), (9, .int .i64 a5), (10, .int .i64 e), (11, .int .i64 i)])
    (fun (So, ov, us, pre, p, e) m' => AInv m m' b So ov us pre p e ∧ TInv outs bad0 pre p (l.drop a5) e ∧ p.length + pre.length ≤ a5)
    (fun (So, ov, us, pre, p, e) => p.length) (So, ov, us, pre, p5, e)
    (Sub.cons rfl (Sub.cons rfl (Sub.cons rfl (Sub.cons rfl (Sub.cons rfl (Sub.cons rfl (Sub.cons rfl Sub.nil))))))) ⟨hA5, hT5, hlen5⟩ ?_
  clear hA5 hT5 hlen5 hE5 hE4 hO4 hB4 hF4 hO34 hO3 hN3 hS3lt hlt3 hB3 hA h2 hpart
  rintro ⟨So, ov, us, pre, p, e⟩ m6 ⟨hA, hT, hlen⟩
  repeat (first | with_reducible refine WP.seq ?_ | with_reducible refine WP.block ?_ | with_reducible refine WP.region ?_)
  refine RL.call (fi := []) (ca := []) rfl rfl rfl rfl (fnextR_c m6 (b :: So) hA.lt b p e hA.rd (by simp) (by omega)) ?_
  rintro r m7 ⟨hE7, ⟨q, hq, rfl, hF7⟩ | ⟨rfl, x, k, w7, S7, hnx, rfl, hO7, hF7, hR7⟩⟩
  · refine ⟨_, rfl, ?_⟩
    have hA7 := hA.read hE7 hF7
    refine RL.auto T_ok rfl ?_
    refine RL.nil ?_; repeat (first | with_reducible refine QN.block_normal ?_ | with_reducible refine QN.next ?_); repeat (first | with_reducible refine WP.seq ?_ | with_reducible refine WP.block ?_ | with_reducible refine WP.region ?_)
    by_cases hq0 : q = 0
    · subst hq0
      have he : e = 0 := by
        by_cases he : e = 0
        · exact he
        · rw [if_neg he] at hq; exact hq.symm
      subst he
      rw [if_pos rfl] at hq
      refine RL.auto T_ok rfl ?_
      refine RL.nil ?_; repeat (first | with_reducible refine QN.block_normal ?_ | with_reducible refine QN.next ?_); repeat (first | with_reducible refine WP.seq ?_ | with_reducible refine WP.block ?_ | with_reducible refine WP.region ?_)
      refine WP.condF rfl ?_
      refine WP.skip ?_; repeat (first | with_reducible refine QN.block_normal ?_ | with_reducible refine QN.next ?_); repeat (first | with_reducible refine WP.seq ?_ | with_reducible refine WP.block ?_ | with_reducible refine WP.region ?_)
      refine RL.auto T_ok rfl ?_
      refine RL.nil ?_; repeat (first | with_reducible refine QN.block_normal ?_ | with_reducible refine QN.next ?_); repeat (first | with_reducible refine WP.seq ?_ | with_reducible refine WP.block ?_ | with_reducible refine WP.region ?_)
      refine WP.condT rfl ?_
      refine WP.exit ?_; repeat (first | with_reducible refine QN.then_exit ?_ | with_reducible refine QN.block_exit ?_ | with_reducible refine QN.block_far rfl ?_ | with_reducible refine QN.block_normal ?_ | with_reducible refine QN.next ?_); repeat (first | with_reducible refine WP.seq ?_ | with_reducible refine WP.block ?_ | with_reducible refine WP.region ?_)
      refine RL.pure T_ok 2 rfl ?_
      refine RL.eqv (v' := .int .i64 ((i + 1 : Nat) : Int)) (congrArg _ hwi) ?_
      refine RL.auto T_ok rfl ?_
      refine RL.nil (QN.round (i + 1, a5, So, ov, us, pre, p, 0) (Sub.cons rfl (Sub.cons rfl (Sub.cons rfl (Sub.cons rfl (Sub.cons rfl (Sub.cons rfl (Sub.cons rfl Sub.nil))))))) ⟨hA7, hT, fun _ => hq, ha5, hlen, hi5⟩ hmu)
    · have hT7 : TInv outs bad0 pre p (l.drop a5) q := by
        rcases hT with ⟨he, rest, h1, h2⟩ | ⟨he, h1, h2⟩
        · rw [if_pos he] at hq
          rcases h2.next with h3 | ⟨x, o, k, _, h3, _⟩ | ⟨h3, h4, h5⟩
          · rw [hq] at h3; injection h3 with h3; exact absurd h3 hq0
          · rw [hq] at h3; cases h3
          · rw [hq] at h5
            injection h5 with h5
            exact .inr ⟨hq0, h5.symm, by rw [h1, h3]; simp⟩
        · rw [if_neg he] at hq
          subst hq
          exact .inr ⟨hq0, h1, h2⟩
      refine RL.pure T_ok 1 rfl ?_
      refine RL.pure T_ok 1 rfl ?_
      refine RL.eqv (v' := .bool true) (by simp [hq0]) ?_
      refine RL.nil ?_; repeat (first | with_reducible refine QN.block_normal ?_ | with_reducible refine QN.next ?_); repeat (first | with_reducible refine WP.seq ?_ | with_reducible refine WP.block ?_ | with_reducible refine WP.region ?_)
      refine WP.condT rfl ?_
      repeat (first | with_reducible refine WP.seq ?_ | with_reducible refine WP.block ?_ | with_reducible refine WP.region ?_)
      refine RL.auto T_ok rfl ?_
      refine RL.nil ?_; repeat (first | with_reducible refine QN.block_normal ?_ | with_reducible refine QN.next ?_); repeat (first | with_reducible refine WP.seq ?_ | with_reducible refine WP.block ?_ | with_reducible refine WP.region ?_)
      refine RL.auto T_ok rfl ?_
      refine RL.nil ?_; repeat (first | with_reducible refine QN.block_normal ?_ | with_reducible refine QN.next ?_); repeat (first | with_reducible refine WP.seq ?_ | with_reducible refine WP.block ?_ | with_reducible refine WP.region ?_)
      refine WP.condF rfl ?_
      refine WP.skip ?_; repeat (first | with_reducible refine QN.block_normal ?_ | with_reducible refine QN.next ?_); repeat (first | with_reducible refine WP.seq ?_ | with_reducible refine WP.block ?_ | with_reducible refine WP.region ?_)
      refine WP.exit ?_; repeat (first | with_reducible refine QN.then_exit ?_ | with_reducible refine QN.block_exit ?_ | with_reducible refine QN.block_far rfl ?_ | with_reducible refine QN.block_normal ?_ | with_reducible refine QN.next ?_); repeat (first | with_reducible refine WP.seq ?_ | with_reducible refine WP.block ?_ | with_reducible refine WP.region ?_)
      refine RL.pure T_ok 2 rfl ?_
      refine RL.eqv (v' := .int .i64 ((i + 1 : Nat) : Int)) (congrArg _ hwi) ?_
      refine RL.auto T_ok rfl ?_
      refine RL.nil (QN.round (i + 1, a5, So, ov, us, pre, p, q) (Sub.cons rfl (Sub.cons rfl (Sub.cons rfl (Sub.cons rfl (Sub.cons rfl (Sub.cons rfl (Sub.cons rfl Sub.nil))))))) ⟨hA7, hT7, fun h => absurd h hq0, ha5, hlen, hi5⟩ hmu)
  · refine ⟨_, rfl, ?_⟩
    have hA7 := hA.read hE7 hR7
    have hS7 : ∀ k ∈ S7, m6.heap.size ≤ k := fun k hk => by
      rcases hF7 k hk with h9 | h9
      · cases h9
      · exact h9
    have hlt6 := hA.lt
    have hw7 : Bs m7 (b :: So) w7 x := hO7.sl (fun k hk hk' => by have := hS7 k hk; have := hlt6 k hk'; omega)
    obtain ⟨Aw, cw, rfl, _⟩ := hO7.shape
    have hT7 : TInv outs bad0 (pre ++ [x]) (p.drop k) (l.drop a5) 0 ∧ 0 < k ∧ k ≤ p.length := by
      rcases hT with ⟨he, rest, h1, h2⟩ | ⟨he, h1, h2⟩
      · rcases h2.next with h3 | ⟨x', o, k', h4, h3, h5, h6, h7⟩ | ⟨h3, h4, h5⟩
        · rw [hnx] at h3; cases h3
        · rw [hnx] at h3
          injection h3 with h3
          injection h3 with h8 h9
          subst h8; subst h9
          exact ⟨.inl ⟨rfl, o, by rw [h1, h4]; simp, h7⟩, h6, h5⟩
        · rw [hnx] at h5; cases h5
      · exact absurd rfl he
    obtain ⟨hT7, hk0, hkp⟩ := hT7
    refine RL.auto T_ok rfl ?_
    refine RL.nil ?_; repeat (first | with_reducible refine QN.block_normal ?_ | with_reducible refine QN.next ?_); repeat (first | with_reducible refine WP.seq ?_ | with_reducible refine WP.block ?_ | with_reducible refine WP.region ?_)
    refine RL.auto T_ok rfl ?_
    refine RL.nil ?_; repeat (first | with_reducible refine QN.block_normal ?_ | with_reducible refine QN.next ?_); repeat (first | with_reducible refine WP.seq ?_ | with_reducible refine WP.block ?_ | with_reducible refine WP.region ?_)
    refine WP.condF rfl ?_
    refine WP.skip ?_; repeat (first | with_reducible refine QN.block_normal ?_ | with_reducible refine QN.next ?_); repeat (first | with_reducible refine WP.seq ?_ | with_reducible refine WP.block ?_ | with_reducible refine WP.region ?_)
    refine RL.auto T_ok rfl ?_
    refine RL.nil ?_; repeat (first | with_reducible refine QN.block_normal ?_ | with_reducible refine QN.next ?_); repeat (first | with_reducible refine WP.seq ?_ | with_reducible refine WP.block ?_ | with_reducible refine WP.region ?_)
    refine WP.condF rfl ?_
    refine WP.skip ?_; repeat (first | with_reducible refine QN.block_normal ?_ | with_reducible refine QN.next ?_); repeat (first | with_reducible refine WP.seq ?_ | with_reducible refine WP.block ?_ | with_reducible refine WP.region ?_)
    refine RL.auto T_ok rfl ?_
    have hul := hA.len
    refine RL.append1 T_ok [.tmp 69] hA7.own [.slice Aw x.length cw] rfl rfl rfl rfl rfl rfl rfl rfl rfl (by simp [Value.cells]) rfl (by simp [Value.oneCell']) (by unfold maxLen; omega) (by show (_ + 1) * 24 ≤ _; omega) ?_
    intro v8 m8 S8 hO8 hE8 hF8
    refine ⟨_, rfl, ?_⟩
    have hA8 := hA7.more hw7 hE8 hF8 hO8
    refine RL.auto T_ok rfl ?_
    refine RL.nil (QN.block_normal (QN.round (S8, v8, us ++ [.slice Aw x.length cw], pre ++ [x], p.drop k, 0) (Sub.cons rfl (Sub.cons rfl (Sub.cons rfl (Sub.cons rfl (Sub.cons rfl (Sub.cons rfl (Sub.cons rfl Sub.nil))))))) ⟨hA8, hT7, by simp; omega⟩ (by show (p.drop k).length < p.length; simp; omega)))
end Go.Proofs.Ytkfakfbndnbpiaa
