/- Texts that belong together. -/
import Derived.Test.YtmjpcaiehfimgaaGreatDoorMMsgVR2
import Derived.Laws.StructEq
section
namespace Go.Ev
open Go.RowKit
section
variable {P : Program} {ops : Array Oper} {Q : Exit → Act → World → Prop} {J : World → Prop} {fin : List Nat} {fuel : Nat} {listed : Array Bool} {rest : List Oper} {n : Nat} {e e' : Env} {D : Fr} {ds : List Deferred} {m : World}
  {d : Option Tmp} {x y : Operand} {t yt ty : TypeId} {pos : String} {aft : Array Edge} {g : Option (Nat × Bool)} {op : BinOp} {a b v : Value}
theorem binOp_run (hr : ∀ w, (binOp op t a b).run P w = .ok v w) (hq : ∀ w, (eqGuard op t x y a b).run P w = .ok () w) {ac : Act} (hf : Fits n e D ac) (hx : e.ev x = some a) (hy : e.ev y = some b) (w : World) :
    (execOp ac.eval (⟨d, .binOp op t x y yt, ty, pos, aft, g⟩ : Oper)).run P w = .ok (.value v) w := by
  unfold execOp
  simp [hf.ev hx, hf.ev hy, hr, hq]
theorem RL.binOp (hr : ∀ w, (Go.binOp op t a b).run P w = .ok v w) (hq : ∀ w, (eqGuard op t x y a b).run P w = .ok () w) (hg : gd ops e ⟨d, .binOp op t x y yt, ty, pos, aft, g⟩ = some true) (hx : e.ev x = some a) (hy : e.ev y = some b)
    (hp : putE n d v e = some e') (h : RL P ops Q rest n e' D m) : RL P ops Q (⟨d, .binOp op t x y yt, ty, pos, aft, g⟩ :: rest) n e D m :=
  RL.value v hg (fun _ w hf _ => binOp_run hr hq hf hx hy w) hp h
theorem RH.binOp (hr : ∀ w, (Go.binOp op t a b).run P w = .ok v w) (hq : ∀ w, (eqGuard op t x y a b).run P w = .ok () w) (hQ : PanicOk Q) (i : Nat) (hi : ops[i]? = some ⟨d, .binOp op t x y yt, ty, pos, aft, g⟩) (hB : (Region.noSelect ops && takesB ops fin listed [i]) = true)
    (hg : gd ops e ⟨d, .binOp op t x y yt, ty, pos, aft, g⟩ = some true) (hx : e.ev x = some a) (hy : e.ev y = some b)
    (hp : putE n d v e = some e') (h : RH P ops Q J fin fuel (listed.setIfInBounds i true) n e' ds m) : RH P ops Q J fin (fuel + 1) listed n e ds m := by
  simp only [takesB, Bool.and_eq_true, Bool.and_true] at hB
  exact RH.take hi hB.1 hB.2.1 hB.2.2 hQ (fun ac hf => .inl ⟨gd_sound hf hg, fun w _ => binOp_run hr hq hf hx hy w⟩) hp h
end
end Go.Ev
end
section
namespace Go.Proofs.YtmjpcaiehfimgaaGreatDoor
open Go.RowKit Go.Ev Go.Ids
theorem bne_nat' (a b : Nat) : ((a : Int) != (b : Int)) = decide (a ≠ b) := by
  by_cases h : a = b
  · simp [h]
  · have : ¬ (a : Int) = (b : Int) := by omega
    simp [h, bne, beq_eq_false_iff_ne.2 this]
theorem rsC_len : ∀ l : List Rng, (l.flatMap rC).length = l.length * 3
  | [] => rfl
  | x :: l => by simp [rC, rsC_len l]; omega
theorem rsC_get : ∀ (l : List Rng) (k : Nat) (h : k < l.length) (j : Nat), j < 3 → (l.flatMap rC)[k * 3 + j]? = (rC l[k])[j]?
  | x :: l, 0, _, j, hj => by
    rw [List.flatMap_cons, List.getElem?_append_left (by simp [rC]; omega)]
    simp
  | x :: l, k + 1, h, j, hj => by
    rw [List.flatMap_cons, List.getElem?_append_right (by simp [rC]; omega)]
    have : (k + 1) * 3 + j - (rC x).length = k * 3 + j := by simp [rC]; omega
    rw [this, rsC_get l k (by simpa using h) j hj]
    simp
def Rs (m : World) (M : List Nat) (v : Value) (l : List Rng) : Prop := Sl m M 3 v (l.flatMap rC)
theorem Rs.ext0 {m m' : World} {v : Value} {l : List Rng} (h : Rs m [] v l) (hE : Ext m [] m') : Rs m' [] v l := Sl.ext h hE (by simp) (by omega)
theorem Rs.cell {m : World} {M : List Nat} {A : Option Addr} {n c : Nat} {l : List Rng} (h : Rs m M (.slice A n c) l) (k : Nat) (hk : k < l.length) : ∃ ad, A = some ad ∧ ∀ j u, (rC l[k])[j]? = some u → m.cell? ((ad.add (k * 3)).add j) = some u := by
  obtain ⟨hl, _⟩ := Sl.len h
  rw [rsC_len] at hl
  obtain ⟨ad, rfl, _, hc⟩ := Sl.addr h (by omega)
  refine ⟨ad, rfl, fun j u hu => ?_⟩
  have hj : j < 3 := by have := (List.getElem?_eq_some_iff.1 hu).1; simpa [rC] using this
  rw [add_add]
  exact hc _ u (by rw [rsC_get l k hk j hj]; exact hu)
end Go.Proofs.YtmjpcaiehfimgaaGreatDoor
end
section
namespace Go.Proofs.YtmjpcaiehfimgaaGreatDoor
open Go.RowKit Go.Ev Go.Ids
def cmpN (a b : Nat) : Int := if a < b then -1 else if b < a then 1 else 0
theorem isNaN_c (m : World) (a : Nat) : FnR Tryz.prog 80 [.int .u64 a] m fun r m' => r = .bool false ∧ m' = m := by
  refine FnE.enter ⟨_, Tryz.func80, by kernel_rfl, by kernel_rfl⟩ Tryz.func80 rfl rfl ?_
  (with_reducible repeat (first | refine WP.S1 ?_ | refine WP.B1 ?_ | refine WP.R1 ?_))
  refine RL.A1 T_ok rfl ?_
  refine RL.N1 ?_; (with_reducible repeat (first | refine QN.B1 ?_ | refine QN.N1 ?_ | refine WP.S1 ?_ | refine WP.B1 ?_ | refine WP.R1 ?_))
  refine RL.pure T_ok 3 rfl ?_
  refine RL.eqv (v' := .bool false) (congrArg _ (by simp)) ?_
  refine RL.A1 T_ok rfl ?_
  refine RL.N1 ?_; (with_reducible repeat (first | refine QN.B1 ?_ | refine QN.N1 ?_ | refine WP.S1 ?_ | refine WP.B1 ?_ | refine WP.R1 ?_))
  refine WP.ret ?_; (with_reducible repeat (first | refine QN.tr ?_ | refine QN.br ?_))
  exact QN.ret1 rfl rfl ⟨_, rfl, rfl, rfl⟩
theorem compare_c (m : World) (a b : Nat) : FnR Tryz.prog 54 [.int .u64 a, .int .u64 b] m fun r m' => r = .int .i64 (cmpN a b) ∧ m' = m := by
  refine FnE.enter ⟨_, Tryz.func54, by kernel_rfl, by kernel_rfl⟩ Tryz.func54 rfl rfl ?_
  (with_reducible repeat (first | refine WP.S1 ?_ | refine WP.B1 ?_ | refine WP.R1 ?_))
  refine RL.A1 T_ok rfl ?_
  refine RL.N1 ?_; (with_reducible repeat (first | refine QN.B1 ?_ | refine QN.N1 ?_ | refine WP.S1 ?_ | refine WP.B1 ?_ | refine WP.R1 ?_))
  refine RL.A1 T_ok rfl ?_
  refine RL.call (fi := []) (ca := []) rfl rfl rfl rfl (isNaN_c m a) ?_
  rintro _ m1 ⟨rfl, rfl⟩
  refine ⟨_, rfl, ?_⟩
  refine RL.A1 T_ok rfl ?_
  refine RL.N1 ?_; (with_reducible repeat (first | refine QN.B1 ?_ | refine QN.N1 ?_ | refine WP.S1 ?_ | refine WP.B1 ?_ | refine WP.R1 ?_))
  refine RL.A1 T_ok rfl ?_
  refine RL.call (fi := []) (ca := []) rfl rfl rfl rfl (isNaN_c m1 b) ?_
  rintro _ m2 ⟨rfl, rfl⟩
  refine ⟨_, rfl, ?_⟩
  refine RL.A1 T_ok rfl ?_
  refine RL.N1 ?_; (with_reducible repeat (first | refine QN.B1 ?_ | refine QN.N1 ?_ | refine WP.S1 ?_ | refine WP.B1 ?_ | refine WP.R1 ?_))
  refine RL.A1 T_ok rfl ?_
  refine RL.N1 ?_; (with_reducible repeat (first | refine QN.B1 ?_ | refine QN.N1 ?_ | refine WP.S1 ?_ | refine WP.B1 ?_ | refine WP.R1 ?_))
  refine WP.condF rfl ?_
  refine WP.skip ?_; (with_reducible repeat (first | refine QN.B1 ?_ | refine QN.N1 ?_ | refine WP.S1 ?_ | refine WP.B1 ?_ | refine WP.R1 ?_))
  refine RL.A1 T_ok rfl ?_
  refine RL.N1 ?_; (with_reducible repeat (first | refine QN.B1 ?_ | refine QN.N1 ?_ | refine WP.S1 ?_ | refine WP.B1 ?_ | refine WP.R1 ?_))
  refine WP.condF rfl ?_
  refine WP.skip ?_; (with_reducible repeat (first | refine QN.B1 ?_ | refine QN.N1 ?_ | refine WP.S1 ?_ | refine WP.B1 ?_ | refine WP.R1 ?_))
  refine RL.A1 T_ok rfl ?_
  refine RL.N1 ?_; (with_reducible repeat (first | refine QN.B1 ?_ | refine QN.N1 ?_ | refine WP.S1 ?_ | refine WP.B1 ?_ | refine WP.R1 ?_))
  refine WP.cond rfl (fun hc => ?_) (fun hc => ?_)
  · have hc : a < b := by have := of_decide_eq_true hc; omega
    (with_reducible repeat (first | refine WP.S1 ?_ | refine WP.B1 ?_ | refine WP.R1 ?_))
    refine RL.A1 T_ok rfl ?_
    refine RL.N1 ?_; (with_reducible repeat (first | refine QN.B1 ?_ | refine QN.N1 ?_ | refine WP.S1 ?_ | refine WP.B1 ?_ | refine WP.R1 ?_))
    refine WP.ret ?_; (with_reducible repeat (first | refine QN.tr ?_ | refine QN.br ?_))
    exact QN.ret1 rfl rfl ⟨_, rfl, by rw [cmpN, if_pos hc], rfl⟩
  have hc : ¬ a < b := by have := of_decide_eq_false hc; omega
  refine WP.skip ?_; (with_reducible repeat (first | refine QN.B1 ?_ | refine QN.N1 ?_ | refine WP.S1 ?_ | refine WP.B1 ?_ | refine WP.R1 ?_))
  refine RL.A1 T_ok rfl ?_
  refine RL.N1 ?_; (with_reducible repeat (first | refine QN.B1 ?_ | refine QN.N1 ?_ | refine WP.S1 ?_ | refine WP.B1 ?_ | refine WP.R1 ?_))
  refine WP.cond rfl (fun hc2 => ?_) (fun hc2 => ?_)
  · have hc2 : b < a := by have := of_decide_eq_true hc2; omega
    (with_reducible repeat (first | refine WP.S1 ?_ | refine WP.B1 ?_ | refine WP.R1 ?_))
    refine RL.A1 T_ok rfl ?_
    refine RL.N1 ?_; (with_reducible repeat (first | refine QN.B1 ?_ | refine QN.N1 ?_ | refine WP.S1 ?_ | refine WP.B1 ?_ | refine WP.R1 ?_))
    refine WP.ret ?_; (with_reducible repeat (first | refine QN.tr ?_ | refine QN.br ?_))
    exact QN.ret1 rfl rfl ⟨_, rfl, by rw [cmpN, if_neg hc, if_pos hc2], rfl⟩
  · have hc2 : ¬ b < a := by have := of_decide_eq_false hc2; omega
    refine WP.skip ?_; (with_reducible repeat (first | refine QN.B1 ?_ | refine QN.N1 ?_ | refine WP.S1 ?_ | refine WP.B1 ?_ | refine WP.R1 ?_))
    refine RL.A1 T_ok rfl ?_
    refine RL.N1 ?_; (with_reducible repeat (first | refine QN.B1 ?_ | refine QN.N1 ?_ | refine WP.S1 ?_ | refine WP.B1 ?_ | refine WP.R1 ?_))
    refine WP.ret ?_; (with_reducible repeat (first | refine QN.tr ?_ | refine QN.br ?_))
    exact QN.ret1 rfl rfl ⟨_, rfl, by rw [cmpN, if_neg hc, if_neg hc2], rfl⟩
theorem or_c (m : World) (v : Value) (a b : Int) (h : Sl m [] 1 v [.int .i64 a, .int .i64 b]) : FnR Tryz.prog 53 [v] m fun r m' => r = .int .i64 (if a = 0 then b else a) ∧ m' = m := by
  obtain ⟨A, c, rfl, hlc, _⟩ := h.shape (n := 2) rfl (by omega)
  refine FnE.enter ⟨_, Tryz.func53, by kernel_rfl, by kernel_rfl⟩ Tryz.func53 rfl rfl ?_
  (with_reducible repeat (first | refine WP.S1 ?_ | refine WP.B1 ?_ | refine WP.R1 ?_))
  refine RL.A1 T_ok rfl ?_
  refine RL.N1 ?_; (with_reducible repeat (first | refine QN.B1 ?_ | refine QN.N1 ?_ | refine WP.S1 ?_ | refine WP.B1 ?_ | refine WP.R1 ?_))
  refine RL.A1 T_ok rfl ?_
  refine RL.N1 ?_; (with_reducible repeat (first | refine QN.B1 ?_ | refine QN.N1 ?_ | refine WP.S1 ?_ | refine WP.B1 ?_ | refine WP.R1 ?_))
  refine RL.A1 T_ok rfl ?_
  refine RL.N1 ?_; (with_reducible repeat (first | refine QN.B1 ?_ | refine QN.N1 ?_ | refine WP.S1 ?_ | refine WP.B1 ?_ | refine WP.R1 ?_))
  refine WP.loop (X := Nat) (fun i => [(6, .slice A 2 c), (7, .int .i64 2), (3, .int .i64 0), (8, .int .i64 i)]) (fun i m' => i ≤ 2 ∧ m' = m ∧ (1 ≤ i → a = 0) ∧ (2 ≤ i → b = 0)) (fun i => 2 - i) 0
    (Sub.C1 rfl (Sub.C1 rfl (Sub.C1 rfl (Sub.C1 rfl Sub.nil)))) ⟨by omega, rfl, fun h => absurd h (by omega), fun h => absurd h (by omega)⟩ ?_
  rintro i m1 ⟨hi, rfl, h1, h2⟩
  have step : ∀ (x : Int) (hx : [Value.int .i64 a, Value.int .i64 b][i]? = some (.int .i64 x)) (hlt : i < 2), (x ≠ 0 → (if a = 0 then b else a) = x) → (x = 0 → (1 ≤ i + 1 → a = 0) ∧ (2 ≤ i + 1 → b = 0)) → True := fun _ _ _ _ _ => trivial
  (with_reducible repeat (first | refine WP.S1 ?_ | refine WP.B1 ?_ | refine WP.R1 ?_))
  refine RL.A1 T_ok rfl ?_
  refine RL.N1 ?_; (with_reducible repeat (first | refine QN.B1 ?_ | refine QN.N1 ?_ | refine WP.S1 ?_ | refine WP.B1 ?_ | refine WP.R1 ?_))
  refine WP.cond rfl (fun hc => ?_) (fun hc => ?_)
  · have hc : i < 2 := by have := of_decide_eq_true hc; omega
    obtain ⟨x, hx, hne, hze⟩ : ∃ x : Int, [Value.int .i64 a, Value.int .i64 b][i]? = some (.int .i64 x) ∧ (x ≠ 0 → (if a = 0 then b else a) = x) ∧ (x = 0 → (1 ≤ i + 1 → a = 0) ∧ (2 ≤ i + 1 → b = 0)) := by
      match i, hc with
      | 0, _ => exact ⟨a, rfl, fun h => by rw [if_neg h], fun h => ⟨fun _ => h, fun h => absurd h (by omega)⟩⟩
      | 1, _ => exact ⟨b, rfl, fun h => by rw [if_pos (h1 (by omega))], fun h => ⟨fun _ => h1 (by omega), fun _ => h⟩⟩
    refine WP.skip ?_; (with_reducible repeat (first | refine QN.B1 ?_ | refine QN.N1 ?_ | refine WP.S1 ?_ | refine WP.B1 ?_ | refine WP.R1 ?_))
    refine RL.index T_ok h (k := i) rfl hc rfl rfl rfl rfl (fun ad _ _ hcell => ⟨_, rfl, ?_⟩)
    have hx := hcell 0 _ (by rw [Nat.mul_one]; exact hx)
    refine RL.load T_ok rfl rfl rfl (by rw [add_add] at hx; exact hx) rfl ?_
    refine RL.A1 T_ok rfl ?_
    refine RL.N1 ?_; (with_reducible repeat (first | refine QN.B1 ?_ | refine QN.N1 ?_ | refine WP.S1 ?_ | refine WP.B1 ?_ | refine WP.R1 ?_))
    refine RL.pure T_ok 2 rfl ?_
    refine RL.pure T_ok 1 rfl ?_
    by_cases h0 : x = 0
    · refine RL.eqv (v' := .bool false) (congrArg _ (by simp [h0])) ?_
      refine RL.N1 ?_; (with_reducible repeat (first | refine QN.B1 ?_ | refine QN.N1 ?_ | refine WP.S1 ?_ | refine WP.B1 ?_ | refine WP.R1 ?_))
      refine WP.condF rfl ?_
      refine WP.skip ?_; (with_reducible repeat (first | refine QN.B1 ?_ | refine QN.N1 ?_ | refine WP.S1 ?_ | refine WP.B1 ?_ | refine WP.R1 ?_))
      refine RL.pure T_ok 1 rfl ?_
      refine RL.eqv (v' := .int .i64 ((i + 1 : Nat) : Int)) (congrArg _ (by rw [wrap_i64_in _ (by omega) (by omega)]; rfl)) ?_
      refine RL.A1 T_ok rfl ?_
      exact RL.N1 (QN.round (i + 1) (Sub.C1 rfl (Sub.C1 rfl (Sub.C1 rfl (Sub.C1 rfl Sub.nil)))) ⟨by omega, rfl, (hze h0).1, (hze h0).2⟩ (by omega))
    · refine RL.eqv (v' := .bool true) (congrArg _ (by simp [h0])) ?_
      refine RL.N1 ?_; (with_reducible repeat (first | refine QN.B1 ?_ | refine QN.N1 ?_ | refine WP.S1 ?_ | refine WP.B1 ?_ | refine WP.R1 ?_))
      refine WP.condT rfl ?_
      (with_reducible repeat (first | refine WP.S1 ?_ | refine WP.B1 ?_ | refine WP.R1 ?_))
      refine RL.A1 T_ok rfl ?_
      refine RL.N1 ?_; (with_reducible repeat (first | refine QN.B1 ?_ | refine QN.N1 ?_ | refine WP.S1 ?_ | refine WP.B1 ?_ | refine WP.R1 ?_))
      refine WP.ret ?_; (with_reducible repeat (first | refine QN.tr ?_ | refine QN.br ?_))
      exact QN.ret1 rfl rfl ⟨_, rfl, by rw [hne h0], rfl⟩
  · have hc : i = 2 := by have := of_decide_eq_false hc; omega
    refine WP.exit ?_; (with_reducible repeat (first | refine QN.tx ?_ | refine QN.bx ?_ | refine QN.block_far rfl ?_ | refine QN.B1 ?_ | refine QN.N1 ?_)); (with_reducible repeat (first | refine WP.S1 ?_ | refine WP.B1 ?_ | refine WP.R1 ?_))
    refine RL.A1 T_ok rfl ?_
    refine RL.N1 ?_; (with_reducible repeat (first | refine QN.B1 ?_ | refine QN.N1 ?_ | refine WP.S1 ?_ | refine WP.B1 ?_ | refine WP.R1 ?_))
    refine WP.ret ?_; (with_reducible repeat (first | refine QN.tr ?_ | refine QN.br ?_))
    exact QN.ret1 rfl rfl ⟨_, rfl, by rw [if_pos (h1 (by omega)), h2 (by omega)], rfl⟩
end Go.Proofs.YtmjpcaiehfimgaaGreatDoor
end
section
namespace Go.Proofs.YtmjpcaiehfimgaaGreatDoor
open Go.RowKit Go.Ev
end Go.Proofs.YtmjpcaiehfimgaaGreatDoor
end
section
namespace Go.Proofs.YtmjpcaiehfimgaaGreatDoor
open Go.RowKit Go.Ev Go.Ids
end Go.Proofs.YtmjpcaiehfimgaaGreatDoor
end
section
namespace Go.Proofs.YtmjpcaiehfimgaaGreatDoor
open Go.RowKit Go.Ev
end Go.Proofs.YtmjpcaiehfimgaaGreatDoor
end
section
namespace Go.Proofs.YtmjpcaiehfimgaaGreatDoor
open Go.RowKit Go.Ev
def WAt (m : World) (b : Nat) (S : List Nat) (l : List UInt8) : Prop :=
  ∃ v S1, Blk m b 51 [v] ∧ Ev.Own m S1 5 1 v l.length (u8s l) ∧ b ∉ S1 ∧ S = b :: S1
theorem WAt.ext {m m' : World} {b : Nat} {S M : List Nat} {l : List UInt8} (h : WAt m b S l) (hE : Ext m M m') (hM : ∀ k ∈ S, k ∉ M) : WAt m' b S l := by
  obtain ⟨v, S1, h1, h2, h3, rfl⟩ := h
  exact ⟨v, S1, h1.ext hE (hM b (by simp)), h2.ext hE (fun k hk => hM k (by simp [hk])), h3, rfl⟩
theorem WAt.lt {m : World} {b : Nat} {S : List Nat} {l : List UInt8} (h : WAt m b S l) : ∀ k ∈ S, k < m.heap.size := by
  obtain ⟨v, S1, h1, h2, h3, rfl⟩ := h
  intro k hk
  rcases List.mem_cons.1 hk with rfl | hk
  · exact h1.lt
  · exact h2.lt k hk
def WPost (m : World) (b : Nat) (S : List Nat) (l : List UInt8) (v : Value) (m' : World) : Prop :=
  v = .tuple #[] ∧ ∃ S', WAt m' b S' l ∧ Ext m S m' ∧ FpNew m S S'
theorem W_step {m m1 m2 : World} {b : Nat} {v v1 : Value} {S1 S2 : List Nat} {l' : List UInt8} (hb : b ∉ S1) (hB : Blk m b 51 [v]) (hO : Ev.Own m1 S2 5 1 v1 l'.length (u8s l'))
    (hE : Ext m S1 m1) (hF : FpNew m S1 S2) (hC : Chg m1 b (.cells [v1].toArray 51 (0, 0)) m2) : ∃ S', WAt m2 b S' l' ∧ Ext m (b :: S1) m2 ∧ FpNew m (b :: S1) S' := by
  have hb2 : b ∉ S2 := hF.far hb hB.lt
  refine ⟨b :: S2, ⟨v1, S2, hC.blk, hO.ext hC.ext (fun k hk hk' => ?_), hb2, rfl⟩, ?_, ?_⟩
  · have : k = b := by simpa using hk'
    subst this; exact hb2 hk
  · exact (hE.mono (M' := b :: S1) (fun k hk _ => by simp [hk])).trans hC.ext (fun k hk => .inl (by simp at hk; simp [hk]))
  · exact (hF.more (fun k hk => by simp [hk])).cons b (.inl (by simp))
theorem wbyte (m : World) (x : UInt8) (b : Nat) (S : List Nat) (l : List UInt8) (h : WAt m b S l) (hl : l.length < 1000000000) :
    FnR Tryz.prog 19 [.pointer (some ⟨b, 0, none⟩), .int .u8 x.toNat] m (WPost m b S (l ++ [x])) := by
  obtain ⟨v, S1, hB, hO, hb, rfl⟩ := h
  refine FnE.enter ⟨_, Tryz.func19, by kernel_rfl, by kernel_rfl⟩ Tryz.func19 rfl rfl ?_
  refine WP.R1 ?_
  refine RL.A1 T_ok rfl ?_
  refine RL.load T_ok rfl rfl rfl (hB.cell 0 rfl) rfl ?_
  refine RL.A1 T_ok rfl ?_
  refine RL.append1 T_ok [.tmp 9] hO (u8s [x]) rfl rfl rfl rfl rfl rfl rfl rfl rfl (by simp [Value.cells]) rfl (u8s_one _) (by unfold maxLen; omega) (by show (_ + 1) * 1 ≤ _; omega) ?_
  intro v1 m1 S2 hO1 hE1 hF1
  refine ⟨_, rfl, ?_⟩
  have hB1 := hB.ext hE1 hb
  refine RL.A1 T_ok rfl ?_
  refine RL.store T_ok hB1 (i := 0) (v := v1) (by simp) rfl rfl rfl rfl hO1.one rfl ?_
  intro m2 hC
  refine RL.N1 (QN.end0 rfl ⟨_, rfl, rfl, ?_⟩)
  exact W_step hb hB (l' := l ++ [x]) (by rw [← u8s_append] at hO1; simpa using hO1) hE1 hF1 hC
theorem wuint (m : World) (n : Nat) (hn : n < 18446744073709551616) (b : Nat) (S : List Nat) (l : List UInt8) (h : WAt m b S l) (hl : l.length < 1000000000) :
    FnR Tryz.prog 20 [.pointer (some ⟨b, 0, none⟩), .int .u64 n] m (WPost m b S (l ++ encU n)) := by
  refine FnE.enter ⟨_, Tryz.func20, by kernel_rfl, by kernel_rfl⟩ Tryz.func20 rfl rfl ?_
  refine WP.S1 (WP.B1 (WP.loop (X := Nat × List UInt8) (fun x => [(0, .pointer (some ⟨b, 0, none⟩)), (1, .int .u64 x.1)])
    (fun x m' => x.1 < 18446744073709551616 ∧ x.2 ++ encU x.1 = l ++ encU n ∧ ∃ S', WAt m' b S' x.2 ∧ Ext m S m' ∧ FpNew m S S') (fun x => x.1) (n, l)
    (Sub.C1 rfl (Sub.C1 rfl Sub.nil)) ⟨hn, rfl, S, h, Ext.refl _ _, FpNew.refl _ _⟩ ?_))
  rintro ⟨k, pre⟩ m1 ⟨hk, hpre, S', hW, hE, hF⟩
  simp only at hk hpre hW
  have hlen : pre.length + (encU k).length = l.length + (encU n).length := by simpa using congrArg List.length hpre
  have h10 := encU_len10 hn
  (with_reducible repeat (first | refine WP.S1 ?_ | refine WP.B1 ?_ | refine WP.R1 ?_))
  refine RL.A1 T_ok rfl ?_
  refine RL.N1 ?_; (with_reducible repeat (first | refine QN.B1 ?_ | refine QN.N1 ?_ | refine WP.S1 ?_ | refine WP.B1 ?_ | refine WP.R1 ?_))
  obtain ⟨v, S1, hB, hO, hb, rfl⟩ := hW
  refine WP.cond rfl (fun hc => ?_) (fun hc => ?_)
  · have hc : 128 ≤ k := by have := of_decide_eq_true hc; omega
    refine WP.skip ?_; (with_reducible repeat (first | refine QN.B1 ?_ | refine QN.N1 ?_ | refine WP.S1 ?_ | refine WP.B1 ?_ | refine WP.R1 ?_))
    refine RL.A1 T_ok rfl ?_
    refine RL.load T_ok rfl rfl rfl (hB.cell 0 rfl) rfl ?_
    refine RL.A1 T_ok rfl ?_
    refine RL.append1 T_ok [.tmp 15] hO (u8s [UInt8.ofNat (k % 128 + 128)]) rfl rfl rfl rfl rfl rfl rfl rfl rfl (by simp [Value.cells]) ?_ (u8s_one _) (by unfold maxLen; omega) (by show (_ + 1) * 1 ≤ _; omega) ?_
    · simp [u8s, Value.cells, wrap_u8_nat]
      exact or128 k
    intro v1 m2 S2 hO1 hE1 hF1
    refine ⟨_, rfl, ?_⟩
    have hB1 := hB.ext hE1 hb
    refine RL.A1 T_ok rfl ?_
    refine RL.store T_ok hB1 (i := 0) (v := v1) (by simp) rfl rfl rfl rfl hO1.one rfl ?_
    intro m3 hC
    obtain ⟨S3, hW3, hE3, hF3⟩ := W_step hb hB (l' := pre ++ [UInt8.ofNat (k % 128 + 128)]) (by rw [← u8s_append] at hO1; simpa using hO1) hE1 hF1 hC
    refine RL.N1 ?_; (with_reducible repeat (first | refine QN.B1 ?_ | refine QN.N1 ?_ | refine WP.S1 ?_ | refine WP.B1 ?_ | refine WP.R1 ?_))
    refine RL.A1 T_ok rfl ?_
    refine RL.N1 (QN.round (k / 128, pre ++ [UInt8.ofNat (k % 128 + 128)]) ?_ ⟨?_, ?_, S3, hW3, hE.trans hE3 hF, hF.trans hF3 hE.size⟩ ?_)
    · refine Sub.C1 rfl (Sub.C1 ?_ Sub.nil)
      show some (Value.int .u64 ((k : Int).fdiv (2 ^ 7))) = some (Value.int .u64 ((k / 128 : Nat) : Int))
      rw [fdiv_pow k 7]
    · show k / 128 < _
      omega
    · show (pre ++ [_]) ++ encU (k / 128) = _
      rw [← hpre, encU_big hc]; simp
    · show k / 128 < k
      omega
  · have hc : k < 128 := by have := of_decide_eq_false hc; omega
    refine WP.exit ?_; (with_reducible repeat (first | refine QN.tx ?_ | refine QN.bx ?_ | refine QN.block_far rfl ?_ | refine QN.B1 ?_ | refine QN.N1 ?_)); (with_reducible repeat (first | refine WP.S1 ?_ | refine WP.B1 ?_ | refine WP.R1 ?_))
    refine RL.A1 T_ok rfl ?_
    refine RL.load T_ok rfl rfl rfl (hB.cell 0 rfl) rfl ?_
    refine RL.A1 T_ok rfl ?_
    refine RL.append1 T_ok [.tmp 26] hO (u8s [UInt8.ofNat k]) rfl rfl rfl rfl rfl rfl rfl rfl rfl (by simp [Value.cells]) ?_ (u8s_one _) (by unfold maxLen; omega) (by show (_ + 1) * 1 ≤ _; omega) ?_
    · simp only [u8s, List.map_cons, List.map_nil, List.flatMap_cons, List.flatMap_nil, Value.cells, wrap_u8_nat]; rfl
    intro v1 m2 S2 hO1 hE1 hF1
    refine ⟨_, rfl, ?_⟩
    have hB1 := hB.ext hE1 hb
    refine RL.A1 T_ok rfl ?_
    refine RL.store T_ok hB1 (i := 0) (v := v1) (by simp) rfl rfl rfl rfl hO1.one rfl ?_
    intro m3 hC
    obtain ⟨S3, hW3, hE3, hF3⟩ := W_step hb hB (l' := pre ++ [UInt8.ofNat k]) (by rw [← u8s_append] at hO1; simpa using hO1) hE1 hF1 hC
    refine RL.N1 (QN.end0 rfl ⟨_, rfl, rfl, S3, ?_, hE.trans hE3 hF, hF.trans hF3 hE.size⟩)
    rw [← hpre, encU_small hc]
    exact hW3
theorem wtext (m : World) (s : ByteArray) (hs : s.size < 1000000000) (b : Nat) (S : List Nat) (l : List UInt8) (h : WAt m b S l) (hl : l.length < 1000000000) :
    FnR Tryz.prog 21 [.pointer (some ⟨b, 0, none⟩), .string s] m (WPost m b S (l ++ encU s.size ++ s.data.toList)) := by
  have h10 := encU_len10 (n := s.size) (by omega)
  refine FnE.enter ⟨_, Tryz.func21, by kernel_rfl, by kernel_rfl⟩ Tryz.func21 rfl rfl ?_
  (with_reducible repeat (first | refine WP.S1 ?_ | refine WP.B1 ?_ | refine WP.R1 ?_))
  refine RL.A1 T_ok rfl ?_
  refine RL.eqv (v' := .int .u64 ((s.size : Nat) : Int)) (congrArg _ (wrap_u64_in _ (by omega) (by omega))) ?_
  refine RL.call (fi := []) (ca := []) rfl rfl rfl rfl (wuint m s.size (by omega) b S l h hl) ?_
  rintro _ m1 ⟨rfl, S1, hW, hE, hF⟩
  refine ⟨_, rfl, ?_⟩
  refine RL.N1 ?_; (with_reducible repeat (first | refine QN.B1 ?_ | refine QN.N1 ?_ | refine WP.S1 ?_ | refine WP.B1 ?_ | refine WP.R1 ?_))
  obtain ⟨v, S2, hB, hO, hb, rfl⟩ := hW
  (with_reducible repeat (first | refine WP.S1 ?_ | refine WP.B1 ?_ | refine WP.R1 ?_))
  refine RL.A1 T_ok rfl ?_
  refine RL.load T_ok rfl rfl rfl (hB.cell 0 rfl) rfl ?_
  refine RL.A1 T_ok rfl ?_
  have hss : s.data.toList.length = s.size := rfl
  refine RL.append T_ok hO _ (Src.of_string s) rfl rfl rfl rfl rfl (by simp [u8s, hss]) (u8s_one _) (by simp; unfold maxLen; omega) (by simp; omega) ?_
  intro v1 m2 S3 hO1 hE1 hF1
  refine ⟨_, rfl, ?_⟩
  have hB1 := hB.ext hE1 hb
  refine RL.A1 T_ok rfl ?_
  refine RL.store T_ok hB1 (i := 0) (v := v1) (by simp) rfl rfl rfl rfl hO1.one rfl ?_
  intro m3 hC
  obtain ⟨S4, hW3, hE3, hF3⟩ := W_step hb hB (l' := l ++ encU s.size ++ s.data.toList) (by rw [← u8s_append] at hO1; simpa [hss, Nat.add_assoc] using hO1) hE1 hF1 hC
  exact RL.N1 (QN.end0 rfl ⟨_, rfl, rfl, S4, hW3, hE.trans hE3 hF, hF.trans hF3 hE.size⟩)
theorem clone_bytes (m : World) (M : List Nat) (v : Value) (l : List UInt8) (h : Bs m M v l) (hl : l.length < 1000000000) :
    FnR Tryz.prog 59 [v] m fun r m' => ∃ S', Ev.Own m' S' 5 1 r l.length (u8s l) ∧ New m S' m' := by
  obtain ⟨A, c, rfl, hlc, _⟩ := h.shape
  refine FnE.enter ⟨_, Tryz.func59, by kernel_rfl, by kernel_rfl⟩ Tryz.func59 rfl rfl ?_
  (with_reducible repeat (first | refine WP.S1 ?_ | refine WP.B1 ?_ | refine WP.R1 ?_))
  refine RL.A1 T_ok rfl ?_
  refine RL.N1 ?_; (with_reducible repeat (first | refine QN.B1 ?_ | refine QN.N1 ?_ | refine WP.S1 ?_ | refine WP.B1 ?_ | refine WP.R1 ?_))
  refine RL.A1 T_ok rfl ?_
  refine RL.N1 ?_; (with_reducible repeat (first | refine QN.B1 ?_ | refine QN.N1 ?_ | refine WP.S1 ?_ | refine WP.B1 ?_ | refine WP.R1 ?_))
  refine WP.cond rfl (fun hc => ?_) (fun hc => ?_)
  · have hn : l = [] := by
      rcases Nat.eq_zero_or_pos l.length with h0 | h0
      · exact List.eq_nil_of_length_eq_zero h0
      · obtain ⟨ad, rfl, _⟩ := Sl.addr h h0; cases hc
    subst hn
    (with_reducible repeat (first | refine WP.S1 ?_ | refine WP.B1 ?_ | refine WP.R1 ?_))
    refine RL.A1 T_ok rfl ?_
    refine RL.N1 ?_; (with_reducible repeat (first | refine QN.B1 ?_ | refine QN.N1 ?_ | refine WP.S1 ?_ | refine WP.B1 ?_ | refine WP.R1 ?_))
    refine WP.ret ?_; (with_reducible repeat (first | refine QN.tr ?_ | refine QN.br ?_))
    exact QN.ret1 rfl rfl ⟨_, rfl, [], Own.empty _ _ _ _, Ext.refl _ _, FpNew.nil _ _⟩
  · refine WP.skip ?_; (with_reducible repeat (first | refine QN.B1 ?_ | refine QN.N1 ?_ | refine WP.S1 ?_ | refine WP.B1 ?_ | refine WP.R1 ?_))
    refine RL.buildSlice0 T_ok rfl rfl (fun b m1 hb hE => ⟨_, rfl, ?_⟩)
    refine RL.A1 T_ok rfl ?_
    have hS1 : Sl m1 [] 1 (.slice A l.length c) (u8s l) := Sl.ext h (hE.mono (M' := M) (by simp)) (by simp) (by omega)
    refine RL.append T_ok (Own.empty m1 _ _ _) _ (Src.of_sl hS1) rfl rfl rfl rfl rfl (by simp [u8s_length]) (u8s_one _) (by simp; unfold maxLen; omega) (by simp; omega) ?_
    intro v2 m2 S2 hO hE2 hF
    refine ⟨_, rfl, ?_⟩
    refine RL.A1 T_ok rfl ?_
    refine RL.N1 ?_; (with_reducible repeat (first | refine QN.B1 ?_ | refine QN.N1 ?_ | refine WP.S1 ?_ | refine WP.B1 ?_ | refine WP.R1 ?_))
    refine WP.ret ?_; (with_reducible repeat (first | refine QN.tr ?_ | refine QN.br ?_))
    refine QN.ret1 rfl rfl ⟨_, rfl, S2, ?_, hE.trans hE2 (by simp), hF.trans' hE⟩
    simpa using hO
theorem wbytes (m : World) (b : Nat) (S : List Nat) (l : List UInt8) (h : WAt m b S l) (hl : l.length < 1000000000) :
    FnR Tryz.prog 24 [.pointer (some ⟨b, 0, none⟩)] m fun r m' => ∃ S', Ev.Own m' S' 5 1 r l.length (u8s l) ∧ New m S' m' := by
  obtain ⟨v, S1, hB, hO, hb, rfl⟩ := h
  refine FnE.enter ⟨_, Tryz.func24, by kernel_rfl, by kernel_rfl⟩ Tryz.func24 rfl rfl ?_
  (with_reducible repeat (first | refine WP.S1 ?_ | refine WP.B1 ?_ | refine WP.R1 ?_))
  refine RL.A1 T_ok rfl ?_
  refine RL.N1 ?_; (with_reducible repeat (first | refine QN.B1 ?_ | refine QN.N1 ?_ | refine WP.S1 ?_ | refine WP.B1 ?_ | refine WP.R1 ?_))
  refine RL.A1 T_ok rfl ?_
  refine RL.load T_ok rfl rfl rfl (hB.cell 0 rfl) rfl ?_
  refine RL.call (fi := []) (ca := []) rfl rfl rfl rfl (clone_bytes m [] v l (hO.sl (by simp)) hl) ?_
  rintro r m1 ⟨S', hO1, hN⟩
  refine ⟨_, rfl, ?_⟩
  refine RL.A1 T_ok rfl ?_
  refine RL.N1 ?_; (with_reducible repeat (first | refine QN.B1 ?_ | refine QN.N1 ?_ | refine WP.S1 ?_ | refine WP.B1 ?_ | refine WP.R1 ?_))
  refine WP.ret ?_; (with_reducible repeat (first | refine QN.tr ?_ | refine QN.br ?_))
  exact QN.ret1 rfl rfl ⟨_, rfl, S', hO1, hN⟩
end Go.Proofs.YtmjpcaiehfimgaaGreatDoor
end
section
namespace Go.Proofs.YtmjpcaiehfimgaaGreatDoor
open Go.RowKit Go.Ev
def brk (e : Int) : List PanicEntry := [{ v := .iface 139 (.agg #[.int .i64 e]), recovered := false }]
theorem fail_c (m : World) (e : Int) : FnE Tryz.prog 89 [.int .i64 e] m fun ed m' => m' = m ∧ ed = .panicked (brk (if e = 0 then 11 else e)) := by
  refine FnE.enter ⟨_, Tryz.func89, by kernel_rfl, by kernel_rfl⟩ Tryz.func89 rfl rfl ?_
  (with_reducible repeat (first | refine WP.S1 ?_ | refine WP.B1 ?_ | refine WP.R1 ?_))
  refine RL.A1 T_ok rfl ?_
  refine RL.N1 ?_; (with_reducible repeat (first | refine QN.B1 ?_ | refine QN.N1 ?_ | refine WP.S1 ?_ | refine WP.B1 ?_ | refine WP.R1 ?_))
  refine WP.cond rfl (fun hc => ?_) (fun hc => ?_)
  · have he : e = 0 := by simpa using hc
    subst he
    (with_reducible repeat (first | refine WP.S1 ?_ | refine WP.B1 ?_ | refine WP.R1 ?_))
    refine RL.A1 T_ok rfl ?_
    refine RL.N1 ?_; (with_reducible repeat (first | refine QN.B1 ?_ | refine QN.N1 ?_ | refine WP.S1 ?_ | refine WP.B1 ?_ | refine WP.R1 ?_))
    refine RL.A1 T_ok rfl ?_
    exact RL.panic rfl rfl rfl (QN.panic ⟨rfl, rfl⟩)
  · have he : ¬ e = 0 := by simpa using hc
    refine WP.skip ?_; (with_reducible repeat (first | refine QN.B1 ?_ | refine QN.N1 ?_ | refine WP.S1 ?_ | refine WP.B1 ?_ | refine WP.R1 ?_))
    refine RL.A1 T_ok rfl ?_
    refine RL.panic rfl rfl rfl (QN.panic ⟨rfl, ?_⟩)
    rw [if_neg he]; rfl
theorem try1_ret (m : World) (b : Nat) : DfE Tryz.prog 116 [.pointer (some ⟨b, 0, none⟩)] .returning m fun ed u' m' => ed = .returned (.tuple #[]) ∧ u' = .returning ∧ m' = m := by
  refine DfE.enter ⟨_, Tryz.func116, by kernel_rfl, by kernel_rfl⟩ Tryz.func116 rfl rfl rfl ?_
  (with_reducible repeat (first | refine WP.S1 ?_ | refine WP.B1 ?_ | refine WP.R1 ?_))
  refine RL.A1 T_ok rfl ?_
  refine RL.N1 ?_; (with_reducible repeat (first | refine QN.B1 ?_ | refine QN.N1 ?_ | refine WP.S1 ?_ | refine WP.B1 ?_ | refine WP.R1 ?_))
  refine WP.condT rfl ?_
  (with_reducible repeat (first | refine WP.S1 ?_ | refine WP.B1 ?_ | refine WP.R1 ?_))
  refine RL.A1 T_ok rfl ?_
  refine RL.N1 (QN.B1 ?_)
  exact QN.end0 rfl ⟨rfl, rfl, rfl⟩
theorem try1_pan (m : World) (b : Nat) (e x : Int) (hB : Blk m b 30 [.int .i64 x]) :
    DfE Tryz.prog 116 [.pointer (some ⟨b, 0, none⟩)] (.panicking (brk e)) m fun ed u' m' => ed = .returned (.tuple #[]) ∧ settle u' = .returning ∧ Blk m' b 30 [.int .i64 e] ∧ Ext m [b] m' := by
  refine DfE.enter ⟨_, Tryz.func116, by kernel_rfl, by kernel_rfl⟩ Tryz.func116 rfl rfl rfl ?_
  (with_reducible repeat (first | refine WP.S1 ?_ | refine WP.B1 ?_ | refine WP.R1 ?_))
  refine RL.A1 T_ok rfl ?_
  refine RL.N1 ?_; (with_reducible repeat (first | refine QN.B1 ?_ | refine QN.N1 ?_ | refine WP.S1 ?_ | refine WP.B1 ?_ | refine WP.R1 ?_))
  refine WP.condF rfl ?_
  (with_reducible repeat (first | refine WP.S1 ?_ | refine WP.B1 ?_ | refine WP.R1 ?_))
  refine RL.A1 T_ok rfl ?_
  refine RL.N1 ?_; (with_reducible repeat (first | refine QN.B1 ?_ | refine QN.N1 ?_ | refine WP.S1 ?_ | refine WP.B1 ?_ | refine WP.R1 ?_))
  refine WP.condT rfl ?_
  (with_reducible repeat (first | refine WP.S1 ?_ | refine WP.B1 ?_ | refine WP.R1 ?_))
  refine RL.alloc T_ok rfl rfl (fun b1 m1 hb1 hC1 => ⟨_, rfl, ?_⟩)
  have hne : b ≠ b1 := by have := hB.lt; omega
  have hB1 := hB.far hC1 hne
  refine RL.storeAgg T_ok (b := b1) (i := 0) (vs := [.int .i64 e]) (cs := [.int .i64 0]) hC1.blk rfl rfl rfl rfl rfl (by simp) (by simp [Value.oneCell']) rfl ?_
  intro m2 hC2
  have hB2 := hB1.far hC2 hne
  refine RL.N1 ?_; (with_reducible repeat (first | refine QN.B1 ?_ | refine QN.N1 ?_ | refine WP.S1 ?_ | refine WP.B1 ?_ | refine WP.R1 ?_))
  refine RL.A1 T_ok rfl ?_
  refine RL.load T_ok rfl rfl rfl (hC2.blk.cell 0 rfl) rfl ?_
  refine RL.store T_ok hB2 (i := 0) (v := .int .i64 e) (by simp) rfl rfl rfl rfl rfl rfl ?_
  intro m3 hC3
  refine RL.N1 (QN.B1 ?_)
  have hE := (hC1.new (by omega)).trans hC2.ext (fun k hk => .inr (by have h9 : k = b1 := (by simpa using hk); omega))
  refine QN.end0 rfl ⟨rfl, rfl, hC3.blk, ?_⟩
  exact (hE.mono (M' := [b]) (by simp)).trans hC3.ext (fun k hk => .inl hk)
theorem try_c (m : World) (k : FuncId) (fi ca al : List Value) (has : fi ++ ca = al) (R : World → Ending → World → Prop)
    (hf : ∀ m1, Ext m [] m1 → m1.heap.size = m.heap.size + 1 → FnE Tryz.prog k al m1 (R m1)) (hout : ∀ m1 m2, ¬ R m1 .outgrown m2) (hpan : ∀ m1 ch m2, R m1 (.panicked ch) m2 → ∃ e, ch = brk e)
    (hkeep : ∀ m1 ed m2, R m1 ed m2 → Ext m [] m1 → m1.heap.size = m.heap.size + 1 → ∃ N, Ext m1 N m2 ∧ m.heap.size ∉ N) :
    FnR Tryz.prog 107 [.func (.func k) fi.toArray ca.toArray] m fun v m' => ∃ m1 m2, Ext m [] m1 ∧ m1.heap.size = m.heap.size + 1 ∧ Ext m2 [m.heap.size] m' ∧
      ((∃ u, R m1 (.returned u) m2 ∧ v = .int .i64 0) ∨ ∃ e, R m1 (.panicked (brk e)) m2 ∧ v = .int .i64 e) := by
  refine FnE.enterD ⟨_, Tryz.func107, by kernel_rfl, by kernel_rfl⟩ Tryz.func107 rfl rfl ?_
  (with_reducible repeat (first | refine WP.S1 ?_ | refine WP.B1 ?_ | refine WP.R1 ?_))
  refine RL.alloc T_ok rfl rfl (fun b m1 hb hC1 => ⟨_, rfl, ?_⟩)
  subst hb
  have hE1 := hC1.new (Nat.le_refl _)
  have hs1 : m1.heap.size = m.heap.size + 1 := by rw [hC1.size]; omega
  have hB1 : Blk m1 m.heap.size 30 [.int .i64 0] := hC1.here
  refine RL.N1 ?_; (with_reducible repeat (first | refine QN.B1 ?_ | refine QN.N1 ?_ | refine WP.S1 ?_ | refine WP.B1 ?_ | refine WP.R1 ?_))
  refine RL.A1 T_ok rfl ?_
  refine RL.defer rfl rfl rfl ?_
  refine RL.N1 ?_; (with_reducible repeat (first | refine QN.B1 ?_ | refine QN.N1 ?_ | refine WP.S1 ?_ | refine WP.B1 ?_ | refine WP.R1 ?_))
  refine RL.A1 T_ok rfl ?_
  refine RL.callE rfl rfl rfl (by simpa using has) (hf m1 hE1 hs1) ?_ ?_ (hout m1)
  · intro u m2 hR
    obtain ⟨N, hE2, hN⟩ := hkeep m1 _ m2 hR hE1 hs1
    have hB2 := hB1.ext hE2 hN
    refine ⟨_, rfl, ?_⟩
    refine RL.N1 ?_; (with_reducible repeat (first | refine QN.B1 ?_ | refine QN.N1 ?_ | refine WP.S1 ?_ | refine WP.B1 ?_ | refine WP.R1 ?_))
    refine RL.store T_ok hB2 (i := 0) (v := .int .i64 0) (by simp) rfl rfl rfl rfl rfl rfl ?_
    intro m3 hC3
    refine RL.N1 ?_; (with_reducible repeat (first | refine QN.B1 ?_ | refine QN.N1 ?_ | refine WP.S1 ?_ | refine WP.B1 ?_ | refine WP.R1 ?_))
    refine WP.ret ?_; (with_reducible repeat (first | refine QN.tr ?_ | refine QN.br ?_))
    refine QN.leave (fi := []) (ca := [.pointer (some ⟨m.heap.size, 0, none⟩)]) (.inl ⟨rfl, rfl⟩) rfl (try1_ret m3 m.heap.size) ?_ ?_ ?_
    · rintro v u' m4 ⟨_, rfl, rfl⟩
      refine .inl ⟨rfl, .int .i64 0, Res.cell T_ok rfl rfl rfl (hC3.blk.cell 0 rfl), _, rfl, m1, m2, hE1, hs1, hC3.ext, .inl ⟨u, hR, rfl⟩⟩
    · rintro ch u' m4 ⟨h, _⟩; cases h
    · rintro u' m4 ⟨h, _⟩; cases h
  · intro ch m2 hR
    obtain ⟨e, rfl⟩ := hpan m1 ch m2 hR
    obtain ⟨N, hE2, hN⟩ := hkeep m1 _ m2 hR hE1 hs1
    have hB2 := hB1.ext hE2 hN
    refine QN.tp (QN.leave (fi := []) (ca := [.pointer (some ⟨m.heap.size, 0, none⟩)]) (.inr (.inr ⟨_, rfl, rfl⟩)) rfl (try1_pan m2 m.heap.size e 0 hB2) ?_ ?_ ?_)
    · rintro v u' m4 ⟨_, hu, hB4, hE4⟩
      refine .inl ⟨hu, .int .i64 e, Res.cell T_ok rfl rfl rfl (hB4.cell 0 rfl), _, rfl, m1, m2, hE1, hs1, hE4, .inr ⟨e, hR, rfl⟩⟩
    · rintro ch u' m4 ⟨h, _⟩; cases h
    · rintro u' m4 ⟨h, _⟩; cases h
end Go.Proofs.YtmjpcaiehfimgaaGreatDoor
end
section
namespace Go.Proofs.YtmjpcaiehfimgaaGreatDoor
open Go.RowKit Go.Ev
def RAt (m : World) (M : List Nat) (b : Nat) (l : List UInt8) (e : Int) : Prop := ∃ v, Blk m b 102 [v, .int .i64 e] ∧ Bs m M v l
theorem RAt.lt {m : World} {M : List Nat} {b : Nat} {l : List UInt8} {e : Int} (h : RAt m M b l e) : b < m.heap.size := by obtain ⟨v, h, _⟩ := h; exact h.lt
theorem RAt.ext {m m' : World} {M M' N : List Nat} {b : Nat} {l : List UInt8} {e : Int} (h : RAt m M b l e) (hE : Ext m N m') (hb : b ∉ N) (hN : ∀ k ∈ N, k < m.heap.size → k ∈ M) (hM : ∀ k ∈ M', k ∈ M ∨ m.heap.size ≤ k) : RAt m' M' b l e := by
  obtain ⟨v, hB, hS⟩ := h
  exact ⟨v, hB.ext hE hb, Sl.ext hS (hE.mono hN) hM (by omega)⟩
theorem RAt.new {m m' : World} {M : List Nat} {b : Nat} {l : List UInt8} {e : Int} (h : RAt m M b l e) (hE : Ext m [] m') : RAt m' M b l e := h.ext hE (by simp) (by simp) (fun _ hk => .inl hk)
theorem take_c (m : World) (M : List Nat) (b : Nat) (l : List UInt8) (e : Int) (h : RAt m M b l e) (hbM : b ∈ M) (n : Nat) :
    FnE Tryz.prog 85 [.pointer (some ⟨b, 0, none⟩), .int .i64 n] m fun ed m' =>
      (n ≤ l.length ∧ ∃ v, ed = .returned v ∧ Bs m' M v (l.take n) ∧ RAt m' M b (l.drop n) e ∧ Ext m [b] m') ∨ (l.length < n ∧ ed = .panicked (brk 10) ∧ m' = m) := by
  obtain ⟨v, hB, hS⟩ := h
  obtain ⟨A, c, rfl, hlc, hcm⟩ := hS.shape
  refine FnE.enter ⟨_, Tryz.func85, by kernel_rfl, by kernel_rfl⟩ Tryz.func85 rfl rfl ?_
  (with_reducible repeat (first | refine WP.S1 ?_ | refine WP.B1 ?_ | refine WP.R1 ?_))
  refine RL.A1 T_ok rfl ?_
  refine RL.N1 ?_; (with_reducible repeat (first | refine QN.B1 ?_ | refine QN.N1 ?_ | refine WP.S1 ?_ | refine WP.B1 ?_ | refine WP.R1 ?_))
  refine RL.A1 T_ok rfl ?_
  refine RL.load T_ok rfl rfl rfl (hB.cell 0 rfl) rfl ?_
  refine RL.A1 T_ok rfl ?_
  refine RL.N1 ?_; (with_reducible repeat (first | refine QN.B1 ?_ | refine QN.N1 ?_ | refine WP.S1 ?_ | refine WP.B1 ?_ | refine WP.R1 ?_))
  refine WP.cond rfl (fun hc => ?_) (fun hc => ?_)
  · have hc : l.length < n := by have := of_decide_eq_true hc; omega
    (with_reducible repeat (first | refine WP.S1 ?_ | refine WP.B1 ?_ | refine WP.R1 ?_))
    refine RL.callE (fi := []) (ca := []) rfl rfl rfl rfl (fail_c m 10) ?_ ?_ ?_
    · rintro v m' ⟨_, h⟩; cases h
    · rintro ch m' ⟨rfl, h⟩
      injection h with h
      subst h
      exact QN.panic (.inr ⟨hc, rfl, rfl⟩)
    · rintro m' ⟨_, h⟩; cases h
  · have hc : n ≤ l.length := by have := of_decide_eq_false hc; omega
    refine WP.skip ?_; (with_reducible repeat (first | refine QN.B1 ?_ | refine QN.N1 ?_ | refine WP.S1 ?_ | refine WP.B1 ?_ | refine WP.R1 ?_))
    refine RL.A1 T_ok rfl ?_
    refine RL.load T_ok rfl rfl rfl (hB.cell 0 rfl) rfl ?_
    refine RL.A1 T_ok rfl ?_
    refine RL.sliceTo3 (l := n) (q := n) T_ok rfl rfl rfl rfl rfl rfl rfl (Nat.le_refl _) (by omega) rfl ?_
    refine RL.A1 T_ok rfl ?_
    refine RL.N1 ?_; (with_reducible repeat (first | refine QN.B1 ?_ | refine QN.N1 ?_ | refine WP.S1 ?_ | refine WP.B1 ?_ | refine WP.R1 ?_))
    refine RL.A1 T_ok rfl ?_
    refine RL.load T_ok rfl rfl rfl (hB.cell 0 rfl) rfl ?_
    refine RL.A1 T_ok rfl ?_
    refine RL.sliceFrom (l := n) T_ok rfl rfl rfl rfl rfl hc rfl ?_
    refine RL.A1 T_ok rfl ?_
    refine RL.store T_ok hB (i := 0) (by simp) rfl rfl rfl rfl rfl rfl ?_
    intro m1 hC
    have hE := hC.ext
    have h1 := Sl.upto hS hc (Nat.le_refl n) (by omega)
    have h2 := Sl.from_ hS hc
    rw [show (u8s l).take (n * 1) = u8s (l.take n) by rw [Nat.mul_one, u8s_take]] at h1
    rw [show (u8s l).drop (n * 1) = u8s (l.drop n) by rw [Nat.mul_one, u8s_drop]] at h2
    have hEM : Ext m M m1 := hE.mono (by simp [hbM])
    refine RL.N1 ?_; (with_reducible repeat (first | refine QN.B1 ?_ | refine QN.N1 ?_ | refine WP.S1 ?_ | refine WP.B1 ?_ | refine WP.R1 ?_))
    refine RL.A1 T_ok rfl ?_
    refine RL.N1 ?_; (with_reducible repeat (first | refine QN.B1 ?_ | refine QN.N1 ?_ | refine WP.S1 ?_ | refine WP.B1 ?_ | refine WP.R1 ?_))
    refine WP.ret ?_; (with_reducible repeat (first | refine QN.tr ?_ | refine QN.br ?_))
    refine QN.ret1 rfl rfl (.inl ⟨hc, _, rfl, Sl.ext h1 hEM (fun _ hk => .inl hk) (by omega), ⟨_, hC.blk, Sl.ext h2 hEM (fun _ hk => .inl hk) (by omega)⟩, hE⟩)
def UPost (m : World) (M : List Nat) (b : Nat) (e : Int) (r : Except Int (Nat × List UInt8)) (ed : Ending) (m' : World) : Prop :=
  Ext m [b] m' ∧ ((∃ n l', r = .ok (n, l') ∧ ed = .returned (.int .u64 n) ∧ RAt m' M b l' e) ∨ ∃ k l', r = .error k ∧ ed = .panicked (brk k) ∧ RAt m' M b l' e)
set_option maxHeartbeats 400000 in
theorem uint_c (m : World) (M : List Nat) (b : Nat) (l : List UInt8) (e : Int) (h : RAt m M b l e) (hbM : b ∈ M) (most : Nat) :
    FnE Tryz.prog 87 [.pointer (some ⟨b, 0, none⟩), .int .u64 most] m (UPost m M b e (rdU most 0 0 l)) := by
  refine FnE.enter ⟨_, Tryz.func87, by kernel_rfl, by kernel_rfl⟩ Tryz.func87 rfl rfl ?_
  (with_reducible repeat (first | refine WP.S1 ?_ | refine WP.B1 ?_ | refine WP.R1 ?_))
  refine RL.A1 T_ok rfl ?_
  refine RL.N1 ?_; (with_reducible repeat (first | refine QN.B1 ?_ | refine QN.N1 ?_ | refine WP.S1 ?_ | refine WP.B1 ?_ | refine WP.R1 ?_))
  refine RL.A1 T_ok rfl ?_
  refine RL.N1 ?_; (with_reducible repeat (first | refine QN.B1 ?_ | refine QN.N1 ?_ | refine WP.S1 ?_ | refine WP.B1 ?_ | refine WP.R1 ?_))
  refine RL.A1 T_ok rfl ?_
  refine RL.N1 ?_; (with_reducible repeat (first | refine QN.B1 ?_ | refine QN.N1 ?_ | refine WP.S1 ?_ | refine WP.B1 ?_ | refine WP.R1 ?_))
  refine WP.loop (X := Nat × Nat × List UInt8) (fun x => [(0, .pointer (some ⟨b, 0, none⟩)), (1, .int .u64 most), (5, .int .u64 x.2.1), (6, .int .i64 x.1)])
    (fun x m' => x.1 ≤ 9 ∧ x.2.1 < 128 ^ x.1 ∧ rdU most x.1 x.2.1 x.2.2 = rdU most 0 0 l ∧ RAt m' M b x.2.2 e ∧ Ext m [b] m') (fun x => 10 - x.1) (0, 0, l)
    (Sub.C1 rfl (Sub.C1 rfl (Sub.C1 rfl (Sub.C1 rfl Sub.nil)))) ⟨by simp, by simp, rfl, h, Ext.refl _ _⟩ ?_
  rintro ⟨i, n, l1⟩ m1 ⟨hi, hn, hrd, hR, hE⟩
  simp only at hi hn hrd hR
  have hEE : ∀ m2, Ext m1 [b] m2 → Ext m [b] m2 := fun m2 h2 => hE.trans h2 (fun k hk => .inl hk)
  (with_reducible repeat (first | refine WP.S1 ?_ | refine WP.B1 ?_ | refine WP.R1 ?_))
  refine RL.A1 T_ok rfl ?_
  refine RL.callE (fi := []) (ca := []) rfl rfl rfl rfl (take_c m1 M b l1 e hR hbM 1) ?_ ?_ ?_
  rotate_left
  · rintro ch m2 (⟨_, v, h, _⟩ | ⟨hlt, h, rfl⟩)
    · cases h
    · injection h with h
      subst h
      have h0 : l1 = [] := List.eq_nil_of_length_eq_zero (by omega)
      subst h0
      (with_reducible repeat (first | refine QN.tp ?_ | refine QN.bp ?_))
      exact QN.panic ⟨hE, .inr ⟨10, [], by rw [← hrd]; rfl, rfl, hR⟩⟩
  · rintro m2 (⟨_, v, h, _⟩ | ⟨_, h, _⟩) <;> cases h
  rintro v m2 (⟨hle, v', h, hB, hR2, hE2⟩ | ⟨_, h, _⟩)
  rotate_left
  · cases h
  injection h with h
  subst h
  match l1, hle with
  | x :: l2, _ =>
  replace hE := hEE _ hE2
  clear hEE hE2 hR
  have hB : Bs m2 M v [x] := hB
  have hR2 : RAt m2 M b l2 e := hR2
  obtain ⟨A, c, rfl, _, _⟩ := hB.shape
  refine ⟨_, rfl, ?_⟩
  refine RL.index T_ok hB (k := 0) rfl (by simp) rfl rfl rfl rfl (fun ad _ _ hcell => ⟨_, rfl, ?_⟩)
  have hx := hcell 0 (.int .u8 x.toNat) rfl
  refine RL.load T_ok rfl rfl rfl (by rw [add_add] at hx; exact hx) rfl ?_
  refine RL.A1 T_ok rfl ?_
  refine RL.N1 ?_; (with_reducible repeat (first | refine QN.B1 ?_ | refine QN.N1 ?_))
  have hxlt := x.toNat_lt
  have hp : 128 ^ i = 2 ^ (7 * i) := by rw [Nat.pow_mul]
  have hi9 : 128 ^ i ≤ 128 ^ 9 := Nat.pow_le_pow_right (by omega) hi
  -- i == 9 && b > 1
  refine WP.cut (X := Unit) (fun _ => [(0, .pointer (some ⟨b, 0, none⟩)), (1, .int .u64 most), (5, .int .u64 n), (6, .int .i64 i), (7, .int .u8 x.toNat)]) (fun _ m' => m' = m2 ∧ ¬ (i = 9 ∧ 1 < x.toNat)) ?_ ?_
  · have fail : i = 9 ∧ 1 < x.toNat → UPost m M b e (rdU most 0 0 l) (.panicked (brk 11)) m2 := fun hh => ⟨hE, .inr ⟨11, l2, by rw [← hrd]; simp [rdU, hh], rfl, hR2⟩⟩
    (with_reducible repeat (first | refine WP.S1 ?_ | refine WP.B1 ?_ | refine WP.R1 ?_))
    refine RL.pure T_ok 2 rfl ?_
    by_cases h9 : i = 9
    · refine RL.eqv (v' := .bool true) (by simp [h9]) ?_
      refine RL.A1 T_ok rfl ?_
      refine RL.N1 ?_; (with_reducible repeat (first | refine QN.B1 ?_ | refine QN.N1 ?_ | refine WP.S1 ?_ | refine WP.B1 ?_ | refine WP.R1 ?_))
      refine WP.cond rfl (fun hc => ?_) (fun hc => ?_)
      · have hc : 1 < x.toNat := by have := of_decide_eq_true hc; omega
        (with_reducible repeat (first | refine WP.S1 ?_ | refine WP.B1 ?_ | refine WP.R1 ?_))
        refine RL.callE (fi := []) (ca := []) rfl rfl rfl rfl (fail_c m2 11) ?_ ?_ ?_
        · rintro v m' ⟨_, h⟩; cases h
        · rintro ch m' ⟨rfl, h⟩
          injection h with h
          subst h
          (with_reducible repeat (first | refine QN.tp ?_ | refine QN.bp ?_))
          exact QN.panic (fail ⟨h9, hc⟩)
        · rintro m' ⟨_, h⟩; cases h
      · have hc : ¬ 1 < x.toNat := by have := of_decide_eq_false hc; omega
        refine WP.skip (QN.cutEnd () (Sub.C1 rfl (Sub.C1 rfl (Sub.C1 rfl (Sub.C1 rfl (Sub.C1 rfl Sub.nil))))) ⟨rfl, fun hh => hc hh.2⟩)
    · refine RL.eqv (v' := .bool false) (by simp; omega) ?_
      refine RL.A1 T_ok rfl ?_
      refine RL.N1 ?_; (with_reducible repeat (first | refine QN.B1 ?_ | refine QN.N1 ?_ | refine WP.S1 ?_ | refine WP.B1 ?_ | refine WP.R1 ?_))
      refine WP.condF rfl ?_
      refine WP.skip (QN.cutEnd () (Sub.C1 rfl (Sub.C1 rfl (Sub.C1 rfl (Sub.C1 rfl (Sub.C1 rfl Sub.nil))))) ⟨rfl, fun hh => h9 hh.1⟩)
  rintro _ m2' ⟨rfl, h9⟩
  have hy : i = 9 → x.toNat ≤ 1 := fun h => by
    rcases Nat.lt_or_ge 1 x.toNat with h1 | h1
    · exact absurd ⟨h, h1⟩ h9
    · exact h1
  have hfit : n + x.toNat % 128 * 128 ^ i < 18446744073709551616 ∧ (i < 9 → n + x.toNat % 128 * 128 ^ i < 128 ^ (i + 1)) := by
    have h1 : x.toNat % 128 * 128 ^ i ≤ 127 * 128 ^ i := Nat.mul_le_mul_right _ (by omega)
    refine ⟨?_, fun _ => by rw [Nat.pow_succ]; omega⟩
    rcases Nat.lt_or_ge i 9 with h | h
    · have : 128 ^ i ≤ 128 ^ 8 := Nat.pow_le_pow_right (by omega) (by omega)
      omega
    · have : i = 9 := by omega
      subst this
      have := hy rfl
      have : x.toNat % 128 * 128 ^ 9 ≤ 1 * 128 ^ 9 := Nat.mul_le_mul_right _ (by omega)
      omega
  have hyp : x.toNat % 128 * 128 ^ i = x.toNat % 128 * 2 ^ (7 * i) := by rw [hp]
  (with_reducible repeat (first | refine WP.S1 ?_ | refine WP.B1 ?_ | refine WP.R1 ?_))
  refine RL.pure T_ok 4 rfl ?_
  refine RL.eqv (v' := .int .u64 ((x.toNat % 128 : Nat) : Int)) (congrArg _ ?_) ?_
  · show IntKind.u64.wrap (bits .and .u8 (x.toNat : Int) 127) = _
    rw [and127, wrap_u64_in _ (by omega) (by omega)]
  refine RL.pure T_ok 3 rfl ?_
  refine RL.eqv (v' := .int .u64 ((7 * i : Nat) : Int)) (congrArg _ ?_) ?_
  · show IntKind.u64.wrap (IntKind.i64.wrap (7 * (i : Int))) = _
    rw [wrap_i64_in _ (by omega) (by omega), wrap_u64_in _ (by omega) (by omega)]; omega
  refine RL.pure T_ok 1 rfl ?_
  refine RL.eqv (v' := .int .u64 ((x.toNat % 128 * 2 ^ (7 * i) : Nat) : Int)) (congrArg _ ?_) ?_
  · show IntKind.u64.wrap (((x.toNat % 128 : Nat) : Int) * 2 ^ shAmt .u64 (7 * i)) = _
    have h1 : shAmt .u64 (7 * i) = 7 * i := by unfold shAmt; exact Nat.min_eq_left (by show 7 * i ≤ 64; omega)
    have h2 : ((x.toNat % 128 : Nat) : Int) * 2 ^ (7 * i) = ((x.toNat % 128 * 2 ^ (7 * i) : Nat) : Int) := by
      rw [Int.natCast_mul, Int.natCast_pow]; rfl
    rw [h1, h2, wrap_u64_in _ (by omega) (by rw [← hyp]; omega)]
  refine RL.pure T_ok 1 rfl ?_
  refine RL.eqv (v' := .int .u64 ((n + x.toNat % 128 * 128 ^ i : Nat) : Int)) (congrArg _ ?_) ?_
  · show bits .or .u64 (n : Int) ((x.toNat % 128 * 2 ^ (7 * i) : Nat) : Int) = _
    rw [or_add64 _ _ _ (by rw [← hp]; exact hn) (by rw [← hyp]; exact hfit.1), ← hyp]
  refine RL.A1 T_ok rfl ?_
  refine RL.N1 ?_; (with_reducible repeat (first | refine QN.B1 ?_ | refine QN.N1 ?_ | refine WP.S1 ?_ | refine WP.B1 ?_ | refine WP.R1 ?_))
  refine RL.A1 T_ok rfl ?_
  refine RL.N1 ?_; (with_reducible repeat (first | refine QN.B1 ?_ | refine QN.N1 ?_ | refine WP.S1 ?_ | refine WP.B1 ?_ | refine WP.R1 ?_))
  clear hyp
  refine WP.cond rfl (fun hc => ?_) (fun hc => ?_)
  · -- one more byte
    have hc : 128 ≤ x.toNat := by have := of_decide_eq_true hc; omega
    have hi' : i < 9 := by
      rcases Nat.lt_or_ge i 9 with h | h
      · exact h
      · have := hy (by omega); omega
    refine WP.exit ?_; (with_reducible repeat (first | refine QN.tx ?_ | refine QN.bx ?_ | refine QN.block_far rfl ?_ | refine QN.B1 ?_ | refine QN.N1 ?_)); (with_reducible repeat (first | refine WP.S1 ?_ | refine WP.B1 ?_ | refine WP.R1 ?_))
    refine RL.A1 T_ok rfl ?_
    refine RL.N1 (QN.round (i + 1, n + x.toNat % 128 * 128 ^ i, l2) ?_ ⟨?_, hfit.2 hi', ?_, hR2, hE⟩ ?_)
    · refine Sub.C1 rfl (Sub.C1 rfl (Sub.C1 rfl (Sub.C1 ?_ Sub.nil)))
      show some (Value.int .i64 (IntKind.i64.wrap ((i : Int) + 1))) = some (Value.int .i64 ((i + 1 : Nat) : Int))
      rw [wrap_i64_in _ (by omega) (by omega)]; rfl
    · show i + 1 ≤ 9
      omega
    · rw [← hrd]
      simp only [rdU]
      rw [if_neg h9, if_pos hc]
    · show 10 - (i + 1) < 10 - i
      omega
  · have hc : x.toNat < 128 := by have := of_decide_eq_false hc; omega
    refine WP.skip ?_; (with_reducible repeat (first | refine QN.B1 ?_ | refine QN.N1 ?_))
    have hrd1 : rdU most 0 0 l = if x.toNat = 0 ∧ 0 < i then .error 11 else if most < n + x.toNat % 128 * 128 ^ i then .error 12 else .ok (n + x.toNat % 128 * 128 ^ i, l2) := by
      rw [← hrd]
      simp only [rdU]
      rw [if_neg h9, if_neg (by omega)]
    have failing : ∀ (k : Int), rdU most 0 0 l = .error k → UPost m M b e (rdU most 0 0 l) (.panicked (brk k)) m2' := fun k hk => ⟨hE, .inr ⟨k, l2, hk, rfl, hR2⟩⟩
    generalize hN : n + x.toNat % 128 * 128 ^ i = N at *
    refine WP.S1 (WP.B1 ?_)
    refine WP.cut (X := Unit) (fun _ => [(0, .pointer (some ⟨b, 0, none⟩)), (1, .int .u64 most), (5, .int .u64 N), (32, .bool (decide (x.toNat = 0 ∧ 0 < i)))]) (fun _ m' => m' = m2') ?_ ?_
    · (with_reducible repeat (first | refine WP.S1 ?_ | refine WP.B1 ?_ | refine WP.R1 ?_))
      refine RL.pure T_ok 2 rfl ?_
      by_cases hx0 : x.toNat = 0
      · refine RL.eqv (v' := .bool true) (by simp [hx0]) ?_
        refine RL.A1 T_ok rfl ?_
        refine RL.N1 (QN.cutEnd () (Sub.C1 rfl (Sub.C1 rfl (Sub.C1 rfl (Sub.C1 (congrArg (fun q => some (Value.bool q)) ?_) Sub.nil)))) rfl)
        rw [decide_eq_decide]; omega
      · refine RL.eqv (v' := .bool false) (by simp [hx0]) ?_
        refine RL.A1 T_ok rfl ?_
        refine RL.N1 (QN.cutEnd () (Sub.C1 rfl (Sub.C1 rfl (Sub.C1 rfl (Sub.C1 (congrArg (fun q => some (Value.bool q)) ?_) Sub.nil)))) rfl)
        simp [hx0]
    rintro _ m3 rfl
    refine WP.cond rfl (fun hc => ?_) (fun hc => ?_)
    · have hc := of_decide_eq_true hc
      (with_reducible repeat (first | refine WP.S1 ?_ | refine WP.B1 ?_ | refine WP.R1 ?_))
      refine RL.callE (fi := []) (ca := []) rfl rfl rfl rfl (fail_c _ 11) ?_ ?_ ?_
      · rintro v m' ⟨_, h⟩; cases h
      · rintro ch m' ⟨rfl, h⟩
        injection h with h
        subst h
        (with_reducible repeat (first | refine QN.tp ?_ | refine QN.bp ?_))
        exact QN.panic (failing 11 (by rw [hrd1, if_pos hc]))
      · rintro m' ⟨_, h⟩; cases h
    have hc := of_decide_eq_false hc
    rw [if_neg hc] at hrd1
    (with_reducible repeat (first | refine WP.S1 ?_ | refine WP.B1 ?_ | refine WP.R1 ?_))
    refine RL.A1 T_ok rfl ?_
    refine RL.N1 ?_; (with_reducible repeat (first | refine QN.B1 ?_ | refine QN.N1 ?_ | refine WP.S1 ?_ | refine WP.B1 ?_ | refine WP.R1 ?_))
    refine WP.cond rfl (fun hc2 => ?_) (fun hc2 => ?_)
    · have hc2 : most < N := by have := of_decide_eq_true hc2; omega
      (with_reducible repeat (first | refine WP.S1 ?_ | refine WP.B1 ?_ | refine WP.R1 ?_))
      refine RL.callE (fi := []) (ca := []) rfl rfl rfl rfl (fail_c _ 12) ?_ ?_ ?_
      · rintro v m' ⟨_, h⟩; cases h
      · rintro ch m' ⟨rfl, h⟩
        injection h with h
        subst h
        (with_reducible repeat (first | refine QN.tp ?_ | refine QN.bp ?_))
        exact QN.panic (failing 12 (by rw [hrd1, if_pos hc2]))
      · rintro m' ⟨_, h⟩; cases h
    · have hc2 : ¬ most < N := by have := of_decide_eq_false hc2; omega
      refine WP.skip ?_; (with_reducible repeat (first | refine QN.B1 ?_ | refine QN.N1 ?_ | refine WP.S1 ?_ | refine WP.B1 ?_ | refine WP.R1 ?_))
      refine RL.A1 T_ok rfl ?_
      refine RL.N1 ?_; (with_reducible repeat (first | refine QN.B1 ?_ | refine QN.N1 ?_ | refine WP.S1 ?_ | refine WP.B1 ?_ | refine WP.R1 ?_))
      refine WP.ret ?_; (with_reducible repeat (first | refine QN.tr ?_ | refine QN.br ?_))
      refine QN.ret1 rfl rfl ⟨hE, .inl ⟨N, l2, by rw [hrd1, if_neg hc2], rfl, hR2⟩⟩
end Go.Proofs.YtmjpcaiehfimgaaGreatDoor
end
section
namespace Go.Proofs.YtmjpcaiehfimgaaGreatDoor
open Go.RowKit Go.Ev
theorem err_c (m : World) (M : List Nat) (b : Nat) (l : List UInt8) (e : Int) (h : RAt m M b l e) : FnR Tryz.prog 65 [.pointer (some ⟨b, 0, none⟩)] m fun v m' => v = .int .i64 e ∧ m' = m := by
  obtain ⟨v, hB, _⟩ := h
  refine FnE.enter ⟨_, Tryz.func65, by kernel_rfl, by kernel_rfl⟩ Tryz.func65 rfl rfl ?_
  (with_reducible repeat (first | refine WP.S1 ?_ | refine WP.B1 ?_ | refine WP.R1 ?_))
  refine RL.A1 T_ok rfl ?_
  refine RL.N1 ?_; (with_reducible repeat (first | refine QN.B1 ?_ | refine QN.N1 ?_ | refine WP.S1 ?_ | refine WP.B1 ?_ | refine WP.R1 ?_))
  refine RL.A1 T_ok rfl ?_
  refine RL.load T_ok rfl rfl rfl (hB.cell 1 rfl) rfl ?_
  refine RL.A1 T_ok rfl ?_
  refine RL.N1 ?_; (with_reducible repeat (first | refine QN.B1 ?_ | refine QN.N1 ?_ | refine WP.S1 ?_ | refine WP.B1 ?_ | refine WP.R1 ?_))
  refine WP.ret ?_; (with_reducible repeat (first | refine QN.tr ?_ | refine QN.br ?_))
  exact QN.ret1 rfl rfl ⟨_, rfl, rfl, rfl⟩
theorem left_c (m : World) (M : List Nat) (b : Nat) (l : List UInt8) (e : Int) (h : RAt m M b l e) : FnR Tryz.prog 66 [.pointer (some ⟨b, 0, none⟩)] m fun v m' => v = .int .i64 l.length ∧ m' = m := by
  obtain ⟨v, hB, hS⟩ := h
  obtain ⟨A, c, rfl, _, _⟩ := hS.shape
  refine FnE.enter ⟨_, Tryz.func66, by kernel_rfl, by kernel_rfl⟩ Tryz.func66 rfl rfl ?_
  (with_reducible repeat (first | refine WP.S1 ?_ | refine WP.B1 ?_ | refine WP.R1 ?_))
  refine RL.A1 T_ok rfl ?_
  refine RL.N1 ?_; (with_reducible repeat (first | refine QN.B1 ?_ | refine QN.N1 ?_ | refine WP.S1 ?_ | refine WP.B1 ?_ | refine WP.R1 ?_))
  refine RL.A1 T_ok rfl ?_
  refine RL.load T_ok rfl rfl rfl (hB.cell 0 rfl) rfl ?_
  refine RL.A1 T_ok rfl ?_
  refine RL.N1 ?_; (with_reducible repeat (first | refine QN.B1 ?_ | refine QN.N1 ?_ | refine WP.S1 ?_ | refine WP.B1 ?_ | refine WP.R1 ?_))
  refine WP.ret ?_; (with_reducible repeat (first | refine QN.tr ?_ | refine QN.br ?_))
  exact QN.ret1 rfl rfl ⟨_, rfl, rfl, rfl⟩
theorem newReader_c (m : World) (M : List Nat) (hM : ∀ k ∈ M, k < m.heap.size) (v : Value) (l : List UInt8) (h : Bs m M v l) (hl : l.length < 1000000000) :
    FnR Tryz.prog 32 [v] m fun r m' => ∃ b, r = .pointer (some ⟨b, 0, none⟩) ∧ m.heap.size ≤ b ∧ RAt m' (b :: M) b l 0 ∧ Ext m [] m' := by
  refine FnE.enter ⟨_, Tryz.func32, by kernel_rfl, by kernel_rfl⟩ Tryz.func32 rfl rfl ?_
  (with_reducible repeat (first | refine WP.S1 ?_ | refine WP.B1 ?_ | refine WP.R1 ?_))
  refine RL.A1 T_ok rfl ?_
  refine RL.N1 ?_; (with_reducible repeat (first | refine QN.B1 ?_ | refine QN.N1 ?_ | refine WP.S1 ?_ | refine WP.B1 ?_ | refine WP.R1 ?_))
  refine RL.A1 T_ok rfl ?_
  refine RL.call (fi := []) (ca := []) rfl rfl rfl rfl (clone_bytes m M v l h hl) ?_
  rintro r m1 ⟨S', hO, hN⟩
  refine ⟨_, rfl, ?_⟩
  obtain ⟨A, c, rfl, _⟩ := hO.shape
  refine RL.A1 T_ok rfl ?_
  refine RL.box rfl rfl (fun b m2 hb hC => ⟨_, rfl, ?_⟩)
  have hE2 := hC.new (by omega)
  refine RL.A1 T_ok rfl ?_
  refine RL.N1 ?_; (with_reducible repeat (first | refine QN.B1 ?_ | refine QN.N1 ?_ | refine WP.S1 ?_ | refine WP.B1 ?_ | refine WP.R1 ?_))
  refine WP.ret ?_; (with_reducible repeat (first | refine QN.tr ?_ | refine QN.br ?_))
  have hge := hN.ge
  have hlt := hO.lt
  have hs := hN.1.size
  have hO2 := hO.ext hE2 (by simp)
  refine QN.ret1 rfl rfl ⟨_, rfl, b, rfl, by omega, ⟨_, hC.blk, hO2.sl ?_⟩, hN.1.trans hE2 (by simp)⟩
  intro k hk hk'
  have h1 := hge k hk
  have h2 := hlt k hk
  rcases List.mem_cons.1 hk' with h3 | h3
  · omega
  · have := hM k h3; omega
theorem bad_c (m : World) (M : List Nat) (b : Nat) (l : List UInt8) (e k : Int) (h : RAt m M b l e) (hbM : b ∈ M) :
    FnR Tryz.prog 90 [.pointer (some ⟨b, 0, none⟩), .int .i64 k] m fun v m' => v = .tuple #[] ∧ RAt m' M b l (if e = 0 then k else e) ∧ Ext m [b] m' := by
  obtain ⟨v, hB, hS⟩ := h
  refine FnE.enter ⟨_, Tryz.func90, by kernel_rfl, by kernel_rfl⟩ Tryz.func90 rfl rfl ?_
  (with_reducible repeat (first | refine WP.S1 ?_ | refine WP.B1 ?_ | refine WP.R1 ?_))
  refine RL.A1 T_ok rfl ?_
  refine RL.load T_ok rfl rfl rfl (hB.cell 1 rfl) rfl ?_
  refine RL.A1 T_ok rfl ?_
  refine RL.N1 ?_; (with_reducible repeat (first | refine QN.B1 ?_ | refine QN.N1 ?_ | refine WP.S1 ?_ | refine WP.B1 ?_ | refine WP.R1 ?_))
  refine WP.cond rfl (fun hc => ?_) (fun hc => ?_)
  · have he : e = 0 := by simpa using hc
    subst he
    (with_reducible repeat (first | refine WP.S1 ?_ | refine WP.B1 ?_ | refine WP.R1 ?_))
    refine RL.A1 T_ok rfl ?_
    refine RL.store T_ok hB (i := 1) (v := .int .i64 k) (by simp) rfl rfl rfl rfl rfl rfl ?_
    intro m1 hC
    refine RL.N1 (QN.end0 rfl ⟨_, rfl, rfl, ⟨v, hC.blk, Sl.ext hS (hC.ext.mono (by simp [hbM])) (fun _ hk => .inl hk) (by omega)⟩, hC.ext⟩)
  · have he : ¬ e = 0 := by simpa using hc
    refine WP.skip (QN.end0 rfl ⟨_, rfl, rfl, ?_, Ext.refl _ _⟩)
    rw [if_neg he]; exact ⟨v, hB, hS⟩
theorem guard_off (m : World) (M : List Nat) (b : Nat) (l : List UInt8) (e : Int) (h : RAt m M b l e) (he : e ≠ 0) (f : Value) :
    FnR Tryz.prog 83 [.pointer (some ⟨b, 0, none⟩), f] m fun v m' => v = .bool false ∧ m' = m := by
  obtain ⟨v, hB, hS⟩ := h
  refine FnE.enter ⟨_, Tryz.func83, by kernel_rfl, by kernel_rfl⟩ Tryz.func83 rfl rfl ?_
  (with_reducible repeat (first | refine WP.S1 ?_ | refine WP.B1 ?_ | refine WP.R1 ?_))
  refine RL.A1 T_ok rfl ?_
  refine RL.N1 ?_; (with_reducible repeat (first | refine QN.B1 ?_ | refine QN.N1 ?_ | refine WP.S1 ?_ | refine WP.B1 ?_ | refine WP.R1 ?_))
  refine RL.A1 T_ok rfl ?_
  refine RL.load T_ok rfl rfl rfl (hB.cell 1 rfl) rfl ?_
  refine RL.A1 T_ok rfl ?_
  refine RL.N1 ?_; (with_reducible repeat (first | refine QN.B1 ?_ | refine QN.N1 ?_ | refine WP.S1 ?_ | refine WP.B1 ?_ | refine WP.R1 ?_))
  refine WP.cond rfl (fun hc => ?_) (fun hc => absurd (by simpa using hc) he)
  (with_reducible repeat (first | refine WP.S1 ?_ | refine WP.B1 ?_ | refine WP.R1 ?_))
  refine RL.A1 T_ok rfl ?_
  refine RL.N1 ?_; (with_reducible repeat (first | refine QN.B1 ?_ | refine QN.N1 ?_ | refine WP.S1 ?_ | refine WP.B1 ?_ | refine WP.R1 ?_))
  refine WP.ret ?_; (with_reducible repeat (first | refine QN.tr ?_ | refine QN.br ?_))
  exact QN.ret1 rfl rfl ⟨_, rfl, rfl, rfl⟩
def GIn (m : World) (M : List Nat) (b : Nat) (N : List Nat) (good : List UInt8 → World → Prop) (bad : Int → World → Prop) (m1 : World) (ed : Ending) (m2 : World) : Prop :=
  Ext m1 (b :: N) m2 ∧ ((∃ l2, ed = .returned (.tuple #[]) ∧ RAt m2 (m.heap.size :: M) b l2 0 ∧ good l2 m2) ∨
    ∃ q l2, q ≠ 0 ∧ ed = .panicked (brk q) ∧ RAt m2 (m.heap.size :: M) b l2 0 ∧ bad q m2)
theorem guard_on (m : World) (M : List Nat) (b : Nat) (l : List UInt8) (h : RAt m M b l 0) (N : List Nat) (hN : ∀ k ∈ b :: N, k ∈ M ∧ k < m.heap.size) (k : FuncId) (fi ca al : List Value) (has : fi ++ ca = al)
    (good : List UInt8 → World → Prop) (bad : Int → World → Prop) (hst : ∀ m2 m3, Ext m2 [m.heap.size, b] m3 → (∀ l, good l m2 → good l m3) ∧ ∀ q, bad q m2 → bad q m3)
    (hf : ∀ m1, Ext m [] m1 → m1.heap.size = m.heap.size + 1 → RAt m1 (m.heap.size :: M) b l 0 → FnE Tryz.prog k al m1 (GIn m M b N good bad m1)) :
    FnR Tryz.prog 83 [.pointer (some ⟨b, 0, none⟩), .func (.func k) fi.toArray ca.toArray] m fun v m' => Ext m (b :: N) m' ∧
      ((∃ l2, v = .bool true ∧ RAt m' M b l2 0 ∧ good l2 m') ∨ ∃ q, q ≠ 0 ∧ v = .bool false ∧ RAt m' M b l q ∧ bad q m') := by
  have hbM : b ∈ M := (hN b (by simp)).1
  have h0 := h
  obtain ⟨v, hB, hS⟩ := h
  have hblt := hB.lt
  refine FnE.enter ⟨_, Tryz.func83, by kernel_rfl, by kernel_rfl⟩ Tryz.func83 rfl rfl ?_
  (with_reducible repeat (first | refine WP.S1 ?_ | refine WP.B1 ?_ | refine WP.R1 ?_))
  refine RL.A1 T_ok rfl ?_
  refine RL.N1 ?_; (with_reducible repeat (first | refine QN.B1 ?_ | refine QN.N1 ?_ | refine WP.S1 ?_ | refine WP.B1 ?_ | refine WP.R1 ?_))
  refine RL.A1 T_ok rfl ?_
  refine RL.load T_ok rfl rfl rfl (hB.cell 1 rfl) rfl ?_
  refine RL.A1 T_ok rfl ?_
  refine RL.N1 ?_; (with_reducible repeat (first | refine QN.B1 ?_ | refine QN.N1 ?_ | refine WP.S1 ?_ | refine WP.B1 ?_ | refine WP.R1 ?_))
  refine WP.condF rfl ?_
  refine WP.skip ?_; (with_reducible repeat (first | refine QN.B1 ?_ | refine QN.N1 ?_ | refine WP.S1 ?_ | refine WP.B1 ?_ | refine WP.R1 ?_))
  refine RL.A1 T_ok rfl ?_
  refine RL.load T_ok rfl rfl rfl (hB.cell 0 rfl) rfl ?_
  refine RL.A1 T_ok rfl ?_
  refine RL.N1 ?_; (with_reducible repeat (first | refine QN.B1 ?_ | refine QN.N1 ?_ | refine WP.S1 ?_ | refine WP.B1 ?_ | refine WP.R1 ?_))
  refine RL.A1 T_ok rfl ?_
  refine RL.call (fi := []) (ca := []) rfl rfl rfl rfl (try_c m k fi ca al has (GIn m M b N good bad)
    (fun m1 h1 h2 => hf m1 h1 h2 (h0.ext h1 (by simp) (by simp) (fun k hk => by rcases List.mem_cons.1 hk with rfl | hk; exact .inr (Nat.le_refl _); exact .inl hk))) ?_ ?_ ?_) ?_
  · rintro m1 m2 ⟨_, ⟨_, h, _⟩ | ⟨_, _, _, h, _⟩⟩ <;> cases h
  · rintro m1 ch m2 ⟨_, ⟨_, h, _⟩ | ⟨q, _, _, h, _⟩⟩
    · cases h
    · injection h with h; exact ⟨q, h⟩
  · rintro m1 ed m2 ⟨hE, _⟩ _ _
    exact ⟨_, hE, fun hh => by have := (hN _ hh).2; omega⟩
  rintro tv m3 ⟨m1, m2, hE1, hs1, hE3, hcase⟩
  refine ⟨_, rfl, ?_⟩
  have big : ∀ {m1 : World}, Ext m [] m1 → Ext m1 (b :: N) m2 → Ext m (b :: N) m3 := fun h1 h2 =>
    ((h1.mono (M' := b :: N) (by simp)).trans h2 (fun k hk => .inl hk)).trans hE3 (fun k hk => .inr (by have h9 : k = m.heap.size := (by simpa using hk); omega))
  have carry : ∀ l2 q, RAt m2 (m.heap.size :: M) b l2 q → RAt m3 M b l2 q := fun l2 q hR => hR.ext hE3 (by simp; omega) (by simp) (fun k hk => .inl (by simp [hk]))
  have hst1 := hst m2 m3 (hE3.mono (by simp))
  rcases hcase with ⟨u, ⟨hE2, hin⟩, rfl⟩ | ⟨q, ⟨hE2, hin⟩, rfl⟩
  · rcases hin with ⟨l2, _, hR, hg⟩ | ⟨_, _, _, h, _⟩
    rotate_left
    · cases h
    refine RL.A1 T_ok rfl ?_
    refine RL.N1 ?_; (with_reducible repeat (first | refine QN.B1 ?_ | refine QN.N1 ?_ | refine WP.S1 ?_ | refine WP.B1 ?_ | refine WP.R1 ?_))
    refine RL.A1 T_ok rfl ?_
    refine RL.N1 ?_; (with_reducible repeat (first | refine QN.B1 ?_ | refine QN.N1 ?_ | refine WP.S1 ?_ | refine WP.B1 ?_ | refine WP.R1 ?_))
    refine WP.condF rfl ?_
    refine WP.skip ?_; (with_reducible repeat (first | refine QN.B1 ?_ | refine QN.N1 ?_ | refine WP.S1 ?_ | refine WP.B1 ?_ | refine WP.R1 ?_))
    refine RL.A1 T_ok rfl ?_
    refine RL.N1 ?_; (with_reducible repeat (first | refine QN.B1 ?_ | refine QN.N1 ?_ | refine WP.S1 ?_ | refine WP.B1 ?_ | refine WP.R1 ?_))
    refine WP.ret ?_; (with_reducible repeat (first | refine QN.tr ?_ | refine QN.br ?_))
    exact QN.ret1 rfl rfl ⟨_, rfl, big hE1 hE2, .inl ⟨l2, rfl, carry l2 0 hR, hst1.1 l2 hg⟩⟩
  · rcases hin with ⟨_, h, _⟩ | ⟨q', l2, hq, h, hR, hb⟩
    · cases h
    injection h with h
    have hqq : q' = q := by
      simp only [brk, List.cons.injEq, PanicEntry.mk.injEq, Value.iface.injEq, Value.agg.injEq, and_true, true_and] at h
      simpa using h.symm
    subst hqq
    obtain ⟨v2, hB2, hS2⟩ := carry l2 0 hR
    have hE4 := big hE1 hE2
    have hS3 : Bs m3 M v l := Sl.ext hS (hE4.mono (fun k hk _ => (hN k hk).1)) (fun _ hk => .inl hk) (by omega)
    refine RL.A1 T_ok rfl ?_
    refine RL.N1 ?_; (with_reducible repeat (first | refine QN.B1 ?_ | refine QN.N1 ?_ | refine WP.S1 ?_ | refine WP.B1 ?_ | refine WP.R1 ?_))
    refine RL.pure T_ok 1 rfl ?_
    refine RL.pure T_ok 1 rfl ?_
    refine RL.eqv (v' := .bool true) (by simp [hq]) ?_
    refine RL.N1 ?_; (with_reducible repeat (first | refine QN.B1 ?_ | refine QN.N1 ?_ | refine WP.S1 ?_ | refine WP.B1 ?_ | refine WP.R1 ?_))
    refine WP.condT rfl ?_
    (with_reducible repeat (first | refine WP.S1 ?_ | refine WP.B1 ?_ | refine WP.R1 ?_))
    refine RL.A1 T_ok rfl ?_
    refine RL.store T_ok hB2 (i := 0) (v := v) (by simp) rfl rfl rfl rfl hS3.one rfl ?_
    intro m4 hC4
    have hR4 : RAt m4 M b l 0 := ⟨v, hC4.blk, Sl.ext hS3 (hC4.ext.mono (by simp [hbM])) (fun _ hk => .inl hk) (by omega)⟩
    refine RL.N1 ?_; (with_reducible repeat (first | refine QN.B1 ?_ | refine QN.N1 ?_ | refine WP.S1 ?_ | refine WP.B1 ?_ | refine WP.R1 ?_))
    refine RL.A1 T_ok rfl ?_
    refine RL.call (fi := []) (ca := []) rfl rfl rfl rfl (bad_c m4 M b l 0 q' hR4 hbM) ?_
    rintro _ m5 ⟨rfl, hR5, hE5⟩
    refine ⟨_, rfl, ?_⟩
    refine RL.N1 ?_; (with_reducible repeat (first | refine QN.B1 ?_ | refine QN.N1 ?_ | refine WP.S1 ?_ | refine WP.B1 ?_ | refine WP.R1 ?_))
    refine RL.A1 T_ok rfl ?_
    refine RL.N1 ?_; (with_reducible repeat (first | refine QN.B1 ?_ | refine QN.N1 ?_ | refine WP.S1 ?_ | refine WP.B1 ?_ | refine WP.R1 ?_))
    refine WP.ret ?_; (with_reducible repeat (first | refine QN.tr ?_ | refine QN.br ?_))
    have hE6 : Ext m3 [b] m5 := hC4.ext.trans hE5 (fun k hk => .inl hk)
    refine QN.ret1 rfl rfl ⟨_, rfl, hE4.trans hE6 (fun k hk => .inl (by simp at hk; simp [hk])), .inr ⟨q', hq, rfl, hR5, ?_⟩⟩
    exact (hst m2 m5 ((hE3.mono (by simp)).trans (M' := [b]) hE6 (by simp))).2 q' hb
end Go.Proofs.YtmjpcaiehfimgaaGreatDoor
end
section
namespace Go.Proofs.YtmjpcaiehfimgaaGreatDoor
open Go.RowKit Go.Ev
theorem blk_st {m0 : World} {b b5 : Nat} {t : TypeId} {cs : List Value} (h5 : b5 < m0.heap.size) (hb : b5 ≠ b) {m2 m3 : World} (hE : Ext m2 [m0.heap.size, b] m3) (h : Blk m2 b5 t cs) : Blk m3 b5 t cs :=
  h.ext hE (by simp; omega)
theorem uint1_c (m m1 : World) (M : List Nat) (b b2 b3 b5 : Nat) (l : List UInt8) (most : Nat) (x : Value) (h2 : Blk m1 b2 67 [.pointer (some ⟨b, 0, none⟩)]) (h3 : Blk m1 b3 22 [.int .u64 most]) (h5 : Blk m1 b5 22 [x])
    (hR : RAt m1 (m.heap.size :: M) b l 0) (hbM : b ∈ M) (h5M : b5 ∈ M) (h5b : b5 ≠ b) :
    FnE Tryz.prog 86 [.pointer (some ⟨b2, 0, none⟩), .pointer (some ⟨b3, 0, none⟩), .pointer (some ⟨b5, 0, none⟩)] m1
      (GIn m M b [b5] (fun l2 m2 => ∃ n : Nat, rdU most 0 0 l = .ok (n, l2) ∧ Blk m2 b5 22 [.int .u64 n]) (fun q m2 => rdU most 0 0 l = .error q ∧ Blk m2 b5 22 [x]) m1) := by
  refine FnE.enter ⟨_, Tryz.func86, by kernel_rfl, by kernel_rfl⟩ Tryz.func86 rfl rfl ?_
  (with_reducible repeat (first | refine WP.S1 ?_ | refine WP.B1 ?_ | refine WP.R1 ?_))
  refine RL.load T_ok rfl rfl rfl (h2.cell 0 rfl) rfl ?_
  refine RL.load T_ok rfl rfl rfl (h3.cell 0 rfl) rfl ?_
  refine RL.callE (fi := []) (ca := []) rfl rfl rfl rfl (uint_c m1 (m.heap.size :: M) b l 0 hR (by simp [hbM]) most) ?_ ?_ ?_
  · rintro v m2 ⟨hE, ⟨n, l', hr, h, hR2⟩ | ⟨_, _, _, h, _⟩⟩
    rotate_left
    · cases h
    injection h with h
    subst h
    refine ⟨_, rfl, ?_⟩
    have h5' := h5.ext hE (by simp [h5b])
    refine RL.store T_ok h5' (i := 0) (v := .int .u64 n) (by simp) rfl rfl rfl rfl rfl rfl ?_
    intro m3 hC
    refine RL.N1 (QN.end0 rfl ⟨?_, .inl ⟨l', rfl, hR2.ext hC.ext (by simp; omega) (by simp [h5M]) (fun _ hk => .inl hk), n, hr, hC.blk⟩⟩)
    exact (hE.mono (M' := [b, b5]) (by simp)).trans hC.ext (by simp)
  · rintro ch m2 ⟨hE, ⟨_, _, _, h, _⟩ | ⟨k, l', hr, h, hR2⟩⟩
    · cases h
    injection h with h
    subst h
    have hk := rdU_err most l 0 0 k hr
    exact QN.panic ⟨hE.mono (by simp), .inr ⟨k, l', by omega, rfl, hR2, hr, h5.ext hE (by simp [h5b])⟩⟩
  · rintro m2 ⟨_, ⟨_, _, _, h, _⟩ | ⟨_, _, _, h, _⟩⟩ <;> cases h
def RPost (m : World) (M : List Nat) (b : Nat) {α : Type} (enc : α → Value) (r : α × List UInt8 × Int) (v : Value) (m' : World) : Prop :=
  v = enc r.1 ∧ RAt m' M b r.2.1 r.2.2 ∧ Ext m [b] m'
theorem ruint_c (m : World) (M : List Nat) (b : Nat) (l : List UInt8) (e : Int) (h : RAt m M b l e) (hbM : b ∈ M) (most : Nat) :
    FnR Tryz.prog 62 [.pointer (some ⟨b, 0, none⟩), .int .u64 most] m (RPost m M b (fun n : Nat => .int .u64 n) (gR 0 e l (rdU most 0 0 l))) := by
  have hblt := h.lt
  refine FnE.enter ⟨_, Tryz.func62, by kernel_rfl, by kernel_rfl⟩ Tryz.func62 rfl rfl ?_
  (with_reducible repeat (first | refine WP.S1 ?_ | refine WP.B1 ?_ | refine WP.R1 ?_))
  refine RL.box rfl rfl (fun b2 m2 hb2 hC2 => ⟨_, rfl, ?_⟩)
  refine RL.box rfl rfl (fun b3 m3 hb3 hC3 => ⟨_, rfl, ?_⟩)
  have hE2 := hC2.new (by omega)
  have hE3 := hC3.new (by omega)
  have s2 := hC2.size
  have s3 := hC3.size
  refine RL.A1 T_ok rfl ?_
  refine RL.N1 ?_; (with_reducible repeat (first | refine QN.B1 ?_ | refine QN.N1 ?_ | refine WP.S1 ?_ | refine WP.B1 ?_ | refine WP.R1 ?_))
  refine RL.alloc T_ok rfl rfl (fun b5 m5 hb5 hC5 => ⟨_, rfl, ?_⟩)
  have hE5 := hC5.new (by omega)
  have s5 := hC5.size
  have h2 := (Blk.up (Blk.up (Chg.blk (cs := [.pointer (some ⟨b, 0, none⟩)]) hC2) hE3) hE5)
  have h3 := Blk.up (Chg.blk (cs := [.int .u64 most]) hC3) hE5
  have h5 : Blk m5 b5 22 [.int .u64 0] := hC5.blk
  have hE : Ext m [] m5 := (hE2.trans hE3 (by simp)).trans hE5 (by simp)
  have hR5 : RAt m5 (b5 :: M) b l e := h.ext hE (by simp) (by simp) (fun k hk => by rcases List.mem_cons.1 hk with rfl | hk; exact .inr (by omega); exact .inl hk)
  refine RL.N1 ?_; (with_reducible repeat (first | refine QN.B1 ?_ | refine QN.N1 ?_ | refine WP.S1 ?_ | refine WP.B1 ?_ | refine WP.R1 ?_))
  refine RL.load T_ok rfl rfl rfl (h2.cell 0 rfl) rfl ?_
  refine RL.A1 T_ok rfl ?_
  by_cases he : e = 0
  · subst he
    refine RL.call (fi := []) (ca := []) rfl rfl rfl rfl (guard_on m5 (b5 :: M) b l hR5 [b5] (fun k hk => ?_) _ [] [.pointer (some ⟨b2, 0, none⟩), .pointer (some ⟨b3, 0, none⟩), .pointer (some ⟨b5, 0, none⟩)] _ rfl
      (fun l2 m2 => ∃ n : Nat, rdU most 0 0 l = .ok (n, l2) ∧ Blk m2 b5 22 [.int .u64 n]) (fun q m2 => rdU most 0 0 l = .error q ∧ Blk m2 b5 22 [.int .u64 0])
      (fun m2 m3 hE => ⟨fun l ⟨n, h1, h2⟩ => ⟨n, h1, blk_st (by omega) (by omega) hE h2⟩, fun q ⟨h1, h2⟩ => ⟨h1, blk_st (by omega) (by omega) hE h2⟩⟩)
      (fun m1 h1 _ h9 => uint1_c m5 m1 (b5 :: M) b b2 b3 b5 l most _ (h2.up h1) (h3.up h1) (h5.up h1) h9 (by simp [hbM]) (by simp) (by omega))) ?_
    · rcases List.mem_cons.1 hk with rfl | hk
      · exact ⟨by simp [hbM], by omega⟩
      · have : k = b5 := by simpa using hk
        exact ⟨by simp [this], by omega⟩
    rintro v m6 ⟨hE6, ⟨l2, rfl, hR6, n, hn, h56⟩ | ⟨q, hq, rfl, hR6, hn, h56⟩⟩
    · refine ⟨_, rfl, ?_⟩
      refine RL.A1 T_ok rfl ?_
      refine RL.N1 ?_; (with_reducible repeat (first | refine QN.B1 ?_ | refine QN.N1 ?_ | refine WP.S1 ?_ | refine WP.B1 ?_ | refine WP.R1 ?_))
      refine WP.condF rfl ?_
      refine WP.skip ?_; (with_reducible repeat (first | refine QN.B1 ?_ | refine QN.N1 ?_ | refine WP.S1 ?_ | refine WP.B1 ?_ | refine WP.R1 ?_))
      refine RL.load T_ok rfl rfl rfl (h56.cell 0 rfl) rfl ?_
      refine RL.A1 T_ok rfl ?_
      refine RL.N1 ?_; (with_reducible repeat (first | refine QN.B1 ?_ | refine QN.N1 ?_ | refine WP.S1 ?_ | refine WP.B1 ?_ | refine WP.R1 ?_))
      refine WP.ret ?_; (with_reducible repeat (first | refine QN.tr ?_ | refine QN.br ?_))
      refine QN.ret1 rfl rfl ⟨_, rfl, ?_⟩
      rw [gR_ok hn]
      exact ⟨rfl, hR6.ext (Ext.refl m6 []) (by simp) (by simp) (fun k hk => .inl (by simp [hk])), (hE.mono (M' := [b]) (by simp)).trans hE6 (fun k hk => by rcases List.mem_cons.1 hk with rfl | hk; exact .inl (by simp); exact .inr (by have h9 : k = b5 := (by simpa using hk); omega))⟩
    · refine ⟨_, rfl, ?_⟩
      refine RL.A1 T_ok rfl ?_
      refine RL.N1 ?_; (with_reducible repeat (first | refine QN.B1 ?_ | refine QN.N1 ?_ | refine WP.S1 ?_ | refine WP.B1 ?_ | refine WP.R1 ?_))
      refine WP.condT rfl ?_
      (with_reducible repeat (first | refine WP.S1 ?_ | refine WP.B1 ?_ | refine WP.R1 ?_))
      refine RL.A1 T_ok rfl ?_
      refine RL.N1 ?_; (with_reducible repeat (first | refine QN.B1 ?_ | refine QN.N1 ?_ | refine WP.S1 ?_ | refine WP.B1 ?_ | refine WP.R1 ?_))
      refine WP.ret ?_; (with_reducible repeat (first | refine QN.tr ?_ | refine QN.br ?_))
      refine QN.ret1 rfl rfl ⟨_, rfl, ?_⟩
      rw [gR_err hn]
      exact ⟨rfl, hR6.ext (Ext.refl m6 []) (by simp) (by simp) (fun k hk => .inl (by simp [hk])), (hE.mono (M' := [b]) (by simp)).trans hE6 (fun k hk => by rcases List.mem_cons.1 hk with rfl | hk; exact .inl (by simp); exact .inr (by have h9 : k = b5 := (by simpa using hk); omega))⟩
  · refine RL.call (fi := []) (ca := []) rfl rfl rfl rfl (guard_off m5 (b5 :: M) b l e hR5 he _) ?_
    rintro v m6 ⟨rfl, rfl⟩
    refine ⟨_, rfl, ?_⟩
    refine RL.A1 T_ok rfl ?_
    refine RL.N1 ?_; (with_reducible repeat (first | refine QN.B1 ?_ | refine QN.N1 ?_ | refine WP.S1 ?_ | refine WP.B1 ?_ | refine WP.R1 ?_))
    refine WP.condT rfl ?_
    (with_reducible repeat (first | refine WP.S1 ?_ | refine WP.B1 ?_ | refine WP.R1 ?_))
    refine RL.A1 T_ok rfl ?_
    refine RL.N1 ?_; (with_reducible repeat (first | refine QN.B1 ?_ | refine QN.N1 ?_ | refine WP.S1 ?_ | refine WP.B1 ?_ | refine WP.R1 ?_))
    refine WP.ret ?_; (with_reducible repeat (first | refine QN.tr ?_ | refine QN.br ?_))
    refine QN.ret1 rfl rfl ⟨_, rfl, ?_⟩
    rw [gR_off he]
    exact ⟨rfl, hR5.ext (Ext.refl _ []) (by simp) (by simp) (fun k hk => .inl (by simp [hk])), hE.mono (by simp)⟩
theorem byte1_c (m m1 : World) (M : List Nat) (b b2 b5 : Nat) (l : List UInt8) (x : Value) (h2 : Blk m1 b2 67 [.pointer (some ⟨b, 0, none⟩)]) (h5 : Blk m1 b5 5 [x])
    (hR : RAt m1 (m.heap.size :: M) b l 0) (hbM : b ∈ M) (h5M : b5 ∈ M) (h5b : b5 ≠ b) :
    FnE Tryz.prog 84 [.pointer (some ⟨b2, 0, none⟩), .pointer (some ⟨b5, 0, none⟩)] m1
      (GIn m M b [b5] (fun l2 m2 => ∃ n : UInt8, rdByte l = .ok (n, l2) ∧ Blk m2 b5 5 [.int .u8 n.toNat]) (fun q m2 => rdByte l = .error q ∧ Blk m2 b5 5 [x]) m1) := by
  refine FnE.enter ⟨_, Tryz.func84, by kernel_rfl, by kernel_rfl⟩ Tryz.func84 rfl rfl ?_
  (with_reducible repeat (first | refine WP.S1 ?_ | refine WP.B1 ?_ | refine WP.R1 ?_))
  refine RL.load T_ok rfl rfl rfl (h2.cell 0 rfl) rfl ?_
  refine RL.callE (fi := []) (ca := []) rfl rfl rfl rfl (take_c m1 (m.heap.size :: M) b l 0 hR (by simp [hbM]) 1) ?_ ?_ ?_
  · rintro v m2 (⟨hle, v', h, hB, hR2, hE⟩ | ⟨_, h, _⟩)
    rotate_left
    · cases h
    injection h with h
    subst h
    match l, hle with
    | y :: l2, _ =>
    have hB : Bs m2 (m.heap.size :: M) v [y] := hB
    have hR2 : RAt m2 (m.heap.size :: M) b l2 0 := hR2
    obtain ⟨A, c, rfl, _, _⟩ := hB.shape
    refine ⟨_, rfl, ?_⟩
    refine RL.index T_ok hB (k := 0) rfl (by simp) rfl rfl rfl rfl (fun ad _ _ hcell => ⟨_, rfl, ?_⟩)
    have hx := hcell 0 (.int .u8 y.toNat) rfl
    refine RL.load T_ok rfl rfl rfl (by rw [add_add] at hx; exact hx) rfl ?_
    have h5' := h5.ext hE (by simp [h5b])
    refine RL.store T_ok h5' (i := 0) (v := .int .u8 y.toNat) (by simp) rfl rfl rfl rfl rfl rfl ?_
    intro m3 hC
    refine RL.N1 (QN.end0 rfl ⟨?_, .inl ⟨l2, rfl, hR2.ext hC.ext (by simp; omega) (by simp [h5M]) (fun _ hk => .inl hk), y, rfl, hC.blk⟩⟩)
    exact (hE.mono (M' := [b, b5]) (by simp)).trans hC.ext (by simp)
  · rintro ch m2 (⟨_, _, h, _⟩ | ⟨hlt, h, rfl⟩)
    · cases h
    injection h with h
    subst h
    have h0 : l = [] := List.eq_nil_of_length_eq_zero (by omega)
    subst h0
    exact QN.panic ⟨Ext.refl _ _, .inr ⟨10, [], by omega, rfl, hR, rfl, h5⟩⟩
  · rintro m2 (⟨_, _, h, _⟩ | ⟨_, h, _⟩) <;> cases h
theorem rbyte_c (m : World) (M : List Nat) (b : Nat) (l : List UInt8) (e : Int) (h : RAt m M b l e) (hbM : b ∈ M) :
    FnR Tryz.prog 61 [.pointer (some ⟨b, 0, none⟩)] m (RPost m M b (fun n : UInt8 => .int .u8 n.toNat) (gR 0 e l (rdByte l))) := by
  have hblt := h.lt
  refine FnE.enter ⟨_, Tryz.func61, by kernel_rfl, by kernel_rfl⟩ Tryz.func61 rfl rfl ?_
  (with_reducible repeat (first | refine WP.S1 ?_ | refine WP.B1 ?_ | refine WP.R1 ?_))
  refine RL.box rfl rfl (fun b2 m2 hb2 hC2 => ⟨_, rfl, ?_⟩)
  have hE2 := hC2.new (by omega)
  have s2 := hC2.size
  refine RL.A1 T_ok rfl ?_
  refine RL.N1 ?_; (with_reducible repeat (first | refine QN.B1 ?_ | refine QN.N1 ?_ | refine WP.S1 ?_ | refine WP.B1 ?_ | refine WP.R1 ?_))
  refine RL.alloc T_ok rfl rfl (fun b5 m5 hb5 hC5 => ⟨_, rfl, ?_⟩)
  have hE5 := hC5.new (by omega)
  have s5 := hC5.size
  have h2 := Blk.up (Chg.blk (cs := [.pointer (some ⟨b, 0, none⟩)]) hC2) hE5
  have h5 : Blk m5 b5 5 [.int .u8 0] := hC5.blk
  have hE : Ext m [] m5 := hE2.trans hE5 (by simp)
  have hR5 : RAt m5 (b5 :: M) b l e := h.ext hE (by simp) (by simp) (fun k hk => by rcases List.mem_cons.1 hk with rfl | hk; exact .inr (by omega); exact .inl hk)
  refine RL.N1 ?_; (with_reducible repeat (first | refine QN.B1 ?_ | refine QN.N1 ?_ | refine WP.S1 ?_ | refine WP.B1 ?_ | refine WP.R1 ?_))
  refine RL.load T_ok rfl rfl rfl (h2.cell 0 rfl) rfl ?_
  refine RL.A1 T_ok rfl ?_
  have fin : ∀ {m6 : World}, Ext m5 [b, b5] m6 → Ext m [b] m6 := fun hE6 => (hE.mono (M' := [b]) (by simp)).trans hE6 (fun k hk => by rcases List.mem_cons.1 hk with rfl | hk; exact .inl (by simp); exact .inr (by have h9 : k = b5 := (by simpa using hk); omega))
  by_cases he : e = 0
  · subst he
    refine RL.call (fi := []) (ca := []) rfl rfl rfl rfl (guard_on m5 (b5 :: M) b l hR5 [b5] (fun k hk => ?_) _ [] [.pointer (some ⟨b2, 0, none⟩), .pointer (some ⟨b5, 0, none⟩)] _ rfl
      (fun l2 m2 => ∃ n : UInt8, rdByte l = .ok (n, l2) ∧ Blk m2 b5 5 [.int .u8 n.toNat]) (fun q m2 => rdByte l = .error q ∧ Blk m2 b5 5 [.int .u8 0])
      (fun m2 m3 hE => ⟨fun l ⟨n, h1, h2⟩ => ⟨n, h1, blk_st (by omega) (by omega) hE h2⟩, fun q ⟨h1, h2⟩ => ⟨h1, blk_st (by omega) (by omega) hE h2⟩⟩)
      (fun m1 h1 _ h9 => byte1_c m5 m1 (b5 :: M) b b2 b5 l _ (h2.up h1) (h5.up h1) h9 (by simp [hbM]) (by simp) (by omega))) ?_
    · rcases List.mem_cons.1 hk with rfl | hk
      · exact ⟨by simp [hbM], by omega⟩
      · have : k = b5 := by simpa using hk
        exact ⟨by simp [this], by omega⟩
    rintro v m6 ⟨hE6, ⟨l2, rfl, hR6, n, hn, h56⟩ | ⟨q, hq, rfl, hR6, hn, h56⟩⟩
    · refine ⟨_, rfl, ?_⟩
      refine RL.N1 ?_; (with_reducible repeat (first | refine QN.B1 ?_ | refine QN.N1 ?_ | refine WP.S1 ?_ | refine WP.B1 ?_ | refine WP.R1 ?_))
      refine RL.load T_ok rfl rfl rfl (h56.cell 0 rfl) rfl ?_
      refine RL.A1 T_ok rfl ?_
      refine RL.N1 ?_; (with_reducible repeat (first | refine QN.B1 ?_ | refine QN.N1 ?_ | refine WP.S1 ?_ | refine WP.B1 ?_ | refine WP.R1 ?_))
      refine WP.ret ?_; (with_reducible repeat (first | refine QN.tr ?_ | refine QN.br ?_))
      refine QN.ret1 rfl rfl ⟨_, rfl, ?_⟩
      rw [gR_ok hn]
      exact ⟨rfl, hR6.ext (Ext.refl m6 []) (by simp) (by simp) (fun k hk => .inl (by simp [hk])), fin hE6⟩
    · refine ⟨_, rfl, ?_⟩
      refine RL.N1 ?_; (with_reducible repeat (first | refine QN.B1 ?_ | refine QN.N1 ?_ | refine WP.S1 ?_ | refine WP.B1 ?_ | refine WP.R1 ?_))
      refine RL.load T_ok rfl rfl rfl (h56.cell 0 rfl) rfl ?_
      refine RL.A1 T_ok rfl ?_
      refine RL.N1 ?_; (with_reducible repeat (first | refine QN.B1 ?_ | refine QN.N1 ?_ | refine WP.S1 ?_ | refine WP.B1 ?_ | refine WP.R1 ?_))
      refine WP.ret ?_; (with_reducible repeat (first | refine QN.tr ?_ | refine QN.br ?_))
      refine QN.ret1 rfl rfl ⟨_, rfl, ?_⟩
      rw [gR_err hn]
      exact ⟨rfl, hR6.ext (Ext.refl m6 []) (by simp) (by simp) (fun k hk => .inl (by simp [hk])), fin hE6⟩
  · refine RL.call (fi := []) (ca := []) rfl rfl rfl rfl (guard_off m5 (b5 :: M) b l e hR5 he _) ?_
    rintro v m6 ⟨rfl, rfl⟩
    refine ⟨_, rfl, ?_⟩
    refine RL.N1 ?_; (with_reducible repeat (first | refine QN.B1 ?_ | refine QN.N1 ?_ | refine WP.S1 ?_ | refine WP.B1 ?_ | refine WP.R1 ?_))
    refine RL.load T_ok rfl rfl rfl (h5.cell 0 rfl) rfl ?_
    refine RL.A1 T_ok rfl ?_
    refine RL.N1 ?_; (with_reducible repeat (first | refine QN.B1 ?_ | refine QN.N1 ?_ | refine WP.S1 ?_ | refine WP.B1 ?_ | refine WP.R1 ?_))
    refine WP.ret ?_; (with_reducible repeat (first | refine QN.tr ?_ | refine QN.br ?_))
    refine QN.ret1 rfl rfl ⟨_, rfl, ?_⟩
    rw [gR_off he]
    exact ⟨rfl, hR5.ext (Ext.refl _ []) (by simp) (by simp) (fun k hk => .inl (by simp [hk])), hE.mono (by simp)⟩
end Go.Proofs.YtmjpcaiehfimgaaGreatDoor
end
section
namespace Go.Proofs.YtmjpcaiehfimgaaGreatDoor
open Go.RowKit Go.Ev
theorem max_zero (most : Int) (h1 : -9223372036854775808 ≤ most) (h2 : most ≤ 9223372036854775807) : IntKind.u64.wrap (if (0 : Int) > most then 0 else most) = ((most.toNat : Nat) : Int) := by
  rw [wrap_u64]; split <;> omega
theorem text1_c (m m1 : World) (M : List Nat) (b b2 b3 b5 : Nat) (l : List UInt8) (hl : l.length < 1000000000) (most : Int) (hm1 : -9223372036854775808 ≤ most) (hm2 : most ≤ 9223372036854775807) (x : Value) (h2 : Blk m1 b2 67 [.pointer (some ⟨b, 0, none⟩)]) (h3 : Blk m1 b3 3 [.int .i64 most]) (h5 : Blk m1 b5 9 [x])
    (hR : RAt m1 (m.heap.size :: M) b l 0) (hbM : b ∈ M) (h5M : b5 ∈ M) (h5b : b5 ≠ b) (h2b : b2 ≠ b) :
    FnE Tryz.prog 88 [.pointer (some ⟨b2, 0, none⟩), .pointer (some ⟨b3, 0, none⟩), .pointer (some ⟨b5, 0, none⟩)] m1
      (GIn m M b [b5] (fun l2 m2 => ∃ s, rdText most.toNat l = .ok (s, l2) ∧ Blk m2 b5 9 [.string (str s)]) (fun q m2 => rdText most.toNat l = .error q ∧ Blk m2 b5 9 [x]) m1) := by
  refine FnE.enter ⟨_, Tryz.func88, by kernel_rfl, by kernel_rfl⟩ Tryz.func88 rfl rfl ?_
  (with_reducible repeat (first | refine WP.S1 ?_ | refine WP.B1 ?_ | refine WP.R1 ?_))
  refine RL.load T_ok rfl rfl rfl (h2.cell 0 rfl) rfl ?_
  refine RL.load T_ok rfl rfl rfl (h3.cell 0 rfl) rfl ?_
  refine RL.pure T_ok 2 rfl ?_
  refine RL.eqv (v' := .int .u64 ((most.toNat : Nat) : Int)) (congrArg _ (max_zero most hm1 hm2)) ?_
  refine RL.callE (fi := []) (ca := []) rfl rfl rfl rfl (uint_c m1 (m.heap.size :: M) b l 0 hR (by simp [hbM]) most.toNat) ?_ ?_ ?_
  rotate_left
  · rintro ch m2 ⟨hE, ⟨_, _, _, h, _⟩ | ⟨k, l', hr, h, hR2⟩⟩
    · cases h
    injection h with h
    subst h
    have hk := rdU_err _ l 0 0 k hr
    (with_reducible repeat (first | refine QN.tp ?_ | refine QN.bp ?_))
    exact QN.panic ⟨hE.mono (by simp), .inr ⟨k, l', by omega, rfl, hR2, by unfold rdText; rw [hr], h5.ext hE (by simp [h5b])⟩⟩
  · rintro m2 ⟨_, ⟨_, _, _, h, _⟩ | ⟨_, _, _, h, _⟩⟩ <;> cases h
  rintro v m2 ⟨hE, ⟨n, l', hr, h, hR2⟩ | ⟨_, _, _, h, _⟩⟩
  rotate_left
  · cases h
  injection h with h
  subst h
  have hn := rdU_most _ l 0 0 n l' hr
  have h22 := h2.ext hE (by simp [h2b])
  have h52 := h5.ext hE (by simp [h5b])
  refine ⟨_, rfl, ?_⟩
  refine RL.A1 T_ok rfl ?_
  refine RL.N1 ?_; (with_reducible repeat (first | refine QN.B1 ?_ | refine QN.N1 ?_ | refine WP.S1 ?_ | refine WP.B1 ?_ | refine WP.R1 ?_))
  have hR2' := hR2
  obtain ⟨v2, hB2, hS2⟩ := hR2
  obtain ⟨A, c, rfl, _, _⟩ := hS2.shape
  refine RL.A1 T_ok rfl ?_
  refine RL.load T_ok rfl rfl rfl (h22.cell 0 rfl) rfl ?_
  refine RL.A1 T_ok rfl ?_
  refine RL.load T_ok rfl rfl rfl (hB2.cell 0 rfl) rfl ?_
  refine RL.pure T_ok 2 rfl ?_
  refine RL.eqv (v' := .int .u64 ((l'.length : Nat) : Int)) (congrArg _ (wrap_u64_in _ (by omega) (by omega))) ?_
  refine RL.A1 T_ok rfl ?_
  refine RL.N1 ?_; (with_reducible repeat (first | refine QN.B1 ?_ | refine QN.N1 ?_ | refine WP.S1 ?_ | refine WP.B1 ?_ | refine WP.R1 ?_))
  refine WP.cond rfl (fun hc => ?_) (fun hc => ?_)
  · have hc : l'.length < n := by have := of_decide_eq_true hc; omega
    (with_reducible repeat (first | refine WP.S1 ?_ | refine WP.B1 ?_ | refine WP.R1 ?_))
    refine RL.callE (fi := []) (ca := []) rfl rfl rfl rfl (fail_c m2 10) ?_ ?_ ?_
    · rintro v m' ⟨_, h⟩; cases h
    · rintro ch m' ⟨rfl, h⟩
      injection h with h
      subst h
      (with_reducible repeat (first | refine QN.tp ?_ | refine QN.bp ?_))
      exact QN.panic ⟨hE.mono (by simp), .inr ⟨10, l', by omega, rfl, hR2', by unfold rdText; rw [hr]; simp only; rw [if_neg (by omega)], h52⟩⟩
    · rintro m' ⟨_, h⟩; cases h
  · have hc : n ≤ l'.length := by have := of_decide_eq_false hc; omega
    have hok : rdText most.toNat l = .ok (l'.take n, l'.drop n) := by unfold rdText; rw [hr]; simp only; rw [if_pos hc]
    refine WP.skip ?_; (with_reducible repeat (first | refine QN.B1 ?_ | refine QN.N1 ?_ | refine WP.S1 ?_ | refine WP.B1 ?_ | refine WP.R1 ?_))
    refine RL.load T_ok rfl rfl rfl (h22.cell 0 rfl) rfl ?_
    refine RL.pure T_ok 2 rfl ?_
    refine RL.eqv (v' := .int .i64 (n : Int)) (congrArg _ (wrap_i64_in _ (by omega) (by omega))) ?_
    refine RL.callE (fi := []) (ca := []) rfl rfl rfl rfl (take_c m2 (m.heap.size :: M) b l' 0 hR2' (by simp [hbM]) n) ?_ ?_ ?_
    rotate_left
    · rintro ch m3 (⟨_, _, h, _⟩ | ⟨hlt, _, _⟩)
      · cases h
      · omega
    · rintro m3 (⟨_, _, h, _⟩ | ⟨_, h, _⟩) <;> cases h
    rintro v m3 (⟨_, v', h, hB3, hR3, hE3⟩ | ⟨hlt, _, _⟩)
    rotate_left
    · omega
    injection h with h
    subst h
    refine ⟨_, rfl, ?_⟩
    have h53 := h52.ext hE3 (by simp [h5b])
    refine RL.bytesString T_ok hB3 rfl rfl rfl rfl rfl rfl ?_
    refine RL.store T_ok h53 (i := 0) (v := .string (str (l'.take n))) (by simp) rfl rfl rfl rfl rfl rfl ?_
    intro m4 hC
    refine RL.N1 (QN.end0 rfl ⟨?_, .inl ⟨_, rfl, hR3.ext hC.ext (by simp; omega) (by simp [h5M]) (fun _ hk => .inl hk), _, hok, hC.blk⟩⟩)
    exact ((hE.trans hE3 (fun k hk => .inl hk)).mono (M' := [b, b5]) (by simp)).trans hC.ext (by simp)
theorem rtext_c (m : World) (M : List Nat) (b : Nat) (l : List UInt8) (e : Int) (h : RAt m M b l e) (hbM : b ∈ M) (hl : l.length < 1000000000) (most : Int) (hm1 : -9223372036854775808 ≤ most) (hm2 : most ≤ 9223372036854775807) :
    FnR Tryz.prog 63 [.pointer (some ⟨b, 0, none⟩), .int .i64 most] m (RPost m M b (fun s : List UInt8 => .string (str s)) (gR [] e l (rdText most.toNat l))) := by
  have hblt := h.lt
  refine FnE.enter ⟨_, Tryz.func63, by kernel_rfl, by kernel_rfl⟩ Tryz.func63 rfl rfl ?_
  (with_reducible repeat (first | refine WP.S1 ?_ | refine WP.B1 ?_ | refine WP.R1 ?_))
  refine RL.box rfl rfl (fun b2 m2 hb2 hC2 => ⟨_, rfl, ?_⟩)
  refine RL.box rfl rfl (fun b3 m3 hb3 hC3 => ⟨_, rfl, ?_⟩)
  have hE2 := hC2.new (by omega)
  have hE3 := hC3.new (by omega)
  have s2 := hC2.size
  have s3 := hC3.size
  refine RL.A1 T_ok rfl ?_
  refine RL.N1 ?_; (with_reducible repeat (first | refine QN.B1 ?_ | refine QN.N1 ?_ | refine WP.S1 ?_ | refine WP.B1 ?_ | refine WP.R1 ?_))
  refine RL.alloc T_ok rfl rfl (fun b5 m4 hb5 hC4 => ⟨_, rfl, ?_⟩)
  refine RL.store T_ok (b := b5) (i := 0) (cs := [.string ⟨#[]⟩]) (v := .string ⟨#[]⟩) hC4.blk (by simp) rfl rfl rfl rfl rfl rfl ?_
  intro m5 hC5
  have hE4 := hC4.new (by omega)
  have s4 := hC4.size
  have s5 := hC5.size
  have hE5 : Ext m3 [] m5 := hE4.trans hC5.ext (fun k hk => .inr (by have h9 : k = b5 := (by simpa using hk); omega))
  have h2 := Blk.up (Blk.up (Chg.blk (cs := [.pointer (some ⟨b, 0, none⟩)]) hC2) hE3) hE5
  have h3 := Blk.up (Chg.blk (cs := [.int .i64 most]) hC3) hE5
  have h5 : Blk m5 b5 9 [.string (str [])] := hC5.blk
  have hE : Ext m [] m5 := (hE2.trans hE3 (by simp)).trans hE5 (by simp)
  have hR5 : RAt m5 (b5 :: M) b l e := h.ext hE (by simp) (by simp) (fun k hk => by rcases List.mem_cons.1 hk with rfl | hk; exact .inr (by omega); exact .inl hk)
  refine RL.N1 ?_; (with_reducible repeat (first | refine QN.B1 ?_ | refine QN.N1 ?_ | refine WP.S1 ?_ | refine WP.B1 ?_ | refine WP.R1 ?_))
  refine RL.load T_ok rfl rfl rfl (h2.cell 0 rfl) rfl ?_
  refine RL.A1 T_ok rfl ?_
  have fin : ∀ {m6 : World}, Ext m5 [b, b5] m6 → Ext m [b] m6 := fun hE6 => (hE.mono (M' := [b]) (by simp)).trans hE6 (fun k hk => by rcases List.mem_cons.1 hk with rfl | hk; exact .inl (by simp); exact .inr (by have h9 : k = b5 := (by simpa using hk); omega))
  by_cases he : e = 0
  · subst he
    refine RL.call (fi := []) (ca := []) rfl rfl rfl rfl (guard_on m5 (b5 :: M) b l hR5 [b5] (fun k hk => ?_) _ [] [.pointer (some ⟨b2, 0, none⟩), .pointer (some ⟨b3, 0, none⟩), .pointer (some ⟨b5, 0, none⟩)] _ rfl
      (fun l2 m2 => ∃ s, rdText most.toNat l = .ok (s, l2) ∧ Blk m2 b5 9 [.string (str s)]) (fun q m2 => rdText most.toNat l = .error q ∧ Blk m2 b5 9 [.string (str [])])
      (fun m2 m3 hE => ⟨fun l ⟨n, h1, h2⟩ => ⟨n, h1, blk_st (by omega) (by omega) hE h2⟩, fun q ⟨h1, h2⟩ => ⟨h1, blk_st (by omega) (by omega) hE h2⟩⟩)
      (fun m1 h1 _ h9 => text1_c m5 m1 (b5 :: M) b b2 b3 b5 l hl most hm1 hm2 _ (h2.up h1) (h3.up h1) (h5.up h1) h9 (by simp [hbM]) (by simp) (by omega) (by omega))) ?_
    · rcases List.mem_cons.1 hk with rfl | hk
      · exact ⟨by simp [hbM], by omega⟩
      · have : k = b5 := by simpa using hk
        exact ⟨by simp [this], by omega⟩
    rintro v m6 ⟨hE6, ⟨l2, rfl, hR6, n, hn, h56⟩ | ⟨q, hq, rfl, hR6, hn, h56⟩⟩
    · refine ⟨_, rfl, ?_⟩
      refine RL.N1 ?_; (with_reducible repeat (first | refine QN.B1 ?_ | refine QN.N1 ?_ | refine WP.S1 ?_ | refine WP.B1 ?_ | refine WP.R1 ?_))
      refine RL.load T_ok rfl rfl rfl (h56.cell 0 rfl) rfl ?_
      refine RL.A1 T_ok rfl ?_
      refine RL.N1 ?_; (with_reducible repeat (first | refine QN.B1 ?_ | refine QN.N1 ?_ | refine WP.S1 ?_ | refine WP.B1 ?_ | refine WP.R1 ?_))
      refine WP.ret ?_; (with_reducible repeat (first | refine QN.tr ?_ | refine QN.br ?_))
      refine QN.ret1 rfl rfl ⟨_, rfl, ?_⟩
      rw [gR_ok hn]
      exact ⟨rfl, hR6.ext (Ext.refl m6 []) (by simp) (by simp) (fun k hk => .inl (by simp [hk])), fin hE6⟩
    · refine ⟨_, rfl, ?_⟩
      refine RL.N1 ?_; (with_reducible repeat (first | refine QN.B1 ?_ | refine QN.N1 ?_ | refine WP.S1 ?_ | refine WP.B1 ?_ | refine WP.R1 ?_))
      refine RL.load T_ok rfl rfl rfl (h56.cell 0 rfl) rfl ?_
      refine RL.A1 T_ok rfl ?_
      refine RL.N1 ?_; (with_reducible repeat (first | refine QN.B1 ?_ | refine QN.N1 ?_ | refine WP.S1 ?_ | refine WP.B1 ?_ | refine WP.R1 ?_))
      refine WP.ret ?_; (with_reducible repeat (first | refine QN.tr ?_ | refine QN.br ?_))
      refine QN.ret1 rfl rfl ⟨_, rfl, ?_⟩
      rw [gR_err hn]
      exact ⟨rfl, hR6.ext (Ext.refl m6 []) (by simp) (by simp) (fun k hk => .inl (by simp [hk])), fin hE6⟩
  · refine RL.call (fi := []) (ca := []) rfl rfl rfl rfl (guard_off m5 (b5 :: M) b l e hR5 he _) ?_
    rintro v m6 ⟨rfl, rfl⟩
    refine ⟨_, rfl, ?_⟩
    refine RL.N1 ?_; (with_reducible repeat (first | refine QN.B1 ?_ | refine QN.N1 ?_ | refine WP.S1 ?_ | refine WP.B1 ?_ | refine WP.R1 ?_))
    refine RL.load T_ok rfl rfl rfl (h5.cell 0 rfl) rfl ?_
    refine RL.A1 T_ok rfl ?_
    refine RL.N1 ?_; (with_reducible repeat (first | refine QN.B1 ?_ | refine QN.N1 ?_ | refine WP.S1 ?_ | refine WP.B1 ?_ | refine WP.R1 ?_))
    refine WP.ret ?_; (with_reducible repeat (first | refine QN.tr ?_ | refine QN.br ?_))
    refine QN.ret1 rfl rfl ⟨_, rfl, ?_⟩
    rw [gR_off he]
    exact ⟨rfl, hR5.ext (Ext.refl _ []) (by simp) (by simp) (fun k hk => .inl (by simp [hk])), hE.mono (by simp)⟩
end Go.Proofs.YtmjpcaiehfimgaaGreatDoor
end
section
namespace Go.Proofs.YtmjpcaiehfimgaaGreatDoor
open Go.RowKit Go.Ev
def QAt (m : World) (M : List Nat) (b : Nat) (l : List UInt8) (e : Int) : Prop := ∃ v, Blk m b 76 [v, .int .i64 e] ∧ Bs m M v l
theorem QAt.lt {m : World} {M : List Nat} {b : Nat} {l : List UInt8} {e : Int} (h : QAt m M b l e) : b < m.heap.size := by obtain ⟨v, h, _⟩ := h; exact h.lt
theorem QAt.ext {m m' : World} {M M' N : List Nat} {b : Nat} {l : List UInt8} {e : Int} (h : QAt m M b l e) (hE : Ext m N m') (hb : b ∉ N) (hN : ∀ k ∈ N, k < m.heap.size → k ∈ M) (hM : ∀ k ∈ M', k ∈ M ∨ m.heap.size ≤ k) : QAt m' M' b l e := by
  obtain ⟨v, hB, hS⟩ := h
  exact ⟨v, hB.ext hE hb, Sl.ext hS (hE.mono hN) hM (by omega)⟩
theorem QAt.new {m m' : World} {M : List Nat} {b : Nat} {l : List UInt8} {e : Int} (h : QAt m M b l e) (hE : Ext m [] m') : QAt m' M b l e := h.ext hE (by simp) (by simp) (fun _ hk => .inl hk)
def QPost (m : World) (M : List Nat) (b : Nat) {α : Type} (enc : α → Value) (r : α × List UInt8 × Int) (v : Value) (m' : World) : Prop :=
  v = enc r.1 ∧ QAt m' M b r.2.1 r.2.2 ∧ Ext m [b] m'
set_option maxRecDepth 4000 in
set_option maxHeartbeats 400000 in
theorem quint_c (m : World) (M : List Nat) (b : Nat) (l : List UInt8) (e : Int) (h : QAt m M b l e) (hbM : b ∈ M) (most : Nat) :
    FnR Tryz.prog 41 [.pointer (some ⟨b, 0, none⟩), .int .u64 most] m (QPost m M b (fun n : Nat => .int .u64 n) (gR 0 e l (rdU most 0 0 l))) := by
  obtain ⟨v, hB, hS⟩ := h
  obtain ⟨A, c, rfl, hlc, hcm⟩ := hS.shape
  have hlm : l.length ≤ 9223372036854775807 := by unfold maxLen at hcm; omega
  refine FnE.enter ⟨_, Tryz.func41, by kernel_rfl, by kernel_rfl⟩ Tryz.func41 rfl rfl ?_
  (with_reducible repeat (first | refine WP.S1 ?_ | refine WP.B1 ?_ | refine WP.R1 ?_))
  refine RL.A1 T_ok rfl ?_
  refine RL.N1 ?_; (with_reducible repeat (first | refine QN.B1 ?_ | refine QN.N1 ?_ | refine WP.S1 ?_ | refine WP.B1 ?_ | refine WP.R1 ?_))
  refine RL.A1 T_ok rfl ?_
  refine RL.load T_ok rfl rfl rfl (hB.cell 1 rfl) rfl ?_
  refine RL.pure T_ok 1 rfl ?_
  by_cases he : e = 0
  rotate_left
  · refine RL.eqv (v' := .bool true) (congrArg _ (by simp [he])) ?_
    refine RL.A1 T_ok rfl ?_
    refine RL.N1 ?_; (with_reducible repeat (first | refine QN.B1 ?_ | refine QN.N1 ?_ | refine WP.S1 ?_ | refine WP.B1 ?_ | refine WP.R1 ?_))
    refine WP.condT rfl ?_
    (with_reducible repeat (first | refine WP.S1 ?_ | refine WP.B1 ?_ | refine WP.R1 ?_))
    refine RL.A1 T_ok rfl ?_
    refine RL.N1 ?_; (with_reducible repeat (first | refine QN.B1 ?_ | refine QN.N1 ?_ | refine WP.S1 ?_ | refine WP.B1 ?_ | refine WP.R1 ?_))
    refine WP.ret ?_; (with_reducible repeat (first | refine QN.tr ?_ | refine QN.br ?_))
    refine QN.ret1 rfl rfl ⟨_, rfl, ?_⟩
    rw [gR_off he]
    exact ⟨rfl, ⟨_, hB, hS⟩, Ext.refl _ _⟩
  subst he
  have good : ∀ (n : Nat) (l' : List UInt8) (m' : World) (u : Value), rdU most 0 0 l = .ok (n, l') → Chg m b (.cells [u, .int .i64 0].toArray 76 (0, 0)) m' → Bs m' M u l' → QPost m M b (fun n : Nat => .int .u64 n) (gR 0 0 l (rdU most 0 0 l)) (.int .u64 n) m' :=
    fun n l' m' u h1 h2 h3 => by rw [gR_ok h1]; exact ⟨rfl, ⟨u, h2.blk, h3⟩, h2.ext⟩
  have bad : ∀ (k : Int) (m' : World), rdU most 0 0 l = .error k → Chg m b (.cells [.slice A l.length c, .int .i64 k].toArray 76 (0, 0)) m' → QPost m M b (fun n : Nat => .int .u64 n) (gR 0 0 l (rdU most 0 0 l)) (.int .u64 0) m' :=
    fun k m' h1 h2 => by rw [gR_err h1]; exact ⟨rfl, ⟨_, h2.blk, Sl.ext hS (h2.ext.mono (by simp [hbM])) (fun _ hk => .inl hk) (by omega)⟩, h2.ext⟩
  refine RL.eqv (v' := .bool false) (congrArg _ (by simp)) ?_
  refine RL.A1 T_ok rfl ?_
  refine RL.N1 ?_; (with_reducible repeat (first | refine QN.B1 ?_ | refine QN.N1 ?_ | refine WP.S1 ?_ | refine WP.B1 ?_ | refine WP.R1 ?_))
  refine WP.condF rfl ?_
  refine WP.skip ?_; (with_reducible repeat (first | refine QN.B1 ?_ | refine QN.N1 ?_ | refine WP.S1 ?_ | refine WP.B1 ?_ | refine WP.R1 ?_))
  refine RL.A1 T_ok rfl ?_
  refine RL.N1 ?_; (with_reducible repeat (first | refine QN.B1 ?_ | refine QN.N1 ?_ | refine WP.S1 ?_ | refine WP.B1 ?_ | refine WP.R1 ?_))
  refine RL.A1 T_ok rfl ?_
  refine RL.N1 ?_; (with_reducible repeat (first | refine QN.B1 ?_ | refine QN.N1 ?_ | refine WP.S1 ?_ | refine WP.B1 ?_ | refine WP.R1 ?_))
  refine WP.loop (X := Nat × Nat) (fun x => [(0, .pointer (some ⟨b, 0, none⟩)), (1, .int .u64 most), (5, .int .u64 x.2), (6, .int .i64 x.1)])
    (fun x m' => x.1 ≤ 9 ∧ x.1 ≤ l.length ∧ x.2 < 128 ^ x.1 ∧ rdU most x.1 x.2 (l.drop x.1) = rdU most 0 0 l ∧ m' = m) (fun x => 10 - x.1) (0, 0)
    (Sub.C1 rfl (Sub.C1 rfl (Sub.C1 rfl (Sub.C1 rfl Sub.nil)))) ⟨by simp, by simp, by simp, by simp, rfl⟩ ?_
  rintro ⟨i, n⟩ m1 ⟨hi, hil, hn, hrd, rfl⟩
  simp only at hi hil hn hrd
  (with_reducible repeat (first | refine WP.S1 ?_ | refine WP.B1 ?_ | refine WP.R1 ?_))
  refine RL.pure T_ok 2 rfl ?_
  refine RL.eqv (v' := .bool false) (congrArg _ (decide_eq_false (by omega))) ?_
  refine RL.A1 T_ok rfl ?_
  refine RL.N1 ?_; (with_reducible repeat (first | refine QN.B1 ?_ | refine QN.N1 ?_ | refine WP.S1 ?_ | refine WP.B1 ?_ | refine WP.R1 ?_))
  refine WP.condF rfl ?_
  refine WP.skip ?_; (with_reducible repeat (first | refine QN.B1 ?_ | refine QN.N1 ?_ | refine WP.S1 ?_ | refine WP.B1 ?_ | refine WP.R1 ?_))
  refine RL.A1 T_ok rfl ?_
  refine RL.load T_ok rfl rfl rfl (hB.cell 0 rfl) rfl ?_
  refine RL.A1 T_ok rfl ?_
  refine RL.N1 ?_; (with_reducible repeat (first | refine QN.B1 ?_ | refine QN.N1 ?_ | refine WP.S1 ?_ | refine WP.B1 ?_ | refine WP.R1 ?_))
  refine WP.cond rfl (fun hc => ?_) (fun hc => ?_)
  · have hc : l.length ≤ i := by have := of_decide_eq_true hc; omega
    have h0 : l.drop i = [] := List.drop_eq_nil_of_le hc
    rw [h0] at hrd
    (with_reducible repeat (first | refine WP.S1 ?_ | refine WP.B1 ?_ | refine WP.R1 ?_))
    refine RL.A1 T_ok rfl ?_
    refine RL.store T_ok hB (i := 1) (v := .int .i64 10) (by simp) rfl rfl rfl rfl rfl rfl ?_
    intro m2 hC
    refine RL.N1 ?_; (with_reducible repeat (first | refine QN.B1 ?_ | refine QN.N1 ?_ | refine WP.S1 ?_ | refine WP.B1 ?_ | refine WP.R1 ?_))
    refine RL.A1 T_ok rfl ?_
    refine RL.N1 ?_; (with_reducible repeat (first | refine QN.B1 ?_ | refine QN.N1 ?_ | refine WP.S1 ?_ | refine WP.B1 ?_ | refine WP.R1 ?_))
    refine WP.ret ?_; (with_reducible repeat (first | refine QN.tr ?_ | refine QN.br ?_))
    exact QN.ret1 rfl rfl ⟨_, rfl, bad 10 m2 (by rw [← hrd]; rfl) hC⟩
  have hc : i < l.length := by have := of_decide_eq_false hc; omega
  have hx := l[i].toNat_lt
  rw [List.drop_eq_getElem_cons hc] at hrd
  refine WP.skip ?_; (with_reducible repeat (first | refine QN.B1 ?_ | refine QN.N1 ?_ | refine WP.S1 ?_ | refine WP.B1 ?_ | refine WP.R1 ?_))
  refine RL.A1 T_ok rfl ?_
  refine RL.load T_ok rfl rfl rfl (hB.cell 0 rfl) rfl ?_
  refine RL.A1 T_ok rfl ?_
  refine RL.byteAt T_ok hS (k := i) rfl hc rfl rfl rfl rfl rfl rfl (fun p => ?_)
  generalize l[i] = x at *
  refine RL.A1 T_ok rfl ?_
  refine RL.N1 ?_; (with_reducible repeat (first | refine QN.B1 ?_ | refine QN.N1 ?_))
  have hp : 128 ^ i = 2 ^ (7 * i) := by rw [Nat.pow_mul]
  have hi9 : 128 ^ i ≤ 128 ^ 9 := Nat.pow_le_pow_right (by omega) hi
  refine WP.cut (X := Unit) (fun _ => [(0, .pointer (some ⟨b, 0, none⟩)), (1, .int .u64 most), (5, .int .u64 n), (6, .int .i64 i), (7, .int .u8 x.toNat)]) (fun _ m' => m' = m1 ∧ ¬ (i = 9 ∧ 1 < x.toNat)) ?_ ?_
  · (with_reducible repeat (first | refine WP.S1 ?_ | refine WP.B1 ?_ | refine WP.R1 ?_))
    refine RL.pure T_ok 2 rfl ?_
    by_cases h9 : i = 9
    · refine RL.eqv (v' := .bool true) (by simp [h9]) ?_
      refine RL.A1 T_ok rfl ?_
      refine RL.N1 ?_; (with_reducible repeat (first | refine QN.B1 ?_ | refine QN.N1 ?_ | refine WP.S1 ?_ | refine WP.B1 ?_ | refine WP.R1 ?_))
      refine WP.cond rfl (fun hc => ?_) (fun hc => ?_)
      · have hc : 1 < x.toNat := by have := of_decide_eq_true hc; omega
        (with_reducible repeat (first | refine WP.S1 ?_ | refine WP.B1 ?_ | refine WP.R1 ?_))
        refine RL.A1 T_ok rfl ?_
        refine RL.store T_ok hB (i := 1) (v := .int .i64 11) (by simp) rfl rfl rfl rfl rfl rfl ?_
        intro m2 hC
        refine RL.N1 ?_; (with_reducible repeat (first | refine QN.B1 ?_ | refine QN.N1 ?_ | refine WP.S1 ?_ | refine WP.B1 ?_ | refine WP.R1 ?_))
        refine RL.A1 T_ok rfl ?_
        refine RL.N1 ?_; (with_reducible repeat (first | refine QN.B1 ?_ | refine QN.N1 ?_ | refine WP.S1 ?_ | refine WP.B1 ?_ | refine WP.R1 ?_))
        refine WP.ret ?_; (with_reducible repeat (first | refine QN.tr ?_ | refine QN.br ?_))
        exact QN.ret1 rfl rfl ⟨_, rfl, bad 11 m2 (by rw [← hrd]; simp [rdU, h9, hc]) hC⟩
      · have hc : ¬ 1 < x.toNat := by have := of_decide_eq_false hc; omega
        refine WP.skip (QN.cutEnd () (Sub.C1 rfl (Sub.C1 rfl (Sub.C1 rfl (Sub.C1 rfl (Sub.C1 rfl Sub.nil))))) ⟨rfl, fun hh => hc hh.2⟩)
    · refine RL.eqv (v' := .bool false) (by simp; omega) ?_
      refine RL.A1 T_ok rfl ?_
      refine RL.N1 ?_; (with_reducible repeat (first | refine QN.B1 ?_ | refine QN.N1 ?_ | refine WP.S1 ?_ | refine WP.B1 ?_ | refine WP.R1 ?_))
      refine WP.condF rfl ?_
      refine WP.skip (QN.cutEnd () (Sub.C1 rfl (Sub.C1 rfl (Sub.C1 rfl (Sub.C1 rfl (Sub.C1 rfl Sub.nil))))) ⟨rfl, fun hh => h9 hh.1⟩)
  rintro _ m2' ⟨rfl, h9⟩
  have hy : i = 9 → x.toNat ≤ 1 := fun h => by
    rcases Nat.lt_or_ge 1 x.toNat with h1 | h1
    · exact absurd ⟨h, h1⟩ h9
    · exact h1
  have hfit : n + x.toNat % 128 * 128 ^ i < 18446744073709551616 ∧ (i < 9 → n + x.toNat % 128 * 128 ^ i < 128 ^ (i + 1)) := by
    have h1 : x.toNat % 128 * 128 ^ i ≤ 127 * 128 ^ i := Nat.mul_le_mul_right _ (by omega)
    refine ⟨?_, fun _ => by rw [Nat.pow_succ]; omega⟩
    rcases Nat.lt_or_ge i 9 with h | h
    · have : 128 ^ i ≤ 128 ^ 8 := Nat.pow_le_pow_right (by omega) (by omega)
      omega
    · have : i = 9 := by omega
      subst this
      have := hy rfl
      have : x.toNat % 128 * 128 ^ 9 ≤ 1 * 128 ^ 9 := Nat.mul_le_mul_right _ (by omega)
      omega
  have hyp : x.toNat % 128 * 128 ^ i = x.toNat % 128 * 2 ^ (7 * i) := by rw [hp]
  (with_reducible repeat (first | refine WP.S1 ?_ | refine WP.B1 ?_ | refine WP.R1 ?_))
  refine RL.pure T_ok 4 rfl ?_
  refine RL.eqv (v' := .int .u64 ((x.toNat % 128 : Nat) : Int)) (congrArg _ ?_) ?_
  · show IntKind.u64.wrap (bits .and .u8 (x.toNat : Int) 127) = _
    rw [and127, wrap_u64_in _ (by omega) (by omega)]
  refine RL.pure T_ok 2 rfl ?_
  refine RL.eqv (v' := .int .i64 ((7 * i : Nat) : Int)) (congrArg _ ?_) ?_
  · show IntKind.i64.wrap (7 * (i : Int)) = _
    rw [wrap_i64_in _ (by omega) (by omega)]; omega
  refine RL.pure T_ok 1 rfl ?_
  refine RL.eqv (v' := .int .u64 ((x.toNat % 128 * 2 ^ (7 * i) : Nat) : Int)) (congrArg _ ?_) ?_
  · show IntKind.u64.wrap (((x.toNat % 128 : Nat) : Int) * 2 ^ shAmt .u64 (7 * i)) = _
    have h1 : shAmt .u64 (7 * i) = 7 * i := by unfold shAmt; exact Nat.min_eq_left (by show 7 * i ≤ 64; omega)
    have h2 : ((x.toNat % 128 : Nat) : Int) * 2 ^ (7 * i) = ((x.toNat % 128 * 2 ^ (7 * i) : Nat) : Int) := by
      rw [Int.natCast_mul, Int.natCast_pow]; rfl
    rw [h1, h2, wrap_u64_in _ (by omega) (by rw [← hyp]; omega)]
  refine RL.pure T_ok 1 rfl ?_
  refine RL.eqv (v' := .int .u64 ((n + x.toNat % 128 * 128 ^ i : Nat) : Int)) (congrArg _ ?_) ?_
  · show bits .or .u64 (n : Int) ((x.toNat % 128 * 2 ^ (7 * i) : Nat) : Int) = _
    rw [or_add64 _ _ _ (by rw [← hp]; exact hn) (by rw [← hyp]; exact hfit.1), ← hyp]
  refine RL.A1 T_ok rfl ?_
  refine RL.N1 ?_; (with_reducible repeat (first | refine QN.B1 ?_ | refine QN.N1 ?_ | refine WP.S1 ?_ | refine WP.B1 ?_ | refine WP.R1 ?_))
  refine RL.A1 T_ok rfl ?_
  refine RL.N1 ?_; (with_reducible repeat (first | refine QN.B1 ?_ | refine QN.N1 ?_ | refine WP.S1 ?_ | refine WP.B1 ?_ | refine WP.R1 ?_))
  clear hyp
  refine WP.cond rfl (fun hc => ?_) (fun hc => ?_)
  · have hc : 128 ≤ x.toNat := by have := of_decide_eq_true hc; omega
    have hi' : i < 9 := by
      rcases Nat.lt_or_ge i 9 with h | h
      · exact h
      · have := hy (by omega); omega
    refine WP.exit ?_; (with_reducible repeat (first | refine QN.tx ?_ | refine QN.bx ?_ | refine QN.block_far rfl ?_ | refine QN.B1 ?_ | refine QN.N1 ?_)); (with_reducible repeat (first | refine WP.S1 ?_ | refine WP.B1 ?_ | refine WP.R1 ?_))
    refine RL.A1 T_ok rfl ?_
    refine RL.N1 (QN.round (i + 1, n + x.toNat % 128 * 128 ^ i) ?_ ⟨?_, ?_, hfit.2 hi', ?_, rfl⟩ ?_)
    · refine Sub.C1 rfl (Sub.C1 rfl (Sub.C1 rfl (Sub.C1 ?_ Sub.nil)))
      show some (Value.int .i64 (IntKind.i64.wrap ((i : Int) + 1))) = some (Value.int .i64 ((i + 1 : Nat) : Int))
      rw [wrap_i64_in _ (by omega) (by omega)]; rfl
    · show i + 1 ≤ 9
      omega
    · show i + 1 ≤ l.length
      omega
    · rw [← hrd]
      simp only [rdU]
      rw [if_neg h9, if_pos hc]
    · show 10 - (i + 1) < 10 - i
      omega
  have hc128 : x.toNat < 128 := by have := of_decide_eq_false hc; omega
  have hrd1 : rdU most 0 0 l = if x.toNat = 0 ∧ 0 < i then .error 11 else if most < n + x.toNat % 128 * 128 ^ i then .error 12 else .ok (n + x.toNat % 128 * 128 ^ i, l.drop (i + 1)) := by
    rw [← hrd]
    simp only [rdU]
    rw [if_neg h9, if_neg (by omega)]
  generalize hN : n + x.toNat % 128 * 128 ^ i = N at *
  refine WP.skip ?_; (with_reducible repeat (first | refine QN.B1 ?_ | refine QN.N1 ?_))
  refine WP.cut (X := Unit) (fun _ => [(0, .pointer (some ⟨b, 0, none⟩)), (1, .int .u64 most), (5, .int .u64 N), (6, .int .i64 i)]) (fun _ m' => m' = m2' ∧ ¬ (x.toNat = 0 ∧ 0 < i)) ?_ ?_
  · (with_reducible repeat (first | refine WP.S1 ?_ | refine WP.B1 ?_ | refine WP.R1 ?_))
    refine RL.pure T_ok 2 rfl ?_
    by_cases hx0 : x.toNat = 0
    · refine RL.eqv (v' := .bool true) (by simp [hx0]) ?_
      refine RL.A1 T_ok rfl ?_
      refine RL.N1 ?_; (with_reducible repeat (first | refine QN.B1 ?_ | refine QN.N1 ?_ | refine WP.S1 ?_ | refine WP.B1 ?_ | refine WP.R1 ?_))
      refine WP.cond rfl (fun hc => ?_) (fun hc => ?_)
      · have hc : 0 < i := by have := of_decide_eq_true hc; omega
        (with_reducible repeat (first | refine WP.S1 ?_ | refine WP.B1 ?_ | refine WP.R1 ?_))
        refine RL.A1 T_ok rfl ?_
        refine RL.store T_ok hB (i := 1) (v := .int .i64 11) (by simp) rfl rfl rfl rfl rfl rfl ?_
        intro m2 hC
        refine RL.N1 ?_; (with_reducible repeat (first | refine QN.B1 ?_ | refine QN.N1 ?_ | refine WP.S1 ?_ | refine WP.B1 ?_ | refine WP.R1 ?_))
        refine RL.A1 T_ok rfl ?_
        refine RL.N1 ?_; (with_reducible repeat (first | refine QN.B1 ?_ | refine QN.N1 ?_ | refine WP.S1 ?_ | refine WP.B1 ?_ | refine WP.R1 ?_))
        refine WP.ret ?_; (with_reducible repeat (first | refine QN.tr ?_ | refine QN.br ?_))
        exact QN.ret1 rfl rfl ⟨_, rfl, bad 11 m2 (by rw [hrd1, if_pos ⟨hx0, hc⟩]) hC⟩
      · have hc : ¬ 0 < i := by have := of_decide_eq_false hc; omega
        refine WP.skip (QN.cutEnd () (Sub.C1 rfl (Sub.C1 rfl (Sub.C1 rfl (Sub.C1 rfl Sub.nil)))) ⟨rfl, fun hh => hc hh.2⟩)
    · refine RL.eqv (v' := .bool false) (by simp [hx0]) ?_
      refine RL.A1 T_ok rfl ?_
      refine RL.N1 ?_; (with_reducible repeat (first | refine QN.B1 ?_ | refine QN.N1 ?_ | refine WP.S1 ?_ | refine WP.B1 ?_ | refine WP.R1 ?_))
      refine WP.condF rfl ?_
      refine WP.skip (QN.cutEnd () (Sub.C1 rfl (Sub.C1 rfl (Sub.C1 rfl (Sub.C1 rfl Sub.nil)))) ⟨rfl, fun hh => hx0 hh.1⟩)
  rintro _ m3 ⟨rfl, hz⟩
  rw [if_neg hz] at hrd1
  (with_reducible repeat (first | refine WP.S1 ?_ | refine WP.B1 ?_ | refine WP.R1 ?_))
  refine RL.A1 T_ok rfl ?_
  refine RL.N1 ?_; (with_reducible repeat (first | refine QN.B1 ?_ | refine QN.N1 ?_ | refine WP.S1 ?_ | refine WP.B1 ?_ | refine WP.R1 ?_))
  refine WP.cond rfl (fun hc2 => ?_) (fun hc2 => ?_)
  · have hc2 : most < N := by have := of_decide_eq_true hc2; omega
    (with_reducible repeat (first | refine WP.S1 ?_ | refine WP.B1 ?_ | refine WP.R1 ?_))
    refine RL.A1 T_ok rfl ?_
    refine RL.store T_ok hB (i := 1) (v := .int .i64 12) (by simp) rfl rfl rfl rfl rfl rfl ?_
    intro m4 hC
    refine RL.N1 ?_; (with_reducible repeat (first | refine QN.B1 ?_ | refine QN.N1 ?_ | refine WP.S1 ?_ | refine WP.B1 ?_ | refine WP.R1 ?_))
    refine RL.A1 T_ok rfl ?_
    refine RL.N1 ?_; (with_reducible repeat (first | refine QN.B1 ?_ | refine QN.N1 ?_ | refine WP.S1 ?_ | refine WP.B1 ?_ | refine WP.R1 ?_))
    refine WP.ret ?_; (with_reducible repeat (first | refine QN.tr ?_ | refine QN.br ?_))
    exact QN.ret1 rfl rfl ⟨_, rfl, bad 12 m4 (by rw [hrd1, if_pos hc2]) hC⟩
  · have hc2 : ¬ most < N := by have := of_decide_eq_false hc2; omega
    rw [if_neg hc2] at hrd1
    refine WP.skip ?_; (with_reducible repeat (first | refine QN.B1 ?_ | refine QN.N1 ?_ | refine WP.S1 ?_ | refine WP.B1 ?_ | refine WP.R1 ?_))
    refine RL.A1 T_ok rfl ?_
    refine RL.load T_ok rfl rfl rfl (hB.cell 0 rfl) rfl ?_
    refine RL.pure T_ok 2 rfl ?_
    refine RL.eqv (v' := .int .i64 ((i + 1 : Nat) : Int)) (congrArg _ (by rw [wrap_i64_in _ (by omega) (by omega)]; rfl)) ?_
    refine RL.sliceFrom (l := i + 1) T_ok rfl rfl rfl rfl rfl (by omega) rfl ?_
    refine RL.A1 T_ok rfl ?_
    refine RL.store T_ok hB (i := 0) (by simp) rfl rfl rfl rfl rfl rfl ?_
    intro m4 hC
    have h2 := Sl.from_ hS (l := i + 1) (by omega)
    rw [show (u8s l).drop ((i + 1) * 1) = u8s (l.drop (i + 1)) by rw [Nat.mul_one, u8s_drop]] at h2
    refine RL.N1 ?_; (with_reducible repeat (first | refine QN.B1 ?_ | refine QN.N1 ?_ | refine WP.S1 ?_ | refine WP.B1 ?_ | refine WP.R1 ?_))
    refine RL.A1 T_ok rfl ?_
    refine RL.N1 ?_; (with_reducible repeat (first | refine QN.B1 ?_ | refine QN.N1 ?_ | refine WP.S1 ?_ | refine WP.B1 ?_ | refine WP.R1 ?_))
    refine WP.ret ?_; (with_reducible repeat (first | refine QN.tr ?_ | refine QN.br ?_))
    exact QN.ret1 rfl rfl ⟨_, rfl, good N _ m4 _ hrd1 hC (Sl.ext h2 (hC.ext.mono (by simp [hbM])) (fun _ hk => .inl hk) (by omega))⟩
end Go.Proofs.YtmjpcaiehfimgaaGreatDoor
end
section
namespace Go.Proofs.YtmjpcaiehfimgaaGreatDoor
open Go.RowKit Go.Ev
theorem copy_c (m : World) (M : List Nat) (v : Value) (l : List UInt8) (h : Bs m M v l) (hl : l.length < 1000000000) :
    FnR Tryz.prog 15 [v] m fun r m' => ∃ S', Ev.Own m' S' 5 1 r l.length (u8s l) ∧ New m S' m' := by
  obtain ⟨A, c, rfl, hlc, _⟩ := h.shape
  refine FnE.enter ⟨_, Tryz.func15, by kernel_rfl, by kernel_rfl⟩ Tryz.func15 rfl rfl ?_
  (with_reducible repeat (first | refine WP.S1 ?_ | refine WP.B1 ?_ | refine WP.R1 ?_))
  refine RL.A1 T_ok rfl ?_
  refine RL.N1 ?_; (with_reducible repeat (first | refine QN.B1 ?_ | refine QN.N1 ?_ | refine WP.S1 ?_ | refine WP.B1 ?_ | refine WP.R1 ?_))
  refine RL.A1 T_ok rfl ?_
  refine RL.append T_ok (Own.empty _ _ _ none) (u8s l) (Src.of_sl (show Sl m M 1 _ (u8s l) from h)) rfl rfl rfl rfl rfl (by simp [u8s_length]) (u8s_one _) (by unfold maxLen; omega) (by show (_ + _) * 1 ≤ _; omega) ?_
  intro v1 m2 S2 hO1 hE1 hF1
  refine ⟨_, rfl, ?_⟩
  refine RL.A1 T_ok rfl ?_
  refine RL.N1 ?_; (with_reducible repeat (first | refine QN.B1 ?_ | refine QN.N1 ?_ | refine WP.S1 ?_ | refine WP.B1 ?_ | refine WP.R1 ?_))
  refine WP.ret ?_; (with_reducible repeat (first | refine QN.tr ?_ | refine QN.br ?_))
  refine QN.ret1 rfl rfl ⟨_, rfl, S2, ?_, hE1, hF1⟩
  simpa using hO1
theorem str_eq (a b : List UInt8) : ((str a).toList == (str b).toList) = decide (a = b) := by
  rw [str_toList, str_toList]
  by_cases h : a = b <;> simp [h]
theorem hbytes_c (m : World) (M : List Nat) (v u : Value) (a b : List UInt8) (h : Bs m M v a) (h' : Bs m M u b) :
    FnR Tryz.prog 10 [v, u] m fun r m' => r = .bool (decide (a = b)) ∧ m' = m := by
  obtain ⟨A, c, rfl, hlc, _⟩ := h.shape
  obtain ⟨A', c', rfl, hlc', _⟩ := h'.shape
  refine FnE.enter ⟨_, Tryz.func10, by kernel_rfl, by kernel_rfl⟩ Tryz.func10 rfl rfl ?_
  (with_reducible repeat (first | refine WP.S1 ?_ | refine WP.B1 ?_ | refine WP.R1 ?_))
  refine RL.A1 T_ok rfl ?_
  refine RL.N1 ?_; (with_reducible repeat (first | refine QN.B1 ?_ | refine QN.N1 ?_ | refine WP.S1 ?_ | refine WP.B1 ?_ | refine WP.R1 ?_))
  refine RL.pure T_ok 1 rfl ?_
  refine RL.bytesString T_ok h rfl rfl rfl rfl rfl rfl ?_
  refine RL.pure T_ok 1 rfl ?_
  refine RL.bytesString T_ok h' rfl rfl rfl rfl rfl rfl ?_
  refine RL.pure T_ok 1 rfl ?_
  refine RL.eqv (v' := .bool (decide (a = b))) (congrArg _ (str_eq a b)) ?_
  refine RL.A1 T_ok rfl ?_
  refine RL.N1 ?_; (with_reducible repeat (first | refine QN.B1 ?_ | refine QN.N1 ?_ | refine WP.S1 ?_ | refine WP.B1 ?_ | refine WP.R1 ?_))
  refine WP.ret ?_; (with_reducible repeat (first | refine QN.tr ?_ | refine QN.br ?_))
  exact QN.ret1 rfl rfl ⟨_, rfl, rfl, rfl⟩
end Go.Proofs.YtmjpcaiehfimgaaGreatDoor
end
section
namespace Go.Proofs.YtmjpcaiehfimgaaGreatDoor
open Go.RowKit Go.Ev
def OPost (m : World) (S : List Nat) (l : List UInt8) (v : Value) (m' : World) : Prop := ∃ S', Ev.Own m' S' 5 1 v l.length (u8s l) ∧ Ext m S m' ∧ FpNew m S S'
theorem OPost.next {m m1 m2 : World} {S S1 : List Nat} {l : List UInt8} {v : Value} (hE : Ext m S m1) (hF : FpNew m S S1) (h : OPost m1 S1 l v m2) : OPost m S l v m2 := by
  obtain ⟨S', h1, h2, h3⟩ := h
  exact ⟨S', h1, hE.trans h2 hF, hF.trans h3 hE.size⟩
theorem own_more {m m1 : World} {S S2 : List Nat} {v1 : Value} {l : List UInt8} {d : List UInt8} (hO : Ev.Own m1 S2 5 1 v1 (l.length + d.length) (u8s l ++ u8s d)) (hE : Ext m S m1) (hF : FpNew m S S2) : OPost m S (l ++ d) v1 m1 :=
  ⟨S2, by rw [← u8s_append] at hO; rw [List.length_append]; exact hO, hE, hF⟩
theorem refuint_c (m : World) (n : Nat) (hn : n < 18446744073709551616) (S : List Nat) (v : Value) (l : List UInt8) (h : Ev.Own m S 5 1 v l.length (u8s l)) (hl : l.length < 1000000000) :
    FnR Tryz.prog 27 [v, .int .u64 n] m (OPost m S (l ++ encU n)) := by
  refine FnE.enter ⟨_, Tryz.func27, by kernel_rfl, by kernel_rfl⟩ Tryz.func27 rfl rfl ?_
  (with_reducible repeat (first | refine WP.S1 ?_ | refine WP.B1 ?_ | refine WP.R1 ?_))
  refine RL.A1 T_ok rfl ?_
  refine RL.N1 ?_; (with_reducible repeat (first | refine QN.B1 ?_ | refine QN.N1 ?_ | refine WP.S1 ?_ | refine WP.B1 ?_ | refine WP.R1 ?_))
  refine WP.loop (X := Nat × List UInt8 × Value) (fun x => [(0, x.2.2), (1, .int .u64 x.1)])
    (fun x m' => x.1 < 18446744073709551616 ∧ x.2.1 ++ encU x.1 = l ++ encU n ∧ OPost m S x.2.1 x.2.2 m') (fun x => x.1) (n, l, v)
    (Sub.C1 rfl (Sub.C1 rfl Sub.nil)) ⟨hn, rfl, S, h, Ext.refl _ _, FpNew.refl _ _⟩ ?_
  rintro ⟨k, pre, u⟩ m1 ⟨hk, hpre, S', hO, hE, hF⟩
  simp only at hk hpre hO
  have hlen : pre.length + (encU k).length = l.length + (encU n).length := by simpa using congrArg List.length hpre
  have h10 := encU_len10 hn
  (with_reducible repeat (first | refine WP.S1 ?_ | refine WP.B1 ?_ | refine WP.R1 ?_))
  refine RL.A1 T_ok rfl ?_
  refine RL.N1 ?_; (with_reducible repeat (first | refine QN.B1 ?_ | refine QN.N1 ?_ | refine WP.S1 ?_ | refine WP.B1 ?_ | refine WP.R1 ?_))
  refine WP.cond rfl (fun hc => ?_) (fun hc => ?_)
  · have hc : 128 ≤ k := by have := of_decide_eq_true hc; omega
    refine WP.skip ?_; (with_reducible repeat (first | refine QN.B1 ?_ | refine QN.N1 ?_ | refine WP.S1 ?_ | refine WP.B1 ?_ | refine WP.R1 ?_))
    refine RL.A1 T_ok rfl ?_
    refine RL.append1 T_ok [.tmp 10] hO (u8s [UInt8.ofNat (k % 128 + 128)]) rfl rfl rfl rfl rfl rfl rfl rfl rfl (by simp [Value.cells]) ?_ (u8s_one _) (by unfold maxLen; omega) (by show (_ + 1) * 1 ≤ _; omega) ?_
    · simp [u8s, Value.cells, wrap_u8_nat]
      exact or128 k
    intro v1 m2 S2 hO1 hE1 hF1
    refine ⟨_, rfl, ?_⟩
    refine RL.A1 T_ok rfl ?_
    refine RL.N1 ?_; (with_reducible repeat (first | refine QN.B1 ?_ | refine QN.N1 ?_ | refine WP.S1 ?_ | refine WP.B1 ?_ | refine WP.R1 ?_))
    refine RL.A1 T_ok rfl ?_
    refine RL.N1 (QN.B1 (QN.round (k / 128, pre ++ [UInt8.ofNat (k % 128 + 128)], v1) ?_ ⟨?_, ?_, OPost.next hE hF (own_more (d := [UInt8.ofNat (k % 128 + 128)]) hO1 hE1 hF1)⟩ ?_))
    · refine Sub.C1 rfl (Sub.C1 ?_ Sub.nil)
      show some (Value.int .u64 ((k : Int).fdiv (2 ^ 7))) = some (Value.int .u64 ((k / 128 : Nat) : Int))
      rw [fdiv_pow k 7]
    · show k / 128 < _
      omega
    · show (pre ++ [_]) ++ encU (k / 128) = _
      rw [← hpre, encU_big hc]; simp
    · show k / 128 < k
      omega
  · have hc : k < 128 := by have := of_decide_eq_false hc; omega
    refine WP.exit ?_; (with_reducible repeat (first | refine QN.tx ?_ | refine QN.bx ?_ | refine QN.block_far rfl ?_ | refine QN.B1 ?_ | refine QN.N1 ?_)); (with_reducible repeat (first | refine WP.S1 ?_ | refine WP.B1 ?_ | refine WP.R1 ?_))
    refine RL.A1 T_ok rfl ?_
    refine RL.append1 T_ok [.tmp 17] hO (u8s [UInt8.ofNat k]) rfl rfl rfl rfl rfl rfl rfl rfl rfl (by simp [Value.cells]) ?_ (u8s_one _) (by unfold maxLen; omega) (by show (_ + 1) * 1 ≤ _; omega) ?_
    · simp only [u8s, List.map_cons, List.map_nil, List.flatMap_cons, List.flatMap_nil, Value.cells, wrap_u8_nat]; rfl
    intro v1 m2 S2 hO1 hE1 hF1
    refine ⟨_, rfl, ?_⟩
    refine RL.A1 T_ok rfl ?_
    refine RL.N1 ?_; (with_reducible repeat (first | refine QN.B1 ?_ | refine QN.N1 ?_ | refine WP.S1 ?_ | refine WP.B1 ?_ | refine WP.R1 ?_))
    refine WP.ret ?_; (with_reducible repeat (first | refine QN.tr ?_ | refine QN.br ?_))
    refine QN.ret1 rfl rfl ⟨_, rfl, ?_⟩
    rw [← hpre, encU_small hc]
    exact OPost.next hE hF (own_more (d := [UInt8.ofNat k]) hO1 hE1 hF1)
theorem reftext_c (m : World) (s : List UInt8) (hs : s.length < 1000000000) (S : List Nat) (v : Value) (l : List UInt8) (h : Ev.Own m S 5 1 v l.length (u8s l)) (hl : l.length < 1000000000) :
    FnR Tryz.prog 26 [v, .string (str s)] m (OPost m S (l ++ encU s.length ++ s)) := by
  have h10 := encU_len10 (n := s.length) (by omega)
  have hsz : (str s).size = s.length := by show s.toArray.size = _; simp
  have hst : (str s).data.toList = s := by show s.toArray.toList = s; simp
  refine FnE.enter ⟨_, Tryz.func26, by kernel_rfl, by kernel_rfl⟩ Tryz.func26 rfl rfl ?_
  (with_reducible repeat (first | refine WP.S1 ?_ | refine WP.B1 ?_ | refine WP.R1 ?_))
  refine RL.A1 T_ok rfl ?_
  refine RL.N1 ?_; (with_reducible repeat (first | refine QN.B1 ?_ | refine QN.N1 ?_ | refine WP.S1 ?_ | refine WP.B1 ?_ | refine WP.R1 ?_))
  refine RL.pure T_ok 4 rfl ?_
  refine RL.eqv (v' := .int .u64 ((s.length : Nat) : Int)) (congrArg _ ?_) ?_
  · show IntKind.u64.wrap (((str s).size : Nat) : Int) = _
    rw [hsz, wrap_u64_in _ (by omega) (by omega)]
  refine RL.call (fi := []) (ca := []) rfl rfl rfl rfl (refuint_c m s.length (by omega) S v l h hl) ?_
  rintro r m1 ⟨S1, hO1, hE1, hF1⟩
  refine ⟨_, rfl, ?_⟩
  refine RL.A1 T_ok rfl ?_
  have hsrc := Src.of_string (P := Tryz.prog) (m := m1) (str s)
  rw [hst, hsz] at hsrc
  refine RL.append T_ok hO1 (u8s s) hsrc rfl rfl rfl rfl rfl (by simp [u8s_length]) (u8s_one _) (by rw [List.length_append]; unfold maxLen; omega) (by show (_ + _) * 1 ≤ _; rw [List.length_append]; omega) ?_
  intro v2 m2 S2 hO2 hE2 hF2
  refine ⟨_, rfl, ?_⟩
  refine RL.A1 T_ok rfl ?_
  refine RL.N1 ?_; (with_reducible repeat (first | refine QN.B1 ?_ | refine QN.N1 ?_ | refine WP.S1 ?_ | refine WP.B1 ?_ | refine WP.R1 ?_))
  refine WP.ret ?_; (with_reducible repeat (first | refine QN.tr ?_ | refine QN.br ?_))
  exact QN.ret1 rfl rfl ⟨_, rfl, OPost.next hE1 hF1 (own_more hO2 hE2 hF2)⟩
end Go.Proofs.YtmjpcaiehfimgaaGreatDoor
end
section
namespace Go.Proofs.YtmjpcaiehfimgaaGreatDoor
open Go.RowKit Go.Ev
end Go.Proofs.YtmjpcaiehfimgaaGreatDoor
end
section
namespace Go.Ids
def aboveOf (rs than : List Trn) (c k : Nat) : Nat := if turnOf than c k < turnOf rs c k then turnOf rs c k else 0
theorem turnOf_num {l : List Trn} {c k : Nat} (h : turnOf l c k ≠ 0) : turnOf l c k ≤ 9007199254740991 ∧ ∃ x ∈ l, x.right = true ∧ x.c = c ∧ x.f ≤ k ∧ k < x.t := by
  obtain ⟨x, hx, h1⟩ := turnOf_mem h
  obtain ⟨g1, g2, g3, g4, g5⟩ := at_pos (x := x) (c := c) (k := k) (by omega)
  have := tright_iff.1 g1
  exact ⟨by omega, x, hx, g1, g2, g3, g4⟩
theorem turnOf_stretch {l : List Trn} {c a k : Nat} (hak : a ≤ k) (h : ∀ x ∈ l, x.right = true → x.c = c → (x.f ≤ a ∨ k < x.f) ∧ (x.t ≤ a ∨ k < x.t)) : turnOf l c k = turnOf l c a := by
  induction l with
  | nil => rfl
  | cons x l ih =>
    have h1 := ih (fun y hy => h y (zO _ hy))
    have h2 : x.at c k = x.at c a := by
      unfold Trn.at
      by_cases hc : x.right = true ∧ x.c = c
      · have h3 := h x (zS ..) hc.1 hc.2
        by_cases h4 : x.f ≤ a ∧ a < x.t
        · rw [if_pos ⟨hc.1, hc.2, by omega, by omega⟩, if_pos ⟨hc.1, hc.2, h4⟩]
        · rw [if_neg (fun hh => h4 ⟨by omega, by omega⟩), if_neg (fun hh => h4 hh.2.2)]
      · rw [if_neg (fun hh => hc ⟨hh.1, hh.2.1⟩), if_neg (fun hh => hc ⟨hh.1, hh.2.1⟩)]
    simp only [turnOf, h1, h2]
def stepA (rs than : List Trn) (r : List Trn) (c a b : Nat) : List Trn := if turnOf rs c a ≤ turnOf than c a then r else tj r ⟨c, a, b, turnOf rs c a⟩
theorem stepA_spec {rs than r : List Trn} {c a b : Nat} (hr : TCanonR r) (hab : a < b) (ha : 1 ≤ a) (hb : b ≤ 9007199254740992) (hc : 1 ≤ c ∧ c ≤ 9007199254740991)
    (hbeh : ∀ y ∈ r, y.c < c ∨ (y.c = c ∧ y.t ≤ a)) (hst : ∀ k, a ≤ k → k < b → aboveOf rs than c k = aboveOf rs than c a) :
    TCanonR (stepA rs than r c a b) ∧ (∀ c' k, turnOf (stepA rs than r c a b) c' k = max (turnOf r c' k) (if c = c' ∧ a ≤ k ∧ k < b then aboveOf rs than c' k else 0)) ∧ ∀ y ∈ stepA rs than r c a b, y.c < c ∨ (y.c = c ∧ y.t ≤ b) := by
  unfold stepA
  by_cases h : turnOf rs c a ≤ turnOf than c a
  · rw [if_pos h]
    have h0 : aboveOf rs than c a = 0 := if_neg (by omega)
    refine ⟨hr, fun c' k => ?_, fun y hy => ?_⟩
    · by_cases hk : c = c' ∧ a ≤ k ∧ k < b
      · obtain ⟨rfl, h1, h2⟩ := hk
        rw [if_pos ⟨rfl, h1, h2⟩, hst k h1 h2, h0, Nat.max_zero]
      · rw [if_neg hk, Nat.max_zero]
    · rcases hbeh y hy with h1 | ⟨h1, h2⟩
      · exact .inl h1
      · exact .inr ⟨h1, by omega⟩
  · rw [if_neg h]
    have h0 : aboveOf rs than c a = turnOf rs c a := if_pos (by omega)
    have hn := turnOf_num (l := rs) (c := c) (k := a) (by omega)
    have hp : Trn.right ⟨c, a, b, turnOf rs c a⟩ = true := tright_iff.2 ⟨hc.1, hc.2, ha, hab, hb, by simp only; omega, hn.1⟩
    obtain ⟨t1, t2, t3⟩ := tj_spec hr hp hbeh
    refine ⟨t1, fun c' k => ?_, t3⟩
    rw [t2]
    by_cases hk : c = c' ∧ a ≤ k ∧ k < b
    · obtain ⟨rfl, h1, h2⟩ := hk
      rw [if_pos ⟨rfl, h1, h2⟩, hst k h1 h2, h0, at_of hp rfl h1 h2]
    · rw [if_neg hk]
      have : Trn.at ⟨c, a, b, turnOf rs c a⟩ c' k = 0 := if_neg (fun hh => hk hh.2)
      rw [this]
def pairsA (rs than : List Trn) (c : Nat) : List Trn → List Nat → List Trn
  | r, a :: b :: M => pairsA rs than c (stepA rs than r c a b) (b :: M)
  | r, _ => r
theorem pairs_spec {rs than : List Trn} {c : Nat} (hc : 1 ≤ c ∧ c ≤ 9007199254740991) : ∀ (M : List Nat) (a : Nat) (r : List Trn), (a :: M).Pairwise (· < ·) → (∀ z ∈ a :: M, 1 ≤ z ∧ z ≤ 9007199254740992) → TCanonR r →
    (∀ y ∈ r, y.c < c ∨ (y.c = c ∧ y.t ≤ a)) → (∀ x ∈ rs ++ than, x.right = true → x.c = c → (x.f < a ∨ x.f ∈ a :: M) ∧ (x.t < a ∨ x.t ∈ a :: M)) →
    TCanonR (pairsA rs than c r (a :: M)) ∧ (∀ c' k, turnOf (pairsA rs than c r (a :: M)) c' k = max (turnOf r c' k) (if c = c' ∧ a ≤ k then aboveOf rs than c' k else 0)) ∧ ∀ y ∈ pairsA rs than c r (a :: M), y.c ≤ c
  | [], a, r, _, _, hr, hbeh, hE => by
    have e : pairsA rs than c r [a] = r := rfl
    rw [e]
    refine ⟨hr, fun c' k => ?_, fun y hy => by rcases hbeh y hy with h | h <;> omega⟩
    by_cases hk : c = c' ∧ a ≤ k
    · obtain ⟨rfl, h1⟩ := hk
      have h0 : turnOf rs c k = 0 := turnOf_zero fun x hx => if_neg fun hh => by
        have h2 := (hE x (List.mem_append_left _ hx) hh.1 hh.2.1).2
        simp only [List.mem_singleton] at h2
        omega
      have : aboveOf rs than c k = 0 := if_neg (by omega)
      rw [if_pos ⟨rfl, h1⟩, this, Nat.max_zero]
    · rw [if_neg hk, Nat.max_zero]
  | b :: M, a, r, hs, hM, hr, hbeh, hE => by
    have e : pairsA rs than c r (a :: b :: M) = pairsA rs than c (stepA rs than r c a b) (b :: M) := rfl
    have hs' := List.pairwise_cons.1 hs
    have hab : a < b := hs'.1 b (zS ..)
    have hbM := List.pairwise_cons.1 hs'.2
    have hge : ∀ z, z ∈ b :: M → b ≤ z := fun z hz => by
      rcases List.mem_cons.1 hz with rfl | hz
      · exact Nat.le_refl _
      · exact Nat.le_of_lt (hbM.1 z hz)
    have hedge : ∀ x ∈ rs ++ than, x.right = true → x.c = c → (x.f ≤ a ∨ b ≤ x.f) ∧ (x.t ≤ a ∨ b ≤ x.t) := fun x hx h1 h2 => by
      obtain ⟨g1, g2⟩ := hE x hx h1 h2
      constructor
      · rcases g1 with g1 | g1
        · exact .inl (by omega)
        · rcases List.mem_cons.1 g1 with g1 | g1
          · exact .inl (by omega)
          · exact .inr (hge _ g1)
      · rcases g2 with g2 | g2
        · exact .inl (by omega)
        · rcases List.mem_cons.1 g2 with g2 | g2
          · exact .inl (by omega)
          · exact .inr (hge _ g2)
    have hst : ∀ k, a ≤ k → k < b → aboveOf rs than c k = aboveOf rs than c a := fun k h1 h2 => by
      have e1 : turnOf rs c k = turnOf rs c a := turnOf_stretch h1 fun x hx g1 g2 => by
        have := hedge x (List.mem_append_left _ hx) g1 g2; omega
      have e2 : turnOf than c k = turnOf than c a := turnOf_stretch h1 fun x hx g1 g2 => by
        have := hedge x (List.mem_append_right _ hx) g1 g2; omega
      unfold aboveOf
      rw [e1, e2]
    obtain ⟨t1, t2, t3⟩ := stepA_spec (rs := rs) (than := than) hr hab (hM a (zS ..)).1 (hM b (by simp)).2 hc hbeh hst
    obtain ⟨u1, u2, u3⟩ := pairs_spec hc M b (stepA rs than r c a b) hs'.2 (fun z hz => hM z (zO _ hz)) t1 t3 (fun x hx h1 h2 => by
      obtain ⟨g1, g2⟩ := hE x hx h1 h2
      constructor
      · rcases g1 with g1 | g1
        · exact .inl (by omega)
        · rcases List.mem_cons.1 g1 with g1 | g1
          · exact .inl (by omega)
          · exact .inr g1
      · rcases g2 with g2 | g2
        · exact .inl (by omega)
        · rcases List.mem_cons.1 g2 with g2 | g2
          · exact .inl (by omega)
          · exact .inr g2)
    rw [e]
    refine ⟨u1, fun c' k => ?_, u3⟩
    rw [u2, t2]
    by_cases h1 : c = c'
    · by_cases h2 : a ≤ k
      · by_cases h3 : k < b
        · rw [if_pos ⟨h1, h2, h3⟩, if_neg (fun hh => by omega), if_pos ⟨h1, h2⟩]; omega
        · rw [if_neg (fun hh => h3 hh.2.2), if_pos ⟨h1, by omega⟩, if_pos ⟨h1, h2⟩]; omega
      · rw [if_neg (fun hh => h2 hh.2.1), if_neg (fun hh => by omega), if_neg (fun hh => h2 hh.2)]; omega
    · rw [if_neg (fun hh => h1 hh.1), if_neg (fun hh => h1 hh.1), if_neg (fun hh => h1 hh.1)]; omega
def EdgesOf (rs than : List Trn) (c : Nat) (M : List Nat) : Prop := M.Pairwise (· < ·) ∧ (∀ z ∈ M, 1 ≤ z ∧ z ≤ 9007199254740992) ∧ ∀ x ∈ rs ++ than, x.right = true → x.c = c → x.f ∈ M ∧ x.t ∈ M
theorem client_spec {rs than r : List Trn} {c : Nat} {M : List Nat} (hc : 1 ≤ c ∧ c ≤ 9007199254740991) (hM : EdgesOf rs than c M) (hr : TCanonR r) (hbeh : ∀ y ∈ r, y.c < c) :
    TCanonR (pairsA rs than c r M) ∧ (∀ c' k, turnOf (pairsA rs than c r M) c' k = max (turnOf r c' k) (if c = c' then aboveOf rs than c' k else 0)) ∧ ∀ y ∈ pairsA rs than c r M, y.c ≤ c := by
  obtain ⟨h1, h2, h3⟩ := hM
  cases M with
  | nil =>
    refine ⟨hr, fun c' k => ?_, fun y hy => Nat.le_of_lt (hbeh y hy)⟩
    have e : pairsA rs than c r [] = r := rfl
    rw [e]
    by_cases hcc : c = c'
    · subst hcc
      have h0 : turnOf rs c k = 0 := turnOf_zero fun x hx => if_neg fun hh => by
        have := (h3 x (List.mem_append_left _ hx) hh.1 hh.2.1).1
        cases this
      have : aboveOf rs than c k = 0 := if_neg (by omega)
      rw [if_pos rfl, this, Nat.max_zero]
    · rw [if_neg hcc, Nat.max_zero]
  | cons a M =>
    obtain ⟨p1, p2, p3⟩ := pairs_spec hc M a r h1 h2 hr (fun y hy => .inl (hbeh y hy)) (fun x hx g1 g2 => ⟨.inr (h3 x hx g1 g2).1, .inr (h3 x hx g1 g2).2⟩)
    refine ⟨p1, fun c' k => ?_, p3⟩
    rw [p2]
    by_cases hcc : c = c'
    · subst hcc
      by_cases hk : a ≤ k
      · rw [if_pos ⟨rfl, hk⟩, if_pos rfl]
      · have h0 : turnOf rs c k = 0 := turnOf_zero fun x hx => if_neg fun hh => by
          have h9 := (h3 x (List.mem_append_left _ hx) hh.1 hh.2.1).1
          rcases List.mem_cons.1 h9 with h9 | h9
          · omega
          · have := (List.pairwise_cons.1 h1).1 _ h9
            omega
        have : aboveOf rs than c k = 0 := if_neg (by omega)
        rw [if_neg (fun hh => hk hh.2), if_pos rfl, this]
    · rw [if_neg (fun hh => hcc hh.1), if_neg hcc]
theorem aboveOf_nil (l : List Trn) (c k : Nat) : aboveOf l [] c k = turnOf l c k := by
  unfold aboveOf
  have : turnOf [] c k = 0 := rfl
  rw [this]
  split <;> omega
end Go.Ids
end
section
namespace Go.Proofs.YtmjpcaiehfimgaaGreatDoor
open Go.RowKit Go.Ev
def TakeP (m : World) (M : List Nat) (b : Nat) (l : List UInt8) (e : Int) (n : Nat) (r : Value) (m' : World) : Prop :=
  Ext m [b] m' ∧ ((e = 0 ∧ n ≤ l.length ∧ Bs m' M r (l.take n) ∧ QAt m' M b (l.drop n) 0) ∨ (e = 0 ∧ l.length < n ∧ r = .slice none 0 0 ∧ QAt m' M b l 10) ∨ (e ≠ 0 ∧ r = .slice none 0 0 ∧ QAt m' M b l e))
theorem qtake_c (m : World) (M : List Nat) (b : Nat) (l : List UInt8) (e : Int) (h : QAt m M b l e) (hbM : b ∈ M) (n : Nat) :
    FnR Tryz.prog 72 [.pointer (some ⟨b, 0, none⟩), .int .i64 n] m (TakeP m M b l e n) := by
  obtain ⟨v, hB, hS⟩ := h
  obtain ⟨A, c, rfl, hlc, hcm⟩ := hS.shape
  refine FnE.enter ⟨_, Tryz.func72, by kernel_rfl, by kernel_rfl⟩ Tryz.func72 rfl rfl ?_
  (with_reducible repeat (first | refine WP.S1 ?_ | refine WP.B1 ?_ | refine WP.R1 ?_))
  refine RL.A1 T_ok rfl ?_
  refine RL.N1 ?_; (with_reducible repeat (first | refine QN.B1 ?_ | refine QN.N1 ?_ | refine WP.S1 ?_ | refine WP.B1 ?_ | refine WP.R1 ?_))
  refine RL.A1 T_ok rfl ?_
  refine RL.load T_ok rfl rfl rfl (hB.cell 1 rfl) rfl ?_
  refine RL.pure T_ok 1 rfl ?_
  by_cases he : e = 0
  rotate_left
  · refine RL.eqv (v' := .bool false) (congrArg _ (by simp [he])) ?_
    refine RL.A1 T_ok rfl ?_
    refine RL.N1 ?_; (with_reducible repeat (first | refine QN.B1 ?_ | refine QN.N1 ?_ | refine WP.S1 ?_ | refine WP.B1 ?_ | refine WP.R1 ?_))
    refine WP.condF rfl ?_
    refine WP.skip ?_; (with_reducible repeat (first | refine QN.B1 ?_ | refine QN.N1 ?_ | refine WP.S1 ?_ | refine WP.B1 ?_ | refine WP.R1 ?_))
    refine RL.A1 T_ok rfl ?_
    refine RL.load T_ok rfl rfl rfl (hB.cell 1 rfl) rfl ?_
    refine RL.pure T_ok 1 rfl ?_
    refine RL.eqv (v' := .bool true) (congrArg _ (by simp [he])) ?_
    refine RL.A1 T_ok rfl ?_
    refine RL.N1 ?_; (with_reducible repeat (first | refine QN.B1 ?_ | refine QN.N1 ?_ | refine WP.S1 ?_ | refine WP.B1 ?_ | refine WP.R1 ?_))
    refine WP.condT rfl ?_
    (with_reducible repeat (first | refine WP.S1 ?_ | refine WP.B1 ?_ | refine WP.R1 ?_))
    refine RL.A1 T_ok rfl ?_
    refine RL.N1 ?_; (with_reducible repeat (first | refine QN.B1 ?_ | refine QN.N1 ?_ | refine WP.S1 ?_ | refine WP.B1 ?_ | refine WP.R1 ?_))
    refine WP.ret ?_; (with_reducible repeat (first | refine QN.tr ?_ | refine QN.br ?_))
    exact QN.ret1 rfl rfl ⟨_, rfl, Ext.refl _ _, .inr (.inr ⟨he, rfl, _, hB, hS⟩)⟩
  subst he
  refine RL.eqv (v' := .bool true) (congrArg _ (by simp)) ?_
  refine RL.A1 T_ok rfl ?_
  refine RL.load T_ok rfl rfl rfl (hB.cell 0 rfl) rfl ?_
  refine RL.A1 T_ok rfl ?_
  refine RL.N1 ?_; (with_reducible repeat (first | refine QN.B1 ?_ | refine QN.N1 ?_ | refine WP.S1 ?_ | refine WP.B1 ?_ | refine WP.R1 ?_))
  refine WP.cond rfl (fun hc => ?_) (fun hc => ?_)
  · have hc : l.length < n := by have := of_decide_eq_true hc; omega
    (with_reducible repeat (first | refine WP.S1 ?_ | refine WP.B1 ?_ | refine WP.R1 ?_))
    refine RL.A1 T_ok rfl ?_
    refine RL.store T_ok hB (i := 1) (v := .int .i64 10) (by simp) rfl rfl rfl rfl rfl rfl ?_
    intro m2 hC
    have hB2 : Blk m2 b 76 [.slice A l.length c, .int .i64 10] := hC.blk
    refine RL.N1 ?_; (with_reducible repeat (first | refine QN.B1 ?_ | refine QN.N1 ?_ | refine WP.S1 ?_ | refine WP.B1 ?_ | refine WP.R1 ?_))
    refine RL.A1 T_ok rfl ?_
    refine RL.load T_ok rfl rfl rfl (hB2.cell 1 rfl) rfl ?_
    refine RL.A1 T_ok rfl ?_
    refine RL.N1 ?_; (with_reducible repeat (first | refine QN.B1 ?_ | refine QN.N1 ?_ | refine WP.S1 ?_ | refine WP.B1 ?_ | refine WP.R1 ?_))
    refine WP.condT rfl ?_
    (with_reducible repeat (first | refine WP.S1 ?_ | refine WP.B1 ?_ | refine WP.R1 ?_))
    refine RL.A1 T_ok rfl ?_
    refine RL.N1 ?_; (with_reducible repeat (first | refine QN.B1 ?_ | refine QN.N1 ?_ | refine WP.S1 ?_ | refine WP.B1 ?_ | refine WP.R1 ?_))
    refine WP.ret ?_; (with_reducible repeat (first | refine QN.tr ?_ | refine QN.br ?_))
    exact QN.ret1 rfl rfl ⟨_, rfl, hC.ext, .inr (.inl ⟨rfl, hc, rfl, _, hB2, Sl.ext hS (hC.ext.mono (by simp [hbM])) (fun _ hk => .inl hk) (by omega)⟩)⟩
  · have hc : n ≤ l.length := by have := of_decide_eq_false hc; omega
    refine WP.skip ?_; (with_reducible repeat (first | refine QN.B1 ?_ | refine QN.N1 ?_ | refine WP.S1 ?_ | refine WP.B1 ?_ | refine WP.R1 ?_))
    refine RL.A1 T_ok rfl ?_
    refine RL.load T_ok rfl rfl rfl (hB.cell 1 rfl) rfl ?_
    refine RL.A1 T_ok rfl ?_
    refine RL.N1 ?_; (with_reducible repeat (first | refine QN.B1 ?_ | refine QN.N1 ?_ | refine WP.S1 ?_ | refine WP.B1 ?_ | refine WP.R1 ?_))
    refine WP.condF rfl ?_
    refine WP.skip ?_; (with_reducible repeat (first | refine QN.B1 ?_ | refine QN.N1 ?_ | refine WP.S1 ?_ | refine WP.B1 ?_ | refine WP.R1 ?_))
    refine RL.A1 T_ok rfl ?_
    refine RL.load T_ok rfl rfl rfl (hB.cell 0 rfl) rfl ?_
    refine RL.A1 T_ok rfl ?_
    refine RL.sliceTo (l := n) T_ok rfl rfl rfl rfl rfl (by omega) rfl ?_
    refine RL.A1 T_ok rfl ?_
    refine RL.N1 ?_; (with_reducible repeat (first | refine QN.B1 ?_ | refine QN.N1 ?_ | refine WP.S1 ?_ | refine WP.B1 ?_ | refine WP.R1 ?_))
    refine RL.A1 T_ok rfl ?_
    refine RL.load T_ok rfl rfl rfl (hB.cell 0 rfl) rfl ?_
    refine RL.A1 T_ok rfl ?_
    refine RL.sliceFrom (l := n) T_ok rfl rfl rfl rfl rfl hc rfl ?_
    refine RL.A1 T_ok rfl ?_
    refine RL.store T_ok hB (i := 0) (by simp) rfl rfl rfl rfl rfl rfl ?_
    intro m1 hC
    have hE := hC.ext
    have h1 := Sl.upto hS (k := c) hc (by omega) (Nat.le_refl c)
    have h2 := Sl.from_ hS hc
    rw [show (u8s l).take (n * 1) = u8s (l.take n) by rw [Nat.mul_one, u8s_take]] at h1
    rw [show (u8s l).drop (n * 1) = u8s (l.drop n) by rw [Nat.mul_one, u8s_drop]] at h2
    have hEM : Ext m M m1 := hE.mono (by simp [hbM])
    refine RL.N1 ?_; (with_reducible repeat (first | refine QN.B1 ?_ | refine QN.N1 ?_ | refine WP.S1 ?_ | refine WP.B1 ?_ | refine WP.R1 ?_))
    refine RL.A1 T_ok rfl ?_
    refine RL.N1 ?_; (with_reducible repeat (first | refine QN.B1 ?_ | refine QN.N1 ?_ | refine WP.S1 ?_ | refine WP.B1 ?_ | refine WP.R1 ?_))
    refine WP.ret ?_; (with_reducible repeat (first | refine QN.tr ?_ | refine QN.br ?_))
    refine QN.ret1 rfl rfl ⟨_, rfl, hE, .inl ⟨rfl, hc, Sl.ext h1 hEM (fun _ hk => .inl hk) (by omega), ⟨_, hC.blk, Sl.ext h2 hEM (fun _ hk => .inl hk) (by omega)⟩⟩⟩
theorem qbyte_c (m : World) (M : List Nat) (b : Nat) (l : List UInt8) (e : Int) (h : QAt m M b l e) (hbM : b ∈ M) :
    FnR Tryz.prog 40 [.pointer (some ⟨b, 0, none⟩)] m (QPost m M b (fun n : UInt8 => .int .u8 n.toNat) (gR 0 e l (rdByte l))) := by
  refine FnE.enter ⟨_, Tryz.func40, by kernel_rfl, by kernel_rfl⟩ Tryz.func40 rfl rfl ?_
  (with_reducible repeat (first | refine WP.S1 ?_ | refine WP.B1 ?_ | refine WP.R1 ?_))
  refine RL.A1 T_ok rfl ?_
  refine RL.N1 ?_; (with_reducible repeat (first | refine QN.B1 ?_ | refine QN.N1 ?_ | refine WP.S1 ?_ | refine WP.B1 ?_ | refine WP.R1 ?_))
  refine RL.A1 T_ok rfl ?_
  refine RL.call (fi := []) (ca := []) rfl rfl rfl rfl (qtake_c m M b l e h hbM 1) ?_
  rintro r m1 ⟨hE, ⟨rfl, hn, hB, hQ⟩ | ⟨rfl, hn, rfl, hQ⟩ | ⟨he, rfl, hQ⟩⟩
  · match l, hn with
    | x :: l2, _ =>
    have hB : Bs m1 M r [x] := hB
    obtain ⟨A, c, rfl, _, _⟩ := hB.shape
    refine ⟨_, rfl, ?_⟩
    refine RL.A1 T_ok rfl ?_
    refine RL.N1 ?_; (with_reducible repeat (first | refine QN.B1 ?_ | refine QN.N1 ?_ | refine WP.S1 ?_ | refine WP.B1 ?_ | refine WP.R1 ?_))
    refine RL.A1 T_ok rfl ?_
    refine RL.N1 ?_; (with_reducible repeat (first | refine QN.B1 ?_ | refine QN.N1 ?_ | refine WP.S1 ?_ | refine WP.B1 ?_ | refine WP.R1 ?_))
    refine WP.condF rfl ?_
    refine WP.skip ?_; (with_reducible repeat (first | refine QN.B1 ?_ | refine QN.N1 ?_ | refine WP.S1 ?_ | refine WP.B1 ?_ | refine WP.R1 ?_))
    refine RL.A1 T_ok rfl ?_
    refine RL.index T_ok hB (k := 0) rfl (by simp) rfl rfl rfl rfl (fun ad _ _ hcell => ⟨_, rfl, ?_⟩)
    have hx := hcell 0 (.int .u8 x.toNat) rfl
    refine RL.load T_ok rfl rfl rfl (by rw [add_add] at hx; exact hx) rfl ?_
    refine RL.A1 T_ok rfl ?_
    refine RL.N1 ?_; (with_reducible repeat (first | refine QN.B1 ?_ | refine QN.N1 ?_ | refine WP.S1 ?_ | refine WP.B1 ?_ | refine WP.R1 ?_))
    refine WP.ret ?_; (with_reducible repeat (first | refine QN.tr ?_ | refine QN.br ?_))
    exact QN.ret1 rfl rfl ⟨_, rfl, rfl, hQ, hE⟩
  · have h0 : l = [] := List.eq_nil_of_length_eq_zero (by omega)
    subst h0
    refine ⟨_, rfl, ?_⟩
    refine RL.A1 T_ok rfl ?_
    refine RL.N1 ?_; (with_reducible repeat (first | refine QN.B1 ?_ | refine QN.N1 ?_ | refine WP.S1 ?_ | refine WP.B1 ?_ | refine WP.R1 ?_))
    refine RL.A1 T_ok rfl ?_
    refine RL.N1 ?_; (with_reducible repeat (first | refine QN.B1 ?_ | refine QN.N1 ?_ | refine WP.S1 ?_ | refine WP.B1 ?_ | refine WP.R1 ?_))
    refine WP.condT rfl ?_
    (with_reducible repeat (first | refine WP.S1 ?_ | refine WP.B1 ?_ | refine WP.R1 ?_))
    refine RL.A1 T_ok rfl ?_
    refine RL.N1 ?_; (with_reducible repeat (first | refine QN.B1 ?_ | refine QN.N1 ?_ | refine WP.S1 ?_ | refine WP.B1 ?_ | refine WP.R1 ?_))
    refine WP.ret ?_; (with_reducible repeat (first | refine QN.tr ?_ | refine QN.br ?_))
    exact QN.ret1 rfl rfl ⟨_, rfl, rfl, hQ, hE⟩
  · refine ⟨_, rfl, ?_⟩
    refine RL.A1 T_ok rfl ?_
    refine RL.N1 ?_; (with_reducible repeat (first | refine QN.B1 ?_ | refine QN.N1 ?_ | refine WP.S1 ?_ | refine WP.B1 ?_ | refine WP.R1 ?_))
    refine RL.A1 T_ok rfl ?_
    refine RL.N1 ?_; (with_reducible repeat (first | refine QN.B1 ?_ | refine QN.N1 ?_ | refine WP.S1 ?_ | refine WP.B1 ?_ | refine WP.R1 ?_))
    refine WP.condT rfl ?_
    (with_reducible repeat (first | refine WP.S1 ?_ | refine WP.B1 ?_ | refine WP.R1 ?_))
    refine RL.A1 T_ok rfl ?_
    refine RL.N1 ?_; (with_reducible repeat (first | refine QN.B1 ?_ | refine QN.N1 ?_ | refine WP.S1 ?_ | refine WP.B1 ?_ | refine WP.R1 ?_))
    refine WP.ret ?_; (with_reducible repeat (first | refine QN.tr ?_ | refine QN.br ?_))
    refine QN.ret1 rfl rfl ⟨_, rfl, ?_⟩
    rw [gR_off he]
    exact ⟨rfl, hQ, hE⟩
theorem qtext_c (m : World) (M : List Nat) (b : Nat) (l : List UInt8) (e : Int) (h : QAt m M b l e) (hbM : b ∈ M) (most : Int) (hm1 : -9223372036854775808 ≤ most) (hm2 : most ≤ 9223372036854775807) :
    FnR Tryz.prog 42 [.pointer (some ⟨b, 0, none⟩), .int .i64 most] m (QPost m M b (fun s : List UInt8 => .string (str s)) (gR [] e l (rdText most.toNat l))) := by
  have hQ0 := h
  obtain ⟨v, hB, hS⟩ := h
  obtain ⟨A, c, rfl, hlc, hcm⟩ := hS.shape
  have hlm : l.length ≤ 9223372036854775807 := by unfold maxLen at hcm; omega
  refine FnE.enter ⟨_, Tryz.func42, by kernel_rfl, by kernel_rfl⟩ Tryz.func42 rfl rfl ?_
  (with_reducible repeat (first | refine WP.S1 ?_ | refine WP.B1 ?_ | refine WP.R1 ?_))
  refine RL.A1 T_ok rfl ?_
  refine RL.N1 ?_; (with_reducible repeat (first | refine QN.B1 ?_ | refine QN.N1 ?_ | refine WP.S1 ?_ | refine WP.B1 ?_ | refine WP.R1 ?_))
  refine RL.A1 T_ok rfl ?_
  refine RL.load T_ok rfl rfl rfl (hB.cell 0 rfl) rfl ?_
  refine RL.A1 T_ok rfl ?_
  refine RL.N1 ?_; (with_reducible repeat (first | refine QN.B1 ?_ | refine QN.N1 ?_ | refine WP.S1 ?_ | refine WP.B1 ?_ | refine WP.R1 ?_))
  refine RL.pure T_ok 4 rfl ?_
  refine RL.eqv (v' := .int .u64 ((most.toNat : Nat) : Int)) (congrArg _ ?_) ?_
  · refine Eq.trans ?_ (max_zero most hm1 hm2)
    congr 1
  refine RL.call (fi := []) (ca := []) rfl rfl rfl rfl (quint_c m M b l e hQ0 hbM most.toNat) ?_
  rintro _ m1 ⟨rfl, hR1, hE1⟩
  refine ⟨_, rfl, ?_⟩
  have hS1 := Sl.ext hS (hE1.mono (M' := M) (by simp [hbM])) (fun _ hk => .inl hk) (by omega)
  by_cases he : e = 0
  rotate_left
  · rw [gR_off he] at hR1 ⊢
    simp only at hR1
    have hR1' := hR1
    obtain ⟨v1, hB1, _⟩ := hR1
    refine RL.A1 T_ok rfl ?_
    refine RL.N1 ?_; (with_reducible repeat (first | refine QN.B1 ?_ | refine QN.N1 ?_ | refine WP.S1 ?_ | refine WP.B1 ?_ | refine WP.R1 ?_))
    refine RL.A1 T_ok rfl ?_
    refine RL.load T_ok rfl rfl rfl (hB1.cell 1 rfl) rfl ?_
    refine RL.pure T_ok 1 rfl ?_
    refine RL.eqv (v' := .bool true) (congrArg _ (by simp [he])) ?_
    refine RL.A1 T_ok rfl ?_
    refine RL.N1 ?_; (with_reducible repeat (first | refine QN.B1 ?_ | refine QN.N1 ?_ | refine WP.S1 ?_ | refine WP.B1 ?_ | refine WP.R1 ?_))
    refine WP.condT rfl ?_
    (with_reducible repeat (first | refine WP.S1 ?_ | refine WP.B1 ?_ | refine WP.R1 ?_))
    refine RL.A1 T_ok rfl ?_
    refine RL.N1 ?_; (with_reducible repeat (first | refine QN.B1 ?_ | refine QN.N1 ?_ | refine WP.S1 ?_ | refine WP.B1 ?_ | refine WP.R1 ?_))
    refine WP.ret ?_; (with_reducible repeat (first | refine QN.tr ?_ | refine QN.br ?_))
    exact QN.ret1 rfl rfl ⟨_, rfl, rfl, hR1', hE1⟩
  subst he
  cases hr : rdU most.toNat 0 0 l with
  | error k =>
    have hk := rdU_err _ _ _ _ _ hr
    rw [hr, gR_err rfl] at hR1
    rw [gR_err rfl]
    simp only at hR1
    have hR1' := hR1
    obtain ⟨v1, hB1, _⟩ := hR1
    refine RL.A1 T_ok rfl ?_
    refine RL.N1 ?_; (with_reducible repeat (first | refine QN.B1 ?_ | refine QN.N1 ?_ | refine WP.S1 ?_ | refine WP.B1 ?_ | refine WP.R1 ?_))
    refine RL.A1 T_ok rfl ?_
    refine RL.load T_ok rfl rfl rfl (hB1.cell 1 rfl) rfl ?_
    refine RL.pure T_ok 1 rfl ?_
    refine RL.eqv (v' := .bool true) (congrArg _ (by simp; omega)) ?_
    refine RL.A1 T_ok rfl ?_
    refine RL.N1 ?_; (with_reducible repeat (first | refine QN.B1 ?_ | refine QN.N1 ?_ | refine WP.S1 ?_ | refine WP.B1 ?_ | refine WP.R1 ?_))
    refine WP.condT rfl ?_
    (with_reducible repeat (first | refine WP.S1 ?_ | refine WP.B1 ?_ | refine WP.R1 ?_))
    refine RL.A1 T_ok rfl ?_
    refine RL.N1 ?_; (with_reducible repeat (first | refine QN.B1 ?_ | refine QN.N1 ?_ | refine WP.S1 ?_ | refine WP.B1 ?_ | refine WP.R1 ?_))
    refine WP.ret ?_; (with_reducible repeat (first | refine QN.tr ?_ | refine QN.br ?_))
    refine QN.ret1 rfl rfl ⟨_, rfl, ?_⟩
    rw [gR_err (k := k) (by unfold rdText; rw [hr])]
    exact ⟨rfl, hR1', hE1⟩
  | ok p =>
    obtain ⟨n, l'⟩ := p
    have hn := rdU_most _ _ _ _ _ _ hr
    rw [hr, gR_ok rfl] at hR1
    rw [gR_ok rfl]
    simp only at hR1
    have hR1' := hR1
    obtain ⟨v1, hB1, _⟩ := hR1
    refine RL.A1 T_ok rfl ?_
    refine RL.N1 ?_; (with_reducible repeat (first | refine QN.B1 ?_ | refine QN.N1 ?_ | refine WP.S1 ?_ | refine WP.B1 ?_ | refine WP.R1 ?_))
    refine RL.A1 T_ok rfl ?_
    refine RL.load T_ok rfl rfl rfl (hB1.cell 1 rfl) rfl ?_
    refine RL.A1 T_ok rfl ?_
    refine RL.N1 ?_; (with_reducible repeat (first | refine QN.B1 ?_ | refine QN.N1 ?_ | refine WP.S1 ?_ | refine WP.B1 ?_ | refine WP.R1 ?_))
    refine WP.condF rfl ?_
    refine WP.skip ?_; (with_reducible repeat (first | refine QN.B1 ?_ | refine QN.N1 ?_ | refine WP.S1 ?_ | refine WP.B1 ?_ | refine WP.R1 ?_))
    refine RL.pure T_ok 3 rfl ?_
    refine RL.eqv (v' := .int .i64 (n : Int)) (congrArg _ (wrap_i64_in _ (by omega) (by omega))) ?_
    refine RL.call (fi := []) (ca := []) rfl rfl rfl rfl (qtake_c m1 M b l' 0 hR1' hbM n) ?_
    rintro r m2 ⟨hE2, ⟨_, hnl, hB, hQ⟩ | ⟨_, hnl, rfl, hQ⟩ | ⟨h9, _⟩⟩
    · obtain ⟨A', c', rfl, _, _⟩ := hB.shape
      refine ⟨_, rfl, ?_⟩
      refine RL.bytesString T_ok hB rfl rfl rfl rfl rfl rfl ?_
      have hQ' := hQ
      obtain ⟨v2, hB2, _⟩ := hQ
      refine RL.A1 T_ok rfl ?_
      refine RL.N1 ?_; (with_reducible repeat (first | refine QN.B1 ?_ | refine QN.N1 ?_ | refine WP.S1 ?_ | refine WP.B1 ?_ | refine WP.R1 ?_))
      refine RL.A1 T_ok rfl ?_
      refine RL.load T_ok rfl rfl rfl (hB2.cell 1 rfl) rfl ?_
      refine RL.A1 T_ok rfl ?_
      refine RL.N1 ?_; (with_reducible repeat (first | refine QN.B1 ?_ | refine QN.N1 ?_ | refine WP.S1 ?_ | refine WP.B1 ?_ | refine WP.R1 ?_))
      refine WP.condF rfl ?_
      refine WP.skip ?_; (with_reducible repeat (first | refine QN.B1 ?_ | refine QN.N1 ?_ | refine WP.S1 ?_ | refine WP.B1 ?_ | refine WP.R1 ?_))
      refine RL.A1 T_ok rfl ?_
      refine RL.N1 ?_; (with_reducible repeat (first | refine QN.B1 ?_ | refine QN.N1 ?_ | refine WP.S1 ?_ | refine WP.B1 ?_ | refine WP.R1 ?_))
      refine WP.ret ?_; (with_reducible repeat (first | refine QN.tr ?_ | refine QN.br ?_))
      refine QN.ret1 rfl rfl ⟨_, rfl, ?_⟩
      rw [gR_ok (a := l'.take n) (l' := l'.drop n) (by unfold rdText; rw [hr]; simp only; rw [if_pos hnl])]
      exact ⟨rfl, hQ', hE1.trans hE2 (fun _ hk => .inl hk)⟩
    · refine ⟨_, rfl, ?_⟩
      refine RL.bytesString T_ok (l := []) (Sl.nil m2 M 1) rfl rfl rfl rfl rfl rfl ?_
      obtain ⟨v2, hB2, _⟩ := hQ
      refine RL.A1 T_ok rfl ?_
      refine RL.N1 ?_; (with_reducible repeat (first | refine QN.B1 ?_ | refine QN.N1 ?_ | refine WP.S1 ?_ | refine WP.B1 ?_ | refine WP.R1 ?_))
      refine RL.A1 T_ok rfl ?_
      refine RL.load T_ok rfl rfl rfl (hB2.cell 1 rfl) rfl ?_
      refine RL.A1 T_ok rfl ?_
      refine RL.N1 ?_; (with_reducible repeat (first | refine QN.B1 ?_ | refine QN.N1 ?_ | refine WP.S1 ?_ | refine WP.B1 ?_ | refine WP.R1 ?_))
      refine WP.condT rfl ?_
      refine WP.R1 ?_
      refine RL.A1 T_ok rfl ?_
      refine RL.store T_ok hB2 (i := 0) (v := .slice A l.length c) (by simp) rfl rfl rfl rfl rfl rfl ?_
      intro m3 hC
      refine RL.N1 ?_; (with_reducible repeat (first | refine QN.B1 ?_ | refine QN.N1 ?_ | refine WP.S1 ?_ | refine WP.B1 ?_ | refine WP.R1 ?_))
      refine RL.A1 T_ok rfl ?_
      refine RL.N1 ?_; (with_reducible repeat (first | refine QN.B1 ?_ | refine QN.N1 ?_ | refine WP.S1 ?_ | refine WP.B1 ?_ | refine WP.R1 ?_))
      refine WP.ret ?_; (with_reducible repeat (first | refine QN.tr ?_ | refine QN.br ?_))
      refine QN.ret1 rfl rfl ⟨_, rfl, ?_⟩
      rw [gR_err (k := 10) (by unfold rdText; rw [hr]; simp only; rw [if_neg (by omega)])]
      have hE13 := hE2.trans hC.ext (M := [b]) (fun _ hk => .inl hk)
      exact ⟨rfl, ⟨_, hC.blk, Sl.ext hS1 (hE13.mono (by simp [hbM])) (fun _ hk => .inl hk) (by omega)⟩, hE1.trans hE13 (fun _ hk => .inl hk)⟩
    · exact absurd rfl h9
end Go.Proofs.YtmjpcaiehfimgaaGreatDoor
end
section
namespace Go.Ev
theorem gR_le {α : Type} (z : α) (e : Int) (l : List UInt8) (r : Except Int (α × List UInt8)) (h : ∀ a l', r = .ok (a, l') → l'.length ≤ l.length) : (gR z e l r).2.1.length ≤ l.length := by
  unfold gR
  split
  · split
    · rename_i a l' ; exact h a l' rfl
    · exact Nat.le_refl _
  · exact Nat.le_refl _
theorem rdU_le {most : Nat} {l l' : List UInt8} {a : Nat} (h : rdU most 0 0 l = .ok (a, l')) : l'.length ≤ l.length := Nat.le_of_lt (rdU_most _ _ _ _ _ _ h).2
theorem rdByte_le {l l' : List UInt8} {a : UInt8} (h : rdByte l = .ok (a, l')) : l'.length ≤ l.length := by
  cases l with
  | nil => cases h
  | cons b l => injection h with h; injection h with h1 h2; subst h2; simp
theorem rdText_le {most : Nat} {l l' a : List UInt8} (h : rdText most l = .ok (a, l')) : l'.length ≤ l.length := by
  unfold rdText at h
  split at h
  · cases h
  · rename_i n l2 hr
    split at h
    · injection h with h; injection h with h1 h2; subst h2
      have := rdU_le hr
      simp; omega
    · cases h
end Go.Ev
end
section
namespace Go.Ids
open Go.Ev
theorem nodup_len {α : Type} [DecidableEq α] : ∀ {a b : List α}, a.Nodup → (∀ x ∈ a, x ∈ b) → a.length ≤ b.length
  | [], _, _, _ => Nat.zero_le _
  | x :: a, b, h, hs => by
    have hx := hs x (zS ..)
    have h2 := List.nodup_cons.1 h
    have := nodup_len (a := a) (b := b.erase x) h2.2 (fun y hy => (List.mem_erase_of_ne (fun e => h2.1 (by subst e; exact hy))).2 (hs y (zO _ hy)))
    rw [List.length_erase_of_mem hx] at this
    have := List.length_pos_of_mem hx
    simp only [List.length_cons]; omega
theorem at_step {x : Trn} {c z : Nat} (h : x.at c (z - 1) ≠ x.at c z) : x.c = c ∧ (x.f = z ∨ x.t = z) := by
  unfold Trn.at at h
  split at h
  · rename_i h1
    split at h
    · exact absurd rfl h
    · rename_i h2
      refine ⟨h1.2.1, .inr ?_⟩
      have : ¬ (x.f ≤ z ∧ z < x.t) := fun hh => h2 ⟨h1.1, h1.2.1, hh⟩
      omega
  · rename_i h1
    split at h
    · rename_i h2
      refine ⟨h2.2.1, .inl ?_⟩
      have : ¬ (x.f ≤ z - 1 ∧ z - 1 < x.t) := fun hh => h1 ⟨h2.1, h2.2.1, hh⟩
      omega
    · exact absurd rfl h
theorem turnOf_step : ∀ {l : List Trn} {c z : Nat}, turnOf l c (z - 1) ≠ turnOf l c z → ∃ x ∈ l, x.c = c ∧ (x.f = z ∨ x.t = z)
  | [], _, _, h => absurd rfl h
  | x :: l, c, z, h => by
    by_cases h1 : x.at c (z - 1) = x.at c z
    · obtain ⟨y, hy, h2⟩ := turnOf_step (l := l) (c := c) (z := z) (fun e => h (by simp only [turnOf, h1, e]))
      exact ⟨y, zO _ hy, h2⟩
    · exact ⟨x, zS .., at_step h1⟩
theorem TCanon.ends : ∀ {L : List Trn}, TCanon L → ∀ y ∈ L, turnOf L y.c (y.t - 1) = y.n ∧ turnOf L y.c y.t ≠ y.n
  | x :: l, h, y, hy => by
    rcases List.mem_cons.1 hy with rfl | hy
    · have hr := tright_iff.1 h.head
      exact ⟨h.head_at (by omega) (by omega), h.end_ne⟩
    · have ih := TCanon.ends h.tail y hy
      have hb := h.behind hy
      have hr := tright_iff.1 (h.1 y (zO _ hy))
      have hx := tright_iff.1 h.head
      have z : ∀ k, y.f ≤ k → x.at y.c k = 0 := fun k hk => by
        refine Classical.byContradiction fun hn => ?_
        have := at_pos hn
        unfold Trn.bef at hb
        omega
      simp only [turnOf]
      rw [z _ (by omega), z _ (by omega), Nat.zero_max, Nat.zero_max]
      exact ih
theorem TCanon.nodup : ∀ {L : List Trn}, TCanon L → (L.map fun y => (y.c, y.t)).Nodup
  | [], _ => List.nodup_nil
  | x :: l, h => by
    refine List.nodup_cons.2 ⟨fun hm => ?_, h.tail.nodup⟩
    obtain ⟨y, hy, he⟩ := List.mem_map.1 hm
    simp only [Prod.mk.injEq] at he
    have hb := h.behind hy
    have hr := tright_iff.1 (h.1 y (zO _ hy))
    have hx := tright_iff.1 h.head
    unfold Trn.bef at hb
    omega
theorem tnorm_len (l : List Trn) : (tnorm l).length ≤ 2 * l.length := by
  unfold tnorm
  split
  rotate_left
  · simp
  rename_i h
  obtain ⟨h1, h2⟩ := h.choose_spec
  generalize h.choose = L at h1 h2
  have h3 := nodup_len (b := l.flatMap fun x => [(x.c, x.f), (x.c, x.t)]) h1.nodup (fun p hp => by
    obtain ⟨y, hy, rfl⟩ := List.mem_map.1 hp
    have h4 := h1.ends y hy
    rw [h2, h2] at h4
    obtain ⟨x, hx, h5, h6⟩ := turnOf_step (l := l) (c := y.c) (z := y.t) (by rw [h4.1]; exact fun e => h4.2 e.symm)
    refine List.mem_flatMap.2 ⟨x, hx, ?_⟩
    rcases h6 with h6 | h6
    · rw [← h5, ← h6]; simp
    · rw [← h5, ← h6]; simp)
  have h5 : (l.flatMap fun x : Trn => [(x.c, x.f), (x.c, x.t)]).length = 2 * l.length := by
    clear h h1 h2 h3
    induction l with
    | nil => rfl
    | cons x l ih => simp only [List.flatMap_cons, List.length_append, ih, List.length_cons, List.length_nil]; omega
  rw [List.length_map, h5] at h3
  exact h3
end Go.Ids
end
section
namespace Go.Ids
open Go.Ev
theorem rdN_lt {most : Nat} {s : St} (h : (rdN most s).2.2 = 0) : (rdN most s).2.1.length < s.1.length ∧ s.2 = 0 := by
  obtain ⟨l, e⟩ := s
  unfold rdN at *
  dsimp only at *
  by_cases he : e = 0
  · subst he
    cases hr : rdU most 0 0 l with
    | ok q =>
      obtain ⟨a, l'⟩ := q
      rw [gR_ok rfl]
      exact ⟨(rdU_most most l 0 0 a l' hr).2, rfl⟩
    | error k =>
      rw [hr, gR_err rfl] at h
      have := rdU_err most l 0 0 k hr
      dsimp only at h
      omega
  · rw [gR_off he] at h
    exact absurd h he
theorem rdN_len' (most : Nat) (s : St) : (rdN most s).2.1.length ≤ s.1.length := gR_le _ _ _ _ fun _ _ h => rdU_le h
theorem rdTrn_len (a b c d : Nat) (s : St) : (rdTrn a b c d s).2.1.length ≤ s.1.length ∧ ((rdTrn a b c d s).2.2 = 0 → (rdTrn a b c d s).2.1.length < s.1.length) := by
  unfold rdTrn
  dsimp only
  have h1 := rdN_len' a s
  have h2 := rdN_len' b (rdN a s).2
  have h3 := rdN_len' c (rdN b (rdN a s).2).2
  have h4 := rdN_len' d (rdN c (rdN b (rdN a s).2).2).2
  exact ⟨by omega, fun h => by have := (rdN_lt h).1; omega⟩
theorem trdQ_len : ∀ (n : Nat) (out : List Trn) (s : St), (trdQ n out s).1.length ≤ out.length + s.1.length + (if s.2 = 0 then 1 else 0)
  | 0, out, s => by unfold trdQ; dsimp only; omega
  | n + 1, out, s => by
    unfold trdQ
    split
    · rename_i hs
      dsimp only
      have h := rdTrn_len 18446744073709551615 18446744073709551615 18446744073709551615 18446744073709551615 s
      generalize rdTrn 18446744073709551615 18446744073709551615 18446744073709551615 18446744073709551615 s = r at *
      obtain ⟨x, l', e'⟩ := r
      dsimp only at *
      have ih := trdQ_len n (out ++ [x]) (l', e')
      rw [List.length_append, List.length_singleton] at ih
      dsimp only at ih
      by_cases he : e' = 0
      · rw [if_pos he] at ih
        have := h.2 he
        omega
      · rw [if_neg he] at ih
        omega
    · dsimp only; omega
structure Msg.Small (g : Msg) : Prop where
  room : g.room.length ≤ 5000
  vec : g.vec.length ≤ 16384
  turns : g.turns.length ≤ 5000
  b : g.b.length ≤ 5000
  c : g.c < 18446744073709551616
  n : g.n < 18446744073709551616
theorem rdB_len' (s : St) : (rdB s).2.1.length ≤ s.1.length := gR_le _ _ _ _ fun _ _ h => rdByte_le h
theorem rdT_len' (most : Nat) (s : St) : (rdT most s).2.1.length ≤ s.1.length ∧ (rdT most s).1.length ≤ s.1.length := by
  refine ⟨gR_le _ _ _ _ fun _ _ h => rdText_le h, ?_⟩
  unfold rdT gR
  split
  · split
    · rename_i a l' h
      unfold rdText at h
      split at h
      · cases h
      · rename_i n l2 h2
        have := rdU_le h2
        split at h
        · simp only [Except.ok.injEq, Prod.mk.injEq] at h
          obtain ⟨rfl, _⟩ := h
          simp; omega
        · cases h
    · simp
  · simp
theorem vrd_rest (s : St) : (vrd s).2.1.length ≤ s.1.length := by
  have key : ∀ (n last : Nat) (out : List Clk) (s : St), (vrdL n last out s).2.1.length ≤ s.1.length := by
    intro n
    induction n with
    | zero => intro last out s; exact Nat.le_refl _
    | succ n ih =>
      intro last out s
      have bad : ∀ (p : Bool) (s : St), (badIf p s).1.length ≤ s.1.length := fun p s => by unfold badIf; split <;> exact Nat.le_refl _
      unfold vrdL
      split
      · dsimp only
        refine Nat.le_trans (ih _ _ _) ?_
        have h1 := rdN_len' 18446744073709551615 s
        have h2 := bad (wrongStep last (rdN 18446744073709551615 s).1) (rdN 18446744073709551615 s).2
        have h3 := rdN_len' 9007199254740991 (badIf (wrongStep last (rdN 18446744073709551615 s).1) (rdN 18446744073709551615 s).2)
        have h4 := bad (decide ((rdN 9007199254740991 (badIf (wrongStep last (rdN 18446744073709551615 s).1) (rdN 18446744073709551615 s).2)).1 = 0)) (rdN 9007199254740991 (badIf (wrongStep last (rdN 18446744073709551615 s).1) (rdN 18446744073709551615 s).2)).2
        omega
      · exact Nat.le_refl _
  unfold vrd
  dsimp only
  exact Nat.le_trans (key _ _ _ _) (rdN_len' 16384 s)
theorem rdQ_small {l : List UInt8} {g : Msg} {s : St} (hl : l.length ≤ 3000) (h : rdQ (l, 0) = some (g, s)) : g.Small := by
  have h1 := rdB_len' (l, 0)
  unfold rdQ at h
  generalize rdB (l, 0) = k at h h1
  obtain ⟨k, l1, e1⟩ := k
  dsimp only at h h1
  have h2 := rdN_len' 9007199254740991 (l1, e1)
  have h2n := rdN_le 9007199254740991 (l1, e1)
  have h3 := rdT_len' 1048576 (l1, e1)
  generalize rdN 9007199254740991 (l1, e1) = n at h h2 h2n
  obtain ⟨n, l2, e2⟩ := n
  dsimp only at h h2 h3 h2n
  split at h
  · have key : ∀ (c : Nat) (room : List UInt8) (s : St), c ≤ 9007199254740991 → room.length ≤ 3000 → s.1.length ≤ 3000 → (Msg.mk (k.toNat : Nat) c 0 room (vrd s).1 (trdQ (rdN 16384 (vrd s).2).1 [] (rdN 16384 (vrd s).2).2).1 []).Small := fun c room s hc hr hs => by
      have a1 := vrd_len s
      have a2 := vrd_rest s
      have a3 := rdN_len' 16384 (vrd s).2
      have a4 := trdQ_len (rdN 16384 (vrd s).2).1 [] (rdN 16384 (vrd s).2).2
      refine ⟨by dsimp only; omega, a1, ?_, by simp, by dsimp only; omega, by dsimp only; omega⟩
      simp only [List.length_nil] at a4
      show (trdQ (rdN 16384 (vrd s).2).1 [] (rdN 16384 (vrd s).2).2).1.length ≤ 5000
      split at a4 <;> omega
    simp only [Option.some.injEq, Prod.mk.injEq] at h
    obtain ⟨rfl, _⟩ := h
    have h4 := rdT_len' 32 (l2, e2)
    dsimp only at h4
    by_cases hk : ((k.toNat : Nat) : Int) = 1
    · simp only [if_pos hk]
      exact key n (rdT 32 (l2, e2)).1 (rdT 32 (l2, e2)).2 h2n (by omega) (by omega)
    · simp only [if_neg hk]
      exact key 0 [] (l1, e1) (by omega) (by simp) (by dsimp only; omega)
  · have h4 := rdT_len' 1048576 (l2, e2)
    dsimp only at h4
    split at h
    · simp only [Option.some.injEq, Prod.mk.injEq] at h
      obtain ⟨rfl, _⟩ := h
      exact ⟨by simp, by simp, by simp, by dsimp only; omega, by simp, by dsimp only; omega⟩
    · split at h
      · simp only [Option.some.injEq, Prod.mk.injEq] at h
        obtain ⟨rfl, _⟩ := h
        exact ⟨by simp, by simp, by simp, by dsimp only; omega, by simp, by simp⟩
      · split at h
        · simp only [Option.some.injEq, Prod.mk.injEq] at h
          obtain ⟨rfl, _⟩ := h
          exact ⟨by simp, by simp, by simp, by simp, by simp, by dsimp only; omega⟩
        · cases h
end Go.Ids
end
