/- Lists of ranges: held against one another; whether an id is in one. -/
import Derived.Test.YtmjpcaiehfimgaaIds1
import Derived.Test.YtmjpcaiehfimgaaStructEq
namespace Go.Proofs.Ytmjpcaiehfimgaa
open Go.RowKit Go.Ev Go.Ids

theorem bne_nat' (a b : Nat) : ((a : Int) != (b : Int)) = decide (a ≠ b) := by
  by_cases h : a = b
  · simp [h]
  · have : ¬ (a : Int) = (b : Int) := by omega
    simp [h, bne, beq_eq_false_iff_ne.2 this]
theorem rsC_len : ∀ l : List Rng, (l.flatMap rC).length = l.length * 3
  | [] => rfl
  | x :: l => by simp [rC, rsC_len l]; omega
theorem rsC_get : ∀ (l : List Rng) (k : Nat) (h : k < l.length) (j : Nat), j < 3 → (l.flatMap rC)[k * 3 + j]? = (rC l[k])[j]?
  | x :: l, 0, _, j, hj => by
    rw [List.flatMap_cons, List.getElem?_append_left (by simp [rC]; omega)]
    simp
  | x :: l, k + 1, h, j, hj => by
    rw [List.flatMap_cons, List.getElem?_append_right (by simp [rC]; omega)]
    have : (k + 1) * 3 + j - (rC x).length = k * 3 + j := by simp [rC]; omega
    rw [this, rsC_get l k (by simpa using h) j hj]
    simp
theorem rsC_one (l : List Rng) : ∀ u ∈ l.flatMap rC, u.oneCell' = true := by
  intro u hu
  obtain ⟨x, _, hx⟩ := List.mem_flatMap.1 hu
  simp [rC] at hx
  rcases hx with rfl | rfl | rfl <;> rfl
/-- A slice of ranges. -/
def Rs (m : World) (M : List Nat) (v : Value) (l : List Rng) : Prop := Sl m M 3 v (l.flatMap rC)
theorem Rs.shape {m : World} {M : List Nat} {v : Value} {l : List Rng} (h : Rs m M v l) : ∃ A c, v = .slice A l.length c ∧ l.length ≤ c ∧ c ≤ maxLen := Sl.shape h (rsC_len l) (by omega)
theorem Rs.ext0 {m m' : World} {v : Value} {l : List Rng} (h : Rs m [] v l) (hE : Ext m [] m') : Rs m' [] v l := Sl.ext h hE (by simp) (by omega)
theorem Rs.cell {m : World} {M : List Nat} {A : Option Addr} {n c : Nat} {l : List Rng} (h : Rs m M (.slice A n c) l) (k : Nat) (hk : k < l.length) : ∃ ad, A = some ad ∧ ∀ j u, (rC l[k])[j]? = some u → m.cell? ((ad.add (k * 3)).add j) = some u := by
  obtain ⟨hl, _⟩ := Sl.len h
  rw [rsC_len] at hl
  obtain ⟨ad, rfl, _, hc⟩ := Sl.addr h (by omega)
  refine ⟨ad, rfl, fun j u hu => ?_⟩
  have hj : j < 3 := by have := (List.getElem?_eq_some_iff.1 hu).1; simpa [rC] using this
  rw [add_add]
  exact hc _ u (by rw [rsC_get l k hk j hj]; exact hu)
theorem eqR_run (x y : Rng) (w : World) : (binOp .neq 62 (rV x) (rV y)).run Try.prog w = .ok (.bool (decide (x ≠ y))) w := by
  have hS : Try.prog.underlying 62 = some (.struct (Try.prog.fieldsOf 62)) := by kernel_rfl
  have hp : Try.prog.stoodInHeld 62 = false := by kernel_rfl
  have u37 := Try.underlying23
  have a37 := Try.isAgg23
  have z37 := Try.sizeOf23
  simp only [rV, rC]
  rw [run_neq_struct, show (10000 : Nat) = 9999 + 1 from rfl, run_equalIn_agg w 9999 62 _ _ hS hp]
  simp only [Program.fieldsOf, Try.underlying62]
  go_simp
  obtain ⟨a, b, c⟩ := x
  obtain ⟨a', b', c'⟩ := y
  by_cases h1 : a = a' <;> by_cases h2 : b = b' <;> by_cases h3 : c = c' <;> simp [h1, h2, h3, Int.natCast_inj] 
theorem eqR_guard (x y : Rng) (ox oy : Operand) (w : World) : (eqGuard .neq 62 ox oy (rV x) (rV y)).run Try.prog w = .ok () w := run_eqGuard_agg w .neq 62 ox oy _ _ (by kernel_rfl)
theorem ranges_c (m : World) (v u : Value) (xs ys : List Rng) (h : Rs m [] v xs) (h' : Rs m [] u ys) (hl : xs.length < 1000000000) :
    FnR Try.prog 17 [v, u] m fun r m' => r = .bool (decide (xs = ys)) ∧ m' = m := by
  obtain ⟨A, c, rfl, _, _⟩ := h.shape
  obtain ⟨B, c', rfl, _, _⟩ := h'.shape
  refine FnE.enter ⟨_, Try.func17, by kernel_rfl, by kernel_rfl⟩ Try.func17 rfl rfl ?_
  repeat (first | with_reducible refine WP.seq ?_ | with_reducible refine WP.block ?_ | with_reducible refine WP.region ?_)
  refine RL.auto T_ok rfl ?_
  refine RL.nil ?_; repeat (first | with_reducible refine QN.block_normal ?_ | with_reducible refine QN.next ?_); repeat (first | with_reducible refine WP.seq ?_ | with_reducible refine WP.block ?_ | with_reducible refine WP.region ?_)
  refine RL.pure T_ok 4 rfl ?_
  refine RL.pure T_ok 1 rfl ?_
  refine RL.eqv (v' := .bool (decide (xs.length ≠ ys.length))) (congrArg _ (bne_nat' _ _)) ?_
  refine RL.nil ?_; repeat (first | with_reducible refine QN.block_normal ?_ | with_reducible refine QN.next ?_); repeat (first | with_reducible refine WP.seq ?_ | with_reducible refine WP.block ?_ | with_reducible refine WP.region ?_)
  refine WP.cond rfl (fun hc => ?_) (fun hc => ?_)
  · have hc : xs.length ≠ ys.length := of_decide_eq_true hc
    repeat (first | with_reducible refine WP.seq ?_ | with_reducible refine WP.block ?_ | with_reducible refine WP.region ?_)
    refine RL.auto T_ok rfl ?_
    refine RL.nil ?_; repeat (first | with_reducible refine QN.block_normal ?_ | with_reducible refine QN.next ?_); repeat (first | with_reducible refine WP.seq ?_ | with_reducible refine WP.block ?_ | with_reducible refine WP.region ?_)
    refine WP.ret ?_; repeat (first | with_reducible refine QN.then_ret ?_ | with_reducible refine QN.block_ret ?_)
    exact QN.ret1 rfl rfl ⟨_, rfl, by rw [decide_eq_false (fun h => hc (by rw [h]))], rfl⟩
  have hlen : xs.length = ys.length := Classical.not_not.1 (of_decide_eq_false hc)
  refine WP.skip ?_; repeat (first | with_reducible refine QN.block_normal ?_ | with_reducible refine QN.next ?_); repeat (first | with_reducible refine WP.seq ?_ | with_reducible refine WP.block ?_ | with_reducible refine WP.region ?_)
  refine RL.auto T_ok rfl ?_
  refine RL.nil ?_; repeat (first | with_reducible refine QN.block_normal ?_ | with_reducible refine QN.next ?_); repeat (first | with_reducible refine WP.seq ?_ | with_reducible refine WP.block ?_ | with_reducible refine WP.region ?_)
  refine WP.loop (X := Nat) (fun i => [(0, .slice A xs.length c), (1, .slice B ys.length c'), (5, .int .i64 i)]) (fun i m' => i ≤ xs.length ∧ xs.take i = ys.take i ∧ m' = m) (fun i => xs.length - i) 0
    (Sub.cons rfl (Sub.cons rfl (Sub.cons rfl Sub.nil))) ⟨by simp, by simp, rfl⟩ ?_
  rintro i m1 ⟨hi, ht, rfl⟩
  repeat (first | with_reducible refine WP.seq ?_ | with_reducible refine WP.block ?_ | with_reducible refine WP.region ?_)
  refine RL.auto T_ok rfl ?_
  refine RL.nil ?_; repeat (first | with_reducible refine QN.block_normal ?_ | with_reducible refine QN.next ?_); repeat (first | with_reducible refine WP.seq ?_ | with_reducible refine WP.block ?_ | with_reducible refine WP.region ?_)
  refine WP.cond rfl (fun hc => ?_) (fun hc => ?_)
  · have hc : i < xs.length := by have := of_decide_eq_true hc; omega
    have hcb : i < ys.length := by omega
    refine WP.skip ?_; repeat (first | with_reducible refine QN.block_normal ?_ | with_reducible refine QN.next ?_); repeat (first | with_reducible refine WP.seq ?_ | with_reducible refine WP.block ?_ | with_reducible refine WP.region ?_)
    refine WP.drawQ (fun m' => m' = m1) [] (by kernel_rfl) rfl (by repeat (first | with_reducible exact PanicOk.body | with_reducible refine PanicOk.then_ ?_ | with_reducible refine PanicOk.block_ ?_)) (fun hQ => ?_)
    refine RH.pure T_ok hQ [0, 1] (by kernel_rfl) rfl ?_
    obtain ⟨ad, rfl, hx⟩ := h.cell i hc
    obtain ⟨bd, rfl, hy⟩ := h'.cell i hcb
    refine RH.indexAddr T_ok hQ 2 (k := i) rfl (by kernel_rfl) rfl rfl rfl rfl rfl rfl rfl hc rfl ?_
    refine RH.loadAgg T_ok hQ 3 (rC xs[i]) (fun m' hm' => by rw [hm']; exact hx) rfl (by kernel_rfl) rfl rfl rfl rfl ?_
    refine RH.pure T_ok hQ [4, 5] (by kernel_rfl) rfl ?_
    refine RH.indexAddr T_ok hQ 6 (k := i) rfl (by kernel_rfl) rfl rfl rfl rfl rfl rfl rfl hcb rfl ?_
    refine RH.loadAgg T_ok hQ 7 (rC ys[i]) (fun m' hm' => by rw [hm']; exact hy) rfl (by kernel_rfl) rfl rfl rfl rfl ?_
    refine RH.binOp (eqR_run xs[i] ys[i]) (eqR_guard xs[i] ys[i] _ _) hQ 8 rfl (by kernel_rfl) rfl rfl rfl rfl ?_
    refine RH.done (by kernel_rfl) (fun _ => ?_)
    repeat (first | with_reducible refine QN.block_normal ?_ | with_reducible refine QN.next ?_)
    by_cases hab : xs[i] = ys[i]
    · refine WP.condF (congrArg (fun q => some (Value.bool q)) (decide_eq_false (not_not_intro hab))) ?_
      refine WP.skip ?_; repeat (first | with_reducible refine QN.block_normal ?_ | with_reducible refine QN.next ?_); repeat (first | with_reducible refine WP.seq ?_ | with_reducible refine WP.block ?_ | with_reducible refine WP.region ?_)
      refine RL.auto T_ok rfl ?_
      refine RL.nil (QN.round (i + 1) (Sub.cons rfl (Sub.cons rfl (Sub.cons ?_ Sub.nil))) ⟨by omega, ?_, rfl⟩ (by omega))
      · show some (Value.int .i64 (IntKind.i64.wrap ((i : Int) + 1))) = some (Value.int .i64 ((i + 1 : Nat) : Int))
        rw [wrap_i64_in _ (by omega) (by omega)]; rfl
      · rw [List.take_succ_eq_append_getElem hc, List.take_succ_eq_append_getElem hcb, ht, hab]
    · refine WP.condT (congrArg (fun q => some (Value.bool q)) (decide_eq_true hab)) ?_
      repeat (first | with_reducible refine WP.seq ?_ | with_reducible refine WP.block ?_ | with_reducible refine WP.region ?_)
      refine RL.auto T_ok rfl ?_
      refine RL.nil ?_; repeat (first | with_reducible refine QN.block_normal ?_ | with_reducible refine QN.next ?_); repeat (first | with_reducible refine WP.seq ?_ | with_reducible refine WP.block ?_ | with_reducible refine WP.region ?_)
      refine WP.ret ?_; repeat (first | with_reducible refine QN.then_ret ?_ | with_reducible refine QN.block_ret ?_)
      refine QN.ret1 rfl rfl ⟨_, rfl, ?_, rfl⟩
      rw [decide_eq_false]
      intro h; subst h; exact hab rfl
  · have hc : i = xs.length := by have := of_decide_eq_false hc; omega
    subst hc
    rw [List.take_length, hlen, List.take_length] at ht
    refine WP.exit ?_; repeat (first | with_reducible refine QN.then_exit ?_ | with_reducible refine QN.block_exit ?_ | with_reducible refine QN.block_far rfl ?_ | with_reducible refine QN.block_normal ?_ | with_reducible refine QN.next ?_); repeat (first | with_reducible refine WP.seq ?_ | with_reducible refine WP.block ?_ | with_reducible refine WP.region ?_)
    refine RL.auto T_ok rfl ?_
    refine RL.nil ?_; repeat (first | with_reducible refine QN.block_normal ?_ | with_reducible refine QN.next ?_); repeat (first | with_reducible refine WP.seq ?_ | with_reducible refine WP.block ?_ | with_reducible refine WP.region ?_)
    refine WP.ret ?_; repeat (first | with_reducible refine QN.then_ret ?_ | with_reducible refine QN.block_ret ?_)
    exact QN.ret1 rfl rfl ⟨_, rfl, by rw [decide_eq_true ht], rfl⟩
/-- Is an id in a range? -/
def inR (id : Idn) (r : Rng) : Bool := r.right && (decide (r.c = id.c) && (decide (r.f ≤ id.k) && decide (id.k < r.t)))
def hasB (l : List Rng) (id : Idn) : Bool := id.right && l.any (inR id)
theorem hasB_any (l : List Rng) (id : Idn) : hasB l id = l.any (inR id) := by
  unfold hasB
  cases h : l.any (inR id) with
  | false => simp
  | true =>
    obtain ⟨x, _, hx⟩ := List.any_eq_true.1 h
    simp only [inR, Bool.and_eq_true, decide_eq_true_eq] at hx
    obtain ⟨h1, h2, h3, h4⟩ := hx
    have := right_iff.1 h1
    simp [Idn.right, num]
    omega
theorem any_mem (l : List Rng) (id : Idn) : l.any (inR id) = true ↔ mem l id.c id.k := by
  rw [List.any_eq_true]
  constructor
  · rintro ⟨x, hx, h⟩
    simp only [inR, Bool.and_eq_true, decide_eq_true_eq] at h
    exact ⟨x, hx, h.1, h.2.1, h.2.2.1, h.2.2.2⟩
  · rintro ⟨x, hx, h1, h2, h3, h4⟩
    exact ⟨x, hx, by simp [inR, h1, h2, h3, h4]⟩
theorem hasB_mem (l : List Rng) (id : Idn) : hasB l id = true ↔ mem l id.c id.k := by rw [hasB_any, any_mem]
end Go.Proofs.Ytmjpcaiehfimgaa
