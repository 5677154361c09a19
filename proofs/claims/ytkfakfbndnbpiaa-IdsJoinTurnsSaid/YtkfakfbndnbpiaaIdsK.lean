/- Turns: which are right, how they are compared, held against one another, sorted, told one by one. -/
import Derived.Test.YtkfakfbndnbpiaaIdsO
import Derived.Test.YtkfakfbndnbpiaaTurnP
namespace Go.Proofs.Ytkfakfbndnbpiaa
open Go.RowKit Go.Ev Go.Ids

def tC (x : Trn) : List Value := [.int .u64 x.c, .int .u64 x.f, .int .u64 x.t, .int .u64 x.n]
def tV (x : Trn) : Value := .agg (tC x).toArray
theorem tright_eq (x : Trn) : x.right = (Rng.right ⟨x.c, x.f, x.t⟩ && num x.n) := rfl
theorem turn_c (m : World) (x : Trn) : FnR Try.prog 81 [tV x] m fun r m' => r = .bool x.right ∧ Ext m [] m' := by
  refine FnE.enter ⟨_, Try.func81, by kernel_rfl, by kernel_rfl⟩ Try.func81 rfl rfl ?_
  repeat (first | with_reducible refine WP.seq ?_ | with_reducible refine WP.block ?_ | with_reducible refine WP.region ?_)
  refine RL.box rfl rfl (fun b m1 hb hC => ⟨_, rfl, ?_⟩)
  have hB : Blk m1 b 101 (tC x) := hC.here
  have hE : Ext m [] m1 := hC.new (by omega)
  clear hC
  refine RL.auto T_ok rfl ?_
  refine RL.nil ?_; repeat (first | with_reducible refine QN.block_normal ?_ | with_reducible refine QN.next ?_); repeat (first | with_reducible refine WP.seq ?_ | with_reducible refine WP.block ?_ | with_reducible refine WP.region ?_)
  repeat (first | refine RL.pure T_ok 1 rfl ?_ | refine RL.load T_ok rfl rfl rfl (hB.cell _ rfl) rfl ?_)
  refine RL.eqv (v' := rV ⟨x.c, x.f, x.t⟩) rfl ?_
  refine RL.call (fi := []) (ca := []) rfl rfl rfl rfl (right_c m1 ⟨x.c, x.f, x.t⟩) ?_
  rintro _ m2 ⟨rfl, hE2⟩
  refine ⟨_, rfl, ?_⟩
  have hB2 := hB.ext hE2 (by simp)
  by_cases h1 : Rng.right ⟨x.c, x.f, x.t⟩ = true
  · refine RL.eqv (v' := .bool true) (congrArg _ h1) ?_
    repeat (first | refine RL.pure T_ok 1 rfl ?_ | refine RL.load T_ok rfl rfl rfl (hB2.cell _ rfl) rfl ?_)
    refine RL.call (fi := []) (ca := []) rfl rfl rfl rfl (number_c m2 x.n) ?_
    rintro _ m3 ⟨rfl, rfl⟩
    refine ⟨_, rfl, ?_⟩
    repeat (first | refine RL.pure T_ok 1 rfl ?_ | refine RL.load T_ok rfl rfl rfl (hB2.cell _ rfl) rfl ?_)
    refine RL.nil ?_; repeat (first | with_reducible refine QN.block_normal ?_ | with_reducible refine QN.next ?_); repeat (first | with_reducible refine WP.seq ?_ | with_reducible refine WP.block ?_ | with_reducible refine WP.region ?_)
    refine WP.ret ?_; repeat (first | with_reducible refine QN.then_ret ?_ | with_reducible refine QN.block_ret ?_)
    exact QN.ret1 rfl rfl ⟨_, rfl, congrArg _ (by rw [tright_eq, h1]; rfl), hE.trans hE2 (by simp)⟩
  · refine RL.eqv (v' := .bool false) (congrArg _ (Bool.not_eq_true _ ▸ h1)) ?_
    repeat (first | refine RL.pure T_ok 1 rfl ?_ | refine RL.load T_ok rfl rfl rfl (hB2.cell _ rfl) rfl ?_)
    refine RL.nil ?_; repeat (first | with_reducible refine QN.block_normal ?_ | with_reducible refine QN.next ?_); repeat (first | with_reducible refine WP.seq ?_ | with_reducible refine WP.block ?_ | with_reducible refine WP.region ?_)
    refine WP.ret ?_; repeat (first | with_reducible refine QN.then_ret ?_ | with_reducible refine QN.block_ret ?_)
    exact QN.ret1 rfl rfl ⟨_, rfl, congrArg _ (by rw [tright_eq]; simp [h1]), hE.trans hE2 (by simp)⟩
theorem refturn_c (m : World) (x : Trn) : FnR Try.prog 88 [tV x] m fun r m' => r = .bool x.right ∧ Ext m [] m' := by
  refine FnE.enter ⟨_, Try.func88, by kernel_rfl, by kernel_rfl⟩ Try.func88 rfl rfl ?_
  repeat (first | with_reducible refine WP.seq ?_ | with_reducible refine WP.block ?_ | with_reducible refine WP.region ?_)
  refine RL.box rfl rfl (fun b m1 hb hC => ⟨_, rfl, ?_⟩)
  have hB : Blk m1 b 101 (tC x) := hC.here
  have hE : Ext m [] m1 := hC.new (by omega)
  clear hC
  refine RL.auto T_ok rfl ?_
  refine RL.nil ?_; repeat (first | with_reducible refine QN.block_normal ?_ | with_reducible refine QN.next ?_); repeat (first | with_reducible refine WP.seq ?_ | with_reducible refine WP.block ?_ | with_reducible refine WP.region ?_)
  repeat (first | refine RL.pure T_ok 1 rfl ?_ | refine RL.load T_ok rfl rfl rfl (hB.cell _ rfl) rfl ?_)
  refine RL.eqv (v' := rV ⟨x.c, x.f, x.t⟩) rfl ?_
  refine RL.call (fi := []) (ca := []) rfl rfl rfl rfl (refrightR_c m1 ⟨x.c, x.f, x.t⟩) ?_
  rintro _ m2 ⟨rfl, hE2⟩
  refine ⟨_, rfl, ?_⟩
  have hB2 := hB.ext hE2 (by simp)
  by_cases h1 : Rng.right ⟨x.c, x.f, x.t⟩ = true
  · refine RL.eqv (v' := .bool true) (congrArg _ h1) ?_
    repeat (first | refine RL.pure T_ok 1 rfl ?_ | refine RL.load T_ok rfl rfl rfl (hB2.cell _ rfl) rfl ?_)
    by_cases h2 : 1 ≤ x.n
    · refine RL.eqv (v' := .bool true) (congrArg _ (by rw [dge x.n 1 1 rfl]; exact decide_eq_true h2)) ?_
      repeat (first | refine RL.pure T_ok 1 rfl ?_ | refine RL.load T_ok rfl rfl rfl (hB2.cell _ rfl) rfl ?_)
      refine RL.nil ?_; repeat (first | with_reducible refine QN.block_normal ?_ | with_reducible refine QN.next ?_); repeat (first | with_reducible refine WP.seq ?_ | with_reducible refine WP.block ?_ | with_reducible refine WP.region ?_)
      refine WP.ret ?_; repeat (first | with_reducible refine QN.then_ret ?_ | with_reducible refine QN.block_ret ?_)
      refine QN.ret1 rfl rfl ⟨_, rfl, congrArg _ ?_, hE.trans hE2 (by simp)⟩
      rw [dle x.n 9007199254740991 9007199254740991 rfl, tright_eq, h1]; simp [num, h2]
    · refine RL.eqv (v' := .bool false) (congrArg _ (by rw [dge x.n 1 1 rfl]; exact decide_eq_false h2)) ?_
      repeat (first | refine RL.pure T_ok 1 rfl ?_ | refine RL.load T_ok rfl rfl rfl (hB2.cell _ rfl) rfl ?_)
      refine RL.nil ?_; repeat (first | with_reducible refine QN.block_normal ?_ | with_reducible refine QN.next ?_); repeat (first | with_reducible refine WP.seq ?_ | with_reducible refine WP.block ?_ | with_reducible refine WP.region ?_)
      refine WP.ret ?_; repeat (first | with_reducible refine QN.then_ret ?_ | with_reducible refine QN.block_ret ?_)
      refine QN.ret1 rfl rfl ⟨_, rfl, congrArg _ ?_, hE.trans hE2 (by simp)⟩
      rw [tright_eq, h1]; simp [num, h2]
  · refine RL.eqv (v' := .bool false) (congrArg _ (Bool.not_eq_true _ ▸ h1)) ?_
    repeat (first | refine RL.pure T_ok 1 rfl ?_ | refine RL.load T_ok rfl rfl rfl (hB2.cell _ rfl) rfl ?_)
    refine RL.nil ?_; repeat (first | with_reducible refine QN.block_normal ?_ | with_reducible refine QN.next ?_); repeat (first | with_reducible refine WP.seq ?_ | with_reducible refine WP.block ?_ | with_reducible refine WP.region ?_)
    refine WP.ret ?_; repeat (first | with_reducible refine QN.then_ret ?_ | with_reducible refine QN.block_ret ?_)
    exact QN.ret1 rfl rfl ⟨_, rfl, congrArg _ (by rw [tright_eq]; simp [h1]), hE.trans hE2 (by simp)⟩
/-- By client, then From. -/
def cfT (x y : Trn) : Int := if cmpN x.c y.c = 0 then cmpN x.f y.f else cmpN x.c y.c
theorem cmpT_c (m : World) (x y : Trn) : FnR Try.prog 83 [tV x, tV y] m fun r m' => r = .int .i64 (cfT x y) ∧ Ext m [] m' := by
  refine FnE.enter ⟨_, Try.func83, by kernel_rfl, by kernel_rfl⟩ Try.func83 rfl rfl ?_
  repeat (first | with_reducible refine WP.seq ?_ | with_reducible refine WP.block ?_ | with_reducible refine WP.region ?_)
  refine RL.box rfl rfl (fun b m1 hb hC => ⟨_, rfl, ?_⟩)
  refine RL.box rfl rfl (fun b2 m2 hb2 hC2 => ⟨_, rfl, ?_⟩)
  have hE1 : Ext m [] m1 := hC.new (by omega)
  have hE2 : Ext m1 [] m2 := hC2.new (by omega)
  have s1 := hC.size
  have hB0 : Blk m1 b 101 (tC x) := hC.here
  have hB : Blk m2 b 101 (tC x) := hB0.ext hE2 (by simp)
  have hD : Blk m2 b2 101 (tC y) := hC2.here
  have hE : Ext m [] m2 := hE1.trans hE2 (by simp)
  clear hC hC2 hB0 hE1 hE2
  refine RL.auto T_ok rfl ?_
  refine RL.nil (QN.next ?_)
  refine WP.seq ?_
  refine WP.drawQ (fun m' => Blk m' b 101 (tC x) ∧ Blk m' b2 101 (tC y)) [] (by kernel_rfl) ⟨hB, hD⟩ (by repeat (first | with_reducible exact PanicOk.body | with_reducible refine PanicOk.then_ ?_ | with_reducible refine PanicOk.block_ ?_)) (fun hQ => ?_)
  refine RH.pure T_ok hQ [0] (by kernel_rfl) rfl ?_
  refine RH.load T_ok hQ 1 (fun m' h => h.1.cell 0 rfl) rfl (by kernel_rfl) rfl rfl rfl rfl ?_
  refine RH.pure T_ok hQ [2] (by kernel_rfl) rfl ?_
  refine RH.load T_ok hQ 3 (fun m' h => h.2.cell 0 rfl) rfl (by kernel_rfl) rfl rfl rfl rfl ?_
  refine RH.pure T_ok hQ [5] (by kernel_rfl) rfl ?_
  refine RH.load T_ok hQ 6 (fun m' h => h.1.cell 1 rfl) rfl (by kernel_rfl) rfl rfl rfl rfl ?_
  refine RH.pure T_ok hQ [7] (by kernel_rfl) rfl ?_
  refine RH.load T_ok hQ 8 (fun m' h => h.2.cell 1 rfl) rfl (by kernel_rfl) rfl rfl rfl rfl ?_
  refine RH.only 4 rfl (by kernel_rfl) (fun _ => ?_)
  refine RL.call (fi := []) (ca := []) rfl rfl rfl rfl (compare_c m2 x.c y.c) ?_
  rintro _ m3 ⟨rfl, rfl⟩
  refine ⟨_, rfl, RL.nil (RH.cont ⟨hB, hD⟩ ?_)⟩
  refine RH.only 9 rfl (by kernel_rfl) (fun _ => ?_)
  refine RL.call (fi := []) (ca := []) rfl rfl rfl rfl (compare_c m3 x.f y.f) ?_
  rintro _ m4 ⟨rfl, rfl⟩
  refine ⟨_, rfl, RL.nil (RH.cont ⟨hB, hD⟩ ?_)⟩
  refine RH.only 10 rfl (by kernel_rfl) (fun _ => ?_)
  refine RL.buildSlice T_ok [.tmp 9, .tmp 14] [.int .i64 (cmpN x.c y.c), .int .i64 (cmpN x.f y.f)] rfl rfl rfl rfl rfl rfl (by simp [Value.cells]) rfl rfl (fun b5 m5 hb5 hC5 => ⟨_, rfl, ?_⟩)
  have hE5 : Ext m4 [] m5 := hC5.new (by omega)
  refine RL.nil (RH.cont ⟨hB.ext hE5 (by simp), hD.ext hE5 (by simp)⟩ ?_)
  have hS5 : Sl m5 [] 1 (.slice (some ⟨b5, 0, none⟩) 2 2) [.int .i64 (cmpN x.c y.c), .int .i64 (cmpN x.f y.f)] := Sl.of_blk (M := []) (n := 2) (c := 2) (sz := 1) hC5.blk (by simp) (by simp) (by omega) (by unfold maxLen; omega)
  refine RH.only 11 rfl (by kernel_rfl) (fun _ => ?_)
  refine RL.call (fi := []) (ca := []) rfl rfl rfl rfl (or_c m5 _ _ _ hS5) ?_
  rintro _ m6 ⟨rfl, rfl⟩
  refine ⟨_, rfl, RL.nil (RH.cont ⟨hB.ext hE5 (by simp), hD.ext hE5 (by simp)⟩ ?_)⟩
  refine RH.pure T_ok hQ [12] (by kernel_rfl) rfl ?_
  refine RH.done (by kernel_rfl) (fun _ => ?_)
  refine QN.next ?_
  refine WP.ret ?_; repeat (first | with_reducible refine QN.then_ret ?_ | with_reducible refine QN.block_ret ?_)
  exact QN.ret1 rfl rfl ⟨_, rfl, rfl, hE.trans hE5 (by simp)⟩
theorem tsC_len : ∀ l : List Trn, (l.flatMap tC).length = l.length * 4
  | [] => rfl
  | x :: l => by simp [tC, tsC_len l]; omega
theorem tsC_get : ∀ (l : List Trn) (k : Nat) (h : k < l.length) (j : Nat), j < 4 → (l.flatMap tC)[k * 4 + j]? = (tC l[k])[j]?
  | x :: l, 0, _, j, hj => by
    rw [List.flatMap_cons, List.getElem?_append_left (by simp [tC]; omega)]
    simp
  | x :: l, k + 1, h, j, hj => by
    rw [List.flatMap_cons, List.getElem?_append_right (by simp [tC]; omega)]
    have : (k + 1) * 4 + j - (tC x).length = k * 4 + j := by simp [tC]; omega
    rw [this, tsC_get l k (by simpa using h) j hj]
    simp
theorem tsC_one (l : List Trn) : ∀ u ∈ l.flatMap tC, u.oneCell' = true := by
  intro u hu
  obtain ⟨x, _, hx⟩ := List.mem_flatMap.1 hu
  simp [tC] at hx
  rcases hx with rfl | rfl | rfl | rfl <;> rfl
/-- A slice of ranges. -/
def Ts (m : World) (M : List Nat) (v : Value) (l : List Trn) : Prop := Sl m M 4 v (l.flatMap tC)
theorem Ts.shape {m : World} {M : List Nat} {v : Value} {l : List Trn} (h : Ts m M v l) : ∃ A c, v = .slice A l.length c ∧ l.length ≤ c ∧ c ≤ maxLen := Sl.shape h (tsC_len l) (by omega)
theorem Ts.ext0 {m m' : World} {v : Value} {l : List Trn} (h : Ts m [] v l) (hE : Ext m [] m') : Ts m' [] v l := Sl.ext h hE (by simp) (by omega)
theorem Ts.cell {m : World} {M : List Nat} {A : Option Addr} {n c : Nat} {l : List Trn} (h : Ts m M (.slice A n c) l) (k : Nat) (hk : k < l.length) : ∃ ad, A = some ad ∧ ∀ j u, (tC l[k])[j]? = some u → m.cell? ((ad.add (k * 4)).add j) = some u := by
  obtain ⟨hl, _⟩ := Sl.len h
  rw [tsC_len] at hl
  obtain ⟨ad, rfl, _, hc⟩ := Sl.addr h (by omega)
  refine ⟨ad, rfl, fun j u hu => ?_⟩
  have hj : j < 4 := by have := (List.getElem?_eq_some_iff.1 hu).1; simpa [tC] using this
  rw [add_add]
  exact hc _ u (by rw [tsC_get l k hk j hj]; exact hu)
theorem eqT_run (x y : Trn) (w : World) : (binOp .neq 101 (tV x) (tV y)).run Try.prog w = .ok (.bool (decide (x ≠ y))) w := by
  have hS : Try.prog.underlying 101 = some (.struct (Try.prog.fieldsOf 101)) := by kernel_rfl
  have hp : Try.prog.stoodInHeld 101 = false := by kernel_rfl
  have u37 := Try.underlying37
  have a37 := Try.isAgg37
  have z37 := Try.sizeOf37
  simp only [tV, tC]
  rw [run_neq_struct, show (10000 : Nat) = 9999 + 1 from rfl, run_equalIn_agg w 9999 101 _ _ hS hp]
  simp only [Program.fieldsOf, Try.underlying101]
  go_simp
  obtain ⟨a, b, c, d⟩ := x
  obtain ⟨a', b', c', d'⟩ := y
  by_cases h1 : a = a' <;> by_cases h2 : b = b' <;> by_cases h3 : c = c' <;> by_cases h4 : d = d' <;> simp [h1, h2, h3, h4, Int.natCast_inj] 
theorem eqT_guard (x y : Trn) (ox oy : Operand) (w : World) : (eqGuard .neq 101 ox oy (tV x) (tV y)).run Try.prog w = .ok () w := run_eqGuard_agg w .neq 101 ox oy _ _ (by kernel_rfl)
theorem few_c (m : World) (v : Value) (l : List Trn) (h : Ts m [] v l) : FnR Try.prog 44 [v] m fun r m' => r = .bool (decide (l.length ≤ 60)) ∧ m' = m := by
  obtain ⟨A, c, rfl, _, _⟩ := h.shape
  refine FnE.enter ⟨_, Try.func44, by kernel_rfl, by kernel_rfl⟩ Try.func44 rfl rfl ?_
  repeat (first | with_reducible refine WP.seq ?_ | with_reducible refine WP.block ?_ | with_reducible refine WP.region ?_)
  refine RL.auto T_ok rfl ?_
  refine RL.nil ?_; repeat (first | with_reducible refine QN.block_normal ?_ | with_reducible refine QN.next ?_); repeat (first | with_reducible refine WP.seq ?_ | with_reducible refine WP.block ?_ | with_reducible refine WP.region ?_)
  refine RL.auto T_ok rfl ?_
  refine RL.nil ?_; repeat (first | with_reducible refine QN.block_normal ?_ | with_reducible refine QN.next ?_); repeat (first | with_reducible refine WP.seq ?_ | with_reducible refine WP.block ?_ | with_reducible refine WP.region ?_)
  refine WP.ret ?_; repeat (first | with_reducible refine QN.then_ret ?_ | with_reducible refine QN.block_ret ?_)
  exact QN.ret1 rfl rfl ⟨_, rfl, congrArg _ (by rw [decide_eq_decide]; omega), rfl⟩
theorem turns_c (m : World) (v u : Value) (xs ys : List Trn) (h : Ts m [] v xs) (h' : Ts m [] u ys) (hl : xs.length < 1000000000) :
    FnR Try.prog 47 [v, u] m fun r m' => r = .bool (decide (xs = ys)) ∧ m' = m := by
  obtain ⟨A, c, rfl, _, _⟩ := h.shape
  obtain ⟨B, c', rfl, _, _⟩ := h'.shape
  refine FnE.enter ⟨_, Try.func47, by kernel_rfl, by kernel_rfl⟩ Try.func47 rfl rfl ?_
  repeat (first | with_reducible refine WP.seq ?_ | with_reducible refine WP.block ?_ | with_reducible refine WP.region ?_)
  refine RL.auto T_ok rfl ?_
  refine RL.nil ?_; repeat (first | with_reducible refine QN.block_normal ?_ | with_reducible refine QN.next ?_); repeat (first | with_reducible refine WP.seq ?_ | with_reducible refine WP.block ?_ | with_reducible refine WP.region ?_)
  refine RL.pure T_ok 4 rfl ?_
  refine RL.pure T_ok 1 rfl ?_
  refine RL.eqv (v' := .bool (decide (xs.length ≠ ys.length))) (congrArg _ (bne_nat' _ _)) ?_
  refine RL.nil ?_; repeat (first | with_reducible refine QN.block_normal ?_ | with_reducible refine QN.next ?_); repeat (first | with_reducible refine WP.seq ?_ | with_reducible refine WP.block ?_ | with_reducible refine WP.region ?_)
  refine WP.cond rfl (fun hc => ?_) (fun hc => ?_)
  · have hc : xs.length ≠ ys.length := of_decide_eq_true hc
    repeat (first | with_reducible refine WP.seq ?_ | with_reducible refine WP.block ?_ | with_reducible refine WP.region ?_)
    refine RL.auto T_ok rfl ?_
    refine RL.nil ?_; repeat (first | with_reducible refine QN.block_normal ?_ | with_reducible refine QN.next ?_); repeat (first | with_reducible refine WP.seq ?_ | with_reducible refine WP.block ?_ | with_reducible refine WP.region ?_)
    refine WP.ret ?_; repeat (first | with_reducible refine QN.then_ret ?_ | with_reducible refine QN.block_ret ?_)
    exact QN.ret1 rfl rfl ⟨_, rfl, by rw [decide_eq_false (fun h => hc (by rw [h]))], rfl⟩
  have hlen : xs.length = ys.length := Classical.not_not.1 (of_decide_eq_false hc)
  refine WP.skip ?_; repeat (first | with_reducible refine QN.block_normal ?_ | with_reducible refine QN.next ?_); repeat (first | with_reducible refine WP.seq ?_ | with_reducible refine WP.block ?_ | with_reducible refine WP.region ?_)
  refine RL.auto T_ok rfl ?_
  refine RL.nil ?_; repeat (first | with_reducible refine QN.block_normal ?_ | with_reducible refine QN.next ?_); repeat (first | with_reducible refine WP.seq ?_ | with_reducible refine WP.block ?_ | with_reducible refine WP.region ?_)
  refine WP.loop (X := Nat) (fun i => [(0, .slice A xs.length c), (1, .slice B ys.length c'), (5, .int .i64 i)]) (fun i m' => i ≤ xs.length ∧ xs.take i = ys.take i ∧ m' = m) (fun i => xs.length - i) 0
    (Sub.cons rfl (Sub.cons rfl (Sub.cons rfl Sub.nil))) ⟨by simp, by simp, rfl⟩ ?_
  rintro i m1 ⟨hi, ht, rfl⟩
  repeat (first | with_reducible refine WP.seq ?_ | with_reducible refine WP.block ?_ | with_reducible refine WP.region ?_)
  refine RL.auto T_ok rfl ?_
  refine RL.nil ?_; repeat (first | with_reducible refine QN.block_normal ?_ | with_reducible refine QN.next ?_); repeat (first | with_reducible refine WP.seq ?_ | with_reducible refine WP.block ?_ | with_reducible refine WP.region ?_)
  refine WP.cond rfl (fun hc => ?_) (fun hc => ?_)
  · have hc : i < xs.length := by have := of_decide_eq_true hc; omega
    have hcb : i < ys.length := by omega
    refine WP.skip ?_; repeat (first | with_reducible refine QN.block_normal ?_ | with_reducible refine QN.next ?_); repeat (first | with_reducible refine WP.seq ?_ | with_reducible refine WP.block ?_ | with_reducible refine WP.region ?_)
    refine WP.drawQ (fun m' => m' = m1) [] (by kernel_rfl) rfl (by repeat (first | with_reducible exact PanicOk.body | with_reducible refine PanicOk.then_ ?_ | with_reducible refine PanicOk.block_ ?_)) (fun hQ => ?_)
    refine RH.pure T_ok hQ [0, 1] (by kernel_rfl) rfl ?_
    obtain ⟨ad, rfl, hx⟩ := h.cell i hc
    obtain ⟨bd, rfl, hy⟩ := h'.cell i hcb
    refine RH.indexAddr T_ok hQ 2 (k := i) rfl (by kernel_rfl) rfl rfl rfl rfl rfl rfl rfl hc rfl ?_
    refine RH.loadAgg T_ok hQ 3 (tC xs[i]) (fun m' hm' => by rw [hm']; exact hx) rfl (by kernel_rfl) rfl rfl rfl rfl ?_
    refine RH.pure T_ok hQ [4, 5] (by kernel_rfl) rfl ?_
    refine RH.indexAddr T_ok hQ 6 (k := i) rfl (by kernel_rfl) rfl rfl rfl rfl rfl rfl rfl hcb rfl ?_
    refine RH.loadAgg T_ok hQ 7 (tC ys[i]) (fun m' hm' => by rw [hm']; exact hy) rfl (by kernel_rfl) rfl rfl rfl rfl ?_
    refine RH.binOp (eqT_run xs[i] ys[i]) (eqT_guard xs[i] ys[i] _ _) hQ 8 rfl (by kernel_rfl) rfl rfl rfl rfl ?_
    refine RH.done (by kernel_rfl) (fun _ => ?_)
    repeat (first | with_reducible refine QN.block_normal ?_ | with_reducible refine QN.next ?_)
    by_cases hab : xs[i] = ys[i]
    · refine WP.condF (congrArg (fun q => some (Value.bool q)) (decide_eq_false (not_not_intro hab))) ?_
      refine WP.skip ?_; repeat (first | with_reducible refine QN.block_normal ?_ | with_reducible refine QN.next ?_); repeat (first | with_reducible refine WP.seq ?_ | with_reducible refine WP.block ?_ | with_reducible refine WP.region ?_)
      refine RL.auto T_ok rfl ?_
      refine RL.nil (QN.round (i + 1) (Sub.cons rfl (Sub.cons rfl (Sub.cons ?_ Sub.nil))) ⟨by omega, ?_, rfl⟩ (by omega))
      · show some (Value.int .i64 (IntKind.i64.wrap ((i : Int) + 1))) = some (Value.int .i64 ((i + 1 : Nat) : Int))
        rw [wrap_i64_in _ (by omega) (by omega)]; rfl
      · rw [List.take_succ_eq_append_getElem hc, List.take_succ_eq_append_getElem hcb, ht, hab]
    · refine WP.condT (congrArg (fun q => some (Value.bool q)) (decide_eq_true hab)) ?_
      repeat (first | with_reducible refine WP.seq ?_ | with_reducible refine WP.block ?_ | with_reducible refine WP.region ?_)
      refine RL.auto T_ok rfl ?_
      refine RL.nil ?_; repeat (first | with_reducible refine QN.block_normal ?_ | with_reducible refine QN.next ?_); repeat (first | with_reducible refine WP.seq ?_ | with_reducible refine WP.block ?_ | with_reducible refine WP.region ?_)
      refine WP.ret ?_; repeat (first | with_reducible refine QN.then_ret ?_ | with_reducible refine QN.block_ret ?_)
      refine QN.ret1 rfl rfl ⟨_, rfl, ?_, rfl⟩
      rw [decide_eq_false]
      intro h; subst h; exact hab rfl
  · have hc : i = xs.length := by have := of_decide_eq_false hc; omega
    subst hc
    rw [List.take_length, hlen, List.take_length] at ht
    refine WP.exit ?_; repeat (first | with_reducible refine QN.then_exit ?_ | with_reducible refine QN.block_exit ?_ | with_reducible refine QN.block_far rfl ?_ | with_reducible refine QN.block_normal ?_ | with_reducible refine QN.next ?_); repeat (first | with_reducible refine WP.seq ?_ | with_reducible refine WP.block ?_ | with_reducible refine WP.region ?_)
    refine RL.auto T_ok rfl ?_
    refine RL.nil ?_; repeat (first | with_reducible refine QN.block_normal ?_ | with_reducible refine QN.next ?_); repeat (first | with_reducible refine WP.seq ?_ | with_reducible refine WP.block ?_ | with_reducible refine WP.region ?_)
    refine WP.ret ?_; repeat (first | with_reducible refine QN.then_ret ?_ | with_reducible refine QN.block_ret ?_)
    exact QN.ret1 rfl rfl ⟨_, rfl, by rw [decide_eq_true ht], rfl⟩
/-- What the iterator asks of memory. -/
def TK (b1 b2 : Nat) (v : Value) (l : List Trn) (k : FuncId) (a : World) : Prop := Blk a b1 61 [v] ∧ Blk a b2 105 [.func (.func k) #[] #[]] ∧ Ts a [] v l
theorem rightsT1_c (m : World) (b1 b2 : Nat) (v : Value) (l : List Trn) (hl : l.length < 1000000000) (k : FuncId) (p : Trn → Bool) (hf : ∀ m1 x, FnR Try.prog k [tV x] m1 fun r m2 => r = .bool (p x) ∧ Ext m1 [] m2) :
    SeqE Try.prog 106 [.pointer (some ⟨b1, 0, none⟩), .pointer (some ⟨b2, 0, none⟩)] (fun x : Trn => [tV x]) false (TK b1 b2 v l k) (fun pre x => p x = true ∧ pre.length < l.length) (fun xs => xs = l.filter p) (fun _ => True) m := by
  intro lp J Jx m1 _ hJ hJx hK hround h0
  have hk0 := hK _ _ h0
  obtain ⟨A, c, rfl, _, _⟩ := hk0.2.2.shape
  refine FnE.enter ⟨_, Try.func106, by kernel_rfl, by kernel_rfl⟩ Try.func106 rfl rfl ?_
  repeat (first | with_reducible refine WP.seq ?_ | with_reducible refine WP.block ?_ | with_reducible refine WP.region ?_)
  refine RL.load T_ok rfl rfl rfl (hk0.1.cell 0 rfl) rfl ?_
  refine RL.auto T_ok rfl ?_
  refine RL.nil ?_; repeat (first | with_reducible refine QN.block_normal ?_ | with_reducible refine QN.next ?_); repeat (first | with_reducible refine WP.seq ?_ | with_reducible refine WP.block ?_ | with_reducible refine WP.region ?_)
  refine WP.loop (X := Nat) (fun i => [(0, .func (.yield lp) #[] #[]), (1, .pointer (some ⟨b1, 0, none⟩)), (2, .pointer (some ⟨b2, 0, none⟩)), (6, .slice A l.length c), (7, .int .i64 l.length), (8, .int .i64 i)])
    (fun i m' => i ≤ l.length ∧ J ((l.take i).filter p) m') (fun i => l.length - i) 0 (Sub.cons rfl (Sub.cons rfl (Sub.cons rfl (Sub.cons rfl (Sub.cons rfl (Sub.cons rfl Sub.nil)))))) ⟨by simp, h0⟩ ?_
  rintro i m2 ⟨hi, hj⟩
  have hk := hK _ _ hj
  repeat (first | with_reducible refine WP.seq ?_ | with_reducible refine WP.block ?_ | with_reducible refine WP.region ?_)
  refine RL.auto T_ok rfl ?_
  refine RL.nil ?_; repeat (first | with_reducible refine QN.block_normal ?_ | with_reducible refine QN.next ?_); repeat (first | with_reducible refine WP.seq ?_ | with_reducible refine WP.block ?_ | with_reducible refine WP.region ?_)
  refine WP.cond rfl (fun hc => ?_) (fun hc => ?_)
  · have hc : i < l.length := by have := of_decide_eq_true hc; omega
    obtain ⟨ad, rfl, hx⟩ := hk.2.2.cell i hc
    have hstep : (l.take (i + 1)).filter p = (l.take i).filter p ++ (if p l[i] then [l[i]] else []) := by
      rw [List.take_succ_eq_append_getElem hc, List.filter_append]
      cases h : p l[i] <;> simp [h]
    refine WP.skip ?_; repeat (first | with_reducible refine QN.block_normal ?_ | with_reducible refine QN.next ?_); repeat (first | with_reducible refine WP.seq ?_ | with_reducible refine WP.block ?_ | with_reducible refine WP.region ?_)
    refine RL.indexAddr (k := i) T_ok rfl rfl rfl rfl rfl rfl rfl hc rfl ?_
    refine RL.loadAgg T_ok (tC l[i]) rfl rfl rfl hx rfl ?_
    refine RL.alloc T_ok rfl rfl (fun b5 m3 hb5 hC3 => ⟨_, rfl, ?_⟩)
    refine RL.storeAgg T_ok (b := b5) (i := 0) (vs := tC l[i]) (cs := [.int .u64 0, .int .u64 0, .int .u64 0, .int .u64 0]) hC3.blk rfl rfl rfl rfl rfl (by simp) (by simp [tC, Value.oneCell']) rfl ?_
    intro m4 hC4
    have hE4 : Ext m2 [] m4 := (hC3.new (by omega)).trans hC4.ext (fun q hq => .inr (by have h9 : q = b5 := (by simpa using hq); omega))
    have hB4 : Blk m4 b5 101 (tC l[i]) := hC4.blk
    have hj4 := hJ _ _ _ hj hE4
    have hk4 := hK _ _ hj4
    refine RL.nil ?_; repeat (first | with_reducible refine QN.block_normal ?_ | with_reducible refine QN.next ?_); repeat (first | with_reducible refine WP.seq ?_ | with_reducible refine WP.block ?_ | with_reducible refine WP.region ?_)
    refine RL.load T_ok rfl rfl rfl (hk4.2.1.cell 0 rfl) rfl ?_
    refine RL.loadAgg T_ok (tC l[i]) rfl rfl rfl (fun j u hu => by rw [add_block]; exact hB4.cell _ (by simpa using hu)) rfl ?_
    refine RL.call (fi := []) (ca := []) rfl rfl rfl rfl (hf m4 l[i]) ?_
    rintro _ m5 ⟨rfl, hE5⟩
    refine ⟨_, rfl, ?_⟩
    have hB5 := hB4.ext hE5 (by simp)
    have hj5 := hJ _ _ _ hj4 hE5
    refine RL.pure T_ok 1 rfl ?_
    by_cases hp : p l[i] = true
    · refine RL.eqv (v' := .bool true) (congrArg _ hp) ?_
      refine RL.auto T_ok rfl ?_
      refine RL.loadAgg T_ok (tC l[i]) rfl rfl rfl (fun j u hu => by rw [add_block]; exact hB5.cell _ (by simpa using hu)) rfl ?_
      refine RL.yield rfl rfl rfl (hround _ l[i] m5 hj5 ⟨hp, Nat.lt_of_le_of_lt (List.length_filter_le _ _) (by simp; omega)⟩) ?_ (by rintro ch m6 (⟨h, _⟩ | ⟨h, _⟩) <;> cases h) (by rintro m6 (⟨h, _⟩ | ⟨h, _⟩) <;> cases h)
      rintro _ m6 (⟨h6, hj6, _⟩ | ⟨h6, hj6⟩)
      · injection h6 with h6
        subst h6
        refine ⟨_, rfl, ?_⟩
        refine RL.auto T_ok rfl ?_
        refine RL.nil ?_; repeat (first | with_reducible refine QN.block_normal ?_ | with_reducible refine QN.next ?_); repeat (first | with_reducible refine WP.seq ?_ | with_reducible refine WP.block ?_ | with_reducible refine WP.region ?_)
        refine WP.condF rfl ?_
        refine WP.skip ?_; repeat (first | with_reducible refine QN.block_normal ?_ | with_reducible refine QN.next ?_); repeat (first | with_reducible refine WP.seq ?_ | with_reducible refine WP.block ?_ | with_reducible refine WP.region ?_)
        refine RL.pure T_ok 1 rfl ?_
        refine RL.eqv (v' := .int .i64 ((i + 1 : Nat) : Int)) (congrArg _ (by rw [wrap_i64_in _ (by omega) (by omega)]; rfl)) ?_
        refine RL.auto T_ok rfl ?_
        refine RL.nil (QN.round (i + 1) (Sub.cons rfl (Sub.cons rfl (Sub.cons rfl (Sub.cons rfl (Sub.cons rfl (Sub.cons rfl Sub.nil)))))) ⟨by omega, ?_⟩ (by omega))
        rw [hstep, if_pos hp]; exact hj6
      · injection h6 with h6
        subst h6
        refine ⟨_, rfl, ?_⟩
        refine RL.auto T_ok rfl ?_
        refine RL.nil ?_; repeat (first | with_reducible refine QN.block_normal ?_ | with_reducible refine QN.next ?_); repeat (first | with_reducible refine WP.seq ?_ | with_reducible refine WP.block ?_ | with_reducible refine WP.region ?_)
        refine WP.condT rfl ?_
        refine WP.ret ?_; repeat (first | with_reducible refine QN.then_ret ?_ | with_reducible refine QN.block_ret ?_)
        exact QN.ret0 rfl ⟨_, rfl, .inr ⟨_, trivial, hj6⟩⟩
    · refine RL.eqv (v' := .bool false) (congrArg _ (Bool.not_eq_true _ ▸ hp)) ?_
      refine RL.auto T_ok rfl ?_
      refine RL.nil ?_; repeat (first | with_reducible refine QN.block_normal ?_ | with_reducible refine QN.next ?_); repeat (first | with_reducible refine WP.seq ?_ | with_reducible refine WP.block ?_ | with_reducible refine WP.region ?_)
      refine WP.condF rfl ?_
      refine WP.skip ?_; repeat (first | with_reducible refine QN.block_normal ?_ | with_reducible refine QN.next ?_); repeat (first | with_reducible refine WP.seq ?_ | with_reducible refine WP.block ?_ | with_reducible refine WP.region ?_)
      refine RL.pure T_ok 1 rfl ?_
      refine RL.eqv (v' := .int .i64 ((i + 1 : Nat) : Int)) (congrArg _ (by rw [wrap_i64_in _ (by omega) (by omega)]; rfl)) ?_
      refine RL.auto T_ok rfl ?_
      refine RL.nil (QN.round (i + 1) (Sub.cons rfl (Sub.cons rfl (Sub.cons rfl (Sub.cons rfl (Sub.cons rfl (Sub.cons rfl Sub.nil)))))) ⟨by omega, ?_⟩ (by omega))
      rw [hstep, if_neg hp, List.append_nil]; exact hj5
  · have hc : i = l.length := by have := of_decide_eq_false hc; omega
    subst hc
    rw [List.take_length] at hj
    refine WP.exit ?_; repeat (first | with_reducible refine QN.then_exit ?_ | with_reducible refine QN.block_exit ?_ | with_reducible refine QN.block_far rfl ?_ | with_reducible refine QN.block_normal ?_ | with_reducible refine QN.next ?_); repeat (first | with_reducible refine WP.seq ?_ | with_reducible refine WP.block ?_ | with_reducible refine WP.region ?_)
    exact QN.end0 rfl ⟨_, rfl, .inl ⟨_, rfl, hj⟩⟩
theorem rightsT_c (m : World) (v : Value) (l : List Trn) (k : FuncId) : FnR Try.prog 80 [v, .func (.func k) #[] #[]] m fun r m' => ∃ b1 b2, r = .func (.func 106) #[] #[.pointer (some ⟨b1, 0, none⟩), .pointer (some ⟨b2, 0, none⟩)] ∧ m.heap.size ≤ b1 ∧ m.heap.size ≤ b2 ∧ Ext m [] m' ∧ (Ts m [] v l → TK b1 b2 v l k m') := by
  refine FnE.enter ⟨_, Try.func80, by kernel_rfl, by kernel_rfl⟩ Try.func80 rfl rfl ?_
  repeat (first | with_reducible refine WP.seq ?_ | with_reducible refine WP.block ?_ | with_reducible refine WP.region ?_)
  refine RL.box rfl rfl (fun b1 m1 hb1 hC1 => ⟨_, rfl, ?_⟩)
  refine RL.box rfl rfl (fun b2 m2 hb2 hC2 => ⟨_, rfl, ?_⟩)
  have hE1 : Ext m [] m1 := hC1.new (by omega)
  have hE2 : Ext m1 [] m2 := hC2.new (by omega)
  have s1 := hC1.size
  refine RL.auto T_ok rfl ?_
  refine RL.nil ?_; repeat (first | with_reducible refine QN.block_normal ?_ | with_reducible refine QN.next ?_); repeat (first | with_reducible refine WP.seq ?_ | with_reducible refine WP.block ?_ | with_reducible refine WP.region ?_)
  refine RL.auto T_ok rfl ?_
  refine RL.nil ?_; repeat (first | with_reducible refine QN.block_normal ?_ | with_reducible refine QN.next ?_); repeat (first | with_reducible refine WP.seq ?_ | with_reducible refine WP.block ?_ | with_reducible refine WP.region ?_)
  refine WP.ret ?_; repeat (first | with_reducible refine QN.then_ret ?_ | with_reducible refine QN.block_ret ?_)
  refine QN.ret1 rfl rfl ⟨_, rfl, b1, b2, rfl, by omega, by omega, hE1.trans hE2 (by simp), fun h => ⟨?_, hC2.here, (h.ext0 hE1).ext0 hE2⟩⟩
  obtain ⟨A, c, rfl, _, _⟩ := h.shape
  exact Blk.ext (cs := [.slice A l.length c]) hC1.here hE2 (by simp)
def Trn.le (x y : Trn) : Prop := x.c < y.c ∨ (x.c = y.c ∧ x.f ≤ y.f)
theorem ltOf_cfT (x y : Trn) : Go.Proofs.ltOf cfT x y = true ↔ x.c < y.c ∨ (x.c = y.c ∧ x.f < y.f) := by
  unfold Go.Proofs.ltOf
  rw [decide_eq_true_eq]
  unfold cfT
  split
  · rename_i h; rw [cmpN_zero] at h; rw [cmpN_neg]; omega
  · rename_i h; rw [cmpN_zero] at h; rw [cmpN_neg]; omega
theorem swoT : Go.Sort.SWO (Go.Proofs.ltOf cfT) where
  irrefl x := by rw [← Bool.not_eq_true, ltOf_cfT]; omega
  trans x y z h1 h2 := by rw [ltOf_cfT] at *; omega
  ntrans x y z h1 h2 := by
    rw [← Bool.not_eq_true, ltOf_cfT] at *; omega
instance : Inhabited Trn := ⟨⟨0, 0, 0, 0⟩⟩
theorem tC_len (x : Trn) : (tC x).length = 4 := rfl
theorem tC_one (x : Trn) : ∀ v ∈ tC x, v.oneCell' = true := by intro v hv; simp [tC] at hv; rcases hv with rfl | rfl | rfl | rfl <;> rfl
theorem sortT_c (m : World) (S : List Nat) (v : Value) (l : List Trn) (h : Ev.Own m S 101 4 v l.length (l.flatMap tC)) (hl : l.length < 1000000000) :
    FnR Try.prog 82 [v, .func (.func 83) #[] #[]] m fun r m' => r = .tuple #[] ∧ Ext m S m' ∧ ∃ l' : List Trn, l'.Perm l ∧ l'.Pairwise Trn.le ∧ Ev.Own m' S 101 4 v l'.length (l'.flatMap tC) := by
  refine FnR.mono (sortFunc_run Try.sortT 4 (by omega) Try.isAgg101 Try.sizeOf101 tC tC_len tC_one cfT swoT 83 ⟨_, Try.func83, by kernel_rfl, by kernel_rfl⟩ ⟨_, Try.func82, by kernel_rfl, by kernel_rfl⟩ (fun W x y => cmpT_c W x y) h (by omega)) ?_
  rintro r m' ⟨rfl, hE, l', h1, h2, h3⟩
  refine ⟨rfl, hE, l', h1, h2.imp (fun {a b} hab => ?_), h3⟩
  rw [← Bool.not_eq_true, ltOf_cfT] at hab
  simp only [Trn.le]; omega
end Go.Proofs.Ytkfakfbndnbpiaa
