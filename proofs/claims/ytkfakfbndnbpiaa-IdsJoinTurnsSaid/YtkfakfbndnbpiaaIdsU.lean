/- The places where a client's turns begin or end, in order. -/
import Derived.Test.YtkfakfbndnbpiaaIdsT
namespace Go.Proofs.Ytkfakfbndnbpiaa
open Go.RowKit Go.Ev Go.Ids

/-- Where the turns of one client begin or end. -/
def edge (l : List Trn) (c z : Nat) : Prop := ∃ x ∈ l, x.right = true ∧ x.c = c ∧ (z = x.f ∨ z = x.t)
theorem edge_snoc (l : List Trn) (x : Trn) (c z : Nat) : edge (l ++ [x]) c z ↔ edge l c z ∨ (x.right = true ∧ x.c = c ∧ (z = x.f ∨ z = x.t)) := by
  constructor
  · rintro ⟨y, hy, h⟩
    rcases List.mem_append.1 hy with hy | hy
    · exact .inl ⟨y, hy, h⟩
    · have : y = x := by simpa using hy
      subst this; exact .inr h
  · rintro (⟨y, hy, h⟩ | h)
    · exact ⟨y, List.mem_append_left _ hy, h⟩
    · exact ⟨x, by simp, h⟩
theorem edges_c (m : World) (v : Value) (l : List Trn) (c : Nat) (h : Ts m [] v l) (hl : l.length < 400000000) :
    FnR Try.prog 91 [v, .int .u64 c] m fun r m' => ∃ L S', Ev.Own m' S' 37 1 r L.length (nC L) ∧ New m S' m' ∧ L.Pairwise (· < ·) ∧ (∀ z, z ∈ L ↔ edge l c z) ∧ L.length ≤ 2 * l.length := by
  obtain ⟨A, ca, rfl, _, _⟩ := h.shape
  refine FnE.enter ⟨_, Try.func91, by kernel_rfl, by kernel_rfl⟩ Try.func91 rfl rfl ?_
  repeat (first | with_reducible refine WP.seq ?_ | with_reducible refine WP.block ?_ | with_reducible refine WP.region ?_)
  refine RL.auto T_ok rfl ?_
  refine RL.nil ?_; repeat (first | with_reducible refine QN.block_normal ?_ | with_reducible refine QN.next ?_); repeat (first | with_reducible refine WP.seq ?_ | with_reducible refine WP.block ?_ | with_reducible refine WP.region ?_)
  refine RL.auto T_ok rfl ?_
  refine RL.nil ?_; repeat (first | with_reducible refine QN.block_normal ?_ | with_reducible refine QN.next ?_); repeat (first | with_reducible refine WP.seq ?_ | with_reducible refine WP.block ?_ | with_reducible refine WP.region ?_)
  refine RL.auto T_ok rfl ?_
  refine RL.nil ?_; repeat (first | with_reducible refine QN.block_normal ?_ | with_reducible refine QN.next ?_); repeat (first | with_reducible refine WP.seq ?_ | with_reducible refine WP.block ?_ | with_reducible refine WP.region ?_)
  refine (WP.loop (X := Nat × Value × List Nat × List Nat) (fun q => [(0, .slice A l.length ca), (1, .int .u64 c), (5, q.2.1), (6, .int .i64 q.1)])
    (fun q m' => q.1 ≤ l.length ∧ Ev.Own m' q.2.2.1 37 1 q.2.1 q.2.2.2.length (nC q.2.2.2) ∧ New m q.2.2.1 m' ∧ q.2.2.2.Pairwise (· < ·) ∧ (∀ z, z ∈ q.2.2.2 ↔ edge (l.take q.1) c z) ∧ q.2.2.2.length ≤ 2 * q.1) (fun q => l.length - q.1) (0, .slice none 0 0, [], [])
    (Sub.cons rfl (Sub.cons rfl (Sub.cons rfl (Sub.cons rfl Sub.nil)))) ⟨by simp, Own.empty _ _ _ _, ⟨Ext.refl _ _, FpNew.nil _ _⟩, List.Pairwise.nil, (fun z => ⟨(fun h => by cases h), (fun ⟨y, hy, _⟩ => by simp at hy)⟩), by simp⟩ ?_)
  rintro ⟨i, w, S, L⟩ m1 ⟨hi, hO, hN, hs, hm, hn⟩
  simp only at hi hO hN hs hm hn
  repeat (first | with_reducible refine WP.seq ?_ | with_reducible refine WP.block ?_ | with_reducible refine WP.region ?_)
  refine RL.auto T_ok rfl ?_
  refine RL.nil ?_; repeat (first | with_reducible refine QN.block_normal ?_ | with_reducible refine QN.next ?_); repeat (first | with_reducible refine WP.seq ?_ | with_reducible refine WP.block ?_ | with_reducible refine WP.region ?_)
  refine WP.cond rfl (fun hc => ?_) (fun hc => ?_)
  · replace hc : i < l.length := by have := of_decide_eq_true hc; simp only at this; omega
    obtain ⟨ad, rfl, _⟩ := h.cell i hc
    obtain ⟨x, hxe⟩ : ∃ x, l[i] = x := ⟨_, rfl⟩
    have hx : ∀ m', Ext m [] m' → ∀ j u, (tC x)[j]? = some u → m'.cell? ((ad.add (i * 4)).add j) = some u := fun m' hE => by
      obtain ⟨ad', h1, h2⟩ := (h.ext0 hE).cell i hc
      injection h1 with h1
      subst h1
      rw [hxe] at h2; exact h2
    have htake : l.take (i + 1) = l.take i ++ [x] := by rw [List.take_succ_eq_append_getElem hc, hxe]
    have hskip : ¬ (x.right = true ∧ x.c = c) → ∀ z, z ∈ L ↔ edge (l.take (i + 1)) c z := fun hh z => by
      rw [htake, edge_snoc, hm]
      exact ⟨.inl, fun h => h.elim id fun h => absurd ⟨h.1, h.2.1⟩ hh⟩
    refine WP.skip ?_; repeat (first | with_reducible refine QN.block_normal ?_ | with_reducible refine QN.next ?_); repeat (first | with_reducible refine WP.seq ?_ | with_reducible refine WP.block ?_ | with_reducible refine WP.region ?_)
    refine RL.auto T_ok rfl ?_
    refine RL.indexAddr (k := i) T_ok rfl rfl rfl rfl rfl rfl rfl hc rfl ?_
    refine RL.loadAgg T_ok (tC x) rfl rfl rfl (hx m1 hN.1) rfl ?_
    refine RL.call (fi := []) (ca := []) rfl rfl rfl rfl (refturn_c m1 x) ?_
    rintro _ m2 ⟨rfl, hE2⟩
    refine ⟨_, rfl, ?_⟩
    have hO2 := hO.ext hE2 (by simp)
    have hN2 : New m S m2 := ⟨hN.1.trans hE2 (by simp), hN.2⟩
    by_cases c1 : x.right = true
    rotate_left
    · refine RL.eqv (v' := .bool false) (congrArg _ (Bool.not_eq_true _ ▸ c1)) ?_
      refine RL.auto T_ok rfl ?_
      refine RL.nil ?_; repeat (first | with_reducible refine QN.block_normal ?_ | with_reducible refine QN.next ?_); repeat (first | with_reducible refine WP.seq ?_ | with_reducible refine WP.block ?_ | with_reducible refine WP.region ?_)
      refine WP.condF rfl ?_
      refine WP.skip ?_; repeat (first | with_reducible refine QN.block_normal ?_ | with_reducible refine QN.next ?_); repeat (first | with_reducible refine WP.seq ?_ | with_reducible refine WP.block ?_ | with_reducible refine WP.region ?_)
      refine RL.pure T_ok 2 rfl ?_
      refine RL.eqv (v' := .int .i64 ((i + 1 : Nat) : Int)) (congrArg _ (by rw [wrap_i64_in _ (by omega) (by omega)]; rfl)) ?_
      refine RL.auto T_ok rfl ?_
      exact RL.nil (QN.round (i + 1, w, S, L) (Sub.cons rfl (Sub.cons rfl (Sub.cons rfl (Sub.cons rfl Sub.nil)))) ⟨by show i + 1 ≤ _; omega, hO2, hN2, hs, hskip (fun hh => c1 hh.1), by show L.length ≤ 2 * (i + 1); omega⟩ (by show _ - (i + 1) < _ - i; omega))
    refine RL.eqv (v' := .bool true) (congrArg _ c1) ?_
    refine RL.pure T_ok 3 rfl ?_
    refine RL.indexAddr (k := i) T_ok rfl rfl rfl rfl rfl rfl rfl hc rfl ?_
    refine RL.pure T_ok 1 rfl ?_
    refine RL.load T_ok rfl rfl rfl (hx m2 hN2.1 0 _ rfl) rfl ?_
    refine RL.pure T_ok 2 rfl ?_
    by_cases c2 : x.c = c
    rotate_left
    · refine RL.eqv (v' := .bool false) (congrArg _ (by rw [deq]; exact decide_eq_false c2)) ?_
      refine RL.auto T_ok rfl ?_
      refine RL.nil ?_; repeat (first | with_reducible refine QN.block_normal ?_ | with_reducible refine QN.next ?_); repeat (first | with_reducible refine WP.seq ?_ | with_reducible refine WP.block ?_ | with_reducible refine WP.region ?_)
      refine WP.condF rfl ?_
      refine WP.skip ?_; repeat (first | with_reducible refine QN.block_normal ?_ | with_reducible refine QN.next ?_); repeat (first | with_reducible refine WP.seq ?_ | with_reducible refine WP.block ?_ | with_reducible refine WP.region ?_)
      refine RL.pure T_ok 2 rfl ?_
      refine RL.eqv (v' := .int .i64 ((i + 1 : Nat) : Int)) (congrArg _ (by rw [wrap_i64_in _ (by omega) (by omega)]; rfl)) ?_
      refine RL.auto T_ok rfl ?_
      exact RL.nil (QN.round (i + 1, w, S, L) (Sub.cons rfl (Sub.cons rfl (Sub.cons rfl (Sub.cons rfl Sub.nil)))) ⟨by show i + 1 ≤ _; omega, hO2, hN2, hs, hskip (fun hh => c2 hh.2), by show L.length ≤ 2 * (i + 1); omega⟩ (by show _ - (i + 1) < _ - i; omega))
    refine RL.eqv (v' := .bool true) (congrArg _ (by rw [deq]; exact decide_eq_true c2)) ?_
    refine RL.auto T_ok rfl ?_
    refine RL.nil ?_; repeat (first | with_reducible refine QN.block_normal ?_ | with_reducible refine QN.next ?_)
    refine WP.condT rfl ?_
    refine WP.drawQ (fun m' => Ext m [] m') [] (by kernel_rfl) hN2.1 (by repeat (first | with_reducible exact PanicOk.body | with_reducible refine PanicOk.then_ ?_ | with_reducible refine PanicOk.block_ ?_)) (fun hQ => ?_)
    refine RH.pure T_ok hQ [0, 1, 2] (by kernel_rfl) rfl ?_
    refine RH.indexAddr T_ok hQ 3 (k := i) rfl (by kernel_rfl) rfl rfl rfl rfl rfl rfl rfl hc rfl ?_
    refine RH.pure T_ok hQ [4] (by kernel_rfl) rfl ?_
    refine RH.load T_ok hQ 5 (fun m' hm' => hx m' hm' 1 _ rfl) rfl (by kernel_rfl) rfl rfl rfl rfl ?_
    refine RH.pure T_ok hQ [7, 8] (by kernel_rfl) rfl ?_
    refine RH.indexAddr T_ok hQ 9 (k := i) rfl (by kernel_rfl) rfl rfl rfl rfl rfl rfl rfl hc rfl ?_
    refine RH.pure T_ok hQ [10] (by kernel_rfl) rfl ?_
    refine RH.load T_ok hQ 11 (fun m' hm' => hx m' hm' 2 _ rfl) rfl (by kernel_rfl) rfl rfl rfl rfl ?_
    refine RH.only 6 rfl (by kernel_rfl) (fun _ => ?_)
    refine RL.call (fi := []) (ca := []) rfl rfl rfl rfl (sorted_c m2 S w L x.f hO2 (by omega) hs) ?_
    rintro u3 m3 ⟨L3, S3, hO3, hE3, hF3, hs3, hm3, hn3⟩
    have hN3 : New m S3 m3 := ⟨hN2.1.trans hE3 (fun k hk => .inr (hN2.ge k hk)), hN2.2.trans hF3 hN2.1.size⟩
    refine ⟨_, rfl, RL.nil (RH.cont hN3.1 ?_)⟩
    refine RH.only 12 rfl (by kernel_rfl) (fun _ => ?_)
    refine RL.call (fi := []) (ca := []) rfl rfl rfl rfl (sorted_c m3 S3 u3 L3 x.t hO3 (by omega) hs3) ?_
    rintro u4 m4 ⟨L4, S4, hO4, hE4, hF4, hs4, hm4, hn4⟩
    have hN4 : New m S4 m4 := ⟨hN3.1.trans hE4 (fun k hk => .inr (hN3.ge k hk)), hN3.2.trans hF4 hN3.1.size⟩
    refine ⟨_, rfl, RL.nil (RH.cont hN4.1 ?_)⟩
    refine RH.pure T_ok hQ [13] (by kernel_rfl) rfl ?_
    refine RH.done (by kernel_rfl) (fun _ => ?_)
    repeat (first | with_reducible refine QN.block_normal ?_ | with_reducible refine QN.next ?_)
    repeat (first | with_reducible refine WP.seq ?_ | with_reducible refine WP.block ?_ | with_reducible refine WP.region ?_)
    refine RL.pure T_ok 2 rfl ?_
    refine RL.eqv (v' := .int .i64 ((i + 1 : Nat) : Int)) (congrArg _ (by rw [wrap_i64_in _ (by omega) (by omega)]; rfl)) ?_
    refine RL.auto T_ok rfl ?_
    refine RL.nil (QN.round (i + 1, u4, S4, L4) (Sub.cons rfl (Sub.cons rfl (Sub.cons rfl (Sub.cons rfl Sub.nil)))) ⟨by show i + 1 ≤ _; omega, hO4, hN4, hs4, fun z => ?_, by show L4.length ≤ 2 * (i + 1); omega⟩ (by show _ - (i + 1) < _ - i; omega))
    show z ∈ L4 ↔ edge (l.take (i + 1)) c z
    rw [htake, edge_snoc, hm4, hm3, hm, or_assoc]
    exact ⟨fun h => h.imp id fun h => ⟨c1, c2, h⟩, fun h => h.imp id fun h => h.2.2⟩
  · replace hc : i = l.length := by have := of_decide_eq_false hc; simp only at this; omega
    subst hc
    rw [List.take_length] at hm
    refine WP.exit ?_; repeat (first | with_reducible refine QN.then_exit ?_ | with_reducible refine QN.block_exit ?_ | with_reducible refine QN.block_far rfl ?_ | with_reducible refine QN.block_normal ?_ | with_reducible refine QN.next ?_); repeat (first | with_reducible refine WP.seq ?_ | with_reducible refine WP.block ?_ | with_reducible refine WP.region ?_)
    refine RL.auto T_ok rfl ?_
    refine RL.nil ?_; repeat (first | with_reducible refine QN.block_normal ?_ | with_reducible refine QN.next ?_); repeat (first | with_reducible refine WP.seq ?_ | with_reducible refine WP.block ?_ | with_reducible refine WP.region ?_)
    refine WP.ret ?_; repeat (first | with_reducible refine QN.then_ret ?_ | with_reducible refine QN.block_ret ?_)
    exact QN.ret1 rfl rfl ⟨_, rfl, L, S, hO, hN, hs, hm, hn⟩
/-- The clients of right turns, in order. -/
theorem clients_c (m : World) (v : Value) (l : List Trn) (h : Ts m [] v l) (hl : l.length < 400000000) :
    FnR Try.prog 90 [v] m fun r m' => ∃ L S', Ev.Own m' S' 37 1 r L.length (nC L) ∧ New m S' m' ∧ L.Pairwise (· < ·) ∧ (∀ z, z ∈ L ↔ ∃ x ∈ l, x.right = true ∧ x.c = z) ∧ L.length ≤ l.length := by
  obtain ⟨A, ca, rfl, _, _⟩ := h.shape
  refine FnE.enter ⟨_, Try.func90, by kernel_rfl, by kernel_rfl⟩ Try.func90 rfl rfl ?_
  repeat (first | with_reducible refine WP.seq ?_ | with_reducible refine WP.block ?_ | with_reducible refine WP.region ?_)
  refine RL.auto T_ok rfl ?_
  refine RL.nil ?_; repeat (first | with_reducible refine QN.block_normal ?_ | with_reducible refine QN.next ?_); repeat (first | with_reducible refine WP.seq ?_ | with_reducible refine WP.block ?_ | with_reducible refine WP.region ?_)
  refine RL.auto T_ok rfl ?_
  refine RL.nil ?_; repeat (first | with_reducible refine QN.block_normal ?_ | with_reducible refine QN.next ?_); repeat (first | with_reducible refine WP.seq ?_ | with_reducible refine WP.block ?_ | with_reducible refine WP.region ?_)
  refine RL.auto T_ok rfl ?_
  refine RL.nil ?_; repeat (first | with_reducible refine QN.block_normal ?_ | with_reducible refine QN.next ?_); repeat (first | with_reducible refine WP.seq ?_ | with_reducible refine WP.block ?_ | with_reducible refine WP.region ?_)
  refine (WP.loop (X := Nat × Value × List Nat × List Nat) (fun q => [(0, .slice A l.length ca), (3, q.2.1), (4, .int .i64 q.1)])
    (fun q m' => q.1 ≤ l.length ∧ Ev.Own m' q.2.2.1 37 1 q.2.1 q.2.2.2.length (nC q.2.2.2) ∧ New m q.2.2.1 m' ∧ q.2.2.2.Pairwise (· < ·) ∧ (∀ z, z ∈ q.2.2.2 ↔ ∃ x ∈ l.take q.1, x.right = true ∧ x.c = z) ∧ q.2.2.2.length ≤ q.1) (fun q => l.length - q.1) (0, .slice none 0 0, [], [])
    (Sub.cons rfl (Sub.cons rfl (Sub.cons rfl Sub.nil))) ⟨by simp, Own.empty _ _ _ _, ⟨Ext.refl _ _, FpNew.nil _ _⟩, List.Pairwise.nil, (fun z => ⟨(fun h => by cases h), (fun ⟨y, hy, _⟩ => by simp at hy)⟩), by simp⟩ ?_)
  rintro ⟨i, w, S, L⟩ m1 ⟨hi, hO, hN, hs, hm, hn⟩
  simp only at hi hO hN hs hm hn
  repeat (first | with_reducible refine WP.seq ?_ | with_reducible refine WP.block ?_ | with_reducible refine WP.region ?_)
  refine RL.auto T_ok rfl ?_
  refine RL.nil ?_; repeat (first | with_reducible refine QN.block_normal ?_ | with_reducible refine QN.next ?_); repeat (first | with_reducible refine WP.seq ?_ | with_reducible refine WP.block ?_ | with_reducible refine WP.region ?_)
  refine WP.cond rfl (fun hc => ?_) (fun hc => ?_)
  · replace hc : i < l.length := by have := of_decide_eq_true hc; simp only at this; omega
    obtain ⟨ad, rfl, _⟩ := h.cell i hc
    obtain ⟨x, hxe⟩ : ∃ x, l[i] = x := ⟨_, rfl⟩
    have hx : ∀ m', Ext m [] m' → ∀ j u, (tC x)[j]? = some u → m'.cell? ((ad.add (i * 4)).add j) = some u := fun m' hE => by
      obtain ⟨ad', h1, h2⟩ := (h.ext0 hE).cell i hc
      injection h1 with h1
      subst h1
      rw [hxe] at h2; exact h2
    have htake : l.take (i + 1) = l.take i ++ [x] := by rw [List.take_succ_eq_append_getElem hc, hxe]
    have hmore : ∀ z, (∃ y ∈ l.take (i + 1), y.right = true ∧ y.c = z) ↔ (∃ y ∈ l.take i, y.right = true ∧ y.c = z) ∨ (x.right = true ∧ x.c = z) := fun z => by
      rw [htake]
      constructor
      · rintro ⟨y, hy, h⟩
        rcases List.mem_append.1 hy with hy | hy
        · exact .inl ⟨y, hy, h⟩
        · have : y = x := by simpa using hy
          subst this; exact .inr h
      · rintro (⟨y, hy, h⟩ | h)
        · exact ⟨y, List.mem_append_left _ hy, h⟩
        · exact ⟨x, by simp, h⟩
    refine WP.skip ?_; repeat (first | with_reducible refine QN.block_normal ?_ | with_reducible refine QN.next ?_); repeat (first | with_reducible refine WP.seq ?_ | with_reducible refine WP.block ?_ | with_reducible refine WP.region ?_)
    refine RL.auto T_ok rfl ?_
    refine RL.indexAddr (k := i) T_ok rfl rfl rfl rfl rfl rfl rfl hc rfl ?_
    refine RL.loadAgg T_ok (tC x) rfl rfl rfl (hx m1 hN.1) rfl ?_
    refine RL.call (fi := []) (ca := []) rfl rfl rfl rfl (refturn_c m1 x) ?_
    rintro _ m2 ⟨rfl, hE2⟩
    refine ⟨_, rfl, ?_⟩
    have hO2 := hO.ext hE2 (by simp)
    have hN2 : New m S m2 := ⟨hN.1.trans hE2 (by simp), hN.2⟩
    refine RL.nil ?_; repeat (first | with_reducible refine QN.block_normal ?_ | with_reducible refine QN.next ?_); repeat (first | with_reducible refine WP.seq ?_ | with_reducible refine WP.block ?_ | with_reducible refine WP.region ?_)
    refine WP.cond rfl (fun c1 => ?_) (fun c1 => ?_)
    · replace c1 : x.right = true := c1
      repeat (first | with_reducible refine WP.seq ?_ | with_reducible refine WP.block ?_ | with_reducible refine WP.region ?_)
      refine RL.pure T_ok 3 rfl ?_
      refine RL.indexAddr (k := i) T_ok rfl rfl rfl rfl rfl rfl rfl hc rfl ?_
      refine RL.pure T_ok 1 rfl ?_
      refine RL.load T_ok rfl rfl rfl (hx m2 hN2.1 0 _ rfl) rfl ?_
      refine RL.call (fi := []) (ca := []) rfl rfl rfl rfl (sorted_c m2 S w L x.c hO2 (by omega) hs) ?_
      rintro u3 m3 ⟨L3, S3, hO3, hE3, hF3, hs3, hm3, hn3⟩
      have hN3 : New m S3 m3 := ⟨hN2.1.trans hE3 (fun k hk => .inr (hN2.ge k hk)), hN2.2.trans hF3 hN2.1.size⟩
      refine ⟨_, rfl, ?_⟩
      refine RL.auto T_ok rfl ?_
      refine RL.nil ?_; repeat (first | with_reducible refine QN.block_normal ?_ | with_reducible refine QN.next ?_); repeat (first | with_reducible refine WP.seq ?_ | with_reducible refine WP.block ?_ | with_reducible refine WP.region ?_)
      refine RL.pure T_ok 2 rfl ?_
      refine RL.eqv (v' := .int .i64 ((i + 1 : Nat) : Int)) (congrArg _ (by rw [wrap_i64_in _ (by omega) (by omega)]; rfl)) ?_
      refine RL.auto T_ok rfl ?_
      refine RL.nil (QN.round (i + 1, u3, S3, L3) (Sub.cons rfl (Sub.cons rfl (Sub.cons rfl Sub.nil))) ⟨by show i + 1 ≤ _; omega, hO3, hN3, hs3, fun z => ?_, by show L3.length ≤ i + 1; omega⟩ (by show _ - (i + 1) < _ - i; omega))
      show z ∈ L3 ↔ ∃ y ∈ l.take (i + 1), y.right = true ∧ y.c = z
      rw [hm3, hm, hmore]
      exact ⟨fun h => h.imp id fun h => ⟨c1, h.symm⟩, fun h => h.imp id fun h => h.2.symm⟩
    · replace c1 : ¬ x.right = true := by rw [Bool.not_eq_true]; exact c1
      refine WP.skip ?_; repeat (first | with_reducible refine QN.block_normal ?_ | with_reducible refine QN.next ?_); repeat (first | with_reducible refine WP.seq ?_ | with_reducible refine WP.block ?_ | with_reducible refine WP.region ?_)
      refine RL.pure T_ok 2 rfl ?_
      refine RL.eqv (v' := .int .i64 ((i + 1 : Nat) : Int)) (congrArg _ (by rw [wrap_i64_in _ (by omega) (by omega)]; rfl)) ?_
      refine RL.auto T_ok rfl ?_
      refine RL.nil (QN.round (i + 1, w, S, L) (Sub.cons rfl (Sub.cons rfl (Sub.cons rfl Sub.nil))) ⟨by show i + 1 ≤ _; omega, hO2, hN2, hs, fun z => ?_, by show L.length ≤ i + 1; omega⟩ (by show _ - (i + 1) < _ - i; omega))
      show z ∈ L ↔ ∃ y ∈ l.take (i + 1), y.right = true ∧ y.c = z
      rw [hm, hmore]
      exact ⟨.inl, fun h => h.elim id fun h => absurd h.1 c1⟩
  · replace hc : i = l.length := by have := of_decide_eq_false hc; simp only at this; omega
    subst hc
    rw [List.take_length] at hm
    refine WP.exit ?_; repeat (first | with_reducible refine QN.then_exit ?_ | with_reducible refine QN.block_exit ?_ | with_reducible refine QN.block_far rfl ?_ | with_reducible refine QN.block_normal ?_ | with_reducible refine QN.next ?_); repeat (first | with_reducible refine WP.seq ?_ | with_reducible refine WP.block ?_ | with_reducible refine WP.region ?_)
    refine RL.auto T_ok rfl ?_
    refine RL.nil ?_; repeat (first | with_reducible refine QN.block_normal ?_ | with_reducible refine QN.next ?_); repeat (first | with_reducible refine WP.seq ?_ | with_reducible refine WP.block ?_ | with_reducible refine WP.region ?_)
    refine WP.ret ?_; repeat (first | with_reducible refine QN.then_ret ?_ | with_reducible refine QN.block_ret ?_)
    exact QN.ret1 rfl rfl ⟨_, rfl, L, S, hO, hN, hs, hm, hn⟩
end Go.Proofs.Ytkfakfbndnbpiaa
